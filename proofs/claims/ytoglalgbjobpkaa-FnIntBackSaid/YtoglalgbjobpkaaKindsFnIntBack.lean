/-
WHAT A PARAMETER OF FnIntBack READS AS, type by type. Conditions: none.
-/
import Derived.Test.YtoglalgbjobpkaaFlawsFnIntBack
import Derived.Test.YtoglalgbjobpkaaOpen
import Derived.Test.YtoglalgbjobpkaaKinds
namespace Go.Proofs.Ytoglalgbjobpkaa.KindsFnIntBack
open Go.RowKit Go.Proofs.Ytoglalgbjobpkaa.F Go.Proofs.Ytoglalgbjobpkaa.Open Go.Proofs.YtoglalgbjobpkaaW.PrintWords Go.Proofs.Ytoglalgbjobpkaa.Kinds
set_option linter.unusedVariables false

end Go.Proofs.Ytoglalgbjobpkaa.KindsFnIntBack
