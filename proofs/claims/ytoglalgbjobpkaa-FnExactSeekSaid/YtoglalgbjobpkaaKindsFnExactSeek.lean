/-
WHAT A PARAMETER OF FnExactSeek READS AS, type by type. Conditions: none.
-/
import Derived.Test.YtoglalgbjobpkaaFlawsFnExactSeek
import Derived.Test.YtoglalgbjobpkaaOpen
import Derived.Test.YtoglalgbjobpkaaKinds
namespace Go.Proofs.Ytoglalgbjobpkaa.KindsFnExactSeek
open Go.RowKit Go.Proofs.Ytoglalgbjobpkaa.F Go.Proofs.Ytoglalgbjobpkaa.Open Go.Proofs.YtoglalgbjobpkaaW.PrintWords Go.Proofs.Ytoglalgbjobpkaa.Kinds
set_option linter.unusedVariables false

end Go.Proofs.Ytoglalgbjobpkaa.KindsFnExactSeek
