/-
WHAT A PARAMETER OF FnExactTableOk READS AS, type by type. Conditions: none.
-/
import Derived.Test.YtoglalgbjobpkaaFlawsFnExactTableOk
import Derived.Test.YtoglalgbjobpkaaOpen
import Derived.Test.YtoglalgbjobpkaaKinds
namespace Go.Proofs.Ytoglalgbjobpkaa.KindsFnExactTableOk
open Go.RowKit Go.Proofs.Ytoglalgbjobpkaa.F Go.Proofs.Ytoglalgbjobpkaa.Open Go.Proofs.YtoglalgbjobpkaaW.PrintWords Go.Proofs.Ytoglalgbjobpkaa.Kinds
set_option linter.unusedVariables false

end Go.Proofs.Ytoglalgbjobpkaa.KindsFnExactTableOk
