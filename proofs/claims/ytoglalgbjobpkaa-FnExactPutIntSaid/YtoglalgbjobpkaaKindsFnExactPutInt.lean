/-
WHAT A PARAMETER OF FnExactPutInt READS AS, type by type. Conditions: none.
-/
import Derived.Test.YtoglalgbjobpkaaFlawsFnExactPutInt
import Derived.Test.YtoglalgbjobpkaaOpen
namespace Go.Proofs.Ytoglalgbjobpkaa.KindsFnExactPutInt
open Go.RowKit Go.Proofs.Ytoglalgbjobpkaa.F Go.Proofs.Ytoglalgbjobpkaa.Open Go.Proofs.YtoglalgbjobpkaaW.PrintWords
set_option linter.unusedVariables false
theorem rd3 : Rd Try.prog (Kd.int .i64) (wfInt .i64) 3 := Rd.int (by kernel_rfl) Try.underlying3
end Go.Proofs.Ytoglalgbjobpkaa.KindsFnExactPutInt
