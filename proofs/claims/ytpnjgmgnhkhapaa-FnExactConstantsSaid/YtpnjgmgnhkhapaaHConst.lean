/-
The law FnExactConstants: whatever the input, it answers true. Conditions: none.
-/
import Derived.Test.YtpnjgmgnhkhapaaH0
import Derived.Test.YtpnjgmgnhkhapaaHOpen
import Derived.Test.YtpnjgmgnhkhapaaHTypes
import Derived.Test.YtpnjgmgnhkhapaaProg
namespace Go.Proofs.Ytpnjgmgnhkhapaa.H
open Go.RowKit
set_option linter.unusedVariables false
set_option maxRecDepth 100000
set_option maxHeartbeats 4000000 in
theorem law_FnExactConstants (w : World) : Calls Try.prog 3 #[] w fun e w' => e = .returned (.bool true) ∧ Below w.heap.size w w' := by
  go_enter Try.func3, Try.ntmps3
  go_wp2
  go_ret
  exact ⟨rfl, Below.refl _ _⟩
end Go.Proofs.Ytpnjgmgnhkhapaa.H
