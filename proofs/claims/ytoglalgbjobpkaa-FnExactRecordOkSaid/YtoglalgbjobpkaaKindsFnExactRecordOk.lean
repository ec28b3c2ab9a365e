/-
WHAT A PARAMETER OF FnExactRecordOk READS AS, type by type. Conditions: none.
-/
import Derived.Test.YtoglalgbjobpkaaFlawsFnExactRecordOk
import Derived.Test.YtoglalgbjobpkaaOpen
import Derived.Test.YtoglalgbjobpkaaKinds
namespace Go.Proofs.Ytoglalgbjobpkaa.KindsFnExactRecordOk
open Go.RowKit Go.Proofs.Ytoglalgbjobpkaa.F Go.Proofs.Ytoglalgbjobpkaa.Open Go.Proofs.YtoglalgbjobpkaaW.PrintWords Go.Proofs.Ytoglalgbjobpkaa.Kinds
set_option linter.unusedVariables false
def kp70 := (Kd.pair (Kd.int .i64) (Kd.pair Kd.bool (Kd.pair Kd.string (Kd.pair Kd.bool (Kd.pair Kd.string (Kd.slice 148 k148))))))
def wp70 := (wfPair (wfInt .i64) (wfPair wfBool (wfPair wfStr (wfPair wfBool (wfPair wfStr (wfList Wf148))))))
theorem rdp70 : Rd Try.prog kp70 wp70 70 := (Rd.struct (by kernel_rfl) Try.underlying70 (RdF.cons rfl rd3 (RdF.cons rfl rd4 (RdF.cons rfl rd9 (RdF.cons rfl rd4 (RdF.cons rfl rd9 (RdF.last rfl rd68)))))))
theorem kp70_open {w : World} {b0 : Int} {b1 : Bool} {b2 : ByteArray} {b3 : Bool} {b4 : ByteArray} {b5 : List (S148)} {cs : List Value} (h : kp70.K w (b0, b1, b2, b3, b4, b5) cs) : ∃ Ab5 cb5, cs = [.int .i64 b0, .bool b1, .string b2, .bool b3, .string b4, .slice Ab5 b5.length cb5] ∧ b5.length ≤ cb5 ∧ Kd.C k148 w Ab5 b5.length b5 := by
  obtain ⟨_, _, rfl, rfl, ⟨_, _, rfl, rfl, ⟨_, _, rfl, rfl, ⟨_, _, rfl, rfl, ⟨_, _, rfl, rfl, ⟨Ab5, cb5, rfl, lb5, gb5⟩⟩⟩⟩⟩⟩ := h
  exact ⟨Ab5, cb5, rfl, lb5, gb5⟩
end Go.Proofs.Ytoglalgbjobpkaa.KindsFnExactRecordOk
