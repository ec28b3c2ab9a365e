/-
The row of the law FnExactRecordOk: whatever the input, the law answers true; its arguments read as they did. Conditions: none beyond the statement's own.
-/
import Derived.Test.YtoglalgbjobpkaaRows
import Derived.Test.YtoglalgbjobpkaaFlawsFnExactRecordOk
import Derived.Test.YtoglalgbjobpkaaKindsFnExactRecordOk
import Derived.Test.YtoglalgbjobpkaaPureFnExactRecordOk
import Derived.WalkKit
import Derived.ProofKit
import Derived.OpenShut
import Derived.ShutString
import Derived.ChangeOld
import Derived.Below
import Derived.SizedLaws
namespace Go.Proofs.Ytoglalgbjobpkaa.fnExactRecordOk
open Go.ChangeShapes Go.WideShapes Go.ChangeAt Go.RowKit
open Go.ChangeMaps (open_string shut_string)
open Go.Proofs.YtoglalgbjobpkaaW.PrintWords Go.Proofs.Ytoglalgbjobpkaa.F
set_option linter.unusedVariables false
theorem own : ownKnob Try.prog.godebug = none := by kernel_rfl
theorem laidOut : laidOutB Try.prog = true := by kernel_rfl
set_option maxRecDepth 100000 in
theorem lifted (os : Os) (started : os.Started) (H : Type) (enc : TypeId × Value → H) :
    ReturnsInHanded {} Try.checked os 12 .any (Rows.fnExactRecordOkSpec.pre6 enc Try.prog Try.f12 Rows.fnExactRecordOkRow.domain false) (Rows.fnExactRecordOkSpec.post enc Try.prog Try.f12 false true false false) := by
  refine returnsInHanded_of_change_sized (C := Try.checked) own started (by kernel_rfl) Try.func12
    (ChangeSpec.witness6 (enc := enc) (C := Try.checked) false ⟨#[], #[.agg #[.int .i64 0, .bool false, .string ByteArray.empty, .bool false, .string ByteArray.empty, .slice none 0 0]], []⟩ 8 (by kernel_rfl) (by kernel_rfl) (by kernel_rfl) (by kernel_rfl)) ?_
  intro W base args ds gs before hval0 hW hcnd hsz0 _
  have hval : ∀ (j : Nat) t v, Try.f12.params[j]? = some t → args[j]? = some v → Value.okWide Try.prog W .any base t v := hval0
  have hW' := hW
  obtain ⟨p, q, hA0, hV, rfl, hfz, hnd⟩ := hW
  have hA : DataW.TrodAll enc Try.prog W 0 (fun _ => true) true Try.f12.params.toList args.toList ds p := hA0
  rw [Try.params12] at hA hval
  obtain ⟨v0, vs0, d0, ds0, p0, q0, hargs, rfl, rfl, h0, r0⟩ := trodAll_cons hA
  obtain ⟨rfl, rfl, rfl⟩ := trodAll_nil r0
  obtain rfl : args = #[v0] := by cases args; simp_all
  obtain ⟨rfl, rfl⟩ := trodVars_none hV
  have k0 := h0
  have lt0 : ∀ x ∈ p0, x.block < W.heap.size := by obtain ⟨m, hm⟩ := k0; exact DataW.trod_lt m _ _ _ hm
  obtain ⟨cs0, rfl, _⟩ := okWide_struct Try.underlying70 (hval 0 70 v0 rfl rfl)
  obtain ⟨⟨a0_0, a0_1, a0_2, a0_3, a0_4, a0_5⟩, hK0, w0⟩ : ∃ y, KindsFnExactRecordOk.kp70.K W y cs0.toList ∧ KindsFnExactRecordOk.wp70 y := by
    obtain ⟨fuel, hf⟩ := h0
    exact KindsFnExactRecordOk.rdp70.out hf
  obtain ⟨Aa0_5, ca0_5, e0, la0_5, ga0_5⟩ := KindsFnExactRecordOk.kp70_open hK0
  obtain rfl : cs0 = #[.int .i64 a0_0, .bool a0_1, .string a0_2, .bool a0_3, .string a0_4, .slice Aa0_5 a0_5.length ca0_5] := Array.toList_inj.1 e0
  clear hA0 hval0 hsz0
  obtain ⟨kk, hk⟩ := Ev.rounds (Pure.FnExactRecordOk a0_0 a0_1 a0_2 a0_3 a0_4 a0_5 w0)
  refine (F.laws_FnExactRecordOk.calls kk a0_0 a0_1 a0_2 a0_3 a0_4 Aa0_5 ca0_5 a0_5 true W ga0_5 la0_5 hk).mono fun e W' ⟨he, bel⟩ => ?_
  subst he
  exact ⟨_, rfl, _, _, _, [], _, [], hW', trodAll_mk1 (shut_bool Try.underlying4 _), (trodAll_cons_mk (Below.trod laidOut (by kernel_rfl) (of_decide_eq_true (by kernel_rfl)) k0 bel lt0) trodAll_mk0), rfl, bel.frame _, fun h => by cases h⟩
theorem over : Rows.fnExactRecordOkRow.holds Try.pinned (OpenSpec.ofChange Rows.fnExactRecordOkSpec) :=
  OpenClaim.holds_of_wide 12 Try.f12 rfl rfl rfl rfl rfl rfl rfl ⟨rfl, rfl, rfl, rfl, rfl⟩ rfl rfl rfl rfl rfl (by kernel_rfl) Try.func12 (by kernel_rfl)
    (of_decide_eq_true (by kernel_rfl)) (by unfold Func.isWrapper; first | (rw [if_pos (by decide +kernel)]; kernel_rfl) | (rw [if_neg (by decide +kernel)]; exact ⟨rfl, rfl⟩))
    (fun os started H enc _ => lifted os started H enc)
theorem proved : Rows.FnExactRecordOkSaid := over
#print axioms proved
end Go.Proofs.Ytoglalgbjobpkaa.fnExactRecordOk
namespace Go.Proofs.Ytoglalgbjobpkaa
/-- The row, under a short name, for the claim. -/
theorem fnExactRecordOk_holds : Rows.FnExactRecordOkSaid := fnExactRecordOk.proved
end Go.Proofs.Ytoglalgbjobpkaa
