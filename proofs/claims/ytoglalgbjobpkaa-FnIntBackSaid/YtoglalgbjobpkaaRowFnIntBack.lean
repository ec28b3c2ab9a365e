/-
The row of the law FnIntBack: whatever the input, the law answers true; its arguments read as they did. Conditions: none beyond the statement's own.
-/
import Derived.Test.YtoglalgbjobpkaaRows
import Derived.Test.YtoglalgbjobpkaaFlawsFnIntBack
import Derived.Test.YtoglalgbjobpkaaKindsFnIntBack
import Derived.Test.YtoglalgbjobpkaaPureFnIntBack
import Derived.WalkKit
import Derived.ProofKit
import Derived.OpenShut
import Derived.ShutString
import Derived.ChangeOld
import Derived.Below
import Derived.SizedLaws
namespace Go.Proofs.Ytoglalgbjobpkaa.fnIntBack
open Go.ChangeShapes Go.WideShapes Go.ChangeAt Go.RowKit
open Go.ChangeMaps (open_string shut_string)
open Go.Proofs.YtoglalgbjobpkaaW.PrintWords Go.Proofs.Ytoglalgbjobpkaa.F
set_option linter.unusedVariables false
theorem own : ownKnob Try.prog.godebug = none := by kernel_rfl
theorem laidOut : laidOutB Try.prog = true := by kernel_rfl
set_option maxRecDepth 100000 in
theorem lifted (os : Os) (started : os.Started) (H : Type) (enc : TypeId × Value → H) :
    ReturnsInHanded {} Try.checked os 9 .any (Rows.fnIntBackSpec.pre6 enc Try.prog Try.f9 Rows.fnIntBackRow.domain false) (Rows.fnIntBackSpec.post enc Try.prog Try.f9 false true false false) := by
  refine returnsInHanded_of_change_sized (C := Try.checked) own started (by kernel_rfl) Try.func9
    (ChangeSpec.witness6 (enc := enc) (C := Try.checked) false ⟨#[], #[.slice none 0 0], []⟩ 8 (by kernel_rfl) (by kernel_rfl) (by kernel_rfl) (by kernel_rfl)) ?_
  intro W base args ds gs before hval0 hW hcnd hsz0 _
  have hval : ∀ (j : Nat) t v, Try.f9.params[j]? = some t → args[j]? = some v → Value.okWide Try.prog W .any base t v := hval0
  have hW' := hW
  obtain ⟨p, q, hA0, hV, rfl, hfz, hnd⟩ := hW
  have hA : DataW.TrodAll enc Try.prog W 0 (fun _ => true) true Try.f9.params.toList args.toList ds p := hA0
  rw [Try.params9] at hA hval
  obtain ⟨v0, vs0, d0, ds0, p0, q0, hargs, rfl, rfl, h0, r0⟩ := trodAll_cons hA
  obtain ⟨rfl, rfl, rfl⟩ := trodAll_nil r0
  obtain rfl : args = #[v0] := by cases args; simp_all
  obtain ⟨rfl, rfl⟩ := trodVars_none hV
  have k0 := h0
  have lt0 : ∀ x ∈ p0, x.block < W.heap.size := by obtain ⟨m, hm⟩ := k0; exact DataW.trod_lt m _ _ _ hm
  obtain ⟨Aa0, na0, ca0, rfl⟩ := okWide_slice Try.underlying24 (hval 0 24 v0 rfl rfl)
  obtain ⟨a0, hK0, w0⟩ : ∃ y, (Kd.slice 5 (Kd.int .u8)).K W y [.slice Aa0 na0 ca0] ∧ Open.wfList (Open.wfInt .u8) y := by
    obtain ⟨fuel, hf⟩ := h0
    exact Kinds.rd24.out hf
  obtain ⟨A', c', e0, la0, ga0⟩ := hK0
  injection e0 with e0 _
  injection e0 with eA0 en0 ec0
  subst eA0; subst en0; subst ec0
  clear hA0 hval0 hsz0
  obtain ⟨kk, hk⟩ := Ev.rounds (Pure.FnIntBack a0 w0)
  refine (F.laws_FnIntBack.calls kk Aa0 ca0 a0 true W ga0 la0 hk).mono fun e W' ⟨he, bel⟩ => ?_
  subst he
  exact ⟨_, rfl, _, _, _, [], _, [], hW', trodAll_mk1 (shut_bool Try.underlying4 _), (trodAll_cons_mk (Below.trod laidOut (by kernel_rfl) (of_decide_eq_true (by kernel_rfl)) k0 bel lt0) trodAll_mk0), rfl, bel.frame _, fun h => by cases h⟩
theorem over : Rows.fnIntBackRow.holds Try.pinned (OpenSpec.ofChange Rows.fnIntBackSpec) :=
  OpenClaim.holds_of_wide 9 Try.f9 rfl rfl rfl rfl rfl rfl rfl ⟨rfl, rfl, rfl, rfl, rfl⟩ rfl rfl rfl rfl rfl (by kernel_rfl) Try.func9 (by kernel_rfl)
    (of_decide_eq_true (by kernel_rfl)) (by unfold Func.isWrapper; first | (rw [if_pos (by decide +kernel)]; kernel_rfl) | (rw [if_neg (by decide +kernel)]; exact ⟨rfl, rfl⟩))
    (fun os started H enc _ => lifted os started H enc)
theorem proved : Rows.FnIntBackSaid := over
#print axioms proved
end Go.Proofs.Ytoglalgbjobpkaa.fnIntBack
namespace Go.Proofs.Ytoglalgbjobpkaa
/-- The row, under a short name, for the claim. -/
theorem fnIntBack_holds : Rows.FnIntBackSaid := fnIntBack.proved
end Go.Proofs.Ytoglalgbjobpkaa
