/-
The row of the law FnExactMoves: whatever the input, the law answers true; its arguments read as they did. Conditions: none beyond the statement's own.
-/
import Derived.Test.YtenldgbabcjjkaaRows
import Derived.Test.YtenldgbabcjjkaaHLawFnExactMoves
import Derived.WalkKit
import Derived.ProofKit
import Derived.OpenShut
import Derived.ShutString
import Derived.ChangeOld
import Derived.Below
import Derived.SizedLaws
namespace Go.Proofs.Ytenldgbabcjjkaa.fnExactMoves
open Go.ChangeShapes Go.WideShapes Go.ChangeAt Go.RowKit
open Go.ChangeMaps (open_string shut_string)
open Go.Proofs.Ytenldgbabcjjkaa.H
set_option linter.unusedVariables false
theorem rd9 : Rd Try.prog Ki.str wfStr 9 := Rd.string (by kernel_rfl) Try.underlying9
theorem rd67 : Rd Try.prog (Ki.slice 9 Ki.str) (wfList wfStr) 67 := Rd.slice (by kernel_rfl) Try.underlying67 rd9
theorem rd3 : Rd Try.prog (Ki.int .i64) (wfInt .i64) 3 := Rd.int (by kernel_rfl) Try.underlying3
theorem rd129 : Rd Try.prog kSlot Slot.wf 129 := Rd.iso (fun x : Slot => (x.Topic, x.Part)) (fun y => (⟨y.1, y.2⟩ : Slot)) (fun _ => rfl) (Rd.struct (by kernel_rfl) Try.underlying129 (RdF.cons rfl rd9 (RdF.last rfl rd3)))
instance : Inhabited Slot := ⟨zSlot⟩
theorem rd68 : Rd Try.prog (Ki.slice 79 kSlot) (wfList Slot.wf) 68 := Rd.slice (by kernel_rfl) Try.underlying68 rd129
theorem rd70 : Rd Try.prog kWant Want.wf 70 := Rd.iso (fun x : Want => (x.Name, x.Wants, x.Has)) (fun y => (⟨y.1, y.2.1, y.2.2⟩ : Want)) (fun _ => rfl) (Rd.struct (by kernel_rfl) Try.underlying70 (RdF.cons rfl rd9 (RdF.cons rfl rd67 (RdF.last rfl rd68))))
instance : Inhabited Want := ⟨zWant⟩
theorem rd22 : Rd Try.prog (Ki.slice 73 kWant) (wfList Want.wf) 22 := Rd.slice (by kernel_rfl) Try.underlying22 rd70
theorem rd29 : Rd Try.prog (Ki.slice 71 (Ki.slice 79 kSlot)) (wfList (wfList Slot.wf)) 29 := Rd.slice (by kernel_rfl) Try.underlying29 rd68
theorem own : ownKnob Try.prog.godebug = none := by kernel_rfl
theorem laidOut : laidOutB Try.prog = true := by kernel_rfl
set_option maxRecDepth 100000 in
theorem lifted (os : Os) (started : os.Started) (H : Type) (enc : TypeId × Value → H) :
    ReturnsInHanded {} Try.checked os 4 .any (Rows.fnExactMovesSpec.pre6 enc Try.prog Try.f4 Rows.fnExactMovesRow.domain false) (Rows.fnExactMovesSpec.post enc Try.prog Try.f4 false true false false) := by
  refine returnsInHanded_of_change_sized (C := Try.checked) own started (by kernel_rfl) Try.func4
    (ChangeSpec.witness6 (enc := enc) (C := Try.checked) false ⟨#[], #[.slice none 0 0, .slice none 0 0], []⟩ 8 (by kernel_rfl) (by kernel_rfl) (by kernel_rfl) (by kernel_rfl)) ?_
  intro W base args ds gs before hval0 hW hcnd hsz0 _
  have hval : ∀ (j : Nat) t v, Try.f4.params[j]? = some t → args[j]? = some v → Value.okWide Try.prog W .any base t v := hval0
  have hW' := hW
  obtain ⟨p, q, hA0, hV, rfl, hfz, hnd⟩ := hW
  have hA : DataW.TrodAll enc Try.prog W 0 (fun _ => true) true Try.f4.params.toList args.toList ds p := hA0
  rw [Try.params4] at hA hval
  obtain ⟨v0, vs0, d0, ds0, p0, q0, hargs, rfl, rfl, h0, r0⟩ := trodAll_cons hA
  obtain ⟨v1, vs1, d1, ds1, p1, q1, rfl, rfl, rfl, h1, r1⟩ := trodAll_cons r0
  obtain ⟨rfl, rfl, rfl⟩ := trodAll_nil r1
  obtain rfl : args = #[v0, v1] := by cases args; simp_all
  obtain ⟨rfl, rfl⟩ := trodVars_none hV
  have k0 := h0
  have lt0 : ∀ x ∈ p0, x.block < W.heap.size := by obtain ⟨m, hm⟩ := k0; exact DataW.trod_lt m _ _ _ hm
  obtain ⟨A0, n0, c0, rfl⟩ := okWide_slice Try.underlying22 (hval 0 22 v0 rfl rfl)
  obtain ⟨x0, hK0, w0⟩ : ∃ y, (Ki.slice 73 kWant).K W y [.slice A0 n0 c0] ∧ (wfList Want.wf) y := by
    obtain ⟨fuel, hf⟩ := h0
    exact rd22.out hf
  obtain ⟨A'0, c'0, e0, l0_0, g0_0⟩ := hK0
  injection e0 with e0 _
  injection e0 with eA0 en0 ec0
  subst eA0; subst en0; subst ec0
  have k1 := h1
  have lt1 : ∀ x ∈ p1, x.block < W.heap.size := by obtain ⟨m, hm⟩ := k1; exact DataW.trod_lt m _ _ _ hm
  obtain ⟨A1, n1, c1, rfl⟩ := okWide_slice Try.underlying29 (hval 1 29 v1 rfl rfl)
  obtain ⟨x1, hK1, w1⟩ : ∃ y, (Ki.slice 71 (Ki.slice 79 kSlot)).K W y [.slice A1 n1 c1] ∧ (wfList (wfList Slot.wf)) y := by
    obtain ⟨fuel, hf⟩ := h1
    exact rd29.out hf
  obtain ⟨A'1, c'1, e1, l1_0, g1_0⟩ := hK1
  injection e1 with e1 _
  injection e1 with eA1 en1 ec1
  subst eA1; subst en1; subst ec1
  clear hA0 hval0 hsz0
  refine (law_FnExactMoves W x0 x1 l0_0 g0_0 l1_0 g1_0 w0 w1).mono fun e W' ⟨he, bel⟩ => ?_
  subst he
  exact ⟨_, rfl, _, _, _, [], _, [], hW', trodAll_mk1 (shut_bool Try.underlying4 _), (trodAll_cons_mk (Below.trod laidOut (by kernel_rfl) (of_decide_eq_true (by kernel_rfl)) k0 bel lt0) (trodAll_cons_mk (Below.trod laidOut (by kernel_rfl) (of_decide_eq_true (by kernel_rfl)) k1 bel lt1) trodAll_mk0)), rfl, bel.frame _, fun h => by cases h⟩
theorem over : Rows.fnExactMovesRow.holds Try.pinned (OpenSpec.ofChange Rows.fnExactMovesSpec) :=
  OpenClaim.holds_of_wide 4 Try.f4 rfl rfl rfl rfl rfl rfl rfl ⟨rfl, rfl, rfl, rfl, rfl⟩ rfl rfl rfl rfl rfl (by kernel_rfl) Try.func4 (by kernel_rfl)
    (of_decide_eq_true (by kernel_rfl)) (by unfold Func.isWrapper; first | (rw [if_pos (by decide +kernel)]; kernel_rfl) | (rw [if_neg (by decide +kernel)]; exact ⟨rfl, rfl⟩))
    (fun os started H enc _ => lifted os started H enc)
theorem proved : Rows.FnExactMovesSaid := over
#print axioms proved
end Go.Proofs.Ytenldgbabcjjkaa.fnExactMoves
namespace Go.Proofs.Ytenldgbabcjjkaa
/-- The row, under a short name, for the claim. -/
theorem fnExactMoves_holds : Rows.FnExactMovesSaid := fnExactMoves.proved
end Go.Proofs.Ytenldgbabcjjkaa
