/-
The row of the law FnExactVisible: whatever the input, the law answers true; its arguments read as they did. Conditions: none beyond the statement's own.
-/
import Derived.Test.YtipemgjgimpmbaaRows
import Derived.Test.YtipemgjgimpmbaaHLawFnExactVisible
import Derived.WalkKit
import Derived.ProofKit
import Derived.OpenShut
import Derived.ShutString
import Derived.ChangeOld
import Derived.Below
import Derived.SizedLaws
namespace Go.Proofs.Ytipemgjgimpmbaa.fnExactVisible
open Go.ChangeShapes Go.WideShapes Go.ChangeAt Go.RowKit
open Go.ChangeMaps (open_string shut_string)
open Go.Proofs.Ytipemgjgimpmbaa.H
set_option linter.unusedVariables false
theorem rd3 : Rd Try.prog (Ki.int .i64) (wfInt .i64) 3 := Rd.int (by kernel_rfl) Try.underlying3
theorem rd4 : Rd Try.prog Ki.bool wfBool 4 := Rd.bool (by kernel_rfl) Try.underlying4
theorem rd9 : Rd Try.prog Ki.str wfStr 9 := Rd.string (by kernel_rfl) Try.underlying9
theorem rd164 : Rd Try.prog kHead Head.wf 164 := Rd.iso (fun x : Head => (x.Key, x.Value)) (fun y => (⟨y.1, y.2⟩ : Head)) (fun _ => rfl) (Rd.struct (by kernel_rfl) Try.underlying164 (RdF.cons rfl rd9 (RdF.last rfl rd9)))
instance : Inhabited Head := ⟨zHead⟩
theorem rd136 : Rd Try.prog (Ki.slice 152 kHead) (wfList Head.wf) 136 := Rd.slice (by kernel_rfl) Try.underlying136 rd164
theorem rd138 : Rd Try.prog kRecord Record.wf 138 := Rd.iso (fun x : Record => (x.Time, x.Keyed, x.Key, x.Gone, x.Value, x.Heads)) (fun y => (⟨y.1, y.2.1, y.2.2.1, y.2.2.2.1, y.2.2.2.2.1, y.2.2.2.2.2⟩ : Record)) (fun _ => rfl) (Rd.struct (by kernel_rfl) Try.underlying138 (RdF.cons rfl rd3 (RdF.cons rfl rd4 (RdF.cons rfl rd9 (RdF.cons rfl rd4 (RdF.cons rfl rd9 (RdF.last rfl rd136)))))))
instance : Inhabited Record := ⟨zRecord⟩
theorem rd41 : Rd Try.prog (Ki.slice 116 kRecord) (wfList Record.wf) 41 := Rd.slice (by kernel_rfl) Try.underlying41 rd138
theorem rd43 : Rd Try.prog kBatch Batch.wf 43 := Rd.iso (fun x : Batch => (x.Base, x.Epoch, x.Producer, x.Turn, x.Seq, x.Flags, x.Records)) (fun y => (⟨y.1, y.2.1, y.2.2.1, y.2.2.2.1, y.2.2.2.2.1, y.2.2.2.2.2.1, y.2.2.2.2.2.2⟩ : Batch)) (fun _ => rfl) (Rd.struct (by kernel_rfl) Try.underlying43 (RdF.cons rfl rd3 (RdF.cons rfl rd3 (RdF.cons rfl rd3 (RdF.cons rfl rd3 (RdF.cons rfl rd3 (RdF.cons rfl rd3 (RdF.last rfl rd41))))))))
instance : Inhabited Batch := ⟨zBatch⟩
theorem rd126 : Rd Try.prog (Ki.slice 52 kBatch) (wfList Batch.wf) 126 := Rd.slice (by kernel_rfl) Try.underlying126 rd43
theorem rd128 : Rd Try.prog kSegment Segment.wf 128 := Rd.iso (fun x : Segment => (x.Base, x.Batches)) (fun y => (⟨y.1, y.2⟩ : Segment)) (fun _ => rfl) (Rd.struct (by kernel_rfl) Try.underlying128 (RdF.cons rfl rd3 (RdF.last rfl rd126)))
instance : Inhabited Segment := ⟨zSegment⟩
theorem rd22 : Rd Try.prog (Ki.slice 83 kSegment) (wfList Segment.wf) 22 := Rd.slice (by kernel_rfl) Try.underlying22 rd128
theorem rd24 : Rd Try.prog kLog Log.wf 24 := Rd.iso (fun x : Log => (x.Start, x.Next, x.Roll, x.Segments)) (fun y => (⟨y.1, y.2.1, y.2.2.1, y.2.2.2⟩ : Log)) (fun _ => rfl) (Rd.struct (by kernel_rfl) Try.underlying24 (RdF.cons rfl rd3 (RdF.cons rfl rd3 (RdF.cons rfl rd3 (RdF.last rfl rd22)))))
theorem own : ownKnob Try.prog.godebug = none := by kernel_rfl
theorem laidOut : laidOutB Try.prog = true := by kernel_rfl
set_option maxRecDepth 100000 in
theorem lifted (os : Os) (started : os.Started) (H : Type) (enc : TypeId × Value → H) :
    ReturnsInHanded {} Try.checked os 7 .any (Rows.fnExactVisibleSpec.pre6 enc Try.prog Try.f7 Rows.fnExactVisibleRow.domain false) (Rows.fnExactVisibleSpec.post enc Try.prog Try.f7 false true false false) := by
  refine returnsInHanded_of_change_sized (C := Try.checked) own started (by kernel_rfl) Try.func7
    (ChangeSpec.witness6 (enc := enc) (C := Try.checked) false ⟨#[], #[.agg #[.int .i64 0, .int .i64 0, .int .i64 0, .slice none 0 0], .int .i64 0, .bool false], []⟩ 8 (by kernel_rfl) (by kernel_rfl) (by kernel_rfl) (by kernel_rfl)) ?_
  intro W base args ds gs before hval0 hW hcnd hsz0 _
  have hval : ∀ (j : Nat) t v, Try.f7.params[j]? = some t → args[j]? = some v → Value.okWide Try.prog W .any base t v := hval0
  have hW' := hW
  obtain ⟨p, q, hA0, hV, rfl, hfz, hnd⟩ := hW
  have hA : DataW.TrodAll enc Try.prog W 0 (fun _ => true) true Try.f7.params.toList args.toList ds p := hA0
  rw [Try.params7] at hA hval
  obtain ⟨v0, vs0, d0, ds0, p0, q0, hargs, rfl, rfl, h0, r0⟩ := trodAll_cons hA
  obtain ⟨v1, vs1, d1, ds1, p1, q1, rfl, rfl, rfl, h1, r1⟩ := trodAll_cons r0
  obtain ⟨v2, vs2, d2, ds2, p2, q2, rfl, rfl, rfl, h2, r2⟩ := trodAll_cons r1
  obtain ⟨rfl, rfl, rfl⟩ := trodAll_nil r2
  obtain rfl : args = #[v0, v1, v2] := by cases args; simp_all
  obtain ⟨rfl, rfl⟩ := trodVars_none hV
  have k0 := h0
  have lt0 : ∀ x ∈ p0, x.block < W.heap.size := by obtain ⟨m, hm⟩ := k0; exact DataW.trod_lt m _ _ _ hm
  obtain ⟨cs0, rfl, _⟩ := okWide_struct Try.underlying24 (hval 0 24 v0 rfl rfl)
  obtain ⟨x0, hK0, w0⟩ : ∃ y, kLog.K W y cs0.toList ∧ Log.wf y := by
    obtain ⟨fuel, hf⟩ := h0
    exact rd24.out hf
  obtain ⟨A0_3, c0_3, e0, l0_3, g0_3⟩ := Log.opn hK0
  obtain rfl : cs0 = #[.int .i64 x0.Start, .int .i64 x0.Next, .int .i64 x0.Roll, .slice A0_3 x0.Segments.length c0_3] := Array.toList_inj.1 e0
  have k1 := h1
  have lt1 : ∀ x ∈ p1, x.block < W.heap.size := by obtain ⟨m, hm⟩ := k1; exact DataW.trod_lt m _ _ _ hm
  obtain ⟨x1, rfl⟩ := okWide_int Try.underlying3 (hval 1 3 v1 rfl rfl)
  have w1 : (wfInt .i64) x1 := by
    obtain ⟨fuel, hf⟩ := h1
    obtain ⟨y, hy, hw⟩ := rd3.out hf
    injection (show [Value.int .i64 x1] = [Value.int .i64 y] from hy) with hy _
    injection hy with _ hy
    subst hy
    exact hw
  have k2 := h2
  have lt2 : ∀ x ∈ p2, x.block < W.heap.size := by obtain ⟨m, hm⟩ := k2; exact DataW.trod_lt m _ _ _ hm
  obtain ⟨x2, rfl⟩ := okWide_bool Try.underlying4 (hval 2 4 v2 rfl rfl)
  have w2 : wfBool x2 := trivial
  clear hA0 hval0 hsz0
  refine (law_FnExactVisible W x0 x1 x2 l0_3 g0_3 w0 w1 w2).mono fun e W' ⟨he, bel⟩ => ?_
  subst he
  exact ⟨_, rfl, _, _, _, [], _, [], hW', trodAll_mk1 (shut_bool Try.underlying4 _), (trodAll_cons_mk (Below.trod laidOut (by kernel_rfl) (of_decide_eq_true (by kernel_rfl)) k0 bel lt0) (trodAll_cons_mk (Below.trod laidOut (by kernel_rfl) (of_decide_eq_true (by kernel_rfl)) k1 bel lt1) (trodAll_cons_mk (Below.trod laidOut (by kernel_rfl) (of_decide_eq_true (by kernel_rfl)) k2 bel lt2) trodAll_mk0))), rfl, bel.frame _, fun h => by cases h⟩
theorem over : Rows.fnExactVisibleRow.holds Try.pinned (OpenSpec.ofChange Rows.fnExactVisibleSpec) :=
  OpenClaim.holds_of_wide 7 Try.f7 rfl rfl rfl rfl rfl rfl rfl ⟨rfl, rfl, rfl, rfl, rfl⟩ rfl rfl rfl rfl rfl (by kernel_rfl) Try.func7 (by kernel_rfl)
    (of_decide_eq_true (by kernel_rfl)) (by unfold Func.isWrapper; first | (rw [if_pos (by decide +kernel)]; kernel_rfl) | (rw [if_neg (by decide +kernel)]; exact ⟨rfl, rfl⟩))
    (fun os started H enc _ => lifted os started H enc)
theorem proved : Rows.FnExactVisibleSaid := over
#print axioms proved
end Go.Proofs.Ytipemgjgimpmbaa.fnExactVisible
namespace Go.Proofs.Ytipemgjgimpmbaa
/-- The row, under a short name, for the claim. -/
theorem fnExactVisible_holds : Rows.FnExactVisibleSaid := fnExactVisible.proved
end Go.Proofs.Ytipemgjgimpmbaa
