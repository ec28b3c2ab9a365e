/-
The row of the law FnExactLearn: whatever the input, the law answers true; its arguments read as they did. Conditions: none beyond the statement's own.
-/
import Derived.Test.YtipemgjgimpmbaaRows
import Derived.Test.YtipemgjgimpmbaaHLawFnExactLearn
import Derived.WalkKit
import Derived.ProofKit
import Derived.OpenShut
import Derived.ShutString
import Derived.ChangeOld
import Derived.Below
import Derived.SizedLaws
namespace Go.Proofs.Ytipemgjgimpmbaa.fnExactLearn
open Go.ChangeShapes Go.WideShapes Go.ChangeAt Go.RowKit
open Go.ChangeMaps (open_string shut_string)
open Go.Proofs.Ytipemgjgimpmbaa.H
set_option linter.unusedVariables false
theorem rd3 : Rd Try.prog (Ki.int .i64) (wfInt .i64) 3 := Rd.int (by kernel_rfl) Try.underlying3
theorem rd4 : Rd Try.prog Ki.bool wfBool 4 := Rd.bool (by kernel_rfl) Try.underlying4
theorem rd9 : Rd Try.prog Ki.str wfStr 9 := Rd.string (by kernel_rfl) Try.underlying9
theorem rd164 : Rd Try.prog kHead Head.wf 164 := Rd.iso (fun x : Head => (x.Key, x.Value)) (fun y => (⟨y.1, y.2⟩ : Head)) (fun _ => rfl) (Rd.struct (by kernel_rfl) Try.underlying164 (RdF.cons rfl rd9 (RdF.last rfl rd9)))
instance : Inhabited Head := ⟨zHead⟩
theorem rd136 : Rd Try.prog (Ki.slice 152 kHead) (wfList Head.wf) 136 := Rd.slice (by kernel_rfl) Try.underlying136 rd164
theorem rd138 : Rd Try.prog kRecord Record.wf 138 := Rd.iso (fun x : Record => (x.Time, x.Keyed, x.Key, x.Gone, x.Value, x.Heads)) (fun y => (⟨y.1, y.2.1, y.2.2.1, y.2.2.2.1, y.2.2.2.2.1, y.2.2.2.2.2⟩ : Record)) (fun _ => rfl) (Rd.struct (by kernel_rfl) Try.underlying138 (RdF.cons rfl rd3 (RdF.cons rfl rd4 (RdF.cons rfl rd9 (RdF.cons rfl rd4 (RdF.cons rfl rd9 (RdF.last rfl rd136)))))))
instance : Inhabited Record := ⟨zRecord⟩
theorem rd41 : Rd Try.prog (Ki.slice 116 kRecord) (wfList Record.wf) 41 := Rd.slice (by kernel_rfl) Try.underlying41 rd138
theorem rd43 : Rd Try.prog kBatch Batch.wf 43 := Rd.iso (fun x : Batch => (x.Base, x.Epoch, x.Producer, x.Turn, x.Seq, x.Flags, x.Records)) (fun y => (⟨y.1, y.2.1, y.2.2.1, y.2.2.2.1, y.2.2.2.2.1, y.2.2.2.2.2.1, y.2.2.2.2.2.2⟩ : Batch)) (fun _ => rfl) (Rd.struct (by kernel_rfl) Try.underlying43 (RdF.cons rfl rd3 (RdF.cons rfl rd3 (RdF.cons rfl rd3 (RdF.cons rfl rd3 (RdF.cons rfl rd3 (RdF.cons rfl rd3 (RdF.last rfl rd41))))))))
instance : Inhabited Batch := ⟨zBatch⟩
theorem rd126 : Rd Try.prog (Ki.slice 52 kBatch) (wfList Batch.wf) 126 := Rd.slice (by kernel_rfl) Try.underlying126 rd43
theorem rd128 : Rd Try.prog kSegment Segment.wf 128 := Rd.iso (fun x : Segment => (x.Base, x.Batches)) (fun y => (⟨y.1, y.2⟩ : Segment)) (fun _ => rfl) (Rd.struct (by kernel_rfl) Try.underlying128 (RdF.cons rfl rd3 (RdF.last rfl rd126)))
instance : Inhabited Segment := ⟨zSegment⟩
theorem rd22 : Rd Try.prog (Ki.slice 83 kSegment) (wfList Segment.wf) 22 := Rd.slice (by kernel_rfl) Try.underlying22 rd128
theorem rd24 : Rd Try.prog kLog Log.wf 24 := Rd.iso (fun x : Log => (x.Start, x.Next, x.Roll, x.Segments)) (fun y => (⟨y.1, y.2.1, y.2.2.1, y.2.2.2⟩ : Log)) (fun _ => rfl) (Rd.struct (by kernel_rfl) Try.underlying24 (RdF.cons rfl rd3 (RdF.cons rfl rd3 (RdF.cons rfl rd3 (RdF.last rfl rd22)))))
theorem own : ownKnob Try.prog.godebug = none := by kernel_rfl
theorem laidOut : laidOutB Try.prog = true := by kernel_rfl
set_option maxRecDepth 100000 in
theorem lifted (os : Os) (started : os.Started) (H : Type) (enc : TypeId × Value → H) :
    ReturnsInHanded {} Try.checked os 8 .any (Rows.fnExactLearnSpec.pre6 enc Try.prog Try.f8 Rows.fnExactLearnRow.domain false) (Rows.fnExactLearnSpec.post enc Try.prog Try.f8 false true false false) := by
  refine returnsInHanded_of_change_sized (C := Try.checked) own started (by kernel_rfl) Try.func8
    (ChangeSpec.witness6 (enc := enc) (C := Try.checked) false ⟨#[], #[.agg #[.int .i64 0, .int .i64 0, .int .i64 0, .slice none 0 0]], []⟩ 8 (by kernel_rfl) (by kernel_rfl) (by kernel_rfl) (by kernel_rfl)) ?_
  intro W base args ds gs before hval0 hW hcnd hsz0 _
  have hval : ∀ (j : Nat) t v, Try.f8.params[j]? = some t → args[j]? = some v → Value.okWide Try.prog W .any base t v := hval0
  have hW' := hW
  obtain ⟨p, q, hA0, hV, rfl, hfz, hnd⟩ := hW
  have hA : DataW.TrodAll enc Try.prog W 0 (fun _ => true) true Try.f8.params.toList args.toList ds p := hA0
  rw [Try.params8] at hA hval
  obtain ⟨v0, vs0, d0, ds0, p0, q0, hargs, rfl, rfl, h0, r0⟩ := trodAll_cons hA
  obtain ⟨rfl, rfl, rfl⟩ := trodAll_nil r0
  obtain rfl : args = #[v0] := by cases args; simp_all
  obtain ⟨rfl, rfl⟩ := trodVars_none hV
  have k0 := h0
  have lt0 : ∀ x ∈ p0, x.block < W.heap.size := by obtain ⟨m, hm⟩ := k0; exact DataW.trod_lt m _ _ _ hm
  obtain ⟨cs0, rfl, _⟩ := okWide_struct Try.underlying24 (hval 0 24 v0 rfl rfl)
  obtain ⟨x0, hK0, w0⟩ : ∃ y, kLog.K W y cs0.toList ∧ Log.wf y := by
    obtain ⟨fuel, hf⟩ := h0
    exact rd24.out hf
  obtain ⟨A0_3, c0_3, e0, l0_3, g0_3⟩ := Log.opn hK0
  obtain rfl : cs0 = #[.int .i64 x0.Start, .int .i64 x0.Next, .int .i64 x0.Roll, .slice A0_3 x0.Segments.length c0_3] := Array.toList_inj.1 e0
  clear hA0 hval0 hsz0
  refine (law_FnExactLearn W x0 l0_3 g0_3 w0).mono fun e W' ⟨he, bel⟩ => ?_
  subst he
  exact ⟨_, rfl, _, _, _, [], _, [], hW', trodAll_mk1 (shut_bool Try.underlying4 _), (trodAll_cons_mk (Below.trod laidOut (by kernel_rfl) (of_decide_eq_true (by kernel_rfl)) k0 bel lt0) trodAll_mk0), rfl, bel.frame _, fun h => by cases h⟩
theorem over : Rows.fnExactLearnRow.holds Try.pinned (OpenSpec.ofChange Rows.fnExactLearnSpec) :=
  OpenClaim.holds_of_wide 8 Try.f8 rfl rfl rfl rfl rfl rfl rfl ⟨rfl, rfl, rfl, rfl, rfl⟩ rfl rfl rfl rfl rfl (by kernel_rfl) Try.func8 (by kernel_rfl)
    (of_decide_eq_true (by kernel_rfl)) (by unfold Func.isWrapper; first | (rw [if_pos (by decide +kernel)]; kernel_rfl) | (rw [if_neg (by decide +kernel)]; exact ⟨rfl, rfl⟩))
    (fun os started H enc _ => lifted os started H enc)
theorem proved : Rows.FnExactLearnSaid := over
#print axioms proved
end Go.Proofs.Ytipemgjgimpmbaa.fnExactLearn
namespace Go.Proofs.Ytipemgjgimpmbaa
/-- The row, under a short name, for the claim. -/
theorem fnExactLearn_holds : Rows.FnExactLearnSaid := fnExactLearn.proved
end Go.Proofs.Ytipemgjgimpmbaa
