/-
The row of the law FnExactView: whatever the input, the law answers true; its arguments read as they did. Conditions: none beyond the statement's own.
-/
import Derived.Test.YtiefpllmnmmdlaaRows
import Derived.Test.YtiefpllmnmmdlaaHLawFnExactView
import Derived.WalkKit
import Derived.ProofKit
import Derived.OpenShut
import Derived.ShutString
import Derived.ChangeOld
import Derived.Below
import Derived.SizedLaws
namespace Go.Proofs.Ytiefpllmnmmdlaa.fnExactView
open Go.ChangeShapes Go.WideShapes Go.ChangeAt Go.RowKit
open Go.ChangeMaps (open_string shut_string)
open Go.Proofs.Ytiefpllmnmmdlaa.H
set_option linter.unusedVariables false
theorem rd3 : Rd Try.prog (Ki.int .i64) (wfInt .i64) 3 := Rd.int (by kernel_rfl) Try.underlying3
theorem rd4 : Rd Try.prog Ki.bool wfBool 4 := Rd.bool (by kernel_rfl) Try.underlying4
theorem rd9 : Rd Try.prog Ki.str wfStr 9 := Rd.string (by kernel_rfl) Try.underlying9
theorem rd151 : Rd Try.prog kHead Head.wf 151 := Rd.iso (fun x : Head => (x.Key, x.Value)) (fun y => (⟨y.1, y.2⟩ : Head)) (fun _ => rfl) (Rd.struct (by kernel_rfl) Try.underlying151 (RdF.cons rfl rd9 (RdF.last rfl rd9)))
instance : Inhabited Head := ⟨zHead⟩
theorem rd142 : Rd Try.prog (Ki.slice 127 kHead) (wfList Head.wf) 142 := Rd.slice (by kernel_rfl) Try.underlying142 rd151
theorem rd144 : Rd Try.prog kRecord Record.wf 144 := Rd.iso (fun x : Record => (x.Time, x.Keyed, x.Key, x.Gone, x.Value, x.Heads)) (fun y => (⟨y.1, y.2.1, y.2.2.1, y.2.2.2.1, y.2.2.2.2.1, y.2.2.2.2.2⟩ : Record)) (fun _ => rfl) (Rd.struct (by kernel_rfl) Try.underlying144 (RdF.cons rfl rd3 (RdF.cons rfl rd4 (RdF.cons rfl rd9 (RdF.cons rfl rd4 (RdF.cons rfl rd9 (RdF.last rfl rd142)))))))
instance : Inhabited Record := ⟨zRecord⟩
theorem rd121 : Rd Try.prog (Ki.slice 53 kRecord) (wfList Record.wf) 121 := Rd.slice (by kernel_rfl) Try.underlying121 rd144
theorem rd123 : Rd Try.prog kBatch Batch.wf 123 := Rd.iso (fun x : Batch => (x.Base, x.Epoch, x.Producer, x.Turn, x.Seq, x.Flags, x.Records)) (fun y => (⟨y.1, y.2.1, y.2.2.1, y.2.2.2.1, y.2.2.2.2.1, y.2.2.2.2.2.1, y.2.2.2.2.2.2⟩ : Batch)) (fun _ => rfl) (Rd.struct (by kernel_rfl) Try.underlying123 (RdF.cons rfl rd3 (RdF.cons rfl rd3 (RdF.cons rfl rd3 (RdF.cons rfl rd3 (RdF.cons rfl rd3 (RdF.cons rfl rd3 (RdF.last rfl rd121))))))))
instance : Inhabited Batch := ⟨zBatch⟩
theorem rd71 : Rd Try.prog (Ki.slice 48 kBatch) (wfList Batch.wf) 71 := Rd.slice (by kernel_rfl) Try.underlying71 rd123
theorem rd73 : Rd Try.prog kSegment Segment.wf 73 := Rd.iso (fun x : Segment => (x.Base, x.Batches)) (fun y => (⟨y.1, y.2⟩ : Segment)) (fun _ => rfl) (Rd.struct (by kernel_rfl) Try.underlying73 (RdF.cons rfl rd3 (RdF.last rfl rd71)))
instance : Inhabited Segment := ⟨zSegment⟩
theorem rd22 : Rd Try.prog (Ki.slice 45 kSegment) (wfList Segment.wf) 22 := Rd.slice (by kernel_rfl) Try.underlying22 rd73
theorem rd24 : Rd Try.prog kLog Log.wf 24 := Rd.iso (fun x : Log => (x.Start, x.Next, x.Roll, x.Segments)) (fun y => (⟨y.1, y.2.1, y.2.2.1, y.2.2.2⟩ : Log)) (fun _ => rfl) (Rd.struct (by kernel_rfl) Try.underlying24 (RdF.cons rfl rd3 (RdF.cons rfl rd3 (RdF.cons rfl rd3 (RdF.last rfl rd22)))))
theorem own : ownKnob Try.prog.godebug = none := by kernel_rfl
theorem laidOut : laidOutB Try.prog = true := by kernel_rfl
set_option maxRecDepth 100000 in
theorem lifted (os : Os) (started : os.Started) (H : Type) (enc : TypeId × Value → H) :
    ReturnsInHanded {} Try.checked os 4 .any (Rows.fnExactViewSpec.pre6 enc Try.prog Try.f4 Rows.fnExactViewRow.domain false) (Rows.fnExactViewSpec.post enc Try.prog Try.f4 false true false false) := by
  refine returnsInHanded_of_change_sized (C := Try.checked) own started (by kernel_rfl) Try.func4
    (ChangeSpec.witness6 (enc := enc) (C := Try.checked) false ⟨#[], #[.agg #[.int .i64 0, .int .i64 0, .int .i64 0, .slice none 0 0]], []⟩ 8 (by kernel_rfl) (by kernel_rfl) (by kernel_rfl) (by kernel_rfl)) ?_
  intro W base args ds gs before hval0 hW hcnd hsz0 _
  have hval : ∀ (j : Nat) t v, Try.f4.params[j]? = some t → args[j]? = some v → Value.okWide Try.prog W .any base t v := hval0
  have hW' := hW
  obtain ⟨p, q, hA0, hV, rfl, hfz, hnd⟩ := hW
  have hA : DataW.TrodAll enc Try.prog W 0 (fun _ => true) true Try.f4.params.toList args.toList ds p := hA0
  rw [Try.params4] at hA hval
  obtain ⟨v0, vs0, d0, ds0, p0, q0, hargs, rfl, rfl, h0, r0⟩ := trodAll_cons hA
  obtain ⟨rfl, rfl, rfl⟩ := trodAll_nil r0
  obtain rfl : args = #[v0] := by cases args; simp_all
  obtain ⟨rfl, rfl⟩ := trodVars_none hV
  have k0 := h0
  have lt0 : ∀ x ∈ p0, x.block < W.heap.size := by obtain ⟨m, hm⟩ := k0; exact DataW.trod_lt m _ _ _ hm
  obtain ⟨cs0, rfl, _⟩ := okWide_struct Try.underlying24 (hval 0 24 v0 rfl rfl)
  obtain ⟨x0, hK0, w0⟩ : ∃ y, kLog.K W y cs0.toList ∧ Log.wf y := by
    obtain ⟨fuel, hf⟩ := h0
    exact rd24.out hf
  obtain ⟨A0_3, c0_3, e0, l0_3, g0_3⟩ := Log.opn hK0
  obtain rfl : cs0 = #[.int .i64 x0.Start, .int .i64 x0.Next, .int .i64 x0.Roll, .slice A0_3 x0.Segments.length c0_3] := Array.toList_inj.1 e0
  clear hA0 hval0 hsz0
  refine (law_FnExactView W x0 l0_3 g0_3 w0).mono fun e W' ⟨he, bel⟩ => ?_
  subst he
  exact ⟨_, rfl, _, _, _, [], _, [], hW', trodAll_mk1 (shut_bool Try.underlying4 _), (trodAll_cons_mk (Below.trod laidOut (by kernel_rfl) (of_decide_eq_true (by kernel_rfl)) k0 bel lt0) trodAll_mk0), rfl, bel.frame _, fun h => by cases h⟩
theorem over : Rows.fnExactViewRow.holds Try.pinned (OpenSpec.ofChange Rows.fnExactViewSpec) :=
  OpenClaim.holds_of_wide 4 Try.f4 rfl rfl rfl rfl rfl rfl rfl ⟨rfl, rfl, rfl, rfl, rfl⟩ rfl rfl rfl rfl rfl (by kernel_rfl) Try.func4 (by kernel_rfl)
    (of_decide_eq_true (by kernel_rfl)) (by unfold Func.isWrapper; first | (rw [if_pos (by decide +kernel)]; kernel_rfl) | (rw [if_neg (by decide +kernel)]; exact ⟨rfl, rfl⟩))
    (fun os started H enc _ => lifted os started H enc)
theorem proved : Rows.FnExactViewSaid := over
#print axioms proved
end Go.Proofs.Ytiefpllmnmmdlaa.fnExactView
namespace Go.Proofs.Ytiefpllmnmmdlaa
/-- The row, under a short name, for the claim. -/
theorem fnExactView_holds : Rows.FnExactViewSaid := fnExactView.proved
end Go.Proofs.Ytiefpllmnmmdlaa
