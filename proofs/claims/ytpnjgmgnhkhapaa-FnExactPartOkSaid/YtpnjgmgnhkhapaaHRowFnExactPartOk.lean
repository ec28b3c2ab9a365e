/-
The row of the law FnExactPartOk: whatever the input, the law answers true; its arguments read as they did. Conditions: none beyond the statement's own.
-/
import Derived.Test.YtpnjgmgnhkhapaaRows
import Derived.Test.YtpnjgmgnhkhapaaHLawFnExactPartOk
import Derived.WalkKit
import Derived.ProofKit
import Derived.OpenShut
import Derived.ShutString
import Derived.ChangeOld
import Derived.Below
import Derived.SizedLaws
namespace Go.Proofs.Ytpnjgmgnhkhapaa.fnExactPartOk
open Go.ChangeShapes Go.WideShapes Go.ChangeAt Go.RowKit
open Go.ChangeMaps (open_string shut_string)
open Go.Proofs.Ytpnjgmgnhkhapaa.H
set_option linter.unusedVariables false
theorem rd3 : Rd Try.prog (Ki.int .i64) (wfInt .i64) 3 := Rd.int (by kernel_rfl) Try.underlying3
theorem rd4 : Rd Try.prog Ki.bool wfBool 4 := Rd.bool (by kernel_rfl) Try.underlying4
theorem rd9 : Rd Try.prog Ki.str wfStr 9 := Rd.string (by kernel_rfl) Try.underlying9
theorem rd191 : Rd Try.prog kHead Head.wf 191 := Rd.iso (fun x : Head => (x.Key, x.Value)) (fun y => (⟨y.1, y.2⟩ : Head)) (fun _ => rfl) (Rd.struct (by kernel_rfl) Try.underlying191 (RdF.cons rfl rd9 (RdF.last rfl rd9)))
instance : Inhabited Head := ⟨zHead⟩
theorem rd182 : Rd Try.prog (Ki.slice 162 kHead) (wfList Head.wf) 182 := Rd.slice (by kernel_rfl) Try.underlying182 rd191
theorem rd184 : Rd Try.prog kRecord Record.wf 184 := Rd.iso (fun x : Record => (x.Time, x.Keyed, x.Key, x.Gone, x.Value, x.Heads)) (fun y => (⟨y.1, y.2.1, y.2.2.1, y.2.2.2.1, y.2.2.2.2.1, y.2.2.2.2.2⟩ : Record)) (fun _ => rfl) (Rd.struct (by kernel_rfl) Try.underlying184 (RdF.cons rfl rd3 (RdF.cons rfl rd4 (RdF.cons rfl rd9 (RdF.cons rfl rd4 (RdF.cons rfl rd9 (RdF.last rfl rd182)))))))
instance : Inhabited Record := ⟨zRecord⟩
theorem rd173 : Rd Try.prog (Ki.slice 151 kRecord) (wfList Record.wf) 173 := Rd.slice (by kernel_rfl) Try.underlying173 rd184
theorem rd175 : Rd Try.prog kBatch Batch.wf 175 := Rd.iso (fun x : Batch => (x.Base, x.Epoch, x.Producer, x.Turn, x.Seq, x.Flags, x.Records)) (fun y => (⟨y.1, y.2.1, y.2.2.1, y.2.2.2.1, y.2.2.2.2.1, y.2.2.2.2.2.1, y.2.2.2.2.2.2⟩ : Batch)) (fun _ => rfl) (Rd.struct (by kernel_rfl) Try.underlying175 (RdF.cons rfl rd3 (RdF.cons rfl rd3 (RdF.cons rfl rd3 (RdF.cons rfl rd3 (RdF.cons rfl rd3 (RdF.cons rfl rd3 (RdF.last rfl rd173))))))))
instance : Inhabited Batch := ⟨zBatch⟩
theorem rd164 : Rd Try.prog (Ki.slice 101 kBatch) (wfList Batch.wf) 164 := Rd.slice (by kernel_rfl) Try.underlying164 rd175
theorem rd166 : Rd Try.prog kSegment Segment.wf 166 := Rd.iso (fun x : Segment => (x.Base, x.Batches)) (fun y => (⟨y.1, y.2⟩ : Segment)) (fun _ => rfl) (Rd.struct (by kernel_rfl) Try.underlying166 (RdF.cons rfl rd3 (RdF.last rfl rd164)))
instance : Inhabited Segment := ⟨zSegment⟩
theorem rd125 : Rd Try.prog (Ki.slice 131 kSegment) (wfList Segment.wf) 125 := Rd.slice (by kernel_rfl) Try.underlying125 rd166
theorem rd127 : Rd Try.prog kLog Log.wf 127 := Rd.iso (fun x : Log => (x.Start, x.Next, x.Roll, x.Segments)) (fun y => (⟨y.1, y.2.1, y.2.2.1, y.2.2.2⟩ : Log)) (fun _ => rfl) (Rd.struct (by kernel_rfl) Try.underlying127 (RdF.cons rfl rd3 (RdF.cons rfl rd3 (RdF.cons rfl rd3 (RdF.last rfl rd125)))))
theorem rd129 : Rd Try.prog kReplica Replica.wf 129 := Rd.iso (fun x : Replica => (x.Log, x.Mark, x.Up)) (fun y => (⟨y.1, y.2.1, y.2.2⟩ : Replica)) (fun _ => rfl) (Rd.struct (by kernel_rfl) Try.underlying129 (RdF.cons rfl rd127 (RdF.cons rfl rd3 (RdF.last rfl rd4))))
instance : Inhabited Replica := ⟨zReplica⟩
theorem rd40 : Rd Try.prog (Ki.slice 92 kReplica) (wfList Replica.wf) 40 := Rd.slice (by kernel_rfl) Try.underlying40 rd129
theorem rd41 : Rd Try.prog (Ki.slice 3 (Ki.int .i64)) (wfList (wfInt .i64)) 41 := Rd.slice (by kernel_rfl) Try.underlying41 rd3
theorem rd43 : Rd Try.prog kPart Part.wf 43 := Rd.iso (fun x : Part => (x.Replicas, x.Leader, x.Epoch, x.Insync, x.Known, x.Least)) (fun y => (⟨y.1, y.2.1, y.2.2.1, y.2.2.2.1, y.2.2.2.2.1, y.2.2.2.2.2⟩ : Part)) (fun _ => rfl) (Rd.struct (by kernel_rfl) Try.underlying43 (RdF.cons rfl rd40 (RdF.cons rfl rd3 (RdF.cons rfl rd3 (RdF.cons rfl rd41 (RdF.cons rfl rd41 (RdF.last rfl rd3)))))))
theorem own : ownKnob Try.prog.godebug = none := by kernel_rfl
theorem laidOut : laidOutB Try.prog = true := by kernel_rfl
set_option maxRecDepth 100000 in
theorem lifted (os : Os) (started : os.Started) (H : Type) (enc : TypeId × Value → H) :
    ReturnsInHanded {} Try.checked os 7 .any (Rows.fnExactPartOkSpec.pre6 enc Try.prog Try.f7 Rows.fnExactPartOkRow.domain false) (Rows.fnExactPartOkSpec.post enc Try.prog Try.f7 false true false false) := by
  refine returnsInHanded_of_change_sized (C := Try.checked) own started (by kernel_rfl) Try.func7
    (ChangeSpec.witness6 (enc := enc) (C := Try.checked) false ⟨#[], #[.agg #[.slice none 0 0, .int .i64 0, .int .i64 0, .slice none 0 0, .slice none 0 0, .int .i64 0]], []⟩ 8 (by kernel_rfl) (by kernel_rfl) (by kernel_rfl) (by kernel_rfl)) ?_
  intro W base args ds gs before hval0 hW hcnd hsz0 _
  have hval : ∀ (j : Nat) t v, Try.f7.params[j]? = some t → args[j]? = some v → Value.okWide Try.prog W .any base t v := hval0
  have hW' := hW
  obtain ⟨p, q, hA0, hV, rfl, hfz, hnd⟩ := hW
  have hA : DataW.TrodAll enc Try.prog W 0 (fun _ => true) true Try.f7.params.toList args.toList ds p := hA0
  rw [Try.params7] at hA hval
  obtain ⟨v0, vs0, d0, ds0, p0, q0, hargs, rfl, rfl, h0, r0⟩ := trodAll_cons hA
  obtain ⟨rfl, rfl, rfl⟩ := trodAll_nil r0
  obtain rfl : args = #[v0] := by cases args; simp_all
  obtain ⟨rfl, rfl⟩ := trodVars_none hV
  have k0 := h0
  have lt0 : ∀ x ∈ p0, x.block < W.heap.size := by obtain ⟨m, hm⟩ := k0; exact DataW.trod_lt m _ _ _ hm
  obtain ⟨cs0, rfl, _⟩ := okWide_struct Try.underlying43 (hval 0 43 v0 rfl rfl)
  obtain ⟨x0, hK0, w0⟩ : ∃ y, kPart.K W y cs0.toList ∧ Part.wf y := by
    obtain ⟨fuel, hf⟩ := h0
    exact rd43.out hf
  obtain ⟨A0_0, c0_0, A0_3, c0_3, A0_4, c0_4, e0, l0_0, g0_0, l0_3, g0_3, l0_4, g0_4⟩ := Part.opn hK0
  obtain rfl : cs0 = #[.slice A0_0 x0.Replicas.length c0_0, .int .i64 x0.Leader, .int .i64 x0.Epoch, .slice A0_3 x0.Insync.length c0_3, .slice A0_4 x0.Known.length c0_4, .int .i64 x0.Least] := Array.toList_inj.1 e0
  clear hA0 hval0 hsz0
  refine (law_FnExactPartOk W x0 l0_0 g0_0 l0_3 g0_3 l0_4 g0_4 w0).mono fun e W' ⟨he, bel⟩ => ?_
  subst he
  exact ⟨_, rfl, _, _, _, [], _, [], hW', trodAll_mk1 (shut_bool Try.underlying4 _), (trodAll_cons_mk (Below.trod laidOut (by kernel_rfl) (of_decide_eq_true (by kernel_rfl)) k0 bel lt0) trodAll_mk0), rfl, bel.frame _, fun h => by cases h⟩
theorem over : Rows.fnExactPartOkRow.holds Try.pinned (OpenSpec.ofChange Rows.fnExactPartOkSpec) :=
  OpenClaim.holds_of_wide 7 Try.f7 rfl rfl rfl rfl rfl rfl rfl ⟨rfl, rfl, rfl, rfl, rfl⟩ rfl rfl rfl rfl rfl (by kernel_rfl) Try.func7 (by kernel_rfl)
    (of_decide_eq_true (by kernel_rfl)) (by unfold Func.isWrapper; first | (rw [if_pos (by decide +kernel)]; kernel_rfl) | (rw [if_neg (by decide +kernel)]; exact ⟨rfl, rfl⟩))
    (fun os started H enc _ => lifted os started H enc)
theorem proved : Rows.FnExactPartOkSaid := over
#print axioms proved
end Go.Proofs.Ytpnjgmgnhkhapaa.fnExactPartOk
namespace Go.Proofs.Ytpnjgmgnhkhapaa
/-- The row, under a short name, for the claim. -/
theorem fnExactPartOk_holds : Rows.FnExactPartOkSaid := fnExactPartOk.proved
end Go.Proofs.Ytpnjgmgnhkhapaa
