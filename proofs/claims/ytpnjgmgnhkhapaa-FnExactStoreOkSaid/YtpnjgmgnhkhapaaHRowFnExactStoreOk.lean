/-
The row of the law FnExactStoreOk: whatever the input, the law answers true; its arguments read as they did. Conditions: none beyond the statement's own.
-/
import Derived.Test.YtpnjgmgnhkhapaaRows
import Derived.Test.YtpnjgmgnhkhapaaHLawFnExactStoreOk
import Derived.WalkKit
import Derived.ProofKit
import Derived.OpenShut
import Derived.ShutString
import Derived.ChangeOld
import Derived.Below
import Derived.SizedLaws
namespace Go.Proofs.Ytpnjgmgnhkhapaa.fnExactStoreOk
open Go.ChangeShapes Go.WideShapes Go.ChangeAt Go.RowKit
open Go.ChangeMaps (open_string shut_string)
open Go.Proofs.Ytpnjgmgnhkhapaa.H
set_option linter.unusedVariables false
theorem rd3 : Rd Try.prog (Ki.int .i64) (wfInt .i64) 3 := Rd.int (by kernel_rfl) Try.underlying3
theorem rd4 : Rd Try.prog Ki.bool wfBool 4 := Rd.bool (by kernel_rfl) Try.underlying4
theorem rd9 : Rd Try.prog Ki.str wfStr 9 := Rd.string (by kernel_rfl) Try.underlying9
theorem rd191 : Rd Try.prog kHead Head.wf 191 := Rd.iso (fun x : Head => (x.Key, x.Value)) (fun y => (⟨y.1, y.2⟩ : Head)) (fun _ => rfl) (Rd.struct (by kernel_rfl) Try.underlying191 (RdF.cons rfl rd9 (RdF.last rfl rd9)))
instance : Inhabited Head := ⟨zHead⟩
theorem rd182 : Rd Try.prog (Ki.slice 162 kHead) (wfList Head.wf) 182 := Rd.slice (by kernel_rfl) Try.underlying182 rd191
theorem rd184 : Rd Try.prog kRecord Record.wf 184 := Rd.iso (fun x : Record => (x.Time, x.Keyed, x.Key, x.Gone, x.Value, x.Heads)) (fun y => (⟨y.1, y.2.1, y.2.2.1, y.2.2.2.1, y.2.2.2.2.1, y.2.2.2.2.2⟩ : Record)) (fun _ => rfl) (Rd.struct (by kernel_rfl) Try.underlying184 (RdF.cons rfl rd3 (RdF.cons rfl rd4 (RdF.cons rfl rd9 (RdF.cons rfl rd4 (RdF.cons rfl rd9 (RdF.last rfl rd182)))))))
instance : Inhabited Record := ⟨zRecord⟩
theorem rd173 : Rd Try.prog (Ki.slice 151 kRecord) (wfList Record.wf) 173 := Rd.slice (by kernel_rfl) Try.underlying173 rd184
theorem rd175 : Rd Try.prog kBatch Batch.wf 175 := Rd.iso (fun x : Batch => (x.Base, x.Epoch, x.Producer, x.Turn, x.Seq, x.Flags, x.Records)) (fun y => (⟨y.1, y.2.1, y.2.2.1, y.2.2.2.1, y.2.2.2.2.1, y.2.2.2.2.2.1, y.2.2.2.2.2.2⟩ : Batch)) (fun _ => rfl) (Rd.struct (by kernel_rfl) Try.underlying175 (RdF.cons rfl rd3 (RdF.cons rfl rd3 (RdF.cons rfl rd3 (RdF.cons rfl rd3 (RdF.cons rfl rd3 (RdF.cons rfl rd3 (RdF.last rfl rd173))))))))
instance : Inhabited Batch := ⟨zBatch⟩
theorem rd164 : Rd Try.prog (Ki.slice 101 kBatch) (wfList Batch.wf) 164 := Rd.slice (by kernel_rfl) Try.underlying164 rd175
theorem rd166 : Rd Try.prog kSegment Segment.wf 166 := Rd.iso (fun x : Segment => (x.Base, x.Batches)) (fun y => (⟨y.1, y.2⟩ : Segment)) (fun _ => rfl) (Rd.struct (by kernel_rfl) Try.underlying166 (RdF.cons rfl rd3 (RdF.last rfl rd164)))
instance : Inhabited Segment := ⟨zSegment⟩
theorem rd125 : Rd Try.prog (Ki.slice 131 kSegment) (wfList Segment.wf) 125 := Rd.slice (by kernel_rfl) Try.underlying125 rd166
theorem rd127 : Rd Try.prog kLog Log.wf 127 := Rd.iso (fun x : Log => (x.Start, x.Next, x.Roll, x.Segments)) (fun y => (⟨y.1, y.2.1, y.2.2.1, y.2.2.2⟩ : Log)) (fun _ => rfl) (Rd.struct (by kernel_rfl) Try.underlying127 (RdF.cons rfl rd3 (RdF.cons rfl rd3 (RdF.cons rfl rd3 (RdF.last rfl rd125)))))
instance : Inhabited Log := ⟨zLog⟩
theorem rd52 : Rd Try.prog (Ki.slice 90 kLog) (wfList Log.wf) 52 := Rd.slice (by kernel_rfl) Try.underlying52 rd127
theorem rd41 : Rd Try.prog (Ki.slice 3 (Ki.int .i64)) (wfList (wfInt .i64)) 41 := Rd.slice (by kernel_rfl) Try.underlying41 rd3
theorem rd138 : Rd Try.prog kTxn Txn.wf 138 := Rd.iso (fun x : Txn => (x.Name, x.Producer, x.Turn, x.Open, x.Parts)) (fun y => (⟨y.1, y.2.1, y.2.2.1, y.2.2.2.1, y.2.2.2.2⟩ : Txn)) (fun _ => rfl) (Rd.struct (by kernel_rfl) Try.underlying138 (RdF.cons rfl rd9 (RdF.cons rfl rd3 (RdF.cons rfl rd3 (RdF.cons rfl rd4 (RdF.last rfl rd41))))))
instance : Inhabited Txn := ⟨zTxn⟩
theorem rd53 : Rd Try.prog (Ki.slice 107 kTxn) (wfList Txn.wf) 53 := Rd.slice (by kernel_rfl) Try.underlying53 rd138
theorem rd55 : Rd Try.prog kStore Store.wf 55 := Rd.iso (fun x : Store => (x.Logs, x.Txns, x.Used)) (fun y => (⟨y.1, y.2.1, y.2.2⟩ : Store)) (fun _ => rfl) (Rd.struct (by kernel_rfl) Try.underlying55 (RdF.cons rfl rd52 (RdF.cons rfl rd53 (RdF.last rfl rd3))))
theorem own : ownKnob Try.prog.godebug = none := by kernel_rfl
theorem laidOut : laidOutB Try.prog = true := by kernel_rfl
set_option maxRecDepth 100000 in
theorem lifted (os : Os) (started : os.Started) (H : Type) (enc : TypeId × Value → H) :
    ReturnsInHanded {} Try.checked os 8 .any (Rows.fnExactStoreOkSpec.pre6 enc Try.prog Try.f8 Rows.fnExactStoreOkRow.domain false) (Rows.fnExactStoreOkSpec.post enc Try.prog Try.f8 false true false false) := by
  refine returnsInHanded_of_change_sized (C := Try.checked) own started (by kernel_rfl) Try.func8
    (ChangeSpec.witness6 (enc := enc) (C := Try.checked) false ⟨#[], #[.agg #[.slice none 0 0, .slice none 0 0, .int .i64 0]], []⟩ 8 (by kernel_rfl) (by kernel_rfl) (by kernel_rfl) (by kernel_rfl)) ?_
  intro W base args ds gs before hval0 hW hcnd hsz0 _
  have hval : ∀ (j : Nat) t v, Try.f8.params[j]? = some t → args[j]? = some v → Value.okWide Try.prog W .any base t v := hval0
  have hW' := hW
  obtain ⟨p, q, hA0, hV, rfl, hfz, hnd⟩ := hW
  have hA : DataW.TrodAll enc Try.prog W 0 (fun _ => true) true Try.f8.params.toList args.toList ds p := hA0
  rw [Try.params8] at hA hval
  obtain ⟨v0, vs0, d0, ds0, p0, q0, hargs, rfl, rfl, h0, r0⟩ := trodAll_cons hA
  obtain ⟨rfl, rfl, rfl⟩ := trodAll_nil r0
  obtain rfl : args = #[v0] := by cases args; simp_all
  obtain ⟨rfl, rfl⟩ := trodVars_none hV
  have k0 := h0
  have lt0 : ∀ x ∈ p0, x.block < W.heap.size := by obtain ⟨m, hm⟩ := k0; exact DataW.trod_lt m _ _ _ hm
  obtain ⟨cs0, rfl, _⟩ := okWide_struct Try.underlying55 (hval 0 55 v0 rfl rfl)
  obtain ⟨x0, hK0, w0⟩ : ∃ y, kStore.K W y cs0.toList ∧ Store.wf y := by
    obtain ⟨fuel, hf⟩ := h0
    exact rd55.out hf
  obtain ⟨A0_0, c0_0, A0_1, c0_1, e0, l0_0, g0_0, l0_1, g0_1⟩ := Store.opn hK0
  obtain rfl : cs0 = #[.slice A0_0 x0.Logs.length c0_0, .slice A0_1 x0.Txns.length c0_1, .int .i64 x0.Used] := Array.toList_inj.1 e0
  clear hA0 hval0 hsz0
  refine (law_FnExactStoreOk W x0 l0_0 g0_0 l0_1 g0_1 w0).mono fun e W' ⟨he, bel⟩ => ?_
  subst he
  exact ⟨_, rfl, _, _, _, [], _, [], hW', trodAll_mk1 (shut_bool Try.underlying4 _), (trodAll_cons_mk (Below.trod laidOut (by kernel_rfl) (of_decide_eq_true (by kernel_rfl)) k0 bel lt0) trodAll_mk0), rfl, bel.frame _, fun h => by cases h⟩
theorem over : Rows.fnExactStoreOkRow.holds Try.pinned (OpenSpec.ofChange Rows.fnExactStoreOkSpec) :=
  OpenClaim.holds_of_wide 8 Try.f8 rfl rfl rfl rfl rfl rfl rfl ⟨rfl, rfl, rfl, rfl, rfl⟩ rfl rfl rfl rfl rfl (by kernel_rfl) Try.func8 (by kernel_rfl)
    (of_decide_eq_true (by kernel_rfl)) (by unfold Func.isWrapper; first | (rw [if_pos (by decide +kernel)]; kernel_rfl) | (rw [if_neg (by decide +kernel)]; exact ⟨rfl, rfl⟩))
    (fun os started H enc _ => lifted os started H enc)
theorem proved : Rows.FnExactStoreOkSaid := over
#print axioms proved
end Go.Proofs.Ytpnjgmgnhkhapaa.fnExactStoreOk
namespace Go.Proofs.Ytpnjgmgnhkhapaa
/-- The row, under a short name, for the claim. -/
theorem fnExactStoreOk_holds : Rows.FnExactStoreOkSaid := fnExactStoreOk.proved
end Go.Proofs.Ytpnjgmgnhkhapaa
