/-
The row of the law FnExactTake: whatever the input, the law answers true; its arguments read as they did. Conditions: none beyond the statement's own.
-/
import Derived.Test.YtipemgjgimpmbaaRows
import Derived.Test.YtipemgjgimpmbaaHLawFnExactTake
import Derived.WalkKit
import Derived.ProofKit
import Derived.OpenShut
import Derived.ShutString
import Derived.ChangeOld
import Derived.Below
import Derived.SizedLaws
namespace Go.Proofs.Ytipemgjgimpmbaa.fnExactTake
open Go.ChangeShapes Go.WideShapes Go.ChangeAt Go.RowKit
open Go.ChangeMaps (open_string shut_string)
open Go.Proofs.Ytipemgjgimpmbaa.H
set_option linter.unusedVariables false
theorem rd3 : Rd Try.prog (Ki.int .i64) (wfInt .i64) 3 := Rd.int (by kernel_rfl) Try.underlying3
theorem rd158 : Rd Try.prog kRecent Recent.wf 158 := Rd.iso (fun x : Recent => (x.Seq, x.Many, x.Offset)) (fun y => (⟨y.1, y.2.1, y.2.2⟩ : Recent)) (fun _ => rfl) (Rd.struct (by kernel_rfl) Try.underlying158 (RdF.cons rfl rd3 (RdF.cons rfl rd3 (RdF.last rfl rd3))))
instance : Inhabited Recent := ⟨zRecent⟩
theorem rd90 : Rd Try.prog (Ki.slice 103 kRecent) (wfList Recent.wf) 90 := Rd.slice (by kernel_rfl) Try.underlying90 rd158
theorem rd92 : Rd Try.prog kSeen Seen.wf 92 := Rd.iso (fun x : Seen => (x.Producer, x.Turn, x.Next, x.Recent)) (fun y => (⟨y.1, y.2.1, y.2.2.1, y.2.2.2⟩ : Seen)) (fun _ => rfl) (Rd.struct (by kernel_rfl) Try.underlying92 (RdF.cons rfl rd3 (RdF.cons rfl rd3 (RdF.cons rfl rd3 (RdF.last rfl rd90)))))
instance : Inhabited Seen := ⟨zSeen⟩
theorem rd40 : Rd Try.prog (Ki.slice 101 kSeen) (wfList Seen.wf) 40 := Rd.slice (by kernel_rfl) Try.underlying40 rd92
theorem rd4 : Rd Try.prog Ki.bool wfBool 4 := Rd.bool (by kernel_rfl) Try.underlying4
theorem rd9 : Rd Try.prog Ki.str wfStr 9 := Rd.string (by kernel_rfl) Try.underlying9
theorem rd164 : Rd Try.prog kHead Head.wf 164 := Rd.iso (fun x : Head => (x.Key, x.Value)) (fun y => (⟨y.1, y.2⟩ : Head)) (fun _ => rfl) (Rd.struct (by kernel_rfl) Try.underlying164 (RdF.cons rfl rd9 (RdF.last rfl rd9)))
instance : Inhabited Head := ⟨zHead⟩
theorem rd136 : Rd Try.prog (Ki.slice 152 kHead) (wfList Head.wf) 136 := Rd.slice (by kernel_rfl) Try.underlying136 rd164
theorem rd138 : Rd Try.prog kRecord Record.wf 138 := Rd.iso (fun x : Record => (x.Time, x.Keyed, x.Key, x.Gone, x.Value, x.Heads)) (fun y => (⟨y.1, y.2.1, y.2.2.1, y.2.2.2.1, y.2.2.2.2.1, y.2.2.2.2.2⟩ : Record)) (fun _ => rfl) (Rd.struct (by kernel_rfl) Try.underlying138 (RdF.cons rfl rd3 (RdF.cons rfl rd4 (RdF.cons rfl rd9 (RdF.cons rfl rd4 (RdF.cons rfl rd9 (RdF.last rfl rd136)))))))
instance : Inhabited Record := ⟨zRecord⟩
theorem rd41 : Rd Try.prog (Ki.slice 116 kRecord) (wfList Record.wf) 41 := Rd.slice (by kernel_rfl) Try.underlying41 rd138
theorem rd43 : Rd Try.prog kBatch Batch.wf 43 := Rd.iso (fun x : Batch => (x.Base, x.Epoch, x.Producer, x.Turn, x.Seq, x.Flags, x.Records)) (fun y => (⟨y.1, y.2.1, y.2.2.1, y.2.2.2.1, y.2.2.2.2.1, y.2.2.2.2.2.1, y.2.2.2.2.2.2⟩ : Batch)) (fun _ => rfl) (Rd.struct (by kernel_rfl) Try.underlying43 (RdF.cons rfl rd3 (RdF.cons rfl rd3 (RdF.cons rfl rd3 (RdF.cons rfl rd3 (RdF.cons rfl rd3 (RdF.cons rfl rd3 (RdF.last rfl rd41))))))))
theorem own : ownKnob Try.prog.godebug = none := by kernel_rfl
theorem laidOut : laidOutB Try.prog = true := by kernel_rfl
set_option maxRecDepth 100000 in
theorem lifted (os : Os) (started : os.Started) (H : Type) (enc : TypeId × Value → H) :
    ReturnsInHanded {} Try.checked os 6 .any (Rows.fnExactTakeSpec.pre6 enc Try.prog Try.f6 Rows.fnExactTakeRow.domain false) (Rows.fnExactTakeSpec.post enc Try.prog Try.f6 false true false false) := by
  refine returnsInHanded_of_change_sized (C := Try.checked) own started (by kernel_rfl) Try.func6
    (ChangeSpec.witness6 (enc := enc) (C := Try.checked) false ⟨#[], #[.slice none 0 0, .agg #[.int .i64 0, .int .i64 0, .int .i64 0, .int .i64 0, .int .i64 0, .int .i64 0, .slice none 0 0]], []⟩ 8 (by kernel_rfl) (by kernel_rfl) (by kernel_rfl) (by kernel_rfl)) ?_
  intro W base args ds gs before hval0 hW hcnd hsz0 _
  have hval : ∀ (j : Nat) t v, Try.f6.params[j]? = some t → args[j]? = some v → Value.okWide Try.prog W .any base t v := hval0
  have hW' := hW
  obtain ⟨p, q, hA0, hV, rfl, hfz, hnd⟩ := hW
  have hA : DataW.TrodAll enc Try.prog W 0 (fun _ => true) true Try.f6.params.toList args.toList ds p := hA0
  rw [Try.params6] at hA hval
  obtain ⟨v0, vs0, d0, ds0, p0, q0, hargs, rfl, rfl, h0, r0⟩ := trodAll_cons hA
  obtain ⟨v1, vs1, d1, ds1, p1, q1, rfl, rfl, rfl, h1, r1⟩ := trodAll_cons r0
  obtain ⟨rfl, rfl, rfl⟩ := trodAll_nil r1
  obtain rfl : args = #[v0, v1] := by cases args; simp_all
  obtain ⟨rfl, rfl⟩ := trodVars_none hV
  have k0 := h0
  have lt0 : ∀ x ∈ p0, x.block < W.heap.size := by obtain ⟨m, hm⟩ := k0; exact DataW.trod_lt m _ _ _ hm
  obtain ⟨A0, n0, c0, rfl⟩ := okWide_slice Try.underlying40 (hval 0 40 v0 rfl rfl)
  obtain ⟨x0, hK0, w0⟩ : ∃ y, (Ki.slice 101 kSeen).K W y [.slice A0 n0 c0] ∧ (wfList Seen.wf) y := by
    obtain ⟨fuel, hf⟩ := h0
    exact rd40.out hf
  obtain ⟨A'0, c'0, e0, l0_0, g0_0⟩ := hK0
  injection e0 with e0 _
  injection e0 with eA0 en0 ec0
  subst eA0; subst en0; subst ec0
  have k1 := h1
  have lt1 : ∀ x ∈ p1, x.block < W.heap.size := by obtain ⟨m, hm⟩ := k1; exact DataW.trod_lt m _ _ _ hm
  obtain ⟨cs1, rfl, _⟩ := okWide_struct Try.underlying43 (hval 1 43 v1 rfl rfl)
  obtain ⟨x1, hK1, w1⟩ : ∃ y, kBatch.K W y cs1.toList ∧ Batch.wf y := by
    obtain ⟨fuel, hf⟩ := h1
    exact rd43.out hf
  obtain ⟨A1_6, c1_6, e1, l1_6, g1_6⟩ := Batch.opn hK1
  obtain rfl : cs1 = #[.int .i64 x1.Base, .int .i64 x1.Epoch, .int .i64 x1.Producer, .int .i64 x1.Turn, .int .i64 x1.Seq, .int .i64 x1.Flags, .slice A1_6 x1.Records.length c1_6] := Array.toList_inj.1 e1
  clear hA0 hval0 hsz0
  refine (law_FnExactTake W x0 x1 l0_0 g0_0 l1_6 g1_6 w0 w1).mono fun e W' ⟨he, bel⟩ => ?_
  subst he
  exact ⟨_, rfl, _, _, _, [], _, [], hW', trodAll_mk1 (shut_bool Try.underlying4 _), (trodAll_cons_mk (Below.trod laidOut (by kernel_rfl) (of_decide_eq_true (by kernel_rfl)) k0 bel lt0) (trodAll_cons_mk (Below.trod laidOut (by kernel_rfl) (of_decide_eq_true (by kernel_rfl)) k1 bel lt1) trodAll_mk0)), rfl, bel.frame _, fun h => by cases h⟩
theorem over : Rows.fnExactTakeRow.holds Try.pinned (OpenSpec.ofChange Rows.fnExactTakeSpec) :=
  OpenClaim.holds_of_wide 6 Try.f6 rfl rfl rfl rfl rfl rfl rfl ⟨rfl, rfl, rfl, rfl, rfl⟩ rfl rfl rfl rfl rfl (by kernel_rfl) Try.func6 (by kernel_rfl)
    (of_decide_eq_true (by kernel_rfl)) (by unfold Func.isWrapper; first | (rw [if_pos (by decide +kernel)]; kernel_rfl) | (rw [if_neg (by decide +kernel)]; exact ⟨rfl, rfl⟩))
    (fun os started H enc _ => lifted os started H enc)
theorem proved : Rows.FnExactTakeSaid := over
#print axioms proved
end Go.Proofs.Ytipemgjgimpmbaa.fnExactTake
namespace Go.Proofs.Ytipemgjgimpmbaa
/-- The row, under a short name, for the claim. -/
theorem fnExactTake_holds : Rows.FnExactTakeSaid := fnExactTake.proved
end Go.Proofs.Ytipemgjgimpmbaa
