/-
The row of the law FnExactLeaderOf: whatever the input, the law answers true; its arguments read as they did. Conditions: none beyond the statement's own.
-/
import Derived.Test.YtpnjgmgnhkhapaaRows
import Derived.Test.YtpnjgmgnhkhapaaHLawFnExactLeaderOf
import Derived.WalkKit
import Derived.ProofKit
import Derived.OpenShut
import Derived.ShutString
import Derived.ChangeOld
import Derived.Below
import Derived.SizedLaws
namespace Go.Proofs.Ytpnjgmgnhkhapaa.fnExactLeaderOf
open Go.ChangeShapes Go.WideShapes Go.ChangeAt Go.RowKit
open Go.ChangeMaps (open_string shut_string)
open Go.Proofs.Ytpnjgmgnhkhapaa.H
set_option linter.unusedVariables false
theorem rd3 : Rd Try.prog (Ki.int .i64) (wfInt .i64) 3 := Rd.int (by kernel_rfl) Try.underlying3
theorem rd41 : Rd Try.prog (Ki.slice 3 (Ki.int .i64)) (wfList (wfInt .i64)) 41 := Rd.slice (by kernel_rfl) Try.underlying41 rd3
theorem rd9 : Rd Try.prog Ki.str wfStr 9 := Rd.string (by kernel_rfl) Try.underlying9
theorem rd157 : Rd Try.prog kCommand Command.wf 157 := Rd.iso (fun x : Command => (x.Term, x.Text)) (fun y => (⟨y.1, y.2⟩ : Command)) (fun _ => rfl) (Rd.struct (by kernel_rfl) Try.underlying157 (RdF.cons rfl rd3 (RdF.last rfl rd9)))
instance : Inhabited Command := ⟨zCommand⟩
theorem rd113 : Rd Try.prog (Ki.slice 76 kCommand) (wfList Command.wf) 113 := Rd.slice (by kernel_rfl) Try.underlying113 rd157
theorem rd115 : Rd Try.prog kVoter Voter.wf 115 := Rd.iso (fun x : Voter => (x.Term, x.Vote, x.Role, x.Votes, x.Log, x.Next, x.Match, x.Sealed)) (fun y => (⟨y.1, y.2.1, y.2.2.1, y.2.2.2.1, y.2.2.2.2.1, y.2.2.2.2.2.1, y.2.2.2.2.2.2.1, y.2.2.2.2.2.2.2⟩ : Voter)) (fun _ => rfl) (Rd.struct (by kernel_rfl) Try.underlying115 (RdF.cons rfl rd3 (RdF.cons rfl rd3 (RdF.cons rfl rd3 (RdF.cons rfl rd41 (RdF.cons rfl rd113 (RdF.cons rfl rd41 (RdF.cons rfl rd41 (RdF.last rfl rd3)))))))))
instance : Inhabited Voter := ⟨zVoter⟩
theorem rd23 : Rd Try.prog (Ki.slice 70 kVoter) (wfList Voter.wf) 23 := Rd.slice (by kernel_rfl) Try.underlying23 rd115
theorem rd4 : Rd Try.prog Ki.bool wfBool 4 := Rd.bool (by kernel_rfl) Try.underlying4
theorem rd118 : Rd Try.prog kMessage Message.wf 118 := Rd.iso (fun x : Message => (x.Kind, x.From, x.To, x.Term, x.At, x.AtTerm, x.Commands, x.Sealed, x.Yes)) (fun y => (⟨y.1, y.2.1, y.2.2.1, y.2.2.2.1, y.2.2.2.2.1, y.2.2.2.2.2.1, y.2.2.2.2.2.2.1, y.2.2.2.2.2.2.2.1, y.2.2.2.2.2.2.2.2⟩ : Message)) (fun _ => rfl) (Rd.struct (by kernel_rfl) Try.underlying118 (RdF.cons rfl rd3 (RdF.cons rfl rd3 (RdF.cons rfl rd3 (RdF.cons rfl rd3 (RdF.cons rfl rd3 (RdF.cons rfl rd3 (RdF.cons rfl rd113 (RdF.cons rfl rd3 (RdF.last rfl rd4))))))))))
instance : Inhabited Message := ⟨zMessage⟩
theorem rd24 : Rd Try.prog (Ki.slice 74 kMessage) (wfList Message.wf) 24 := Rd.slice (by kernel_rfl) Try.underlying24 rd118
theorem rd26 : Rd Try.prog kQuorum Quorum.wf 26 := Rd.iso (fun x : Quorum => (x.Voters, x.Net)) (fun y => (⟨y.1, y.2⟩ : Quorum)) (fun _ => rfl) (Rd.struct (by kernel_rfl) Try.underlying26 (RdF.cons rfl rd23 (RdF.last rfl rd24)))
theorem own : ownKnob Try.prog.godebug = none := by kernel_rfl
theorem laidOut : laidOutB Try.prog = true := by kernel_rfl
set_option maxRecDepth 100000 in
theorem lifted (os : Os) (started : os.Started) (H : Type) (enc : TypeId × Value → H) :
    ReturnsInHanded {} Try.checked os 5 .any (Rows.fnExactLeaderOfSpec.pre6 enc Try.prog Try.f5 Rows.fnExactLeaderOfRow.domain false) (Rows.fnExactLeaderOfSpec.post enc Try.prog Try.f5 false true false false) := by
  refine returnsInHanded_of_change_sized (C := Try.checked) own started (by kernel_rfl) Try.func5
    (ChangeSpec.witness6 (enc := enc) (C := Try.checked) false ⟨#[], #[.agg #[.slice none 0 0, .slice none 0 0]], []⟩ 8 (by kernel_rfl) (by kernel_rfl) (by kernel_rfl) (by kernel_rfl)) ?_
  intro W base args ds gs before hval0 hW hcnd hsz0 _
  have hval : ∀ (j : Nat) t v, Try.f5.params[j]? = some t → args[j]? = some v → Value.okWide Try.prog W .any base t v := hval0
  have hW' := hW
  obtain ⟨p, q, hA0, hV, rfl, hfz, hnd⟩ := hW
  have hA : DataW.TrodAll enc Try.prog W 0 (fun _ => true) true Try.f5.params.toList args.toList ds p := hA0
  rw [Try.params5] at hA hval
  obtain ⟨v0, vs0, d0, ds0, p0, q0, hargs, rfl, rfl, h0, r0⟩ := trodAll_cons hA
  obtain ⟨rfl, rfl, rfl⟩ := trodAll_nil r0
  obtain rfl : args = #[v0] := by cases args; simp_all
  obtain ⟨rfl, rfl⟩ := trodVars_none hV
  have k0 := h0
  have lt0 : ∀ x ∈ p0, x.block < W.heap.size := by obtain ⟨m, hm⟩ := k0; exact DataW.trod_lt m _ _ _ hm
  obtain ⟨cs0, rfl, _⟩ := okWide_struct Try.underlying26 (hval 0 26 v0 rfl rfl)
  obtain ⟨x0, hK0, w0⟩ : ∃ y, kQuorum.K W y cs0.toList ∧ Quorum.wf y := by
    obtain ⟨fuel, hf⟩ := h0
    exact rd26.out hf
  obtain ⟨A0_0, c0_0, A0_1, c0_1, e0, l0_0, g0_0, l0_1, g0_1⟩ := Quorum.opn hK0
  obtain rfl : cs0 = #[.slice A0_0 x0.Voters.length c0_0, .slice A0_1 x0.Net.length c0_1] := Array.toList_inj.1 e0
  clear hA0 hval0 hsz0
  refine (law_FnExactLeaderOf W x0 l0_0 g0_0 l0_1 g0_1 w0).mono fun e W' ⟨he, bel⟩ => ?_
  subst he
  exact ⟨_, rfl, _, _, _, [], _, [], hW', trodAll_mk1 (shut_bool Try.underlying4 _), (trodAll_cons_mk (Below.trod laidOut (by kernel_rfl) (of_decide_eq_true (by kernel_rfl)) k0 bel lt0) trodAll_mk0), rfl, bel.frame _, fun h => by cases h⟩
theorem over : Rows.fnExactLeaderOfRow.holds Try.pinned (OpenSpec.ofChange Rows.fnExactLeaderOfSpec) :=
  OpenClaim.holds_of_wide 5 Try.f5 rfl rfl rfl rfl rfl rfl rfl ⟨rfl, rfl, rfl, rfl, rfl⟩ rfl rfl rfl rfl rfl (by kernel_rfl) Try.func5 (by kernel_rfl)
    (of_decide_eq_true (by kernel_rfl)) (by unfold Func.isWrapper; first | (rw [if_pos (by decide +kernel)]; kernel_rfl) | (rw [if_neg (by decide +kernel)]; exact ⟨rfl, rfl⟩))
    (fun os started H enc _ => lifted os started H enc)
theorem proved : Rows.FnExactLeaderOfSaid := over
#print axioms proved
end Go.Proofs.Ytpnjgmgnhkhapaa.fnExactLeaderOf
namespace Go.Proofs.Ytpnjgmgnhkhapaa
/-- The row, under a short name, for the claim. -/
theorem fnExactLeaderOf_holds : Rows.FnExactLeaderOfSaid := fnExactLeaderOf.proved
end Go.Proofs.Ytpnjgmgnhkhapaa
