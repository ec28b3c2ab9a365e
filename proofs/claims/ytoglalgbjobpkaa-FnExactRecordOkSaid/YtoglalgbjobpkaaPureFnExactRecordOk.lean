/-
FnExactRecordOk: for every record the law answers true: the program's RecordOk answers as the reference's, and leaves its argument as it was.
Conditions: none beyond the statement's own.
-/
import Derived.Test.YtoglalgbjobpkaaKindsFnExactRecordOk
import Derived.Test.YtoglalgbjobpkaaGRecord
import Derived.Test.YtoglalgbjobpkaaGrecordOk
namespace Go.Proofs.Ytoglalgbjobpkaa.Pure
open Go.RowKit Go.Proofs.Ytoglalgbjobpkaa.F Go.Proofs.Ytoglalgbjobpkaa.G Go.Proofs.Ytoglalgbjobpkaa Go.Proofs.YtoglalgbjobpkaaW.PrintWords Go.Proofs.YtoglalgbjobpkaaW.PrintLast Go.Proofs.YtoglalgbjobpkaaW.PrintMore
set_option linter.unusedVariables false

theorem limHeads {xs : List S148} (h : Open.wfList Kinds.Wf148 xs) : xs.length ≤ 9223372036854775807 ∧ ∀ y ∈ xs, Lim148 y := by
  refine ⟨by have := h.1; simp only [maxLen] at this; omega, fun y hy => ?_⟩
  obtain ⟨h1, h2⟩ := h.2 y hy
  simp only [Open.wfStr, maxLen] at h1 h2
  exact ⟨by show y.f0.size ≤ _; omega, by show y.f1.size ≤ _; omega⟩
theorem smHeads {xs : List S148} (h : xs.length ≤ 1048576 ∧ ∀ y ∈ xs, Sm148 y) : (xs.map convHead).length ≤ 1048576 ∧ ∀ y ∈ xs.map convHead, Sm119 y := by
  refine ⟨by simpa using h.1, fun y hy => ?_⟩
  obtain ⟨z, hz, rfl⟩ := List.mem_map.1 hy
  exact h.2 z hz

theorem FnExactRecordOk (a0_0 : Int) (a0_1 : Bool) (a0_2 : ByteArray) (a0_3 : Bool) (a0_4 : ByteArray) (a0_5 : List (S148)) (w0 : KindsFnExactRecordOk.wp70 (a0_0, a0_1, a0_2, a0_3, a0_4, a0_5)) : Ev (fun k => laws_FnExactRecordOk.f k a0_0 a0_1 a0_2 a0_3 a0_4 a0_5) true := by
  obtain ⟨_, _, wk, _, wv, wh⟩ := w0
  simp only [Open.wfStr, maxLen] at wk wv
  obtain ⟨r, q, l, s⟩ := szRecord_ev a0_0 a0_1 a0_2 a0_3 a0_4 a0_5 1048576 (by omega) (by omega) (show a0_2.size ≤ _ by omega) (show a0_4.size ≤ _ by omega) (limHeads wh)
  unfold laws_FnExactRecordOk.f
  refine Ev.bind q ?_
  by_cases c : r < 0
  · simp only [if_pos c]; exact Ev.now _
  simp only [if_neg c]
  obtain ⟨sk, sv, sh⟩ := s (by omega)
  have ht := toRecord_ev a0_0 a0_1 a0_2 a0_3 a0_4 a0_5 sk sv sh
  have hm := smHeads sh
  refine Ev.bind ht (Ev.bind (specRecordOk_ev _ _ _ _ _ _ hm.1) (Ev.bind ht (Ev.bind (implRecordOk_ev _ _ _ _ _ _ hm.1) ?_)))
  simp only [bne_self_eq_false, Bool.false_eq_true, if_false]
  refine Ev.bind ht (Ev.bind (eqRecord_ev _ _ _ _ _ _ hm) ?_)
  simp only [if_true]
  exact Ev.now _
end Go.Proofs.Ytoglalgbjobpkaa.Pure
