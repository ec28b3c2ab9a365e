/-
FnExactSeek: for every index, offset and time the law answers true: the program's Seek answers as the reference's, and leaves its argument as it was.
Conditions: none beyond the statement's own.
-/
import Derived.Test.YtoglalgbjobpkaaKindsFnExactSeek
import Derived.Test.YtoglalgbjobpkaaGEntry
import Derived.Test.YtoglalgbjobpkaaFspecSeek
import Derived.Test.YtoglalgbjobpkaaFimplSeek
namespace Go.Proofs.Ytoglalgbjobpkaa.Pure
open Go.RowKit Go.Proofs.Ytoglalgbjobpkaa.F Go.Proofs.Ytoglalgbjobpkaa.G Go.Proofs.Ytoglalgbjobpkaa Go.Proofs.YtoglalgbjobpkaaW.PrintWords Go.Proofs.YtoglalgbjobpkaaW.PrintLast Go.Proofs.YtoglalgbjobpkaaW.PrintMore
set_option linter.unusedVariables false

theorem seek_l (xs : List S90) (o t : Int) (hn : xs.length ≤ 1048576) (d : Nat) : ∀ (i : Nat) (a b : Int), i + d = xs.length →
    ∃ r, Ev (fun k => spec_Seek.l0 k xs o t a b i) r ∧ Ev (fun k => impl_Seek.l0 k o t a b xs (xs.length : Int) i) r := by
  induction d with
  | zero =>
    intro i a b hi
    refine ⟨(a, b), Ev.step (f := fun _ => some (a, b)) (fun k => ?_) (Ev.now _), Ev.step (f := fun _ => some (a, b)) (fun k => ?_) (Ev.now _)⟩
    · rw [spec_Seek.l0, if_neg (by omega)]
    · rw [impl_Seek.l0, if_neg (by omega)]
  | succ d ih =>
    intro i a b hi
    have ew : wrap64 ((i : Int) + 1) = ((i + 1 : Nat) : Int) := by rw [wrapI (by omega) (by omega)]; omega
    have h (x y : Int) : ∃ r, Ev (fun k => spec_Seek.l0 k xs o t x y ((i + 1 : Nat) : Int)) r ∧ Ev (fun k => impl_Seek.l0 k o t x y xs (xs.length : Int) ((i + 1 : Nat) : Int)) r := ih (i + 1) x y (by omega)
    by_cases h1 : (rd_T90 xs i).f0 ≤ o <;> by_cases h2 : (rd_T90 xs i).f1 < t
    · obtain ⟨r, p, q⟩ := h (rd_T90 xs i).f2 (rd_T90 xs i).f2
      exact ⟨r, Ev.step (fun k => by rw [spec_Seek.l0, if_pos (by omega), if_pos (by omega), if_pos h1, if_pos h2, ew]) p, Ev.step (fun k => by rw [impl_Seek.l0, if_pos (by omega), if_pos (by omega), if_pos (by omega), if_pos h1, if_pos h2, ew]) q⟩
    · obtain ⟨r, p, q⟩ := h (rd_T90 xs i).f2 b
      exact ⟨r, Ev.step (fun k => by rw [spec_Seek.l0, if_pos (by omega), if_pos (by omega), if_pos h1, if_neg h2, ew]) p, Ev.step (fun k => by rw [impl_Seek.l0, if_pos (by omega), if_pos (by omega), if_pos (by omega), if_pos h1, if_neg h2, ew]) q⟩
    · obtain ⟨r, p, q⟩ := h a (rd_T90 xs i).f2
      exact ⟨r, Ev.step (fun k => by rw [spec_Seek.l0, if_pos (by omega), if_pos (by omega), if_neg h1, if_pos h2, ew]) p, Ev.step (fun k => by rw [impl_Seek.l0, if_pos (by omega), if_pos (by omega), if_pos (by omega), if_neg h1, if_pos h2, ew]) q⟩
    · obtain ⟨r, p, q⟩ := h a b
      exact ⟨r, Ev.step (fun k => by rw [spec_Seek.l0, if_pos (by omega), if_pos (by omega), if_neg h1, if_neg h2, ew]) p, Ev.step (fun k => by rw [impl_Seek.l0, if_pos (by omega), if_pos (by omega), if_pos (by omega), if_neg h1, if_neg h2, ew]) q⟩

theorem FnExactSeek (a0 : List (S92)) (a1 : Int) (a2 : Int) (w0 : Open.wfList Kinds.Wf92 a0) (w1 : Open.wfInt .i64 a1) (w2 : Open.wfInt .i64 a2) : Ev (fun k => laws_FnExactSeek.f k a0 a1 a2) true := by
  obtain ⟨r, q, l, s⟩ := szEntryS_ev a0 1048576 (by omega) (by omega) (by have := w0.1; simp only [maxLen] at this; omega)
  unfold laws_FnExactSeek.f
  refine Ev.bind q ?_
  by_cases c : r < 0
  · simp only [if_pos c]; exact Ev.now _
  simp only [if_neg c]
  have hs := s (by omega)
  have ht := toEntryS_ev a0 hs
  obtain ⟨t, p1, p2⟩ := seek_l (a0.map convEntry) a1 a2 (by simpa using hs) a0.length 0 0 0 (by simp)
  refine Ev.bind ht (Ev.bind (Ev.congr (fun k => by unfold spec_Seek.f; rfl) p1) (Ev.bind ht (Ev.bind (Ev.congr (fun k => by unfold impl_Seek.f; rfl) p2) ?_)))
  simp only [if_true, bne_self_eq_false]
  refine Ev.step (fun k => by rw [laws_FnExactSeek.j0, if_neg (by decide)]) (Ev.bind ht (Ev.bind (eqEntryS_ev (a0.map convEntry) (by simpa using hs)) ?_))
  simp only [if_true]
  exact Ev.now _
end Go.Proofs.Ytoglalgbjobpkaa.Pure
