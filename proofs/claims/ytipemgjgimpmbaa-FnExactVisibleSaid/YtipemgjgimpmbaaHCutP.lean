/-
CutFrom in plain Lean: as the program reckons it, as the reference does, and that both are one. No program in sight. Conditions: none.
-/
import Derived.Test.YtipemgjgimpmbaaHFacts
namespace Go.Proofs.Ytipemgjgimpmbaa.H
set_option linter.unusedVariables false
set_option linter.unusedSimpArgs false
def segEnd (s : Segment) : Int := match s.Batches.getLast? with
  | some b => lastB b
  | none => -1
/-- The program's. -/
def gF (start : Int) : List Segment → List Segment
  | [] => []
  | [s] => [s]
  | s :: t :: r => if segEnd s < start then gF start (t :: r) else s :: gF start (t :: r)
/-- The reference's. -/
def cutF (start : Int) : List Segment → List Segment
  | [] => []
  | [s] => [s]
  | s :: t :: r => if segEnd s < start then cutF start (t :: r) else s :: t :: r
/-- The segments but the last have batches, and their ends rise. -/
def upS : List Segment → Int → Prop
  | [], _ => True
  | [s], _ => True
  | s :: t :: r, l => s.Batches ≠ [] ∧ l ≤ segEnd s ∧ upS (t :: r) (segEnd s)
theorem gF_keep (start : Int) : ∀ (l : List Segment) (e : Int), upS l e → start ≤ e → gF start l = l
  | [], _, _, _ => rfl
  | [s], _, _, _ => rfl
  | s :: t :: r, e, h, hs => by
    obtain ⟨_, h1, h2⟩ := h
    rw [gF, if_neg (by omega), gF_keep start (t :: r) _ h2 (by omega)]
theorem gF_cutF (start : Int) : ∀ (l : List Segment) (e : Int), upS l e → gF start l = cutF start l
  | [], _, _ => rfl
  | [s], _, _ => rfl
  | s :: t :: r, e, h => by
    obtain ⟨_, h1, h2⟩ := h
    rw [gF, cutF]
    split
    · exact gF_cutF start (t :: r) _ h2
    · rw [gF_keep start (t :: r) _ h2 (by omega)]
theorem iB_end : ∀ (bs : List Batch) (l e : Int) (q : Int × Int), iB bs l e = some q → bs ≠ [] → q.1 = (match bs.getLast? with | some b => lastB b | none => -1) ∧ l ≤ q.1
  | [], _, _, _, _, h => absurd rfl h
  | [b], l, e, q, h, _ => by
    simp only [iB] at h
    split at h
    · rename_i hc
      simp only [Bool.and_eq_true, decide_eq_true_eq] at hc
      have hg := lastB_ge hc.1.1
      cases h
      exact ⟨rfl, by show l ≤ lastB b; omega⟩
    · cases h
  | b :: c :: r, l, e, q, h, _ => by
    simp only [iB] at h
    split at h
    · rename_i hc
      simp only [Bool.and_eq_true, decide_eq_true_eq] at hc
      have hg := lastB_ge hc.1.1
      obtain ⟨h1, h2⟩ := iB_end (c :: r) (lastB b) b.Epoch q (by simpa only [iB] using h) (by simp)
      refine ⟨by rw [h1]; simp, by omega⟩
    · cases h
theorem iS_up (next : Int) : ∀ (ss : List Segment) (fst : Bool) (l e : Int) (m : Nat) (q : Int), iS next fst ss l e m = some q → upS ss l
  | [], fst, l, e, m, q, h => trivial
  | [s], fst, l, e, m, q, h => trivial
  | s :: t :: r, fst, l, e, m, q, h => by
    rw [iS] at h
    split at h
    · cases h
    · split at h
      · rename_i hbs
        rw [if_pos (by simp)] at h
        cases h
      · rename_i b0 bs hbs
        split at h
        · cases h
        · obtain ⟨p, hp, h⟩ := Option.bind_eq_some_iff.1 h
          have hne : s.Batches ≠ [] := by rw [hbs]; simp
          obtain ⟨h1, h2⟩ := iB_end _ _ _ _ hp hne
          have he : segEnd s = p.1 := h1.symm
          exact ⟨hne, by rw [he]; exact h2, by rw [he]; exact iS_up next (t :: r) _ _ _ _ _ h⟩
theorem logOk_up {x : Log} (h : logOk x = true) : upS x.Segments (-1) := by
  unfold logOk at h
  simp only [Bool.and_eq_true] at h
  obtain ⟨_, h⟩ := h
  split at h
  · rename_i q hq
    exact iS_up _ _ _ _ _ _ _ hq
  · cases h
theorem upS_drop : ∀ (l : List Segment) (e : Int) (k : Nat) (s t : Segment) (r : List Segment), upS l e → l.drop k = s :: t :: r → s.Batches ≠ []
  | [], e, k, s, t, r, h, hd => by simp at hd
  | [x], e, 0, s, t, r, h, hd => by simp at hd
  | [x], e, k + 1, s, t, r, h, hd => by simp at hd
  | x :: y :: z, e, 0, s, t, r, h, hd => by
    simp at hd
    obtain ⟨rfl, _⟩ := hd
    exact h.1
  | x :: y :: z, e, k + 1, s, t, r, h, hd => by
    rw [List.drop_succ_cons] at hd
    exact upS_drop (y :: z) _ k s t r h.2.2 hd
def cutOk (x : Log) (start : Int) : Bool := logOk x && inB start x.Start x.Next
def cutFromL (x : Log) (start : Int) : Log := if cutOk x start then ⟨start, x.Next, x.Roll, cutF start x.Segments⟩ else zLog
theorem cutF_sub (start : Int) : ∀ (l : List Segment), ∃ k, cutF start l = l.drop k
  | [] => ⟨0, rfl⟩
  | [s] => ⟨0, rfl⟩
  | s :: t :: r => by
    rw [cutF]
    split
    · obtain ⟨k, hk⟩ := cutF_sub start (t :: r)
      exact ⟨k + 1, by rw [hk]; rfl⟩
    · exact ⟨0, rfl⟩
end Go.Proofs.Ytipemgjgimpmbaa.H
