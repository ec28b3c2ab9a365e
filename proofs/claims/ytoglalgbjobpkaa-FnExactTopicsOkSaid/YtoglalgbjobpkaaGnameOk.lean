/-
NameOk by the program and by the reference: one Bool of the bytes. Conditions: none.
-/
import Derived.Test.YtoglalgbjobpkaaGlib
import Derived.Test.YtoglalgbjobpkaaFimplNameOk
import Derived.Test.YtoglalgbjobpkaaFspecNameOk
namespace Go.Proofs.Ytoglalgbjobpkaa.G
open Go.RowKit Go.Proofs.Ytoglalgbjobpkaa.F Go.Proofs.YtoglalgbjobpkaaW.PrintWords Go.Proofs.YtoglalgbjobpkaaW.PrintLast Go.Proofs.YtoglalgbjobpkaaW.PrintMore
set_option linter.unusedVariables false
set_option linter.unusedSimpArgs false

theorem wrap_small {i : Int} (h0 : 0 ≤ i) (h : i ≤ 1048577) : wrap64 (i + 1) = i + 1 := by
  unfold wrap64
  omega

def isLetter (c : Int) : Bool := decide (97 ≤ c ∧ c ≤ 122 ∨ 65 ≤ c ∧ c ≤ 90)
def isDigit (c : Int) : Bool := decide (48 ≤ c ∧ c ≤ 57)

theorem letter_eq (c : Int) : impl_letter.f c = some (isLetter c) := by
  unfold impl_letter.f isLetter
  repeat' split
  all_goals (congr 1; first | (simp only [decide_eq_decide]; omega) | (symm; simp only [decide_eq_true_eq, decide_eq_false_iff_not]; omega))

theorem digit_eq (c : Int) : impl_digit.f c = some (isDigit c) := by
  unfold impl_digit.f isDigit
  repeat' split
  all_goals (congr 1; first | (simp only [decide_eq_decide]; omega) | (symm; simp only [decide_eq_true_eq, decide_eq_false_iff_not]; omega))

/-- From place i on all bytes are letters, digits or _. -/
def tailOk (s : ByteArray) : Nat → Int → Bool
  | 0, _ => true
  | d + 1, i => (isLetter (bt s i) || isDigit (bt s i) || decide (bt s i = 95)) && tailOk s d (i + 1)

theorem implName_l (s : ByteArray) (hn : s.size ≤ 1048576) (d : Nat) : ∀ (i : Int), 0 ≤ i → (s.size : Int) - i = d →
    Ev (fun k => impl_NameOk.l0 k s i) (tailOk s d i) := by
  induction d with
  | zero =>
    intro i h0 hd
    refine Ev.step (f := fun _ => some true) (fun k => ?_) (Ev.now _)
    simp only [impl_NameOk.l0]; rw [if_neg (by omega)]
  | succ d ih =>
    intro i h0 hd
    have ih' := ih (i + 1) (by omega) (by omega)
    refine Ev.step (f := fun k => if isLetter (bt s i) = true then impl_NameOk.l0 k s (i + 1) else if isDigit (bt s i) = true then impl_NameOk.l0 k s (i + 1) else if bt s i = 95 then impl_NameOk.l0 k s (i + 1) else some false) (fun k => ?_) ?_
    · simp only [impl_NameOk.l0]; rw [if_pos (by omega), if_pos h0, letter_eq, digit_eq, wrap_small h0 (by omega)]; simp only [Option.bind_some]
    · unfold tailOk
      by_cases h1 : isLetter (bt s i) = true
      · simpa [h1] using ih'
      · by_cases h2 : isDigit (bt s i) = true
        · simpa [h1, h2] using ih'
        · by_cases h3 : bt s i = 95
          · simpa [h1, h2, h3] using ih'
          · simpa [h1, h2, h3] using Ev.now false

theorem specName_l (s : ByteArray) (hn : s.size ≤ 1048576) (d : Nat) : ∀ (i : Int), 0 ≤ i → (s.size : Int) - i = d → (i = 0 → 0 < d → isLetter (bt s 0) = true) →
    Ev (fun k => spec_NameOk.l0 k s i) (tailOk s d i) := by
  induction d with
  | zero =>
    intro i h0 hd _
    refine Ev.step (f := fun _ => some true) (fun k => ?_) (Ev.now _)
    simp only [spec_NameOk.l0]; rw [if_neg (by omega)]
  | succ d ih =>
    intro i h0 hd hl
    have ih' := ih (i + 1) (by omega) (by omega) (by omega)
    refine Ev.step (f := fun k => if isLetter (bt s i) = true then spec_NameOk.l0 k s (i + 1) else if isDigit (bt s i) = true then spec_NameOk.l0 k s (i + 1) else if bt s i = 95 then spec_NameOk.l0 k s (i + 1) else some false) (fun k => ?_) ?_
    · simp only [spec_NameOk.l0]; rw [if_pos (by omega), if_pos h0, wrap_small h0 (by omega)]
      by_cases hi : i = 0
      · subst hi
        have hl' := hl rfl (by omega)
        rw [if_pos hl']
        have hl2 : 97 ≤ bt s 0 ∧ bt s 0 ≤ 122 ∨ 65 ≤ bt s 0 ∧ bt s 0 ≤ 90 := of_decide_eq_true hl'
        repeat' split
        all_goals first | rfl | omega
      · unfold isLetter isDigit
        simp only [decide_eq_true_eq]
        repeat' split
        all_goals first | rfl | omega
    · unfold tailOk
      by_cases h1 : isLetter (bt s i) = true
      · simpa [h1] using ih'
      · by_cases h2 : isDigit (bt s i) = true
        · simpa [h1, h2] using ih'
        · by_cases h3 : bt s i = 95
          · simpa [h1, h2, h3] using ih'
          · simpa [h1, h2, h3] using Ev.now false

theorem specName_bad (s : ByteArray) (h1 : 0 < s.size) (hl : isLetter (bt s 0) = false) : Ev (fun k => spec_NameOk.l0 k s 0) false := by
  refine Ev.step (f := fun _ => some false) (fun k => ?_) (Ev.now _)
  simp only [spec_NameOk.l0]; rw [if_pos (by omega), if_pos (by omega)]
  have hl2 : ¬ (97 ≤ bt s 0 ∧ bt s 0 ≤ 122 ∨ 65 ≤ bt s 0 ∧ bt s 0 ≤ 90) := of_decide_eq_false hl
  repeat' split
  all_goals first | rfl | omega | contradiction

def nameOk (s : ByteArray) : Bool := decide (1 ≤ s.size ∧ s.size ≤ 20) && isLetter (bt s 0) && tailOk s s.size 0

theorem implNameOk_ev (s : ByteArray) : Ev (fun k => impl_NameOk.f k s) (nameOk s) := by
  unfold nameOk
  have hj (b : Bool) (r : Bool) (h : b = true → r = false) (h' : b = false → Ev (fun k => impl_NameOk.l0 k s 0) r) : Ev (fun k => impl_NameOk.j0 k s b) r := by
    refine Ev.step (f := fun k => if b = true then some false else impl_NameOk.l0 k s 0) (fun k => by simp only [impl_NameOk.j0]) ?_
    cases b
    · simpa using h' rfl
    · simpa [h rfl] using Ev.now false
  by_cases h1 : 1 ≤ s.size
  · by_cases h2 : s.size ≤ 20
    · refine Ev.congr (f := fun k => impl_NameOk.j0 k s (!(isLetter (bt s 0)))) (fun k => ?_) (hj _ _ ?_ ?_)
      · unfold impl_NameOk.f
        rw [if_neg (by omega), if_neg (by omega), if_pos (by omega), letter_eq]; rfl
      · intro h; simp at h; simp [h]
      · intro h; simp at h; simp [h, h1, h2]
        exact implName_l s (by omega) _ 0 (by omega) (by omega)
    · refine Ev.congr (f := fun k => impl_NameOk.j0 k s true) (fun k => ?_) (hj _ _ ?_ ?_)
      · unfold impl_NameOk.f
        rw [if_neg (by omega), if_pos (by omega)]
      · intro _; simp; omega
      · intro h; simp at h
  · refine Ev.congr (f := fun k => impl_NameOk.j0 k s true) (fun k => ?_) (hj _ _ ?_ ?_)
    · unfold impl_NameOk.f
      rw [if_pos (by omega)]
    · intro _; simp; omega
    · intro h; simp at h

theorem specNameOk_ev (s : ByteArray) : Ev (fun k => spec_NameOk.f k s) (nameOk s) := by
  unfold nameOk
  have hj (b : Bool) (r : Bool) (h : b = true → r = false) (h' : b = false → Ev (fun k => spec_NameOk.l0 k s 0) r) : Ev (fun k => spec_NameOk.j0 k s b) r := by
    refine Ev.step (f := fun k => if b = true then some false else spec_NameOk.l0 k s 0) (fun k => by simp only [spec_NameOk.j0]) ?_
    cases b
    · simpa using h' rfl
    · simpa [h rfl] using Ev.now false
  by_cases h1 : 1 ≤ s.size
  · refine Ev.congr (f := fun k => spec_NameOk.j0 k s (decide ((s.size : Int) > 20))) (fun k => ?_) (hj _ _ ?_ ?_)
    · unfold spec_NameOk.f
      rw [if_neg (by omega)]
    · intro h; simp at h; simp; omega
    · intro h
      have h2 : s.size ≤ 20 := by simp at h; omega
      cases hl : isLetter (bt s 0)
      · simpa using specName_bad s (by omega) hl
      · simp [h1, h2]
        exact specName_l s (by omega) _ 0 (by omega) (by omega) (fun _ _ => hl)
  · refine Ev.congr (f := fun k => spec_NameOk.j0 k s true) (fun k => ?_) (hj _ _ ?_ ?_)
    · unfold spec_NameOk.f
      rw [if_pos (by omega)]
    · intro _; simp; omega
    · intro h; simp at h

end Go.Proofs.Ytoglalgbjobpkaa.G
