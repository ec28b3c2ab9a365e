/-
LogOk in plain Lean: as the program reckons it, as the reference does, and that both are one. No program in sight. Conditions: none.
-/
import Derived.Test.YtiefpllmnmmdlaaHBatch
namespace Go.Proofs.Ytiefpllmnmmdlaa.H
set_option linter.unusedVariables false
set_option linter.unusedSimpArgs false
def lastB (b : Batch) : Int := b.Base + b.Records.length - 1
/-- The reference's inner loop: behind, epoch, many. -/
def sB (sb : Int) : List Batch → Int → Int → Nat → Option (Int × Int × Nat)
  | [], l, e, m => some (l, e, m)
  | b :: r, l, e, m => if batchOk b && decide (l < b.Base) && decide (sb ≤ b.Base) && decide (e ≤ b.Epoch) then sB sb r (lastB b) b.Epoch (m + 1) else none
def sS : List Segment → Int → Int → Nat → Option (Int × Int × Nat)
  | [], l, e, m => some (l, e, m)
  | s :: r, l, e, m => if decide (l < s.Base) && decide (0 ≤ s.Base) && (decide (s.Batches.length ≠ 0) || decide (r.length = 0)) then (sB s.Base s.Batches l e m).bind fun q => sS r (if q.1 < s.Base - 1 then s.Base - 1 else q.1) q.2.1 q.2.2 else none
def logHdr (l : Log) : Bool := decide ((l.Segments.length : Int) ≤ 60) && inB l.Roll 1 20000 && inB l.Next 0 1000000000 && inB l.Start 0 l.Next
def logEnd (l : Log) : Option (Int × Int × Nat) → Bool
  | some q => decide (q.1 < l.Next) && decide ((q.2.2 : Int) ≤ 400)
  | none => false
def logOkS (l : Log) : Bool := logHdr l && logEnd l (sS l.Segments (-1) 0 0)
/-- The program's. -/
def iB : List Batch → Int → Int → Option (Int × Int)
  | [], l, e => some (l, e)
  | b :: r, l, e => if batchOk b && decide (l < b.Base) && decide (e ≤ b.Epoch) then iB r (lastB b) b.Epoch else none
def iS (next : Int) : Bool → List Segment → Int → Int → Nat → Option Int
  | _, [], l, e, m => some l
  | fst, s :: r, l, e, m =>
    if decide (400 < ((m + s.Batches.length : Nat) : Int)) || (!fst && decide (s.Base ≤ l)) then none
    else match s.Batches with
      | [] => if decide (r.length ≠ 0) || !inB s.Base 0 1000000000 || decide (next < s.Base) then none else iS next false r l e (m + s.Batches.length)
      | b :: _ => if !inB s.Base 0 1000000000 || decide (b.Base < s.Base) then none else (iB s.Batches l e).bind fun q => iS next false r q.1 q.2 (m + s.Batches.length)
def logOk (l : Log) : Bool := logHdr l && match iS l.Next true l.Segments (-1) 0 0 with
  | some q => decide (q < l.Next)
  | none => false

theorem lastB_ge {b : Batch} (h : batchOk b = true) : b.Base ≤ lastB b ∧ lastB b ≤ 1000000000 ∧ 0 ≤ b.Base ∧ b.Base ≤ 1000000000 ∧ 0 ≤ b.Epoch := by
  simp only [batchOk, bA, bA0, bB, inB, Bool.and_eq_true, decide_eq_true_eq] at h
  unfold lastB
  omega
/-- The two inner loops agree, the first batch not below sb. -/
theorem sB_iB (sb : Int) : ∀ (bs : List Batch) (l e : Int) (m : Nat), (sb ≤ l + 1 ∨ (∀ b r, bs = b :: r → sb ≤ b.Base)) → sB sb bs l e m = (iB bs l e).map fun q => (q.1, q.2, m + bs.length)
  | [], l, e, m, _ => by simp [sB, iB]
  | b :: r, l, e, m, h => by
    simp only [sB, iB]
    by_cases hb : batchOk b = true
    · by_cases hl : l < b.Base
      · have hsb : sb ≤ b.Base := by
          rcases h with h | h
          · omega
          · exact h b r rfl
        by_cases he : e ≤ b.Epoch
        · have hg := lastB_ge hb
          rw [if_pos (by simp [*]), if_pos (by simp [*]), sB_iB sb r (lastB b) b.Epoch (m + 1) (.inl (by omega))]
          simp only [List.length_cons]
          congr 1
          funext q
          congr 2
          omega
        · rw [if_neg (by simp [*]), if_neg (by simp [*])]; rfl
      · rw [if_neg (by simp [*]), if_neg (by simp [*])]; rfl
    · rw [if_neg (by simp [*]), if_neg (by simp [*])]; rfl
theorem iB_last : ∀ (bs : List Batch) (l e : Int) (q : Int × Int), iB bs l e = some q → l ≤ q.1 ∧ (∀ b r, bs = b :: r → b.Base ≤ q.1 ∧ b.Base ≤ 1000000000 ∧ l < b.Base)
  | [], l, e, q, h => by simp [iB] at h; subst h; simp
  | b :: r, l, e, q, h => by
    simp only [iB] at h
    split at h
    · rename_i hc
      simp only [Bool.and_eq_true, decide_eq_true_eq] at hc
      have hg := lastB_ge hc.1.1
      obtain ⟨h1, _⟩ := iB_last r _ _ q h
      refine ⟨by omega, fun b' r' e => ?_⟩
      cases e
      omega
    · cases h
theorem sS_mono : ∀ (ss : List Segment) (l e : Int) (m : Nat) q, sS ss l e m = some q → m ≤ q.2.2
  | [], l, e, m, q, h => by simp [sS] at h; subst h; simp
  | s :: r, l, e, m, q, h => by
    simp only [sS] at h
    split at h
    · obtain ⟨p, hp, h⟩ := Option.bind_eq_some_iff.1 h
      have h2 := sS_mono r _ _ _ q h
      have h3 : ∀ (bs : List Batch) (l e : Int) (m : Nat) q, sB s.Base bs l e m = some q → m ≤ q.2.2 := by
        intro bs
        induction bs with
        | nil => intro l e m q h; simp [sB] at h; subst h; simp
        | cons b r ih => intro l e m q h; simp only [sB] at h; split at h; (have := ih _ _ _ _ h; omega); cases h
      have := h3 _ _ _ _ _ hp
      omega
    · cases h
theorem seg_agree (next : Int) (hn : next ≤ 1000000000) : ∀ (ss : List Segment) (fst : Bool) (l e : Int) (m : Nat), (fst = true → l = -1) → -1 ≤ l → (m : Int) ≤ 400 →
    (match sS ss l e m with | some q => decide (q.1 < next) && decide ((q.2.2 : Int) ≤ 400) | none => false) = (match iS next fst ss l e m with | some q => decide (q < next) | none => false)
  | [], fst, l, e, m, _, _, hm => by simp [sS, iS, hm]
  | s :: r, fst, l, e, m, hf, hl, hm => by
    simp only [sS, iS]
    by_cases hbig : 400 < ((m + s.Batches.length : Nat) : Int)
    · rw [if_pos (show (decide (400 < ((m + s.Batches.length : Nat) : Int)) || (!fst && decide (s.Base ≤ l))) = true by simp; omega)]
      dsimp only
      split
      · rename_i q hq
        split at hq
        · obtain ⟨p, hp, hq⟩ := Option.bind_eq_some_iff.1 hq
          have h2 := sS_mono _ _ _ _ _ hq
          have h3 : ∀ (bs : List Batch) (l e : Int) (m : Nat) q, sB s.Base bs l e m = some q → q.2.2 = m + bs.length := by
            intro bs
            induction bs with
            | nil => intro l e m q h; simp [sB] at h; subst h; simp
            | cons b r ih => intro l e m q h; simp only [sB] at h; split at h; (have := ih _ _ _ _ h; simp only [List.length_cons]; omega); cases h
          have := h3 _ _ _ _ _ hp
          simp only [Bool.and_eq_false_iff, decide_eq_false_iff_not]
          right; omega
        · cases hq
      · rfl
    · by_cases hb : l < s.Base
      · have hc : (decide (400 < ((m + s.Batches.length : Nat) : Int)) || (!fst && decide (s.Base ≤ l))) = false := by simp [hb]; omega
        rw [hc]
        simp only [Bool.false_eq_true, if_false]
        have h0 : 0 ≤ s.Base := by omega
        cases hbs : s.Batches with
        | nil =>
          simp only [hbs, List.length_nil, Nat.add_zero] at *
          cases r with
          | nil =>
            simp only [sB, sS, iS, List.length_nil, Option.bind_some]
            by_cases h5 : next < s.Base
            · simp [hb, h0, h5]; omega
            · by_cases h6 : s.Base ≤ 1000000000
              · simp [hb, h0, h5, h6, inB, hm]; split <;> omega
              · omega
          | cons s' r' => simp [sB]
        | cons b bs =>
          simp only [hbs, List.length_cons] at *
          have hr : (decide (l < s.Base) && decide (0 ≤ s.Base) && (decide (bs.length + 1 ≠ 0) || decide (r.length = 0))) = true := by simp [hb, h0]
          rw [if_pos hr]
          by_cases h7 : b.Base < s.Base
          · have h8 : (!inB s.Base 0 1000000000 || decide (b.Base < s.Base)) = true := by simp [h7]
            rw [if_pos h8]
            have h9 : sB s.Base (b :: bs) l e m = none := by simp [sB]; intros; omega
            rw [h9]
            rfl
          · rw [sB_iB s.Base (b :: bs) l e m (.inr (fun b' r' h => by cases h; omega))]
            cases hq : iB (b :: bs) l e with
            | none =>
              simp only [Option.map_none, Option.bind_none, ite_self]
            | some q =>
              obtain ⟨h1, h2⟩ := iB_last _ _ _ _ hq
              obtain ⟨h3, h4, h5⟩ := h2 b bs rfl
              have h8 : (!inB s.Base 0 1000000000 || decide (b.Base < s.Base)) = false := by simp [h7, inB]; omega
              rw [h8]
              simp only [Option.map_some, Option.bind_some, Bool.false_eq_true, if_false, List.length_cons]
              rw [if_neg (show ¬ q.1 < s.Base - 1 by omega)]
              exact seg_agree next hn r false q.1 q.2 _ (by simp) (by omega) (by omega)
      · cases fst with
        | false =>
          have hc : (decide (400 < ((m + s.Batches.length : Nat) : Int)) || (!false && decide (s.Base ≤ l))) = true := by simp; omega
          rw [if_pos hc, if_neg (by simp [hb])]
        | true =>
          have := hf rfl
          subst this
          have h0 : ¬ 0 ≤ s.Base := by omega
          rw [if_neg (by simp [hb])]
          have hc : (decide (400 < ((m + s.Batches.length : Nat) : Int)) || (!true && decide (s.Base ≤ -1))) = false := by simp; omega
          rw [hc]
          simp only [Bool.false_eq_true, if_false]
          have h8 : inB s.Base 0 1000000000 = false := by simp [inB, h0]
          cases s.Batches with
          | nil => simp [h8]
          | cons b bs => simp [h8]
theorem logOk_eq (l : Log) : logOkS l = logOk l := by
  unfold logOkS logOk
  by_cases h : logHdr l = true
  · have hn : l.Next ≤ 1000000000 := by simp only [logHdr, inB, Bool.and_eq_true, decide_eq_true_eq] at h; omega
    rw [h]
    simp only [Bool.true_and]
    rw [← seg_agree l.Next hn l.Segments true (-1) 0 0 (fun _ => rfl) (by omega) (by simp)]
    unfold logEnd
    split <;> rename_i hq <;> simp [hq]
  · simp [h]
end Go.Proofs.Ytiefpllmnmmdlaa.H
