/-
Learn in plain Lean: what Take leaves is a right table. No program in sight. Conditions: none.
-/
import Derived.Test.YtipemgjgimpmbaaHTake3
import Derived.Test.YtipemgjgimpmbaaHAll
namespace Go.Proofs.Ytipemgjgimpmbaa.H
open Go.RowKit
set_option linter.unusedVariables false
set_option linter.unusedSimpArgs false
/-- A right table, told place by place. -/
def goodS (s : Seen) : Prop := snA s = true ∧ rcs s.Next s.Recent = true
theorem tblB_of : ∀ (l : List Seen) (p : Int), (∀ s ∈ l, p < s.Producer ∧ goodS s) → Srt l → tblB l p = true
  | [], _, _, _ => rfl
  | s :: r, p, h, hs => by
    have h1 := h s List.mem_cons_self
    rw [tblB_cons, h1.2.1, h1.2.2, tblB_of r s.Producer (fun t ht => ?_) (fun i j a b hij ha hb => hs (i + 1) (j + 1) a b (by omega) (by simpa using ha) (by simpa using hb))]
    · simp [h1.1]
    · obtain ⟨j, hj, rfl⟩ := List.getElem_of_mem ht
      exact ⟨hs 0 (j + 1) s _ (by omega) rfl (by simp [hj]), (h _ (List.mem_cons_of_mem _ ht)).2⟩
theorem tableOk_of {l : List Seen} (hl : l.length ≤ 100) (hs : Srt l) (hg : ∀ s ∈ l, goodS s) : tableOk l = true := by
  unfold tableOk
  rw [tblB_of l (-1) (fun s hs' => ⟨by have := (snA_facts (hg s hs').1).1.1; omega, hg s hs'⟩) hs]
  simp [hl]
theorem tableOk_good {l : List Seen} (h : tableOk l = true) : l.length ≤ 100 ∧ Srt l ∧ ∀ s ∈ l, goodS s := tableOk_all h
theorem srt_set {l : List Seen} (h : Srt l) (i : Nat) {s t : Seen} (hi : l[i]? = some s) (ht : t.Producer = s.Producer) : Srt (l.set i t) := by
  intro a b x y hab hx hy
  have key : ∀ (q : Nat) (z : Seen), (l.set i t)[q]? = some z → ∃ z' : Seen, l[q]? = some z' ∧ z'.Producer = z.Producer := fun q z hz => by
    by_cases e : q = i
    · subst e
      rw [List.getElem?_set_self (List.getElem?_eq_some_iff.1 hi).1] at hz
      cases hz
      exact ⟨s, hi, ht.symm⟩
    · rw [List.getElem?_set_ne (fun h => e h.symm)] at hz
      exact ⟨z, hz, rfl⟩
  obtain ⟨x', h1, h2⟩ := key a x hx
  obtain ⟨y', h3, h4⟩ := key b y hy
  have := h a b x' y' hab h1 h3
  omega
theorem set_ok {l : List Seen} (h : tableOk l = true) {i : Nat} {s t : Seen} (hi : l[i]? = some s) (ht : t.Producer = s.Producer) (hg : goodS t) : tableOk (l.set i t) = true := by
  obtain ⟨h1, h2, h3⟩ := tableOk_good h
  refine tableOk_of (by rw [List.length_set]; exact h1) (srt_set h2 i hi ht) (fun u hu => ?_)
  rcases List.mem_or_eq_of_mem_set hu with hu | rfl
  · exact h3 u hu
  · exact hg
theorem seenAt_lo (p : Int) : ∀ (l : List Seen) (q : Nat) (s : Seen), q < seenAt p l → l[q]? = some s → s.Producer < p
  | [], q, s, h, _ => by simp [seenAt] at h
  | t :: r, q, s, h, hs => by
    rw [seenAt] at h
    split at h
    · rename_i h1
      cases q with
      | zero => simp at hs; subst hs; exact h1
      | succ q => exact seenAt_lo p r q s (by omega) (by simpa using hs)
    · omega
theorem seenAt_at (p : Int) : ∀ (l : List Seen) (s : Seen), l[seenAt p l]? = some s → ¬ s.Producer < p
  | [], s, h => by simp [seenAt] at h
  | t :: r, s, h => by
    rw [seenAt] at h
    split at h
    · exact seenAt_at p r s (by simpa using h)
    · rename_i h1
      simp at h
      subst h
      exact h1
theorem ins_srt {l : List Seen} (h : Srt l) (p : Int) (hn : seenGet p l = none) : Srt (insS l (seenAt p l) p) := by
  have hil := seenAt_le p l
  have hlo := seenAt_lo p l
  have hhi : ∀ q s, seenAt p l ≤ q → l[q]? = some s → p < s.Producer := fun q s hq hs => by
    have h0 : seenAt p l < l.length := by have := (List.getElem?_eq_some_iff.1 hs).1; omega
    obtain ⟨t, ht⟩ : ∃ t, l[seenAt p l]? = some t := ⟨_, List.getElem?_eq_getElem h0⟩
    have h1 := seenAt_at p l t ht
    have h2 : t.Producer ≠ p := fun e => by
      unfold seenGet at hn
      rw [ht] at hn
      simp [e] at hn
    by_cases e : q = seenAt p l
    · subst e
      rw [ht] at hs
      cases hs
      omega
    · have := h (seenAt p l) q t s (by omega) ht hs
      omega
  have htk : (l.take (seenAt p l)).length = seenAt p l := by simp; omega
  have key : ∀ q z, (insS l (seenAt p l) p)[q]? = some z → (q < seenAt p l ∧ l[q]? = some z) ∨ (q = seenAt p l ∧ z.Producer = p) ∨ (seenAt p l < q ∧ l[q - 1]? = some z) := fun q z hz => by
    unfold insS at hz
    by_cases h1 : q < seenAt p l
    · rw [List.getElem?_append_left (by omega), List.getElem?_take, if_pos h1] at hz
      exact .inl ⟨h1, hz⟩
    · rw [List.getElem?_append_right (by omega), htk] at hz
      by_cases h2 : q = seenAt p l
      · subst h2
        simp at hz
        subst hz
        exact .inr (.inl ⟨rfl, rfl⟩)
      · obtain ⟨r, hr⟩ : ∃ r, q - seenAt p l = r + 1 := ⟨q - seenAt p l - 1, by omega⟩
        rw [hr, List.getElem?_cons_succ, List.getElem?_drop, show seenAt p l + r = q - 1 by omega] at hz
        exact .inr (.inr ⟨by omega, hz⟩)
  intro a b x y hab hx hy
  rcases key a x hx with ⟨h1, h2⟩ | ⟨h1, h2⟩ | ⟨h1, h2⟩
  · have hxp := hlo a x h1 h2
    rcases key b y hy with ⟨h3, h4⟩ | ⟨h3, h4⟩ | ⟨h3, h4⟩
    · exact h a b x y hab h2 h4
    · omega
    · have := hhi (b - 1) y (by omega) h4
      omega
  · rcases key b y hy with ⟨h3, h4⟩ | ⟨h3, h4⟩ | ⟨h3, h4⟩
    · omega
    · omega
    · have := hhi (b - 1) y (by omega) h4
      omega
  · rcases key b y hy with ⟨h3, h4⟩ | ⟨h3, h4⟩ | ⟨h3, h4⟩
    · omega
    · omega
    · exact h (a - 1) (b - 1) x y (by omega) h2 h4
theorem rcs_app (n : Int) : ∀ (l : List Recent) (r : Recent), rcs r.Seq l = true → rcOk r = true → r.Seq + r.Many = n → rcs n (l ++ [r]) = true
  | [], r, _, h2, h3 => by rw [List.nil_append, rcs_cons, h2]; simp [rcs, nxOf, h3]
  | q :: l, r, h1, h2, h3 => by
    rw [rcs_cons] at h1
    simp only [Bool.and_eq_true, decide_eq_true_eq] at h1
    obtain ⟨⟨k1, k2⟩, k3⟩ := h1
    rw [List.cons_append, rcs_cons, k1, rcs_app n l r k3 h2 h3]
    have : nxOf n (l ++ [r]) = nxOf r.Seq l := by cases l <;> rfl
    simp [this, k2]
theorem rcs_drop (n : Int) : ∀ (k : Nat) (l : List Recent), rcs n l = true → rcs n (l.drop k) = true
  | 0, l, h => h
  | k + 1, [], h => rfl
  | k + 1, r :: l, h => by
    rw [rcs_cons] at h
    simp only [Bool.and_eq_true] at h
    exact rcs_drop n k l h.2
theorem newR_ok {b : Batch} (h : batchOk b = true) : rcOk (newR b) = true := by
  unfold batchOk bA bA0 inB at h
  simp only [Bool.and_eq_true, decide_eq_true_eq] at h
  unfold rcOk newR inB
  simp only [Bool.and_eq_true, decide_eq_true_eq]
  omega
theorem bt_next {b : Batch} (h : batchOk b = true) : 0 ≤ b.Seq + b.Records.length ∧ b.Seq + b.Records.length ≤ 1000000001 := by
  unfold batchOk bA bA0 bB inB at h
  simp only [Bool.and_eq_true, decide_eq_true_eq] at h
  omega
theorem takeNew_good {s : Seen} {b : Batch} (fresh : Bool) (hb : batchOk b = true) (hp : 0 ≤ s.Producer ∧ s.Producer ≤ 1000000000) (hr : fresh = false → rcs b.Seq s.Recent = true) : goodS (takeNew s fresh b) := by
  have h1 := newR_ok hb
  have h2 := bt_next hb
  obtain ⟨ht, _, _⟩ := bt_facts hb
  have h3 : rcs (b.Seq + b.Records.length) ((if fresh = true then [] else s.Recent) ++ [newR b]) = true := by
    refine rcs_app _ _ _ ?_ h1 rfl
    cases fresh with
    | true => rfl
    | false => exact hr rfl
  refine ⟨?_, rcs_drop _ _ _ h3⟩
  have h5 := last5_len ((if fresh = true then [] else s.Recent) ++ [newR b])
  unfold snA takeNew inB
  simp only [Bool.and_eq_true, decide_eq_true_eq]
  omega
/-- What Take leaves, where it is told as taken, is a right table. -/
theorem take_ok {l : List Seen} {b : Batch} (h : takeC l b = 0) : tableOk (takeL l b) = true := by
  unfold takeC takeL takeR at *
  by_cases hok : (tableOk l && batchOk b) = true
  · rw [if_pos hok] at h ⊢
    have hok2 := hok
    simp only [Bool.and_eq_true] at hok2
    obtain ⟨ht, hb⟩ := hok2
    by_cases hp : b.Producer = -1 ∨ 4 ≤ b.Flags
    · rw [if_pos hp] at h ⊢; exact ht
    · rw [if_neg hp] at h ⊢
      cases hg : seenGet b.Producer l with
      | some s =>
        rw [hg] at h
        simp only at h ⊢
        obtain ⟨hi, hsp⟩ := seenGet_some hg
        have hgs := (tableOk_good ht).2.2 s (List.mem_of_getElem? hi)
        have hpb := (snA_facts hgs.1).1
        unfold takeHas at h ⊢
        split at h
        · simp at h
        · rename_i h1
          rw [if_neg h1]
          split at h
          · rename_i h2
            rw [if_pos h2]
            cases hd : dupOf b s.Recent with
            | some o => rw [hd] at h; simp at h
            | none =>
              rw [hd] at h
              simp only at h ⊢
              split at h
              · rename_i h3
                rw [if_pos h3]
                exact set_ok ht hi rfl (takeNew_good false hb hpb (fun _ => by rw [h3]; exact hgs.2))
              · simp at h
          · rename_i h2
            rw [if_neg h2]
            split at h
            · rename_i h3
              rw [if_pos h3]
              exact set_ok ht hi rfl (takeNew_good true hb hpb (fun e => by cases e))
            · simp at h
      | none =>
        rw [hg] at h
        simp only at h ⊢
        unfold takeNo at h ⊢
        split at h
        · rename_i h1
          rw [if_pos h1]
          split at h
          · simp at h
          · rename_i h2
            rw [if_neg h2]
            obtain ⟨k1, k2, k3⟩ := tableOk_good ht
            have hil := seenAt_le b.Producer l
            have hgi := insS_get l (seenAt b.Producer l) b.Producer hil
            have hpb : 0 ≤ b.Producer ∧ b.Producer ≤ 1000000000 := by
              unfold batchOk bA bA0 inB at hb
              simp only [Bool.and_eq_true, decide_eq_true_eq] at hb
              omega
            have hgn : goodS (takeNew (newS b.Producer) true b) := takeNew_good true hb hpb (fun e => by cases e)
            have hset : ((insS l (seenAt b.Producer l) b.Producer).set (seenAt b.Producer l) (takeNew (newS b.Producer) true b)).length = l.length + 1 := by rw [List.length_set, insS_len _ _ _ hil]
            refine tableOk_of (by rw [hset]; omega) (srt_set (ins_srt k2 b.Producer hg) _ hgi rfl) (fun u hu => ?_)
            obtain ⟨j, hj, rfl⟩ := List.getElem_of_mem hu
            by_cases e : j = seenAt b.Producer l
            · subst e
              rw [List.getElem_set_self]
              exact hgn
            · rw [List.getElem_set_ne (fun h => e h.symm)]
              have hm : (insS l (seenAt b.Producer l) b.Producer)[j]'(by simpa using hj) ∈ l := by
                have hj2 : j < l.length + 1 := by rw [hset] at hj; exact hj
                unfold insS
                by_cases hlt : j < seenAt b.Producer l
                · rw [List.getElem_append_left (by simp; omega)]
                  exact List.mem_of_mem_take (List.getElem_mem _)
                · rw [List.getElem_append_right (by simp; omega)]
                  have htk : (l.take (seenAt b.Producer l)).length = seenAt b.Producer l := by simp; omega
                  obtain ⟨r, hr⟩ : ∃ r, j - (l.take (seenAt b.Producer l)).length = r + 1 := ⟨j - seenAt b.Producer l - 1, by omega⟩
                  simp only [hr, List.getElem_cons_succ]
                  exact List.mem_of_mem_drop (List.getElem_mem _)
              exact k3 _ hm
        · simp at h
  · rw [if_neg hok] at h
    simp at h
/-! ### Learn -/
def markS (p t : Int) : Seen := ⟨p, t, 0, []⟩
def learnB (l : List Seen) (b : Batch) : List Seen :=
  if 4 ≤ b.Flags then
    match seenGet b.Producer l with
    | some s => if s.Turn < b.Turn then l.set (seenAt b.Producer l) (markS b.Producer b.Turn) else l
    | none => l
  else if takeC l b = 0 then takeL l b else l
def learnF (bs : List Batch) : List Seen := bs.foldl learnB []
def learn (x : Log) : List Seen := if logOk x = true then learnF (allB x) else []
theorem learnF_step {bs : List Batch} {k : Nat} {b : Batch} (h : bs[k]? = some b) : learnF (bs.take (k + 1)) = learnB (learnF (bs.take k)) b := by
  unfold learnF
  rw [take_snoc h, List.foldl_append]
  rfl
theorem learnB_ok {l : List Seen} {b : Batch} (h : tableOk l = true) (hb : batchOk b = true) : tableOk (learnB l b) = true := by
  unfold learnB
  split
  · cases hg : seenGet b.Producer l with
    | none => exact h
    | some s =>
      simp only
      split
      · obtain ⟨hi, hsp⟩ := seenGet_some hg
        have hgs := (tableOk_good h).2.2 s (List.mem_of_getElem? hi)
        have hpb := (snA_facts hgs.1).1
        obtain ⟨ht, _, _⟩ := bt_facts hb
        refine set_ok h hi hsp.symm ⟨?_, rfl⟩
        unfold snA markS inB
        simp only [Bool.and_eq_true, decide_eq_true_eq, List.length_nil]
        omega
      · exact h
  · split
    · rename_i h1 h2
      exact take_ok h2
    · exact h
theorem learnF_ok (bs : List Batch) (h : ∀ b ∈ bs, batchOk b = true) : tableOk (learnF bs) = true := by
  unfold learnF
  have key : ∀ (bs : List Batch) (l : List Seen), tableOk l = true → (∀ b ∈ bs, batchOk b = true) → tableOk (bs.foldl learnB l) = true := by
    intro bs
    induction bs with
    | nil => intro l hl _; exact hl
    | cons b r ih => intro l hl hb; rw [List.foldl_cons]; exact ih _ (learnB_ok hl (hb b List.mem_cons_self)) (fun q hq => hb q (List.mem_cons_of_mem _ hq))
  exact key bs [] rfl h
end Go.Proofs.Ytipemgjgimpmbaa.H
