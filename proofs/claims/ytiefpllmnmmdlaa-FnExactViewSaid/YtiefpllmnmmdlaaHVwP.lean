/-
View in plain Lean: pairs ascending by key; the last record of each key. No program in sight. Conditions: none.
-/
import Derived.Test.YtiefpllmnmmdlaaHAll2
import Derived.Test.YtiefpllmnmmdlaaHFacts
import Derived.Test.YtiefpllmnmmdlaaHTxP
import Derived.Sort.LotA
import Derived.Sort.Walk0
namespace Go.Proofs.Ytiefpllmnmmdlaa.H
open Go.RowKit
set_option linter.unusedVariables false
set_option linter.unusedSimpArgs false
theorem ba_inj {a b : ByteArray} (h : a.toList = b.toList) : a = b := by
  rw [ByteArray.toList_eq, ByteArray.toList_eq] at h
  exact Go.WideShapes.bytes_inj h
def ltK (a b : ByteArray) : Bool := Op.bytesLess a.toList b.toList
theorem ltK_eq (a b : ByteArray) : ltK a b = decide (a.toList < b.toList) := Go.Proofs.bytesLess_eq _ _
theorem ltK_irr (a : ByteArray) : ltK a a = false := by rw [ltK_eq]; simp [List.lt_irrefl]
theorem ltK_trans {a b c : ByteArray} (h1 : ltK a b = true) (h2 : ltK b c = true) : ltK a c = true := by
  simp only [ltK_eq, decide_eq_true_eq] at *
  exact List.lt_trans h1 h2
theorem ltK_ntrans {a b c : ByteArray} (h1 : ltK a b = false) (h2 : ltK b c = false) : ltK a c = false := by
  simp only [ltK_eq, decide_eq_false_iff_not, List.not_lt] at *
  exact List.le_trans h2 h1
theorem ltK_tri {a b : ByteArray} (h1 : ltK a b = false) (h2 : ltK b a = false) : a = b := by
  simp only [ltK_eq, decide_eq_false_iff_not, List.not_lt] at *
  exact ba_inj (List.le_antisymm h2 h1)
theorem ltK_asym {a b : ByteArray} (h1 : ltK a b = true) : ltK b a = false := by
  cases h : ltK b a with
  | false => rfl
  | true =>
    have := ltK_trans h1 h
    rw [ltK_irr] at this
    cases this
/-! ### which records count -/
def vElig (x : Log) (b : Batch) (k : Nat) (r : Record) : Bool := r.Keyed && decide (x.Start ≤ b.Base + k)
def vB (x : Log) (b : Batch) : List Record → Nat → List Record
  | [], _ => []
  | r :: l, k => (if vElig x b k r then [r] else []) ++ vB x b l (k + 1)
def vBat (x : Log) (b : Batch) : List Record := if b.Flags < 4 then vB x b b.Records 0 else []
def vL (x : Log) (l : List Batch) : List Record := l.flatMap (vBat x)
theorem vB_snoc (x : Log) (b : Batch) : ∀ (l : List Record) (r : Record) (k : Nat), vB x b (l ++ [r]) k = vB x b l k ++ (if vElig x b (k + l.length) r then [r] else [])
  | [], r, k => by simp [vB]
  | q :: l, r, k => by rw [List.cons_append, vB, vB_snoc x b l r (k + 1), vB, List.append_assoc, List.length_cons, show k + 1 + l.length = k + (l.length + 1) by omega]
theorem vB_take {x : Log} {b : Batch} {l : List Record} {k : Nat} {r : Record} (h : l[k]? = some r) : vB x b (l.take (k + 1)) 0 = vB x b (l.take k) 0 ++ (if vElig x b k r then [r] else []) := by
  have hk := (List.getElem?_eq_some_iff.1 h).1
  rw [take_snoc h, vB_snoc, List.length_take, Nat.min_eq_left (Nat.le_of_lt hk), Nat.zero_add]
theorem vL_take {x : Log} {l : List Batch} {k : Nat} {b : Batch} (h : l[k]? = some b) : vL x (l.take (k + 1)) = vL x (l.take k) ++ vBat x b := by
  unfold vL
  rw [take_snoc h, List.flatMap_append]
  simp
theorem vB_len (x : Log) (b : Batch) : ∀ (l : List Record) (k : Nat), (vB x b l k).length ≤ l.length
  | [], k => by simp [vB]
  | r :: l, k => by
    have := vB_len x b l (k + 1)
    rw [vB, List.length_append, List.length_cons]
    split <;> simp <;> omega
theorem vL_len (x : Log) : ∀ (l : List Batch), (∀ b ∈ l, b.Records.length ≤ 40) → (vL x l).length ≤ 40 * l.length
  | [], _ => by simp [vL]
  | b :: l, h => by
    have h1 := vL_len x l (fun q hq => h q (List.mem_cons_of_mem _ hq))
    have h2 := vB_len x b b.Records 0
    have h3 := h b List.mem_cons_self
    have e : (vL x (b :: l)).length = (vBat x b).length + (vL x l).length := by simp [vL]
    rw [e, List.length_cons]
    have h4 : (vBat x b).length ≤ 40 := by
      unfold vBat
      split
      · omega
      · simp
    omega
/-! ### the reference's list -/
def atK (key : ByteArray) : List Pair → Nat
  | [] => 0
  | p :: l => if ltK p.Key key = true then atK key l + 1 else 0
def hasK (key : ByteArray) (l : List Pair) : Bool := match l[atK key l]? with
  | some p => p.Key.toList == key.toList
  | none => false
def vStep (l : List Pair) (r : Record) : List Pair :=
  if hasK r.Key l = true then (if r.Gone = true then l.take (atK r.Key l) ++ l.drop (atK r.Key l + 1) else l.set (atK r.Key l) ⟨r.Key, r.Value⟩)
  else (if r.Gone = true then l else l.take (atK r.Key l) ++ ⟨r.Key, r.Value⟩ :: l.drop (atK r.Key l))
def viewF (l : List Record) : List Pair := l.foldl vStep []
def viewL (x : Log) : List Pair := if logOk x = true then viewF (vL x (allB x)) else []
theorem viewF_snoc (l : List Record) (r : Record) : viewF (l ++ [r]) = vStep (viewF l) r := by unfold viewF; rw [List.foldl_append]; rfl
theorem atK_le (key : ByteArray) : ∀ l, atK key l ≤ l.length
  | [] => Nat.le_refl _
  | p :: l => by
    rw [atK]
    split
    · have := atK_le key l; simp; omega
    · exact Nat.zero_le _
theorem atK_get {key : ByteArray} : ∀ {l : List Pair} {j : Nat} {p : Pair}, l[j]? = some p → (j < atK key l → ltK p.Key key = true) ∧ (j = atK key l → ltK p.Key key = false)
  | [], j, p, h => by simp at h
  | q :: l, 0, p, h => by
    simp at h
    subst h
    rw [atK]
    by_cases hq : ltK q.Key key = true
    · rw [if_pos hq]; exact ⟨fun _ => hq, fun h => by omega⟩
    · rw [if_neg hq]; exact ⟨fun h => by omega, fun _ => by simpa using hq⟩
  | q :: l, j + 1, p, h => by
    have ih := atK_get (key := key) (l := l) (j := j) (p := p) (by simpa using h)
    rw [atK]
    by_cases hq : ltK q.Key key = true
    · rw [if_pos hq]; exact ⟨fun h => ih.1 (by omega), fun h => ih.2 (by omega)⟩
    · rw [if_neg hq]; exact ⟨fun h => by omega, fun h => by omega⟩
def SrtK (l : List Pair) : Prop := l.Pairwise (fun a b => ltK a.Key b.Key = true)
theorem atK_form {key : ByteArray} : ∀ {L : List Pair}, SrtK L → ∃ A C, (∀ p ∈ A, ltK p.Key key = true) ∧ (∀ p ∈ C, ltK key p.Key = true) ∧ atK key L = A.length ∧ ((hasK key L = true ∧ ∃ p, p.Key = key ∧ L = A ++ p :: C) ∨ (hasK key L = false ∧ L = A ++ C))
  | [], _ => ⟨[], [], by simp, by simp, rfl, .inr ⟨rfl, rfl⟩⟩
  | q :: L, h => by
    obtain ⟨h1, h2⟩ := List.pairwise_cons.1 h
    by_cases hq : ltK q.Key key = true
    · obtain ⟨A, C, ha, hc, hat, hor⟩ := atK_form (key := key) h2
      have hk : hasK key (q :: L) = hasK key L := by
        unfold hasK
        rw [atK, if_pos hq, List.getElem?_cons_succ]
      refine ⟨q :: A, C, fun p hp => ?_, hc, by rw [atK, if_pos hq, hat]; rfl, ?_⟩
      · rcases List.mem_cons.1 hp with rfl | hp
        · exact hq
        · exact ha p hp
      · rw [hk]
        rcases hor with ⟨e1, p, e2, e3⟩ | ⟨e1, e3⟩
        · exact .inl ⟨e1, p, e2, by rw [e3]; rfl⟩
        · exact .inr ⟨e1, by rw [e3]; rfl⟩
    · have hat : atK key (q :: L) = 0 := by rw [atK, if_neg hq]
      have hq' : ltK q.Key key = false := by simpa using hq
      by_cases he : q.Key = key
      · refine ⟨[], L, by simp, fun p hp => by rw [← he]; exact h1 p hp, hat, .inl ⟨?_, q, he, rfl⟩⟩
        unfold hasK
        rw [hat]
        simp [he]
      · have hlt : ltK key q.Key = true := by
          cases h3 : ltK key q.Key with
          | true => rfl
          | false => exact absurd (ltK_tri hq' h3) he
        refine ⟨[], q :: L, by simp, fun p hp => ?_, hat, .inr ⟨?_, rfl⟩⟩
        · rcases List.mem_cons.1 hp with rfl | hp
          · exact hlt
          · exact ltK_trans hlt (h1 p hp)
        · unfold hasK
          rw [hat]
          simp only [List.getElem?_cons_zero, beq_eq_false_iff_ne, ne_eq]
          exact fun e => he (ba_inj e)
theorem ne_of_lt {p : Pair} {key : ByteArray} (h : ltK p.Key key = true ∨ ltK key p.Key = true) : p.Key ≠ key := fun e => by
  rw [e, ltK_irr] at h
  rcases h with h | h <;> cases h
theorem vStep_spec {L : List Pair} (h : SrtK L) (r : Record) : SrtK (vStep L r) ∧ ∀ p, p ∈ vStep L r ↔ if p.Key = r.Key then r.Gone = false ∧ p.Value = r.Value else p ∈ L := by
  obtain ⟨A, C, ha, hc, hat, hor⟩ := atK_form (key := r.Key) h
  unfold vStep
  rcases hor with ⟨hk, q, hq, rfl⟩ | ⟨hk, rfl⟩
  · obtain ⟨s1, s2, s3⟩ := List.pairwise_append.1 h
    obtain ⟨s4, s5⟩ := List.pairwise_cons.1 s2
    rw [hk, if_pos rfl, hat]
    by_cases hg : r.Gone = true
    · rw [if_pos hg, List.take_left, show A.length + 1 = A.length + 1 from rfl, ← List.drop_drop, List.drop_left]
      refine ⟨List.pairwise_append.2 ⟨s1, by simpa using s5, fun a ha' b hb => s3 a ha' b (by simp at hb; exact List.mem_cons_of_mem _ hb)⟩, fun p => ?_⟩
      simp only [List.drop_succ_cons, List.drop_zero, List.mem_append, List.mem_cons]
      by_cases e : p.Key = r.Key
      · rw [if_pos e]
        refine ⟨fun hh => ?_, fun hh => by rw [hg] at hh; cases hh.1⟩
        rcases hh with hh | hh
        · exact absurd e (ne_of_lt (.inl (ha p hh)))
        · exact absurd e (ne_of_lt (.inr (hc p hh)))
      · rw [if_neg e]
        refine ⟨fun hh => hh.elim .inl (fun q => .inr (.inr q)), fun hh => ?_⟩
        rcases hh with hh | hh | hh
        · exact .inl hh
        · subst hh; exact absurd hq e
        · exact .inr hh
    · have hg' : r.Gone = false := by simpa using hg
      rw [if_neg hg, List.set_append_right _ _ (Nat.le_refl _), Nat.sub_self, List.set_cons_zero]
      refine ⟨List.pairwise_append.2 ⟨s1, List.pairwise_cons.2 ⟨fun b hb => hc b hb, s5⟩, fun a ha' b hb => ?_⟩, fun p => ?_⟩
      · rcases List.mem_cons.1 hb with rfl | hb
        · exact ha a ha'
        · exact s3 a ha' b (List.mem_cons_of_mem _ hb)
      · simp only [List.mem_append, List.mem_cons]
        by_cases e : p.Key = r.Key
        · rw [if_pos e]
          refine ⟨fun hh => ?_, fun hh => .inr (.inl ?_)⟩
          · rcases hh with hh | hh | hh
            · exact absurd e (ne_of_lt (.inl (ha p hh)))
            · subst hh; exact ⟨hg', rfl⟩
            · exact absurd e (ne_of_lt (.inr (hc p hh)))
          · cases p; simp at e hh; simp [e, hh.2]
        · rw [if_neg e]
          refine ⟨fun hh => ?_, fun hh => ?_⟩
          · rcases hh with hh | hh | hh
            · exact .inl hh
            · subst hh; exact absurd rfl e
            · exact .inr (.inr hh)
          · rcases hh with hh | hh | hh
            · exact .inl hh
            · subst hh; exact absurd hq e
            · exact .inr (.inr hh)
  · obtain ⟨s1, s2, s3⟩ := List.pairwise_append.1 h
    rw [hk, if_neg (by simp), hat]
    by_cases hg : r.Gone = true
    · rw [if_pos hg]
      refine ⟨h, fun p => ?_⟩
      by_cases e : p.Key = r.Key
      · rw [if_pos e]
        refine ⟨fun hh => ?_, fun hh => by rw [hg] at hh; cases hh.1⟩
        rcases List.mem_append.1 hh with hh | hh
        · exact absurd e (ne_of_lt (.inl (ha p hh)))
        · exact absurd e (ne_of_lt (.inr (hc p hh)))
      · rw [if_neg e]
    · have hg' : r.Gone = false := by simpa using hg
      rw [if_neg hg, List.take_left, List.drop_left]
      refine ⟨List.pairwise_append.2 ⟨s1, List.pairwise_cons.2 ⟨fun b hb => hc b hb, s2⟩, fun a ha' b hb => ?_⟩, fun p => ?_⟩
      · rcases List.mem_cons.1 hb with rfl | hb
        · exact ha a ha'
        · exact s3 a ha' b hb
      · simp only [List.mem_append, List.mem_cons]
        by_cases e : p.Key = r.Key
        · rw [if_pos e]
          refine ⟨fun hh => ?_, fun hh => .inr (.inl ?_)⟩
          · rcases hh with hh | hh | hh
            · exact absurd e (ne_of_lt (.inl (ha p hh)))
            · subst hh; exact ⟨hg', rfl⟩
            · exact absurd e (ne_of_lt (.inr (hc p hh)))
          · cases p; simp at e hh; simp [e, hh.2]
        · rw [if_neg e]
          refine ⟨fun hh => ?_, fun hh => ?_⟩
          · rcases hh with hh | hh | hh
            · exact .inl hh
            · subst hh; exact absurd rfl e
            · exact .inr hh
          · rcases hh with hh | hh
            · exact .inl hh
            · exact .inr (.inr hh)
/-! ### the last record of each key -/
def lastR (l : List Record) (k : ByteArray) : Option Record := l.foldl (fun a r => if r.Key.toList = k.toList then some r else a) none
theorem lastR_snoc (l : List Record) (r : Record) (k : ByteArray) : lastR (l ++ [r]) k = if r.Key.toList = k.toList then some r else lastR l k := by unfold lastR; rw [List.foldl_append]; rfl
def Lives (l : List Record) (p : Pair) : Prop := ∃ r, lastR l p.Key = some r ∧ r.Gone = false ∧ r.Value = p.Value
theorem viewF_take : ∀ (n : Nat) (l : List Record), l.length = n → SrtK (viewF l) ∧ ∀ p, p ∈ viewF l ↔ Lives l p
  | 0, l, h => by
    obtain rfl := List.eq_nil_of_length_eq_zero h
    refine ⟨List.Pairwise.nil, fun p => ⟨(fun h => by cases h), (fun ⟨r, h1, _⟩ => by cases h1)⟩⟩
  | n + 1, l, h => by
    obtain ⟨l', r, rfl⟩ : ∃ l' r, l = l' ++ [r] := by
      rcases List.eq_nil_or_concat l with rfl | ⟨l', r, e⟩
      · simp at h
      · exact ⟨l', r, by simpa using e⟩
    have hl : l'.length = n := by simpa using h
    obtain ⟨h1, h2⟩ := viewF_take n l' hl
    obtain ⟨h3, h4⟩ := vStep_spec h1 r
    rw [viewF_snoc]
    refine ⟨h3, fun p => (h4 p).trans ?_⟩
    unfold Lives
    rw [lastR_snoc]
    by_cases e : p.Key = r.Key
    · rw [if_pos e, if_pos (by rw [e])]
      exact ⟨fun ⟨a, b⟩ => ⟨r, rfl, a, b.symm⟩, fun ⟨q, a, b, c⟩ => by cases a; exact ⟨b, c.symm⟩⟩
    · rw [if_neg e, if_neg (fun hh => e (ba_inj hh).symm)]
      exact h2 p
theorem viewF_srt (l : List Record) : SrtK (viewF l) ∧ ∀ p, p ∈ viewF l ↔ Lives l p := viewF_take _ l rfl
theorem srt_unique : ∀ {l1 l2 : List Pair}, SrtK l1 → SrtK l2 → (∀ p, p ∈ l1 ↔ p ∈ l2) → l1 = l2
  | [], [], _, _, _ => rfl
  | [], b :: l2, _, _, h => by have := (h b).2 List.mem_cons_self; cases this
  | a :: l1, [], _, _, h => by have := (h a).1 List.mem_cons_self; cases this
  | a :: l1, b :: l2, h1, h2, h => by
    obtain ⟨p1, p2⟩ := List.pairwise_cons.1 h1
    obtain ⟨q1, q2⟩ := List.pairwise_cons.1 h2
    have hab : a = b := by
      rcases List.mem_cons.1 ((h a).1 List.mem_cons_self) with e | e
      · exact e
      · rcases List.mem_cons.1 ((h b).2 List.mem_cons_self) with e2 | e2
        · exact e2.symm
        · have := ltK_asym (q1 a e)
          rw [p1 b e2] at this
          cases this
    subst hab
    have : l1 = l2 := srt_unique p2 q2 (fun p => ⟨fun hp => by
      rcases List.mem_cons.1 ((h p).1 (List.mem_cons_of_mem _ hp)) with e | e
      · subst e; have := p1 p hp; rw [ltK_irr] at this; cases this
      · exact e, fun hp => by
      rcases List.mem_cons.1 ((h p).2 (List.mem_cons_of_mem _ hp)) with e | e
      · subst e; have := q1 p hp; rw [ltK_irr] at this; cases this
      · exact e⟩)
    rw [this]
theorem vStep_len (L : List Pair) (r : Record) : (vStep L r).length ≤ L.length + 1 := by
  unfold vStep
  split
  · split
    · simp; omega
    · simp
  · split
    · omega
    · simp; omega
theorem viewF_len : ∀ (n : Nat) (l : List Record), l.length = n → (viewF l).length ≤ n
  | 0, l, h => by
    obtain rfl := List.eq_nil_of_length_eq_zero h
    simp [viewF]
  | n + 1, l, h => by
    obtain ⟨l', r, rfl⟩ : ∃ l' r, l = l' ++ [r] := by
      rcases List.eq_nil_or_concat l with rfl | ⟨l', r, e⟩
      · simp at h
      · exact ⟨l', r, by simpa using e⟩
    have := viewF_len n l' (by simpa using h)
    have := vStep_len (viewF l') r
    rw [viewF_snoc]
    omega
/-- What was collected, in whatever order, and sorted, is the reference's list. -/
theorem view_of_perm {l : List Record} {ss ts : List Pair} (hp : ts.Perm ss) (hn : ss.Pairwise (fun a b => a.Key ≠ b.Key)) (hm : ∀ p, p ∈ ss ↔ Lives l p) (hs : ts.Pairwise (fun a b => ltK b.Key a.Key = false)) : ts = viewF l := by
  have h1 : SrtK ts := by
    have hn2 : ts.Pairwise (fun a b => a.Key ≠ b.Key) := (hp.pairwise_iff (fun {_ _} h => Ne.symm h)).2 hn
    refine (hn2.and hs).imp (fun {a b} ⟨h2, h3⟩ => ?_)
    cases h4 : ltK a.Key b.Key with
    | true => rfl
    | false => exact absurd (ltK_tri h4 h3) h2
  obtain ⟨h2, h3⟩ := viewF_srt l
  exact srt_unique h1 h2 (fun p => (hp.mem_iff).trans ((hm p).trans (h3 p).symm))
end Go.Proofs.Ytiefpllmnmmdlaa.H
