/-
Transactions, no program in sight: what a log's batches leave open (in the order of opening) and what was given up; how a map of places tells what is open. Conditions: none.
-/
import Derived.Test.YtipemgjgimpmbaaHFacts
import Derived.Maps.OwnSet
namespace Go.Proofs.Ytipemgjgimpmbaa.H
open Go.RowKit
set_option linter.unusedVariables false
set_option linter.unusedSimpArgs false
def opGet (os : List Gone) (p : Int) : Option Gone := os.find? (fun g => g.Producer == p)
def opDel (os : List Gone) (p : Int) : List Gone := os.filter (fun g => !(g.Producer == p))
def isAb (b : Batch) : Bool := b.Records.any (fun r => r.Key.toList == [97, 98, 111, 114, 116])
def txB (s : List Gone × List Gone) (b : Batch) : List Gone × List Gone :=
  match opGet s.1 b.Producer with
  | none => if 4 ≤ b.Flags then s else if bit2 b.Flags then (s.1 ++ [⟨b.Producer, b.Base, 0⟩], s.2) else s
  | some g => if 4 ≤ b.Flags then (opDel s.1 b.Producer, if isAb b then s.2 ++ [⟨b.Producer, g.First, b.Base⟩] else s.2) else s
def txF (bs : List Batch) : List Gone × List Gone := bs.foldl txB ([], [])
theorem txF_nil : txF [] = ([], []) := rfl
theorem txF_step {bs : List Batch} {k : Nat} {b : Batch} (h : bs[k]? = some b) : txF (bs.take (k + 1)) = txB (txF (bs.take k)) b := by
  unfold txF
  rw [List.take_add_one, h, List.foldl_append]
  rfl
/-- Each producer stands once. -/
def Once (os : List Gone) : Prop := os.Pairwise (fun a b => a.Producer ≠ b.Producer)
theorem opGet_none {os : List Gone} {p : Int} (h : opGet os p = none) : ∀ g ∈ os, g.Producer ≠ p := by
  intro g hg e
  have := List.find?_eq_none.1 h g hg
  simp [e] at this
theorem opGet_some {os : List Gone} {p : Int} {g : Gone} (h : opGet os p = some g) : g ∈ os ∧ g.Producer = p := by
  have h1 := List.mem_of_find?_eq_some h
  have h2 := List.find?_some h
  exact ⟨h1, by simpa using h2⟩
theorem opDel_none {os : List Gone} {p : Int} (h : opGet os p = none) : opDel os p = os := by
  unfold opDel
  rw [List.filter_eq_self]
  intro g hg
  simp [opGet_none h g hg]
theorem opGet_del_same (os : List Gone) (p : Int) : opGet (opDel os p) p = none := by
  unfold opGet opDel
  rw [List.find?_eq_none]
  intro g hg
  have := (List.mem_filter.1 hg).2
  simpa using this
theorem opGet_del_other (os : List Gone) {p q : Int} (h : q ≠ p) : opGet (opDel os p) q = opGet os q := by
  unfold opGet opDel
  induction os with
  | nil => rfl
  | cons g r ih =>
    rw [List.filter_cons]
    by_cases hg : g.Producer = p
    · have : ¬ g.Producer = q := by omega
      simp only [hg, beq_self_eq_true, Bool.not_true, Bool.false_eq_true, if_false, ih]
      rw [List.find?_cons_of_neg (by simpa using this)]
    · simp only [beq_iff_eq, hg, Bool.not_eq_true', beq_eq_false_iff_ne, ne_eq, not_false_eq_true, if_true]
      by_cases hq : g.Producer = q
      · rw [List.find?_cons_of_pos (by simpa using hq), List.find?_cons_of_pos (by simpa using hq)]
      · rw [List.find?_cons_of_neg (by simpa using hq), List.find?_cons_of_neg (by simpa using hq), ih]
theorem opGet_app_same {os : List Gone} {p : Int} (h : opGet os p = none) (b c : Int) : opGet (os ++ [⟨p, b, c⟩]) p = some ⟨p, b, c⟩ := by
  unfold opGet at h ⊢
  rw [List.find?_append, h]
  simp
theorem opGet_app_other (os : List Gone) {p q : Int} (h : q ≠ p) (b c : Int) : opGet (os ++ [⟨p, b, c⟩]) q = opGet os q := by
  unfold opGet
  rw [List.find?_append]
  have : ¬ p = q := by omega
  simp [this]
theorem Once.nil : Once [] := List.Pairwise.nil
theorem Once.del {os : List Gone} (h : Once os) (p : Int) : Once (opDel os p) := List.Pairwise.filter _ h
theorem Once.app {os : List Gone} {p : Int} (h : Once os) (hn : opGet os p = none) (b c : Int) : Once (os ++ [⟨p, b, c⟩]) := by
  unfold Once at h ⊢
  rw [List.pairwise_append]
  exact ⟨h, List.pairwise_singleton _ _, fun a ha d hd => by
    rw [List.mem_singleton] at hd
    rw [hd]
    exact opGet_none hn a ha⟩
theorem txB_once {s : List Gone × List Gone} (h : Once s.1) (b : Batch) : Once (txB s b).1 := by
  unfold txB
  cases hg : opGet s.1 b.Producer with
  | none =>
    simp only
    split
    · exact h
    · split
      · exact h.app hg _ _
      · exact h
  | some g =>
    simp only
    split
    · exact h.del _
    · exact h
theorem txF_once (bs : List Batch) : Once (txF bs).1 := by
  have : ∀ (bs : List Batch) (s : List Gone × List Gone), Once s.1 → Once (bs.foldl txB s).1 := by
    intro bs
    induction bs with
    | nil => intro s h; exact h
    | cons b r ih => intro s h; exact ih _ (txB_once h b)
  exact this bs _ Once.nil
theorem txB_len (s : List Gone × List Gone) (b : Batch) : (txB s b).1.length ≤ s.1.length + 1 ∧ (txB s b).2.length ≤ s.2.length + 1 := by
  have hd : (opDel s.1 b.Producer).length ≤ s.1.length := List.length_filter_le _ _
  unfold txB
  split <;> split <;> (try split) <;> simp <;> omega
theorem txF_len (bs : List Batch) : ∀ k, (txF (bs.take k)).1.length ≤ k ∧ (txF (bs.take k)).2.length ≤ k := by
  intro k
  induction k with
  | zero => simp [txF]
  | succ k ih =>
    cases hb : bs[k]? with
    | none => rw [List.take_add_one, hb]; simp only [Option.toList_none, List.append_nil]; omega
    | some b => rw [txF_step hb]; have := txB_len (txF (bs.take k)) b; omega
/-- The last place of a producer. -/
def atOf (os : List Gone) (p : Int) (k : Nat) : Int := ((os.take k).zipIdx.foldl (fun a q => if q.1.Producer = p then (q.2 : Int) else a) (-1))
theorem atOf_zero (os : List Gone) (p : Int) : atOf os p 0 = -1 := by simp [atOf]
theorem atOf_step {os : List Gone} {k : Nat} {g : Gone} (h : os[k]? = some g) (p : Int) : atOf os p (k + 1) = if g.Producer = p then (k : Int) else atOf os p k := by
  have hk : k < os.length := (List.getElem?_eq_some_iff.1 h).1
  unfold atOf
  rw [List.take_add_one, h, Option.toList_some, List.zipIdx_append, List.foldl_append]
  simp [Nat.min_eq_left (Nat.le_of_lt hk)]
theorem atOf_none {os : List Gone} {p : Int} (h : opGet os p = none) : ∀ k, k ≤ os.length → atOf os p k = -1 := by
  intro k
  induction k with
  | zero => intro _; exact atOf_zero _ _
  | succ k ih =>
    intro hk
    rw [atOf_step (List.getElem?_eq_getElem (by omega)), if_neg (opGet_none h _ (List.getElem_mem _)), ih (by omega)]
/-- Where the producer stands: the place, what lies there, what is left when it is struck out. -/
theorem atOf_some : ∀ {os : List Gone} {p : Int} {g : Gone}, Once os → opGet os p = some g → ∃ i : Nat, i < os.length ∧ os[i]? = some g ∧ (∀ k, k ≤ os.length → atOf os p k = if i < k then (i : Int) else -1) ∧ opDel os p = os.take i ++ os.drop (i + 1) := by
  intro os p g ho hg
  obtain ⟨hm, hp⟩ := opGet_some hg
  obtain ⟨i, hi, he⟩ := List.mem_iff_getElem.1 hm
  have hne : ∀ j (hj : j < os.length), j ≠ i → os[j].Producer ≠ p := by
    intro j hj hji
    have hpw := List.pairwise_iff_getElem.1 ho
    rcases Nat.lt_or_gt_of_ne hji with h | h
    · have := hpw j i hj hi h; rw [he, hp] at this; exact this
    · have := hpw i j hi hj h; rw [he, hp] at this; exact fun e => this e.symm
  refine ⟨i, hi, by rw [List.getElem?_eq_getElem hi, he], ?_, ?_⟩
  · intro k
    induction k with
    | zero => intro _; simp [atOf_zero]
    | succ k ih =>
      intro hk
      rw [atOf_step (List.getElem?_eq_getElem (by omega)), ih (by omega)]
      by_cases hki : k = i
      · subst hki
        rw [if_pos (by rw [he]; exact hp), if_pos (by omega)]
      · rw [if_neg (hne k (by omega) hki)]
        by_cases h : i < k
        · rw [if_pos h, if_pos (by omega)]
        · rw [if_neg h, if_neg (by omega)]
  · have h1 : os = os.take i ++ g :: os.drop (i + 1) := by
      rw [← he, List.getElem_cons_drop, List.take_append_drop]
    unfold opDel
    conv => lhs; rw [h1]
    rw [List.filter_append, List.filter_cons]
    simp only [hp, beq_self_eq_true, Bool.not_true, Bool.false_eq_true, if_false]
    congr 1
    · rw [List.filter_eq_self]
      intro x hx
      obtain ⟨j, hj, rfl⟩ := List.mem_iff_getElem.1 hx
      rw [List.length_take] at hj
      rw [List.getElem_take]
      simp [hne j (by omega) (by omega)]
    · rw [List.filter_eq_self]
      intro x hx
      obtain ⟨j, hj, rfl⟩ := List.mem_iff_getElem.1 hx
      rw [List.length_drop] at hj
      rw [List.getElem_drop]
      simp [hne (i + 1 + j) (by omega) (by omega)]
/-- The map tells what is open. -/
def Tells {H : Type} (D : DataW H) (os : List Gone) : Prop := ∀ p : Int, Go.Maps.has D (.int .i64 p) = (opGet os p).isSome ∧ ∀ g, opGet os p = some g → D.atKey (.int .i64 p) (.lit (.int .i64 0)) = .lit (.int .i64 g.First)
theorem Tells.nil {H : Type} : Tells (.map [] : DataW H) [] := fun p => ⟨rfl, fun g h => by cases h⟩
theorem key_ne {p q : Int} (h : q ≠ p) : (Lit.int .i64 q) ≠ .int .i64 p := fun e => h (by injection e)
theorem Tells.put {H : Type} {D : DataW H} {os : List Gone} (h : Tells D os) (hD : Go.Maps.IsMap D) {p : Int} (hp : WideAt.IsKeyLit (.int .i64 p)) (hn : opGet os p = none) (b c : Int) : Tells (D.put (.int .i64 p) (.lit (.int .i64 b))) (os ++ [⟨p, b, c⟩]) := by
  intro q
  by_cases hq : q = p
  · subst hq
    rw [opGet_app_same hn]
    exact ⟨by rw [Go.Maps.has_put_same hD hp]; rfl, fun g hg => by cases hg; exact Go.Maps.atKey_put_same hD hp _ _⟩
  · rw [opGet_app_other _ hq, Go.Maps.has_put_other (key_ne hq), Go.Maps.atKey_put_other (key_ne hq)]
    exact h q
theorem Tells.del {H : Type} {D : DataW H} {os : List Gone} (h : Tells D os) (p : Int) : Tells (D.del (.int .i64 p)) (opDel os p) := by
  intro q
  by_cases hq : q = p
  · subst hq
    rw [opGet_del_same, Go.Maps.has_del_same]
    exact ⟨rfl, fun g hg => by cases hg⟩
  · rw [opGet_del_other _ hq, Go.Maps.has_del_other (key_ne hq), Go.Maps.atKey_del_other (key_ne hq)]
    exact h q
end Go.Proofs.Ytipemgjgimpmbaa.H
