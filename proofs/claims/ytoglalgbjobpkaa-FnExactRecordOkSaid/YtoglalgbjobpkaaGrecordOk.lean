/-
RecordOk by the program and by the reference: one answer. Conditions: sizes of lists, as said.
-/
import Derived.Test.YtoglalgbjobpkaaGlib
import Derived.Test.YtoglalgbjobpkaaGsmall
import Derived.Test.YtoglalgbjobpkaaFspecRecordOk
import Derived.Test.YtoglalgbjobpkaaFimplRecordOk
namespace Go.Proofs.Ytoglalgbjobpkaa.G
open Go.RowKit Go.Proofs.Ytoglalgbjobpkaa.F Go.Proofs.YtoglalgbjobpkaaW.PrintWords Go.Proofs.YtoglalgbjobpkaaW.PrintLast Go.Proofs.YtoglalgbjobpkaaW.PrintMore
set_option linter.unusedVariables false
set_option linter.unusedSimpArgs false

theorem textOk_eq (s : ByteArray) : impl_textOk.f s = some (decide (s.size ≤ 100)) := by
  unfold impl_textOk.f; congr 1
  by_cases h : s.size ≤ 100
  · rw [decide_eq_true h, decide_eq_true (by omega)]
  · rw [decide_eq_false h, decide_eq_false (by omega)]
theorem timeOk_eq (n : Int) : impl_timeOk.f n = some (decide (0 ≤ n ∧ n ≤ 1000000000000)) := by
  unfold impl_timeOk.f
  by_cases h : n ≥ 0
  · rw [if_pos h]; congr 1
    by_cases h2 : n ≤ 1000000000000
    · rw [decide_eq_true h2, decide_eq_true ⟨h, h2⟩]
    · rw [decide_eq_false h2, decide_eq_false (fun x => h2 x.2)]
  · rw [if_neg h, decide_eq_false (fun x => h x.1)]
theorem toList_nil (s : ByteArray) : s.toList = ([] : List UInt8) ↔ s.size = 0 := by
  rw [ByteArray.toList_eq]
  constructor
  · intro h; have := congrArg List.length h; simpa using this
  · intro h; exact List.eq_nil_of_length_eq_zero (by simpa using h)

/-- A head that is right. -/
def headOk (h : S119) : Bool := decide (1 ≤ h.f0.size ∧ h.f0.size ≤ 100 ∧ h.f1.size ≤ 100)
/-- A record that is right, by its fields. -/
def recordOk (t : Int) (keyed : Bool) (key : ByteArray) (gone : Bool) (value : ByteArray) (heads : List S119) : Bool :=
  decide (0 ≤ t ∧ t ≤ 1000000000000) && decide (key.size ≤ 100) && decide (value.size ≤ 100) && decide (heads.length ≤ 3) && (keyed || decide (key.size = 0)) && (!gone || decide (value.size = 0)) && heads.all headOk

theorem heads_all (xs : List S119) (i : Nat) (hi : i < xs.length) : (xs.drop i).all headOk = (headOk (xs.getD i z119) && (xs.drop (i + 1)).all headOk) := by
  rw [drop_cons xs i z119 hi, List.all_cons]
theorem specHeads_l (xs : List S119) (hn : xs.length ≤ 1048576) (a b c d e) (m : Nat) : ∀ i : Nat, i + m = xs.length → Ev (fun k => spec_RecordOk.l0 k (i : Int) a b c d e xs) ((xs.drop i).all headOk) := by
  induction m with
  | zero =>
    intro i hi
    refine Ev.step (f := fun _ => some true) (fun k => by rw [spec_RecordOk.l0, if_neg (by omega)]) ?_
    rw [List.drop_of_length_le (by omega)]; exact Ev.now _
  | succ m ih =>
    intro i hi
    have ew : wrap64 ((i : Int) + 1) = ((i + 1 : Nat) : Int) := by rw [wrapI (by omega) (by omega)]; omega
    have h := ih (i + 1) (by omega)
    have hr : rd_T119 xs (i : Int) = xs.getD i z119 := rfl
    rw [heads_all xs i (by omega)]
    generalize xs.getD i z119 = x at hr
    by_cases h1 : x.f0.size = 0
    · have : headOk x = false := decide_eq_false (by omega)
      rw [this, Bool.false_and]
      exact Ev.step (f := fun _ => some false) (fun k => by rw [spec_RecordOk.l0, if_pos (by omega), if_pos (by omega), hr, if_pos ((toList_nil _).2 h1)]) (Ev.now _)
    · have hne : ¬ x.f0.toList = ([] : List UInt8) := fun h => h1 ((toList_nil _).1 h)
      by_cases h2 : x.f0.size ≤ 100
      · by_cases h3 : x.f1.size ≤ 100
        · have : headOk x = true := decide_eq_true (by omega)
          rw [this, Bool.true_and]
          exact Ev.step (fun k => by rw [spec_RecordOk.l0, if_pos (by omega), if_pos (by omega), hr, if_neg hne, if_neg (by omega), if_neg (by omega), ew]) h
        · have : headOk x = false := decide_eq_false (by omega)
          rw [this, Bool.false_and]
          exact Ev.step (f := fun _ => some false) (fun k => by rw [spec_RecordOk.l0, if_pos (by omega), if_pos (by omega), hr, if_neg hne, if_neg (by omega), if_pos (by omega)]) (Ev.now _)
      · have : headOk x = false := decide_eq_false (by omega)
        rw [this, Bool.false_and]
        exact Ev.step (f := fun _ => some false) (fun k => by rw [spec_RecordOk.l0, if_pos (by omega), if_pos (by omega), hr, if_neg hne, if_pos (by omega)]) (Ev.now _)
theorem implHeads_l (xs : List S119) (hn : xs.length ≤ 1048576) (m : Nat) : ∀ i : Nat, i + m = xs.length → Ev (fun k => impl_RecordOk.l0 k xs (xs.length : Int) (i : Int)) ((xs.drop i).all headOk) := by
  induction m with
  | zero =>
    intro i hi
    refine Ev.step (f := fun _ => some true) (fun k => by rw [impl_RecordOk.l0, if_neg (by omega)]) ?_
    rw [List.drop_of_length_le (by omega)]; exact Ev.now _
  | succ m ih =>
    intro i hi
    have ew : wrap64 ((i : Int) + 1) = ((i + 1 : Nat) : Int) := by rw [wrapI (by omega) (by omega)]; omega
    have h := ih (i + 1) (by omega)
    have hr : rd_T119 xs (i : Int) = xs.getD i z119 := rfl
    rw [heads_all xs i (by omega)]
    generalize xs.getD i z119 = x at hr
    by_cases h1 : x.f0.size = 0
    · have : headOk x = false := decide_eq_false (by omega)
      rw [this, Bool.false_and]
      exact Ev.step (f := fun _ => some false) (fun k => by rw [impl_RecordOk.l0, if_pos (by omega), if_pos (by omega), if_pos (by omega), hr, if_pos ((toList_nil _).2 h1)]) (Ev.now _)
    · have hne : ¬ x.f0.toList = ([] : List UInt8) := fun h => h1 ((toList_nil _).1 h)
      by_cases h2 : x.f0.size ≤ 100
      · by_cases h3 : x.f1.size ≤ 100
        · have : headOk x = true := decide_eq_true (by omega)
          rw [this, Bool.true_and]
          exact Ev.step (fun k => by rw [impl_RecordOk.l0, if_pos (by omega), if_pos (by omega), if_pos (by omega), hr, if_neg hne, textOk_eq, decide_eq_true h2, textOk_eq, decide_eq_true h3]; simp only [Option.bind_some, if_true]; rw [ew]) h
        · have : headOk x = false := decide_eq_false (by omega)
          rw [this, Bool.false_and]
          exact Ev.step (f := fun _ => some false) (fun k => by rw [impl_RecordOk.l0, if_pos (by omega), if_pos (by omega), if_pos (by omega), hr, if_neg hne, textOk_eq, decide_eq_true h2, textOk_eq, decide_eq_false h3]; rfl) (Ev.now _)
      · have : headOk x = false := decide_eq_false (by omega)
        rw [this, Bool.false_and]
        exact Ev.step (f := fun _ => some false) (fun k => by rw [impl_RecordOk.l0, if_pos (by omega), if_pos (by omega), if_pos (by omega), hr, if_neg hne, textOk_eq, decide_eq_false h2]; rfl) (Ev.now _)

theorem specRecordOk_ev (t : Int) (keyed : Bool) (key : ByteArray) (gone : Bool) (value : ByteArray) (heads : List S119) (hn : heads.length ≤ 1048576) :
    Ev (fun k => spec_RecordOk.f k t keyed key gone value heads) (recordOk t keyed key gone value heads) := by
  have hl : Ev (fun k => spec_RecordOk.l0 k 0 t keyed key gone value heads) ((heads.drop 0).all headOk) := specHeads_l heads hn t keyed key gone value heads.length 0 (by omega)
  rw [List.drop_zero] at hl
  have h1 : Ev (fun k => spec_RecordOk.j1 k true t keyed key gone value heads) false := Ev.step (f := fun _ => some false) (fun k => by rw [spec_RecordOk.j1, if_pos rfl]) (Ev.now _)
  have h0 : Ev (fun k => spec_RecordOk.j1 k false t keyed key gone value heads) (heads.all headOk) := Ev.step (fun k => by rw [spec_RecordOk.j1, if_neg (by decide)]) hl
  have hb (b : Bool) (r : Bool) (p : b = true → r = false) (q : b = false → r = heads.all headOk) : Ev (fun k => spec_RecordOk.j1 k b t keyed key gone value heads) r := by
    cases b
    · rw [q rfl]; exact h0
    · rw [p rfl]; exact h1
  have hj : Ev (fun k => spec_RecordOk.j0 k true t keyed key gone value heads) false := Ev.step (f := fun _ => some false) (fun k => by rw [spec_RecordOk.j0, if_pos rfl]) (Ev.now _)
  have ev : (value.toList != ([] : List UInt8)) = !(decide (value.size = 0)) := by
    by_cases h : value.size = 0
    · rw [decide_eq_true h, (toList_nil _).2 h]; rfl
    · rw [decide_eq_false h]; simpa using fun h' => h ((toList_nil _).1 h')
  have hj0 : Ev (fun k => spec_RecordOk.j0 k false t keyed key gone value heads) ((keyed || decide (key.size = 0)) && (!gone || decide (value.size = 0)) && heads.all headOk) := by
    cases keyed <;> cases gone
    all_goals (by_cases hk : key.size = 0 <;> by_cases hv : value.size = 0)
    all_goals first
      | (refine Ev.step (fun k => by rw [spec_RecordOk.j0, if_neg (by decide), if_pos rfl, if_pos rfl, ev]) (hb _ _ ?_ ?_) <;> simp [hk, hv])
      | (refine Ev.step (fun k => by rw [spec_RecordOk.j0, if_neg (by decide), if_pos rfl, if_neg (by decide)]) (hb _ _ ?_ ?_) <;> simp [hk, hv])
      | (refine Ev.step (fun k => by rw [spec_RecordOk.j0, if_neg (by decide), if_neg (by decide), if_pos ((toList_nil _).2 hk), if_pos rfl, ev]) (hb _ _ ?_ ?_) <;> simp [hk, hv])
      | (refine Ev.step (fun k => by rw [spec_RecordOk.j0, if_neg (by decide), if_neg (by decide), if_pos ((toList_nil _).2 hk), if_neg (by decide)]) (hb _ _ ?_ ?_) <;> simp [hk, hv])
      | (refine Ev.step (fun k => by rw [spec_RecordOk.j0, if_neg (by decide), if_neg (by decide), if_neg (fun h => hk ((toList_nil _).1 h))]) (hb _ _ ?_ ?_) <;> simp [hk, hv])
  unfold spec_RecordOk.f recordOk
  rw [l1In_eq]
  simp only [Option.bind_some]
  by_cases ht : 0 ≤ t ∧ t ≤ 1000000000000
  · by_cases hk : key.size ≤ 100
    · by_cases hv : value.size ≤ 100
      · simp only [decide_eq_true ht, decide_eq_true hk, decide_eq_true hv, if_true, if_neg (show ¬ (key.size : Int) > 100 by omega), if_neg (show ¬ (value.size : Int) > 100 by omega), Bool.true_and]
        by_cases hh : heads.length ≤ 3
        · simp only [decide_eq_false (show ¬ (heads.length : Int) > 3 by omega), decide_eq_true hh, Bool.true_and]
          exact hj0
        · simp only [decide_eq_true (show (heads.length : Int) > 3 by omega), decide_eq_false hh, Bool.false_and]
          exact hj
      · simp only [decide_eq_true ht, decide_eq_true hk, decide_eq_false hv, if_true, if_neg (show ¬ (key.size : Int) > 100 by omega), if_pos (show (value.size : Int) > 100 by omega), Bool.true_and, Bool.false_and]
        exact hj
    · simp only [decide_eq_true ht, decide_eq_false hk, if_true, if_pos (show (key.size : Int) > 100 by omega), Bool.true_and, Bool.false_and]
      exact hj
  · simp only [decide_eq_false ht, Bool.false_eq_true, if_false, Bool.false_and]
    exact hj
theorem implRecordOk_ev (t : Int) (keyed : Bool) (key : ByteArray) (gone : Bool) (value : ByteArray) (heads : List S119) (hn : heads.length ≤ 1048576) :
    Ev (fun k => impl_RecordOk.f k t keyed key gone value heads) (recordOk t keyed key gone value heads) := by
  have hl : Ev (fun k => impl_RecordOk.l0 k heads (heads.length : Int) 0) ((heads.drop 0).all headOk) := implHeads_l heads hn heads.length 0 (by omega)
  rw [List.drop_zero] at hl
  have hj : Ev (fun k => impl_RecordOk.j0 k true t keyed key gone value heads) false := Ev.step (f := fun _ => some false) (fun k => by rw [impl_RecordOk.j0, if_pos rfl]) (Ev.now _)
  have hj0 : Ev (fun k => impl_RecordOk.j0 k (decide ((heads.length : Int) > 3)) t keyed key gone value heads) (decide (heads.length ≤ 3) && heads.all headOk) := by
    by_cases hh : heads.length ≤ 3
    · rw [decide_eq_false (show ¬ (heads.length : Int) > 3 by omega), decide_eq_true hh, Bool.true_and]
      exact Ev.step (fun k => by rw [impl_RecordOk.j0, if_neg (by decide)]) hl
    · rw [decide_eq_true (show (heads.length : Int) > 3 by omega), decide_eq_false hh, Bool.false_and]
      exact hj
  have hin : Ev (fun k => (impl_textOk.f key).bind fun t212 => if t212 = true then (impl_textOk.f value).bind fun t213 => if t213 = true then impl_RecordOk.j0 k (decide ((heads.length : Int) > 3)) t keyed key gone value heads else impl_RecordOk.j0 k true t keyed key gone value heads else impl_RecordOk.j0 k true t keyed key gone value heads) (decide (key.size ≤ 100) && decide (value.size ≤ 100) && (decide (heads.length ≤ 3) && heads.all headOk)) := by
    rw [textOk_eq, textOk_eq]
    simp only [Option.bind_some]
    by_cases hk : key.size ≤ 100
    · by_cases hv : value.size ≤ 100
      · simpa only [decide_eq_true hk, decide_eq_true hv, if_true, Bool.true_and] using hj0
      · simpa only [decide_eq_true hk, decide_eq_false hv, if_true, Bool.true_and, Bool.false_and, Bool.false_eq_true, if_false] using hj
    · simpa only [decide_eq_false hk, Bool.false_and, Bool.false_eq_true, if_false] using hj
  unfold impl_RecordOk.f
  rw [timeOk_eq]
  simp only [Option.bind_some]
  have e : recordOk t keyed key gone value heads = (decide (0 ≤ t ∧ t ≤ 1000000000000) && ((keyed || decide (key.size = 0)) && ((!gone || decide (value.size = 0)) && (decide (key.size ≤ 100) && decide (value.size ≤ 100) && (decide (heads.length ≤ 3) && heads.all headOk))))) := by
    unfold recordOk
    cases decide (0 ≤ t ∧ t ≤ 1000000000000) <;> cases decide (key.size ≤ 100) <;> cases decide (value.size ≤ 100) <;> cases decide (heads.length ≤ 3) <;> cases (keyed || decide (key.size = 0)) <;> cases (!gone || decide (value.size = 0)) <;> cases heads.all headOk <;> rfl
  rw [e]
  by_cases ht : 0 ≤ t ∧ t ≤ 1000000000000
  · simp only [decide_eq_true ht, if_true, Bool.true_and]
    cases keyed <;> cases gone
    · simp only [Bool.false_eq_true, if_false, Bool.false_or, Bool.not_false, Bool.true_or, Bool.true_and]
      by_cases hk : key.size = 0
      · simpa only [if_pos ((toList_nil _).2 hk), decide_eq_true hk, Bool.true_and] using hin
      · simpa only [if_neg (fun h => hk ((toList_nil _).1 h)), decide_eq_false hk, Bool.false_and] using hj
    · simp only [Bool.false_eq_true, if_false, if_true, Bool.false_or, Bool.not_true]
      by_cases hk : key.size = 0
      · by_cases hv : value.size = 0
        · simpa only [if_pos ((toList_nil _).2 hk), if_pos ((toList_nil _).2 hv), decide_eq_true hk, decide_eq_true hv, Bool.true_and] using hin
        · simpa only [if_pos ((toList_nil _).2 hk), if_neg (fun h => hv ((toList_nil _).1 h)), decide_eq_true hk, decide_eq_false hv, Bool.true_and, Bool.false_and] using hj
      · simpa only [if_neg (fun h => hk ((toList_nil _).1 h)), decide_eq_false hk, Bool.false_and] using hj
    · simp only [Bool.false_eq_true, if_false, if_true, Bool.true_or, Bool.not_false, Bool.true_and]
      exact hin
    · simp only [if_true, Bool.true_or, Bool.not_true, Bool.false_or, Bool.true_and]
      by_cases hv : value.size = 0
      · simpa only [if_pos ((toList_nil _).2 hv), decide_eq_true hv, Bool.true_and] using hin
      · simpa only [if_neg (fun h => hv ((toList_nil _).1 h)), decide_eq_false hv, Bool.false_and] using hj
  · simpa only [decide_eq_false ht, Bool.false_eq_true, if_false, Bool.false_and] using hj
end Go.Proofs.Ytoglalgbjobpkaa.G
