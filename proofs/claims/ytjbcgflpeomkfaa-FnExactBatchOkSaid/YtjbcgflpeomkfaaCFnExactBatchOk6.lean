/-
FnExactBatchOk: for every batch the law answers true: the program's BatchOk answers as the reference's, and leaves its argument as it was.
Conditions: none beyond the statement's own.
(Part 6 of 6.)
-/
import Derived.Test.YtjbcgflpeomkfaaRows
import Derived.WalkKit
import Derived.ProofKit
import Derived.OpenShut
import Derived.ShutString
import Derived.ChangeOld
import Derived.Below
import Derived.SizedLaws
import Derived.Test.YtjbcgflpeomkfaaCFnExactBatchOk5
namespace Go.Proofs.Ytjbcgflpeomkfaa.G
open Go.RowKit Go.Proofs.Ytjbcgflpeomkfaa.F Go.Proofs.YtjbcgflpeomkfaaW.PrintWords Go.Proofs.YtjbcgflpeomkfaaW.PrintLast Go.Proofs.YtjbcgflpeomkfaaW.PrintMore
set_option linter.unusedVariables false
set_option linter.unusedSimpArgs false

theorem offsetOk_eq (n : Int) : impl_offsetOk.f n = some (decide (0 ≤ n ∧ n ≤ 1000000000)) := by
  unfold impl_offsetOk.f
  by_cases h : n ≥ 0
  · rw [if_pos h]; congr 1
    by_cases h2 : n ≤ 1000000000
    · rw [decide_eq_true h2, decide_eq_true ⟨h, h2⟩]
    · rw [decide_eq_false h2, decide_eq_false (fun x => h2 x.2)]
  · rw [if_neg h, decide_eq_false (fun x => h x.1)]

def recOk (r : S56) : Bool := recordOk r.f0 r.f1 r.f2 r.f3 r.f4 r.f5
/-- A list of records whose heads' lists are of sizes that the machine's numbers hold. -/
def RecsSm (rs : List S56) : Prop := rs.length ≤ 1048576 ∧ ∀ r ∈ rs, r.f5.length ≤ 1048576
theorem recs_all (xs : List S56) (i : Nat) (hi : i < xs.length) : (xs.drop i).all recOk = (recOk (xs.getD i z56) && (xs.drop (i + 1)).all recOk) := by
  rw [drop_cons xs i z56 hi, List.all_cons]

theorem implRecs_l (xs : List S56) (hn : RecsSm xs) (m : Nat) : ∀ i : Nat, i + m = xs.length → Ev (fun k => impl_recordsOk.l0 k xs (xs.length : Int) (i : Int)) ((xs.drop i).all recOk) := by
  have hl := hn.1
  induction m with
  | zero =>
    intro i hi
    refine Ev.step (f := fun _ => some true) (fun k => by rw [impl_recordsOk.l0, if_neg (by omega)]) ?_
    rw [List.drop_of_length_le (by omega)]; exact Ev.now _
  | succ m ih =>
    intro i hi
    have ew : wrap64 ((i : Int) + 1) = ((i + 1 : Nat) : Int) := by rw [wrapI (by omega) (by omega)]; omega
    have h := ih (i + 1) (by omega)
    have hr : rd_T56 xs (i : Int) = xs.getD i z56 := rfl
    have hx := hn.2 _ (getD_mem xs i z56 (by omega))
    rw [recs_all xs i (by omega)]
    generalize xs.getD i z56 = x at hr hx
    refine Ev.step (fun k => by rw [impl_recordsOk.l0, if_pos (by omega), if_pos (by omega), if_pos (by omega), hr]) (Ev.bind (implRecordOk_ev _ _ _ _ _ _ hx) ?_)
    show Ev _ (recordOk x.f0 x.f1 x.f2 x.f3 x.f4 x.f5 && _)
    cases recordOk x.f0 x.f1 x.f2 x.f3 x.f4 x.f5
    · simp only [Bool.false_eq_true, if_false, Bool.false_and]; exact Ev.now _
    · simp only [if_true, Bool.true_and, ew]; exact h
theorem implRecordsOk_ev (xs : List S56) (hn : RecsSm xs) : Ev (fun k => impl_recordsOk.f k xs) (xs.all recOk) := by
  have h := implRecs_l xs hn xs.length 0 (by omega)
  rw [List.drop_zero] at h
  exact Ev.congr (fun k => by unfold impl_recordsOk.f; rfl) h

def txt1 : List UInt8 := [99, 111, 109, 109, 105, 116]
def txt2 : List UInt8 := [97, 98, 111, 114, 116]
def markRec (r : S56) : Bool := r.f1 && (decide (r.f2.toList = txt1) || decide (r.f2.toList = txt2)) && !r.f3 && decide (r.f4.toList = []) && decide (r.f5.length = 0)
theorem markRec_eq (r : S56) : (if r.f1 = true then (if (r.f2).toList = ([99, 111, 109, 109, 105, 116] : List UInt8) then (if (r.f3 = true) then (some false) else (if (r.f4).toList = ([] : List UInt8) then (some (((r.f5).length : Int) == 0)) else (some false))) else (if (r.f2).toList = ([97, 98, 111, 114, 116] : List UInt8) then (if (r.f3 = true) then (some false) else (if (r.f4).toList = ([] : List UInt8) then (some (((r.f5).length : Int) == 0)) else (some false))) else (some false))) else (some false)) = some (markRec r) := by
  unfold markRec txt1 txt2
  have e : (((r.f5).length : Int) == 0) = decide (r.f5.length = 0) := by
    by_cases h : r.f5.length = 0
    · rw [decide_eq_true h, h]; rfl
    · rw [decide_eq_false h]; exact beq_false_of_ne (by omega)
  rw [e]
  generalize decide (r.f5.length = 0) = q
  by_cases h4 : r.f4.toList = [] <;> by_cases h2 : r.f2.toList = [99, 111, 109, 109, 105, 116] <;> by_cases h3 : r.f2.toList = [97, 98, 111, 114, 116] <;> cases r.f1 <;> cases r.f3 <;> simp [h4, h2, h3]

def batchOk (b e p t s f : Int) (rs : List S56) : Bool :=
  decide (0 ≤ b ∧ b ≤ 1000000000) && decide (0 ≤ e ∧ e ≤ 1000000) && decide (-1 ≤ p ∧ p ≤ 1000000000) && decide (0 ≤ t ∧ t ≤ 1000) && decide (0 ≤ s ∧ s ≤ 1000000000) && decide (0 ≤ f ∧ f ≤ 7) &&
  (decide (1 ≤ (rs.length : Int) ∧ (rs.length : Int) ≤ 40) && (rs.all recOk && (decide (b + rs.length - 1 ≤ 1000000000) && decide (s + rs.length - 1 ≤ 1000000000) && (decide (p ≠ -1) || decide (t = 0 ∧ s = 0 ∧ f / 2 % 2 = 0)) &&
  (decide (f < 4) || (decide (f / 2 % 2 = 1) && decide (rs.length = 1) && markRec (rs.getD 0 z56))))))

theorem specRecs_l (b e p t s f : Int) (xs : List S56) (hn : RecsSm xs) (h1 : 1 ≤ xs.length) (hf2 : f ≥ 4 → f / 2 % 2 = 1) (m : Nat) : ∀ i : Nat, i + m = xs.length → Ev (fun k => spec_BatchOk.l0 k (i : Int) b e p t s f xs) ((xs.drop i).all recOk && (decide (f < 4) || (decide (f / 2 % 2 = 1) && decide (xs.length = 1) && markRec (xs.getD 0 z56)))) := by
  have hl := hn.1
  induction m with
  | zero =>
    intro i hi
    rw [List.drop_of_length_le (by omega), List.all_nil, Bool.true_and]
    refine Ev.step (f := fun _ => some (decide (f < 4) || (decide (f / 2 % 2 = 1) && decide (xs.length = 1) && markRec (xs.getD 0 z56)))) (fun k => ?_) (Ev.now _)
    rw [spec_BatchOk.l0, if_neg (by omega)]
    have hr : rd_T56 xs 0 = xs.getD 0 z56 := rfl
    by_cases hf : f ≥ 4
    · have := hf2 hf
      rw [if_pos hf, if_pos (by omega), hr, decide_eq_false (show ¬ f < 4 by omega), decide_eq_true this, Bool.false_or, Bool.true_and]
      by_cases hx : xs.length = 1
      · rw [if_pos (by omega), decide_eq_true hx, Bool.true_and]; exact markRec_eq _
      · rw [if_neg (by omega), decide_eq_false hx, Bool.false_and]
    · rw [if_neg hf, decide_eq_true (show f < 4 by omega), Bool.true_or]
  | succ m ih =>
    intro i hi
    have ew : wrap64 ((i : Int) + 1) = ((i + 1 : Nat) : Int) := by rw [wrapI (by omega) (by omega)]; omega
    have h := ih (i + 1) (by omega)
    have hr : rd_T56 xs (i : Int) = xs.getD i z56 := rfl
    have hx := hn.2 _ (getD_mem xs i z56 (by omega))
    rw [recs_all xs i (by omega)]
    generalize xs.getD i z56 = x at hr hx
    refine Ev.step (fun k => by rw [spec_BatchOk.l0, if_pos (by omega), if_pos (by omega), hr]) (Ev.bind (specRecordOk_ev _ _ _ _ _ _ hx) ?_)
    show Ev _ (recordOk x.f0 x.f1 x.f2 x.f3 x.f4 x.f5 && _ && _)
    cases recordOk x.f0 x.f1 x.f2 x.f3 x.f4 x.f5
    · simp only [Bool.false_eq_true, if_false, Bool.false_and]; exact Ev.now _
    · simp only [if_true, Bool.true_and, ew]; exact h
theorem specBatchOk_ev (b e p t s f : Int) (xs : List S56) (hn : RecsSm xs) : Ev (fun k => spec_BatchOk.f k b e p t s f xs) (batchOk b e p t s f xs) := by
  have hl := hn.1
  have hj : Ev (fun k => spec_BatchOk.j0 k true b e p t s f xs) false := Ev.step (f := fun _ => some false) (fun k => by rw [spec_BatchOk.j0, if_pos rfl]) (Ev.now _)
  have hj1 : Ev (fun k => spec_BatchOk.j1 k true b e p t s f xs) false := Ev.step (f := fun _ => some false) (fun k => by rw [spec_BatchOk.j1, if_pos rfl]) (Ev.now _)
  have hj2 : Ev (fun k => spec_BatchOk.j2 k true b e p t s f xs) false := Ev.step (f := fun _ => some false) (fun k => by rw [spec_BatchOk.j2, if_pos rfl]) (Ev.now _)
  unfold spec_BatchOk.f batchOk
  simp only [l1In_eq, Option.bind_some]
  by_cases h1 : 0 ≤ b ∧ b ≤ 1000000000
  case neg => simpa only [decide_eq_false h1, Bool.false_eq_true, if_false, Bool.false_and] using hj
  by_cases h2 : 0 ≤ e ∧ e ≤ 1000000
  case neg => simpa only [decide_eq_true h1, decide_eq_false h2, if_true, Bool.false_eq_true, if_false, Bool.true_and, Bool.false_and] using hj
  by_cases h3 : -1 ≤ p ∧ p ≤ 1000000000
  case neg => simpa only [decide_eq_true h1, decide_eq_true h2, decide_eq_false h3, if_true, Bool.false_eq_true, if_false, Bool.true_and, Bool.false_and] using hj
  by_cases h4 : 0 ≤ t ∧ t ≤ 1000
  case neg => simpa only [decide_eq_true h1, decide_eq_true h2, decide_eq_true h3, decide_eq_false h4, if_true, Bool.false_eq_true, if_false, Bool.true_and, Bool.false_and] using hj
  by_cases h5 : 0 ≤ s ∧ s ≤ 1000000000
  case neg => simpa only [decide_eq_true h1, decide_eq_true h2, decide_eq_true h3, decide_eq_true h4, decide_eq_false h5, if_true, Bool.false_eq_true, if_false, Bool.true_and, Bool.false_and] using hj
  by_cases h6 : 0 ≤ f ∧ f ≤ 7
  case neg => simpa only [decide_eq_true h1, decide_eq_true h2, decide_eq_true h3, decide_eq_true h4, decide_eq_true h5, decide_eq_false h6, if_true, Bool.not_false, Bool.true_and, Bool.false_and] using hj
  simp only [decide_eq_true h1, decide_eq_true h2, decide_eq_true h3, decide_eq_true h4, decide_eq_true h5, decide_eq_true h6, if_true, Bool.not_true, Bool.true_and]
  have ef : Int.tmod (wrap64 (Int.tdiv f 2)) 2 = f / 2 % 2 := by rw [tdiv_pos (by omega), wrapI (by omega) (by omega), tmod_pos (by omega)]
  -- what stands behind the second cut
  have hB : (f ≥ 4 → f / 2 % 2 = 1) → Ev (fun k => spec_BatchOk.j1 k false b e p t s f xs) (decide (1 ≤ (xs.length : Int) ∧ (xs.length : Int) ≤ 40) && (xs.all recOk && (decide (b + xs.length - 1 ≤ 1000000000) && decide (s + xs.length - 1 ≤ 1000000000) && (decide (f < 4) || (decide (f / 2 % 2 = 1) && decide (xs.length = 1) && markRec (xs.getD 0 z56)))))) := by
    intro hf2
    refine Ev.step (fun k => by rw [spec_BatchOk.j1, if_neg (by decide), l1In_eq, Option.bind_some]) ?_
    by_cases g1 : 1 ≤ (xs.length : Int) ∧ (xs.length : Int) ≤ 40
    case neg => simpa only [decide_eq_false g1, Bool.false_eq_true, if_false, Bool.false_and] using hj2
    have eb : wrap64 (wrap64 (b + (xs.length : Int)) - 1) = b + xs.length - 1 := by rw [wrapI (x := b + (xs.length : Int)) (by omega) (by omega), wrapI (by omega) (by omega)]
    have es : wrap64 (wrap64 (s + (xs.length : Int)) - 1) = s + xs.length - 1 := by rw [wrapI (x := s + (xs.length : Int)) (by omega) (by omega), wrapI (by omega) (by omega)]
    simp only [decide_eq_true g1, if_true, Bool.true_and, eb, es]
    by_cases g2 : b + (xs.length : Int) - 1 ≤ 1000000000
    case neg => simpa only [if_pos (show b + (xs.length : Int) - 1 > 1000000000 by omega), decide_eq_false g2, Bool.false_and, Bool.and_false] using hj2
    simp only [if_neg (show ¬ b + (xs.length : Int) - 1 > 1000000000 by omega), decide_eq_true g2, Bool.true_and]
    by_cases g3 : s + (xs.length : Int) - 1 ≤ 1000000000
    case neg => simpa only [decide_eq_true (show s + (xs.length : Int) - 1 > 1000000000 by omega), decide_eq_false g3, Bool.false_and, Bool.and_false] using hj2
    simp only [decide_eq_false (show ¬ s + (xs.length : Int) - 1 > 1000000000 by omega), decide_eq_true g3, Bool.true_and]
    have h := specRecs_l b e p t s f xs hn (by omega) hf2 xs.length 0 (by omega)
    rw [List.drop_zero] at h
    exact Ev.step (fun k => by rw [spec_BatchOk.j2, if_neg (by decide)]; rfl) h
  have hC : Ev (fun k => if f ≥ 4 then spec_BatchOk.j1 k (f / 2 % 2 == 0) b e p t s f xs else spec_BatchOk.j1 k false b e p t s f xs) (decide (1 ≤ (xs.length : Int) ∧ (xs.length : Int) ≤ 40) && (xs.all recOk && (decide (b + xs.length - 1 ≤ 1000000000) && decide (s + xs.length - 1 ≤ 1000000000) && (decide (f < 4) || (decide (f / 2 % 2 = 1) && decide (xs.length = 1) && markRec (xs.getD 0 z56)))))) := by
    by_cases g : f ≥ 4
    · simp only [if_pos g]
      by_cases g2 : f / 2 % 2 = 0
      · simp only [g2, beq_self_eq_true, decide_eq_false (show ¬ f < 4 by omega), decide_eq_false (show ¬ ((0 : Int) = 1) by decide), Bool.false_and, Bool.or_false, Bool.and_false]
        exact hj1
      · simp only [beq_false_of_ne g2]
        exact hB (fun _ => by omega)
    · simp only [if_neg g]
      exact hB (fun x => absurd x g)
  refine Ev.step (fun k => by rw [spec_BatchOk.j0, if_neg (by decide), ef]) ?_
  by_cases g : p < 0
  · simp only [if_pos g, decide_eq_false (show ¬ p ≠ -1 by omega), Bool.false_or]
    by_cases g1 : t = 0
    case neg => simpa only [if_neg g1, decide_eq_false (show ¬ (t = 0 ∧ s = 0 ∧ f / 2 % 2 = 0) from fun x => g1 x.1), Bool.false_and, Bool.and_false] using hj1
    by_cases g2 : s = 0
    case neg => simpa only [if_pos g1, if_neg g2, decide_eq_false (show ¬ (t = 0 ∧ s = 0 ∧ f / 2 % 2 = 0) from fun x => g2 x.2.1), Bool.false_and, Bool.and_false] using hj1
    by_cases g3 : f / 2 % 2 = 1
    · simpa only [if_pos g1, if_pos g2, if_pos g3, decide_eq_false (show ¬ (t = 0 ∧ s = 0 ∧ f / 2 % 2 = 0) from fun x => by omega), Bool.false_and, Bool.and_false] using hj1
    · simp only [if_pos g1, if_pos g2, if_neg g3, decide_eq_true (show t = 0 ∧ s = 0 ∧ f / 2 % 2 = 0 from ⟨g1, g2, by omega⟩), Bool.and_true]
      exact hC
  · simp only [if_neg g, decide_eq_true (show p ≠ -1 by omega), Bool.true_or, Bool.and_true]
    exact hC

set_option maxRecDepth 10000 in
theorem flag2 (f : Int) (h0 : 0 ≤ f) (h : f ≤ 7) : Go.bits .and .i64 f 2 = f / 2 % 2 * 2 := by
  obtain ⟨n, rfl⟩ := Int.eq_ofNat_of_zero_le h0
  have hn : n < 8 := by omega
  have : ∀ m : Nat, m < 8 → Go.bits .and .i64 (m : Int) 2 = (m : Int) / 2 % 2 * 2 := by decide
  exact this n hn
set_option maxRecDepth 10000 in
theorem flag4 (f : Int) (h0 : 0 ≤ f) (h : f ≤ 7) : Go.bits .and .i64 f 4 = f / 4 * 4 := by
  obtain ⟨n, rfl⟩ := Int.eq_ofNat_of_zero_le h0
  have hn : n < 8 := by omega
  have : ∀ m : Nat, m < 8 → Go.bits .and .i64 (m : Int) 4 = (m : Int) / 4 * 4 := by decide
  exact this n hn
theorem implBatchOk_ev (b e p t s f : Int) (xs : List S56) (hn : RecsSm xs) : Ev (fun k => impl_BatchOk.f k b e p t s f xs) (batchOk b e p t s f xs) := by
  have hl := hn.1
  have hj : Ev (fun k => impl_BatchOk.j0 k (xs.length : Int) true b e p t s f xs) false := Ev.step (f := fun _ => some false) (fun k => by rw [impl_BatchOk.j0, if_pos rfl]) (Ev.now _)
  have hj1 : Ev (fun k => impl_BatchOk.j1 k (xs.length : Int) true b e p t s f xs) false := Ev.step (f := fun _ => some false) (fun k => by rw [impl_BatchOk.j1, if_pos rfl]) (Ev.now _)
  unfold impl_BatchOk.f batchOk
  simp only [offsetOk_eq, within_eq, Option.bind_some]
  by_cases h1 : 0 ≤ b ∧ b ≤ 1000000000
  case neg => simpa only [decide_eq_false h1, Bool.false_eq_true, if_false, Bool.false_and] using hj
  by_cases h2 : 0 ≤ e ∧ e ≤ 1000000
  case neg => simpa only [decide_eq_true h1, decide_eq_false h2, if_true, Bool.false_eq_true, if_false, Bool.true_and, Bool.false_and] using hj
  by_cases h3 : -1 ≤ p ∧ p ≤ 1000000000
  case neg => simpa only [decide_eq_true h1, decide_eq_true h2, decide_eq_false h3, if_true, Bool.false_eq_true, if_false, Bool.true_and, Bool.false_and] using hj
  by_cases h4 : 0 ≤ t ∧ t ≤ 1000
  case neg => simpa only [decide_eq_true h1, decide_eq_true h2, decide_eq_true h3, decide_eq_false h4, if_true, Bool.false_eq_true, if_false, Bool.true_and, Bool.false_and] using hj
  by_cases h5 : 0 ≤ s ∧ s ≤ 1000000000
  case neg => simpa only [decide_eq_true h1, decide_eq_true h2, decide_eq_true h3, decide_eq_true h4, decide_eq_false h5, if_true, Bool.false_eq_true, if_false, Bool.true_and, Bool.false_and] using hj
  by_cases h6 : 0 ≤ f ∧ f ≤ 7
  case neg => simpa only [decide_eq_true h1, decide_eq_true h2, decide_eq_true h3, decide_eq_true h4, decide_eq_true h5, decide_eq_false h6, if_true, Bool.false_eq_true, if_false, Bool.true_and, Bool.false_and] using hj
  by_cases h7 : 1 ≤ (xs.length : Int) ∧ (xs.length : Int) ≤ 40
  case neg => simpa only [decide_eq_true h1, decide_eq_true h2, decide_eq_true h3, decide_eq_true h4, decide_eq_true h5, decide_eq_true h6, decide_eq_false h7, if_true, Bool.false_eq_true, if_false, Bool.true_and, Bool.false_and] using hj
  simp only [decide_eq_true h1, decide_eq_true h2, decide_eq_true h3, decide_eq_true h4, decide_eq_true h5, decide_eq_true h6, decide_eq_true h7, if_true, Bool.true_and]
  refine Ev.bind (implRecordsOk_ev xs hn) ?_
  cases hra : xs.all recOk
  case false => simpa only [Bool.not_false, Bool.false_and] using hj
  simp only [Bool.not_true, Bool.true_and]
  have eb : wrap64 (wrap64 (b + (xs.length : Int)) - 1) = b + xs.length - 1 := by rw [wrapI (x := b + (xs.length : Int)) (by omega) (by omega), wrapI (by omega) (by omega)]
  have es : wrap64 (wrap64 (s + (xs.length : Int)) - 1) = s + xs.length - 1 := by rw [wrapI (x := s + (xs.length : Int)) (by omega) (by omega), wrapI (by omega) (by omega)]
  refine Ev.step (fun k => by rw [impl_BatchOk.j0, if_neg (by decide), eb, es]) ?_
  simp only [offsetOk_eq, Option.bind_some]
  by_cases g2 : b + (xs.length : Int) - 1 ≤ 1000000000
  case neg => simpa only [decide_eq_false (show ¬ (0 ≤ b + (xs.length : Int) - 1 ∧ b + (xs.length : Int) - 1 ≤ 1000000000) from fun x => g2 x.2), decide_eq_false g2, Bool.false_eq_true, if_false, Bool.false_and] using hj1
  by_cases g3 : s + (xs.length : Int) - 1 ≤ 1000000000
  case neg => simpa only [decide_eq_true (show 0 ≤ b + (xs.length : Int) - 1 ∧ b + (xs.length : Int) - 1 ≤ 1000000000 from ⟨by omega, g2⟩), decide_eq_false (show ¬ (0 ≤ s + (xs.length : Int) - 1 ∧ s + (xs.length : Int) - 1 ≤ 1000000000) from fun x => g3 x.2), decide_eq_true g2, decide_eq_false g3, if_true, Bool.false_eq_true, if_false, Bool.false_and, Bool.and_false] using hj1
  simp only [decide_eq_true (show 0 ≤ b + (xs.length : Int) - 1 ∧ b + (xs.length : Int) - 1 ≤ 1000000000 from ⟨by omega, g2⟩), decide_eq_true (show 0 ≤ s + (xs.length : Int) - 1 ∧ s + (xs.length : Int) - 1 ≤ 1000000000 from ⟨by omega, g3⟩), decide_eq_true g2, decide_eq_true g3, if_true, Bool.true_and, flag2 f h6.1 h6.2]
  have hE : Ev (fun k => impl_BatchOk.j1 k (xs.length : Int) false b e p t s f xs) (decide (f < 4) || (decide (f / 2 % 2 = 1) && decide (xs.length = 1) && markRec (xs.getD 0 z56))) := by
    refine Ev.step (f := fun _ => some (decide (f < 4) || (decide (f / 2 % 2 = 1) && decide (xs.length = 1) && markRec (xs.getD 0 z56)))) (fun k => ?_) (Ev.now _)
    have hr : rd_T56 xs 0 = xs.getD 0 z56 := rfl
    rw [impl_BatchOk.j1, if_neg (by decide), flag4 f h6.1 h6.2, flag2 f h6.1 h6.2]
    by_cases g4 : f < 4
    · rw [if_pos (by omega), decide_eq_true g4, Bool.true_or]
    · rw [if_neg (by omega), if_pos (by omega), decide_eq_false g4, Bool.false_or]
      by_cases g5 : f / 2 % 2 = 1
      · rw [if_neg (by omega), decide_eq_true g5, Bool.true_and, hr]
        by_cases g6 : xs.length = 1
        · rw [if_pos (by omega), decide_eq_true g6, Bool.true_and]; exact markRec_eq _
        · rw [if_neg (by omega), decide_eq_false g6, Bool.false_and]
      · rw [if_pos (by omega), decide_eq_false g5, Bool.false_and, Bool.false_and]
  by_cases g : p = -1
  · simp only [if_pos g, decide_eq_false (show ¬ p ≠ -1 from fun x => x g), Bool.false_or]
    by_cases k1 : t = 0
    case neg => simpa only [if_neg k1, decide_eq_false (show ¬ (t = 0 ∧ s = 0 ∧ f / 2 % 2 = 0) from fun x => k1 x.1), Bool.false_and] using hj1
    by_cases k2 : s = 0
    case neg => simpa only [if_pos k1, if_neg k2, decide_eq_false (show ¬ (t = 0 ∧ s = 0 ∧ f / 2 % 2 = 0) from fun x => k2 x.2.1), Bool.false_and] using hj1
    simp only [if_pos k1, if_pos k2]
    by_cases k3 : f / 2 % 2 = 0
    · have e1 : (f / 2 % 2 * 2 != 0) = false := by rw [k3]; rfl
      simp only [e1, decide_eq_true (show t = 0 ∧ s = 0 ∧ f / 2 % 2 = 0 from ⟨k1, k2, k3⟩), Bool.true_and]
      exact hE
    · have : (f / 2 % 2 * 2 != 0) = true := bne_iff_ne.2 (by omega)
      simpa only [this, decide_eq_false (show ¬ (t = 0 ∧ s = 0 ∧ f / 2 % 2 = 0) from fun x => k3 x.2.2), Bool.false_and] using hj1
  · simp only [if_neg g, decide_eq_true (show p ≠ -1 from g), Bool.true_or, Bool.true_and]
    exact hE
end Go.Proofs.Ytjbcgflpeomkfaa.G

namespace Go.Proofs.Ytjbcgflpeomkfaa.G
open Go.Proofs.Ytjbcgflpeomkfaa.F
theorem recsSm {xs : List S56} (h : xs.length ≤ 1048576 ∧ ∀ y ∈ xs, Sm56 y) : RecsSm xs := ⟨h.1, fun r hr => (h.2 r hr).2.2.1⟩
end Go.Proofs.Ytjbcgflpeomkfaa.G

namespace Go.Proofs.Ytjbcgflpeomkfaa.G
theorem strLim {s : ByteArray} (h : Open.wfStr s) : s.size ≤ 9223372036854775807 := by simp only [Open.wfStr, maxLen] at h; omega
theorem listLim {α : Type} {W : α → Prop} {xs : List α} (h : Open.wfList W xs) : xs.length ≤ 9223372036854775807 := by have := h.1; simp only [maxLen] at this; omega
theorem strsLim {xs : List ByteArray} (h : Open.wfList Open.wfStr xs) : xs.length ≤ 9223372036854775807 ∧ ∀ y ∈ xs, y.size ≤ 9223372036854775807 := ⟨listLim h, fun y hy => strLim (h.2 y hy)⟩
end Go.Proofs.Ytjbcgflpeomkfaa.G

namespace Go.Proofs.Ytjbcgflpeomkfaa.G
open Go.RowKit Go.Proofs.Ytjbcgflpeomkfaa Go.Proofs.Ytjbcgflpeomkfaa.F Go.Proofs.YtjbcgflpeomkfaaW.PrintWords
set_option linter.unusedVariables false

theorem lim_Head {x : S93} (h : Kinds.Wf93 x) : Lim93 x := ⟨(strLim h.1), (strLim h.2)⟩
theorem limS_Head {xs : List S93} (h : Open.wfList Kinds.Wf93 xs) : xs.length ≤ 9223372036854775807 ∧ ∀ y ∈ xs, Lim93 y := ⟨listLim h, fun y hy => lim_Head (h.2 y hy)⟩
theorem sm_Head {x : S93} (h : Sm93 x) : Sm74 (convHead x) := ⟨h.1, h.2⟩
theorem smS_Head {xs : List S93} (h : xs.length ≤ 1048576 ∧ ∀ y ∈ xs, Sm93 y) : (xs.map convHead).length ≤ 1048576 ∧ ∀ y ∈ xs.map convHead, Sm74 y := ⟨by simpa using h.1, fun y hy => by obtain ⟨z, hz, rfl⟩ := List.mem_map.1 hy; exact sm_Head (h.2 z hz)⟩

end Go.Proofs.Ytjbcgflpeomkfaa.G

namespace Go.Proofs.Ytjbcgflpeomkfaa.G
open Go.RowKit Go.Proofs.Ytjbcgflpeomkfaa Go.Proofs.Ytjbcgflpeomkfaa.F Go.Proofs.YtjbcgflpeomkfaaW.PrintWords
set_option linter.unusedVariables false

theorem lim_Record {x : S72} (h : Kinds.Wf72 x) : Lim72 x := ⟨(strLim h.2.2.1), (strLim h.2.2.2.2.1), (limS_Head h.2.2.2.2.2)⟩
theorem limS_Record {xs : List S72} (h : Open.wfList Kinds.Wf72 xs) : xs.length ≤ 9223372036854775807 ∧ ∀ y ∈ xs, Lim72 y := ⟨listLim h, fun y hy => lim_Record (h.2 y hy)⟩
theorem sm_Record {x : S72} (h : Sm72 x) : Sm56 (convRecord x) := ⟨h.1, h.2.1, (smS_Head h.2.2)⟩
theorem smS_Record {xs : List S72} (h : xs.length ≤ 1048576 ∧ ∀ y ∈ xs, Sm72 y) : (xs.map convRecord).length ≤ 1048576 ∧ ∀ y ∈ xs.map convRecord, Sm56 y := ⟨by simpa using h.1, fun y hy => by obtain ⟨z, hz, rfl⟩ := List.mem_map.1 hy; exact sm_Record (h.2 z hz)⟩

end Go.Proofs.Ytjbcgflpeomkfaa.G

namespace Go.Proofs.Ytjbcgflpeomkfaa.G
open Go.RowKit Go.Proofs.Ytjbcgflpeomkfaa Go.Proofs.Ytjbcgflpeomkfaa.F Go.Proofs.YtjbcgflpeomkfaaW.PrintWords
set_option linter.unusedVariables false

theorem lim_Batch {x : S24} (h : Kinds.Wf24 x) : Lim24 x := (limS_Record h.2.2.2.2.2.2)
theorem limS_Batch {xs : List S24} (h : Open.wfList Kinds.Wf24 xs) : xs.length ≤ 9223372036854775807 ∧ ∀ y ∈ xs, Lim24 y := ⟨listLim h, fun y hy => lim_Batch (h.2 y hy)⟩
theorem sm_Batch {x : S24} (h : Sm24 x) : Sm29 (convBatch x) := (smS_Record h)
theorem smS_Batch {xs : List S24} (h : xs.length ≤ 1048576 ∧ ∀ y ∈ xs, Sm24 y) : (xs.map convBatch).length ≤ 1048576 ∧ ∀ y ∈ xs.map convBatch, Sm29 y := ⟨by simpa using h.1, fun y hy => by obtain ⟨z, hz, rfl⟩ := List.mem_map.1 hy; exact sm_Batch (h.2 z hz)⟩

end Go.Proofs.Ytjbcgflpeomkfaa.G

namespace Go.Proofs.Ytjbcgflpeomkfaa.Pure
open Go.RowKit Go.Proofs.Ytjbcgflpeomkfaa.F Go.Proofs.Ytjbcgflpeomkfaa.G Go.Proofs.Ytjbcgflpeomkfaa Go.Proofs.YtjbcgflpeomkfaaW.PrintWords Go.Proofs.YtjbcgflpeomkfaaW.PrintLast Go.Proofs.YtjbcgflpeomkfaaW.PrintMore
set_option linter.unusedVariables false

theorem FnExactBatchOk (a0_0 : Int) (a0_1 : Int) (a0_2 : Int) (a0_3 : Int) (a0_4 : Int) (a0_5 : Int) (a0_6 : List (S72)) (w0 : KindsFnExactBatchOk.wp24 (a0_0, a0_1, a0_2, a0_3, a0_4, a0_5, a0_6)) : Ev (fun k => laws_FnExactBatchOk.f k a0_0 a0_1 a0_2 a0_3 a0_4 a0_5 a0_6) true := by
  obtain ⟨_, _, _, _, _, _, wr⟩ := w0
  obtain ⟨r, q, l, s⟩ := szBatch_ev a0_0 a0_1 a0_2 a0_3 a0_4 a0_5 a0_6 1048576 (by omega) (by omega) (limS_Record wr)
  unfold laws_FnExactBatchOk.f
  refine Ev.bind q ?_
  by_cases c : r < 0
  · simp only [if_pos c]; exact Ev.now _
  simp only [if_neg c]
  have hs := s (by omega)
  have ht := toBatch_ev a0_0 a0_1 a0_2 a0_3 a0_4 a0_5 a0_6 hs
  have hm := smS_Record hs
  have hr := recsSm hm
  refine Ev.bind ht (Ev.bind (specBatchOk_ev _ _ _ _ _ _ _ hr) (Ev.bind ht (Ev.bind (implBatchOk_ev _ _ _ _ _ _ _ hr) ?_)))
  simp only [bne_self_eq_false, Bool.false_eq_true, if_false]
  refine Ev.bind ht (Ev.bind (eqBatch_ev _ _ _ _ _ _ _ hm) ?_)
  simp only [if_true]
  exact Ev.now _
end Go.Proofs.Ytjbcgflpeomkfaa.Pure

namespace Go.Proofs.Ytjbcgflpeomkfaa.fnExactBatchOk
open Go.ChangeShapes Go.WideShapes Go.ChangeAt Go.RowKit
open Go.ChangeMaps (open_string shut_string)
open Go.Proofs.YtjbcgflpeomkfaaW.PrintWords Go.Proofs.Ytjbcgflpeomkfaa.F
set_option linter.unusedVariables false
theorem own : ownKnob Try.prog.godebug = none := by kernel_rfl
theorem laidOut : laidOutB Try.prog = true := by kernel_rfl
set_option maxRecDepth 100000 in
theorem lifted (os : Os) (started : os.Started) (H : Type) (enc : TypeId × Value → H) :
    ReturnsInHanded {} Try.checked os 3 .any (Rows.fnExactBatchOkSpec.pre6 enc Try.prog Try.f3 Rows.fnExactBatchOkRow.domain false) (Rows.fnExactBatchOkSpec.post enc Try.prog Try.f3 false true false false) := by
  refine returnsInHanded_of_change_sized (C := Try.checked) own started (by kernel_rfl) Try.func3
    (ChangeSpec.witness6 (enc := enc) (C := Try.checked) false ⟨#[], #[.agg #[.int .i64 0, .int .i64 0, .int .i64 0, .int .i64 0, .int .i64 0, .int .i64 0, .slice none 0 0]], []⟩ 8 (by kernel_rfl) (by kernel_rfl) (by kernel_rfl) (by kernel_rfl)) ?_
  intro W base args ds gs before hval0 hW hcnd hsz0 _
  have hval : ∀ (j : Nat) t v, Try.f3.params[j]? = some t → args[j]? = some v → Value.okWide Try.prog W .any base t v := hval0
  have hW' := hW
  obtain ⟨p, q, hA0, hV, rfl, hfz, hnd⟩ := hW
  have hA : DataW.TrodAll enc Try.prog W 0 (fun _ => true) true Try.f3.params.toList args.toList ds p := hA0
  rw [Try.params3] at hA hval
  obtain ⟨v0, vs0, d0, ds0, p0, q0, hargs, rfl, rfl, h0, r0⟩ := trodAll_cons hA
  obtain ⟨rfl, rfl, rfl⟩ := trodAll_nil r0
  obtain rfl : args = #[v0] := by cases args; simp_all
  obtain ⟨rfl, rfl⟩ := trodVars_none hV
  have k0 := h0
  have lt0 : ∀ x ∈ p0, x.block < W.heap.size := by obtain ⟨m, hm⟩ := k0; exact DataW.trod_lt m _ _ _ hm
  obtain ⟨cs0, rfl, _⟩ := okWide_struct Try.underlying24 (hval 0 24 v0 rfl rfl)
  obtain ⟨⟨a0_0, a0_1, a0_2, a0_3, a0_4, a0_5, a0_6⟩, hK0, w0⟩ : ∃ y, KindsFnExactBatchOk.kp24.K W y cs0.toList ∧ KindsFnExactBatchOk.wp24 y := by
    obtain ⟨fuel, hf⟩ := h0
    exact KindsFnExactBatchOk.rdp24.out hf
  obtain ⟨Aa0_6, ca0_6, e0, la0_6, ga0_6⟩ := KindsFnExactBatchOk.kp24_open hK0
  obtain rfl : cs0 = #[.int .i64 a0_0, .int .i64 a0_1, .int .i64 a0_2, .int .i64 a0_3, .int .i64 a0_4, .int .i64 a0_5, .slice Aa0_6 a0_6.length ca0_6] := Array.toList_inj.1 e0
  clear hA0 hval0 hsz0
  obtain ⟨kk, hk⟩ := Ev.rounds (Pure.FnExactBatchOk a0_0 a0_1 a0_2 a0_3 a0_4 a0_5 a0_6 w0)
  refine (F.laws_FnExactBatchOk.calls kk a0_0 a0_1 a0_2 a0_3 a0_4 a0_5 Aa0_6 ca0_6 a0_6 true W ga0_6 la0_6 hk).mono fun e W' ⟨he, bel⟩ => ?_
  subst he
  exact ⟨_, rfl, _, _, _, [], _, [], hW', trodAll_mk1 (shut_bool Try.underlying4 _), (trodAll_cons_mk (Below.trod laidOut (by kernel_rfl) (of_decide_eq_true (by kernel_rfl)) k0 bel lt0) trodAll_mk0), rfl, bel.frame _, fun h => by cases h⟩
theorem over : Rows.fnExactBatchOkRow.holds Try.pinned (OpenSpec.ofChange Rows.fnExactBatchOkSpec) :=
  OpenClaim.holds_of_wide 3 Try.f3 rfl rfl rfl rfl rfl rfl rfl ⟨rfl, rfl, rfl, rfl, rfl⟩ rfl rfl rfl rfl rfl (by kernel_rfl) Try.func3 (by kernel_rfl)
    (of_decide_eq_true (by kernel_rfl)) (by unfold Func.isWrapper; first | (rw [if_pos (by decide +kernel)]; kernel_rfl) | (rw [if_neg (by decide +kernel)]; exact ⟨rfl, rfl⟩))
    (fun os started H enc _ => lifted os started H enc)
theorem proved : Rows.FnExactBatchOkSaid := over
#print axioms proved
end Go.Proofs.Ytjbcgflpeomkfaa.fnExactBatchOk
namespace Go.Proofs.Ytjbcgflpeomkfaa
/-- The row, under a short name, for the claim. -/
theorem fnExactBatchOk_holds : Rows.FnExactBatchOkSaid := fnExactBatchOk.proved
end Go.Proofs.Ytjbcgflpeomkfaa
