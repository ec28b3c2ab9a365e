/-
How large View's answer is; the reference's answer, read. Conditions: the contract's own premises.
-/
import Derived.Test.YtiefpllmnmmdlaaHVw1
import Derived.Test.YtiefpllmnmmdlaaHVw2
import Derived.Test.YtiefpllmnmmdlaaHCnt
namespace Go.Proofs.Ytiefpllmnmmdlaa.H
open Go.RowKit
set_option linter.unusedVariables false
set_option linter.unusedSimpArgs false
theorem MadeS.givesP {xs : List Pair} {w w' : World} {en : Ending} (h : MadeS kPair 64 xs w en w') : GivesK kPair xs w en w' := by
  obtain ⟨v, F, rfl, hT, hF, hb⟩ := h
  obtain ⟨A, c, rfl, hc, _, hr⟩ := TS_read hT
  exact ⟨A, c, rfl, hc, hr, hb⟩
theorem specView_c (w : World) (x : Log) {A : Option Addr} {c : Nat} (hc : x.Segments.length ≤ c) (hr : Row kSegment w A x.Segments) (hs : x.sm) (hw : x.wf) :
    Calls Try.prog 12 #[.agg #[.int .i64 x.Start, .int .i64 x.Next, .int .i64 x.Roll, .slice A x.Segments.length c]] w (GivesK kPair (viewL x) w) := (specView_m w x hc hr hs hw).mono fun _ _ h => h.givesP
theorem vB_mem {x : Log} {b : Batch} {r : Record} : ∀ {l : List Record} {k : Nat}, r ∈ vB x b l k → r ∈ l
  | [], k, h => by simp [vB] at h
  | q :: l, k, h => by
    rw [vB] at h
    rcases List.mem_append.1 h with h | h
    · split at h
      · exact List.mem_cons.2 (.inl (List.mem_singleton.1 h))
      · cases h
    · exact List.mem_cons_of_mem _ (vB_mem h)
theorem lastR_mem {k : ByteArray} {r : Record} : ∀ (n : Nat) (l : List Record), l.length = n → lastR l k = some r → r ∈ l ∧ r.Key = k
  | 0, l, h, hr => by
    obtain rfl := List.eq_nil_of_length_eq_zero h
    cases hr
  | n + 1, l, h, hr => by
    obtain ⟨l', q, rfl⟩ : ∃ l' q, l = l' ++ [q] := by
      rcases List.eq_nil_or_concat l with rfl | ⟨l', q, e⟩
      · simp at h
      · exact ⟨l', q, by simpa using e⟩
    rw [lastR_snoc] at hr
    by_cases e : q.Key.toList = k.toList
    · rw [if_pos e] at hr
      cases hr
      exact ⟨by simp, ba_inj e⟩
    · rw [if_neg e] at hr
      have := lastR_mem n l' (by simpa using h) hr
      exact ⟨List.mem_append.2 (.inl this.1), this.2⟩
theorem viewL_len (x : Log) : (viewL x).length ≤ 16000 := by
  unfold viewL
  split
  · rename_i hok
    have hall := logOk_all hok
    have h1 := viewF_len _ (vL x (allB x)) rfl
    have h2 := vL_len x (allB x) (fun b hb => recs_le2 (hall.2 b hb))
    have := hall.1
    omega
  · exact Nat.zero_le _
theorem viewL_sm {x : Log} (h : x.sm) : (viewL x).length ≤ 1048576 ∧ ∀ p ∈ viewL x, p.sm := by
  refine ⟨Nat.le_trans (viewL_len x) (by omega), fun p hp => ?_⟩
  unfold viewL at hp
  split at hp
  · obtain ⟨r, h1, _, h3⟩ := ((viewF_srt _).2 p).1 hp
    obtain ⟨h4, h5⟩ := lastR_mem _ _ rfl h1
    unfold vL at h4
    obtain ⟨b, hb, h6⟩ := List.mem_flatMap.1 h4
    unfold vBat at h6
    split at h6
    · unfold allB at hb
      obtain ⟨s, hs, hb⟩ := List.mem_flatMap.1 hb
      have h7 := ((h.2 s hs).2 b hb).2 r (vB_mem h6)
      exact ⟨by rw [← h5]; exact h7.1, by rw [← h3]; exact h7.2.1⟩
    · cases h6
  · cases hp
theorem pairs_cnt : ∀ l : List Pair, sumF Pair.cnt l ≤ 4 * l.length
  | [] => by simp [sumF]
  | p :: l => by
    have h := pairs_cnt l
    have h2 : p.cnt ≤ 4 := by rw [Pair.cnt_eq]; omega
    simp only [sumF, List.map_cons, List.sum_cons, List.length_cons] at h ⊢
    omega
theorem viewL_cnt (x : Log) : sumF Pair.cnt (viewL x) ≤ 1000000000 := by
  have h1 := pairs_cnt (viewL x)
  have h2 := viewL_len x
  omega
end Go.Proofs.Ytiefpllmnmmdlaa.H
