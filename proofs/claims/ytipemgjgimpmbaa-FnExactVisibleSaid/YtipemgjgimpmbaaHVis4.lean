/-
What Visible reads is no larger than its log. No program in sight. Conditions: none.
-/
import Derived.Test.YtipemgjgimpmbaaHVis3
import Derived.Test.YtipemgjgimpmbaaHCut6
import Derived.Test.YtipemgjgimpmbaaHMkDef
namespace Go.Proofs.Ytipemgjgimpmbaa.H
open Go.RowKit
set_option linter.unusedVariables false
theorem headC : ∀ l : List Head, sumF Head.cnt l = 2 * l.length
  | [] => rfl
  | h :: r => by
    have e : sumF Head.cnt (h :: r) = Head.cnt h + sumF Head.cnt r := by simp only [sumF, List.map_cons, List.sum_cons]
    rw [e, headC r, List.length_cons]
    unfold Head.cnt
    omega
theorem readB_cnt (fr en : Int) (b : Batch) (k : Nat) (r : Record) : sumF Read.cnt (readB fr en b k r) ≤ 6 * (1 + r.sz) := by
  have h1 : r.Heads.length ≤ r.sz := by unfold Record.sz; have := szL_len Head.sz r.Heads; omega
  have h2 := headC r.Heads
  unfold readB
  split
  · have e : sumF Read.cnt [(⟨b.Base + k, r⟩ : Read)] = Read.cnt ⟨b.Base + k, r⟩ := by simp [sumF]
    rw [e]
    have e2 : Read.cnt ⟨b.Base + k, r⟩ = 6 + sumF Head.cnt r.Heads := rfl
    omega
  · have e : sumF Read.cnt [] = 0 := rfl
    omega
theorem readsB_cnt (fr en : Int) (b : Batch) : ∀ (l : List Record) (k : Nat), sumF Read.cnt (readsB fr en b l k) ≤ 6 * szL Record.sz l
  | [], _ => Nat.zero_le _
  | r :: l, k => by
    rw [readsB, sumF_app, szL_cons]
    have := readB_cnt fr en b k r
    have := readsB_cnt fr en b l (k + 1)
    omega
theorem vis_cnt (st : Bool) (gs : List Gone) (fr en : Int) : ∀ l : List Batch, sumF Read.cnt (visL st gs fr en l) ≤ 6 * sumF Batch.sz l
  | [] => Nat.zero_le _
  | b :: r => by
    have e : sumF Batch.sz (b :: r) = b.sz + sumF Batch.sz r := by simp only [sumF, List.map_cons, List.sum_cons]
    rw [visL, sumF_app, e]
    have h1 := vis_cnt st gs fr en r
    have h3 : sumF Read.cnt (visB st gs fr en b) ≤ 6 * b.sz := by
      unfold visB
      split
      · exact Nat.zero_le _
      · split
        · exact Nat.zero_le _
        · exact readsB_cnt _ _ _ _ _
    omega
theorem readsB_mem {fr en : Int} {b : Batch} {y : Read} : ∀ {l : List Record} {k : Nat}, y ∈ readsB fr en b l k → y.Record ∈ l
  | [], _, h => by cases h
  | r :: l, k, h => by
    rw [readsB] at h
    rcases List.mem_append.1 h with h | h
    · unfold readB at h
      split at h
      · rw [List.mem_singleton] at h
        subst h
        exact List.mem_cons_self
      · cases h
    · exact List.mem_cons_of_mem _ (readsB_mem h)
theorem vis_mem {st : Bool} {gs : List Gone} {fr en : Int} {y : Read} : ∀ {l : List Batch}, y ∈ visL st gs fr en l → ∃ b ∈ l, y.Record ∈ b.Records
  | [], h => by cases h
  | b :: r, h => by
    rw [visL] at h
    rcases List.mem_append.1 h with h | h
    · unfold visB at h
      split at h
      · cases h
      · split at h
        · cases h
        · exact ⟨b, List.mem_cons_self, readsB_mem h⟩
    · obtain ⟨c, h1, h2⟩ := vis_mem h
      exact ⟨c, List.mem_cons_of_mem _ h1, h2⟩
theorem visF_cnt {x : Log} (fr : Int) (st : Bool) (h : x.sz ≤ 1048576) : sumF Read.cnt (visF x fr st) ≤ 1000000000 := by
  unfold visF
  split
  · have h1 := vis_cnt st (aborted x) fr (visEnd x st) (allB x)
    have h2 := allB_sz x
    omega
  · exact Nat.zero_le _
theorem visF_sm {x : Log} (fr : Int) (st : Bool) (h : x.sz ≤ 1048576) : (visF x fr st).length ≤ 1048576 ∧ ∀ y ∈ visF x fr st, y.sm := by
  have hs := Log.sm_of h
  unfold visF
  split
  · refine ⟨?_, fun y hy => ?_⟩
    · have h1 := vis_len st (aborted x) fr (visEnd x st) (allB x)
      have h2 := allB_sz x
      omega
    · obtain ⟨b, hb, hr⟩ := vis_mem hy
      unfold allB at hb
      obtain ⟨s, hs', hb⟩ := List.mem_flatMap.1 hb
      exact ((hs.2 s hs').2 b hb).2 _ hr
  · exact ⟨Nat.zero_le _, fun y hy => by cases hy⟩
end Go.Proofs.Ytipemgjgimpmbaa.H
