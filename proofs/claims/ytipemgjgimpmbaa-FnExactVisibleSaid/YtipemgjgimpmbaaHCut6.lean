/-
CutTo's answer is no larger than its log; the reference's answer, read. No program in sight but the contract. Conditions: the contract's own premises.
-/
import Derived.Test.YtipemgjgimpmbaaHCut5
import Derived.Test.YtipemgjgimpmbaaHCut3
namespace Go.Proofs.Ytipemgjgimpmbaa.H
open Go.RowKit
set_option linter.unusedVariables false
theorem MadeLB.gives {x : Log} {ok : Bool} {w w' : World} {en : Ending} (h : MadeLB x ok w en w') : GivesLB x ok w en w' := by
  obtain ⟨v, F, rfl, hT, hF, hb⟩ := h
  obtain ⟨v3, F3, he, rfl, hT3⟩ := Log.opnT hT
  simp only [List.cons.injEq, true_and, and_true] at he
  subst he
  obtain ⟨A, c, rfl, hc, _, hr⟩ := TS_read hT3
  exact ⟨A, c, rfl, hc, hr, hb⟩
theorem specCutTo_c (w : World) (x : Log) (tt : Int) {A : Option Addr} {c : Nat} (hc : x.Segments.length ≤ c) (hr : Row kSegment w A x.Segments) (hs : x.sm) (hw : x.wf) :
    Calls Try.prog 18 #[.agg #[.int .i64 x.Start, .int .i64 x.Next, .int .i64 x.Roll, .slice A x.Segments.length c], .int .i64 tt] w (GivesLB (cutToL x tt) (cutOk x tt) w) := (specCutTo_m w x tt hc hr hs hw).mono fun _ _ h => h.gives
theorem szL_cons {α : Type} (f : α → Nat) (x : α) (r : List α) : szL f (x :: r) = 1 + f x + szL f r := by simp only [szL, sumF, List.map_cons, List.sum_cons, List.length_cons]; omega
theorem szL_app {α : Type} (f : α → Nat) : ∀ (l r : List α), szL f (l ++ r) = szL f l + szL f r
  | [], r => by simp [szL, sumF]
  | x :: l, r => by rw [List.cons_append, szL_cons, szL_cons, szL_app f l r]; omega
theorem szL_take {α : Type} (f : α → Nat) (l : List α) (n : Nat) : szL f (l.take n) ≤ szL f l := by
  have h := szL_app f (l.take n) (l.drop n)
  rw [List.take_append_drop] at h
  omega
theorem cutR_sz (tt : Int) (b : Batch) : (cutR tt b).sz ≤ b.sz := szL_take _ _ _
theorem cutBs_sz (tt : Int) : ∀ l : List Batch, szL Batch.sz (cutBs tt l) ≤ szL Batch.sz l
  | [] => Nat.le_refl _
  | b :: r => by
    rw [cutBs, szL_app, szL_cons]
    have := cutBs_sz tt r
    have : szL Batch.sz (cutB tt b) ≤ 1 + b.sz := by
      unfold cutB
      split
      · rw [szL_cons]; have := cutR_sz tt b; simp [szL, sumF]; omega
      · simp [szL, sumF]
    omega
theorem cutGs_sz (tt : Int) : ∀ l : List Segment, szL Segment.sz (cutGs tt l) ≤ szL Segment.sz l
  | [] => Nat.le_refl _
  | b :: r => by
    rw [cutGs, szL_app, szL_cons]
    have := cutGs_sz tt r
    have : szL Segment.sz (cutG tt b) ≤ 1 + b.sz := by
      unfold cutG
      split
      · simp [szL, sumF]
      · rw [szL_cons]
        have := cutBs_sz tt b.Batches
        have e : szL Segment.sz [] = 0 := by simp [szL, sumF]
        have e2 : Segment.sz ⟨b.Base, cutBs tt b.Batches⟩ = szL Batch.sz (cutBs tt b.Batches) := rfl
        have e3 : b.sz = szL Batch.sz b.Batches := rfl
        omega
    omega
theorem cutToL_sz (x : Log) (tt : Int) : (cutToL x tt).sz ≤ x.sz := by
  unfold cutToL
  split
  · exact cutGs_sz _ _
  · exact Nat.zero_le _
theorem cutBs_mem {tt : Int} : ∀ {l : List Batch} {q : Batch}, q ∈ cutBs tt l → ∃ b ∈ l, q = cutR tt b
  | [], q, h => by cases h
  | b :: r, q, h => by
    rw [cutBs] at h
    rcases List.mem_append.1 h with h | h
    · unfold cutB at h
      split at h
      · exact ⟨b, List.mem_cons_self, List.mem_singleton.1 h⟩
      · cases h
    · obtain ⟨c, h1, h2⟩ := cutBs_mem h
      exact ⟨c, List.mem_cons_of_mem _ h1, h2⟩
theorem cutGs_mem {tt : Int} : ∀ {l : List Segment} {q : Segment}, q ∈ cutGs tt l → ∃ s ∈ l, q = ⟨s.Base, cutBs tt s.Batches⟩
  | [], q, h => by cases h
  | b :: r, q, h => by
    rw [cutGs] at h
    rcases List.mem_append.1 h with h | h
    · unfold cutG at h
      split at h
      · cases h
      · exact ⟨b, List.mem_cons_self, List.mem_singleton.1 h⟩
    · obtain ⟨c, h1, h2⟩ := cutGs_mem h
      exact ⟨c, List.mem_cons_of_mem _ h1, h2⟩
theorem cutToL_sm {x : Log} (tt : Int) (h : x.sm) : (cutToL x tt).sm := by
  unfold cutToL
  split
  · refine ⟨Nat.le_trans (cutGs_len tt _) h.1, fun q hq => ?_⟩
    obtain ⟨s, hs, rfl⟩ := cutGs_mem hq
    have h2 := h.2 s hs
    refine ⟨Nat.le_trans (cutBs_len tt _) h2.1, fun b hb => ?_⟩
    obtain ⟨c, hc, rfl⟩ := cutBs_mem hb
    have h3 := h2.2 c hc
    exact ⟨Nat.le_trans (by unfold cutR; simp only [List.length_take]; omega) h3.1, fun y hy => h3.2 y (List.mem_of_mem_take hy)⟩
  · exact ⟨Nat.zero_le _, fun y hy => by cases hy⟩
end Go.Proofs.Ytipemgjgimpmbaa.H
