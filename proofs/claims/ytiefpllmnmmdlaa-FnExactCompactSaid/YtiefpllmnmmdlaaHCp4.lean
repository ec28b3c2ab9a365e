/-
How large Compact's answer is; the reference's answer, read. Conditions: the contract's own premises.
-/
import Derived.Test.YtiefpllmnmmdlaaHCp3
namespace Go.Proofs.Ytiefpllmnmmdlaa.H
open Go.RowKit
set_option linter.unusedVariables false
set_option linter.unusedSimpArgs false
def GivesLB (x : Log) (ok : Bool) (w : World) (en : Ending) (w' : World) : Prop := ∃ A c, en = .returned (.tuple #[.agg #[.int .i64 x.Start, .int .i64 x.Next, .int .i64 x.Roll, .slice A x.Segments.length c], .bool ok]) ∧ x.Segments.length ≤ c ∧ Row kSegment w' A x.Segments ∧ Below w.heap.size w w'
theorem MadeLB.gives {x : Log} {ok : Bool} {w w' : World} {en : Ending} (h : MadeLB x ok w en w') : GivesLB x ok w en w' := by
  obtain ⟨v, F, rfl, hT, hF, hb⟩ := h
  obtain ⟨v3, F3, he, rfl, hT3⟩ := Log.opnT hT
  simp only [List.cons.injEq, true_and, and_true] at he
  subst he
  obtain ⟨A, c, rfl, hc, _, hr⟩ := TS_read hT3
  exact ⟨A, c, rfl, hc, hr, hb⟩
theorem specCompact_c (w : World) (x : Log) (tt now keep : Int) {A : Option Addr} {c : Nat} (hc : x.Segments.length ≤ c) (hr : Row kSegment w A x.Segments) (hs : x.sm) (hw : x.wf) :
    Calls Try.prog 6 #[.agg #[.int .i64 x.Start, .int .i64 x.Next, .int .i64 x.Roll, .slice A x.Segments.length c], .int .i64 tt, .int .i64 now, .int .i64 keep] w (GivesLB (compactL x tt now keep) (compactOk x tt now keep) w) := (specCompact_m w x tt now keep hc hr hs hw).mono fun _ _ h => h.gives
theorem szL_cons {α : Type} (f : α → Nat) (x : α) (r : List α) : szL f (x :: r) = 1 + f x + szL f r := by simp only [szL, sumF, List.map_cons, List.sum_cons, List.length_cons]; omega
theorem szL_nil {α : Type} (f : α → Nat) : szL f [] = 0 := by simp [szL, sumF]
theorem szL_app {α : Type} (f : α → Nat) : ∀ (l r : List α), szL f (l ++ r) = szL f l + szL f r
  | [], r => by simp [szL, sumF]
  | x :: l, r => by rw [List.cons_append, szL_cons, szL_cons, szL_app f l r]; omega
theorem cpOut_sz {b : Batch} {g : List Bool} : ∀ k, k ≤ b.Records.length → szL Batch.sz (cpOut b (cpS b g k) k) ≤ 2 * szL Record.sz (b.Records.take k)
  | 0, _ => by simp [cpS, cpOut, szL, sumF]
  | k + 1, hk => by
    have ih := cpOut_sz (b := b) (g := g) k (by omega)
    obtain ⟨r, hr⟩ : ∃ r, b.Records[k]? = some r := ⟨_, List.getElem?_eq_getElem (by omega)⟩
    have ht : szL Record.sz (b.Records.take (k + 1)) = szL Record.sz (b.Records.take k) + (1 + Record.sz r) := by
      rw [take_snoc hr, szL_app, szL_cons, szL_nil]; rfl
    by_cases h : g[k]? = some false
    · cases h0 : (cpS b g k).2 with
      | none =>
        have e : (mkB b k (k + 1)).sz = 1 + Record.sz r := by
          unfold Batch.sz
          rw [mkB_next hr (Nat.le_refl _), mkB_nil, List.nil_append, szL_cons, szL_nil]; rfl
        rw [cpOut_first h h0, szL_app, szL_cons, szL_nil, e]
        omega
      | some i =>
        obtain ⟨h1, h2, _⟩ := cpOut_next h h0
        have hi := cpS_le k i h0
        have e : (mkB b i (k + 1)).sz = (mkB b i k).sz + (1 + Record.sz r) := by
          unfold Batch.sz
          rw [mkB_next hr (by omega), szL_app, szL_cons, szL_nil]; rfl
        rw [h1, szL_app, szL_cons, szL_nil] at ih
        rw [h2, szL_app, szL_cons, szL_nil, e]
        omega
    · rw [cpOut_gone h]
      omega
theorem cpB_sz (b : Batch) (g : List Bool) : szL Batch.sz (cpB b g) ≤ 2 * b.sz := by
  have h := cpOut_sz (b := b) (g := g) b.Records.length (Nat.le_refl _)
  rw [List.take_length] at h
  exact h
theorem cpL_sz (M : List (List Bool)) : ∀ (l : List Batch) (a : Nat), szL Batch.sz (cpL M l a) ≤ 2 * szL Batch.sz l
  | [], a => by simp [cpL, szL, sumF]
  | b :: l, a => by
    have h1 := cpL_sz M l (a + 1)
    have h2 := cpB_sz b ((M[a]?).getD [])
    rw [cpL, szL_app, szL_cons]
    omega
theorem cpGs_sz (M : List (List Bool)) : ∀ (l : List Segment) (a : Nat), szL Segment.sz (cpGs M l a) ≤ 2 * szL Segment.sz l
  | [], a => by simp [cpGs, szL, sumF]
  | s :: l, a => by
    have h1 := cpGs_sz M l (a + s.Batches.length)
    have h2 : szL Batch.sz (cpL M s.Batches a) ≤ 2 * s.sz := cpL_sz M s.Batches a
    rw [cpGs, szL_app, szL_cons]
    unfold cpG
    split
    · rw [szL_nil]; omega
    · rw [szL_cons, szL_nil]
      have e : Segment.sz ⟨s.Base, cpL M s.Batches a⟩ = szL Batch.sz (cpL M s.Batches a) := rfl
      omega
theorem compactL_sz (x : Log) (tt now keep : Int) : (compactL x tt now keep).sz ≤ 2 * x.sz := by
  unfold compactL
  split
  · exact cpGs_sz _ _ _
  · have : zLog.sz = 0 := by simp [zLog, Log.sz, szL, sumF]
    omega
theorem cpOut_mem {b : Batch} {g : List Bool} : ∀ (k : Nat) (q : Batch), q ∈ cpOut b (cpS b g k) k → ∃ i j, q = mkB b i j
  | 0, q, h => by simp [cpS, cpOut] at h
  | k + 1, q, h => by
    by_cases hg : g[k]? = some false
    · cases h0 : (cpS b g k).2 with
      | none =>
        rw [cpOut_first hg h0] at h
        rcases List.mem_append.1 h with h | h
        · exact cpOut_mem k q h
        · exact ⟨_, _, List.mem_singleton.1 h⟩
      | some i =>
        obtain ⟨h1, h2, _⟩ := cpOut_next hg h0
        rw [h2] at h
        rcases List.mem_append.1 h with h | h
        · exact cpOut_mem k q (by rw [h1]; exact List.mem_append_left _ h)
        · exact ⟨_, _, List.mem_singleton.1 h⟩
    · rw [cpOut_gone hg] at h
      exact cpOut_mem k q h
theorem cpL_mem (M : List (List Bool)) : ∀ (l : List Batch) (a : Nat) (q : Batch), q ∈ cpL M l a → ∃ b ∈ l, ∃ i j, q = mkB b i j
  | [], a, q, h => by simp [cpL] at h
  | b :: l, a, q, h => by
    rw [cpL] at h
    rcases List.mem_append.1 h with h | h
    · obtain ⟨i, j, e⟩ := cpOut_mem _ q h
      exact ⟨b, List.mem_cons_self, i, j, e⟩
    · obtain ⟨c, h1, h2⟩ := cpL_mem M l _ q h
      exact ⟨c, List.mem_cons_of_mem _ h1, h2⟩
theorem cpGs_mem (M : List (List Bool)) : ∀ (l : List Segment) (a : Nat) (q : Segment), q ∈ cpGs M l a → ∃ s ∈ l, ∃ a', q = ⟨s.Base, cpL M s.Batches a'⟩
  | [], a, q, h => by simp [cpGs] at h
  | s :: l, a, q, h => by
    rw [cpGs] at h
    rcases List.mem_append.1 h with h | h
    · unfold cpG at h
      split at h
      · cases h
      · exact ⟨s, List.mem_cons_self, a, List.mem_singleton.1 h⟩
    · obtain ⟨c, h1, h2⟩ := cpGs_mem M l _ q h
      exact ⟨c, List.mem_cons_of_mem _ h1, h2⟩
theorem compactL_sm {x : Log} (tt now keep : Int) (h : x.sm) : (compactL x tt now keep).sm := by
  unfold compactL
  split
  · rename_i hok
    have hlo : logOk x = true := by
      simp only [compactOk, argsF, Bool.and_eq_true] at hok
      exact hok.1.1.1.1
    have hall := logOk_all hlo
    have hCO : ∀ b ∈ allB x, cOk b := fun b hb => cOk_of (hall.2 b hb)
    refine ⟨Nat.le_trans (cpGs_len _ _ _) h.1, fun q hq => ?_⟩
    obtain ⟨s, hs, a, rfl⟩ := cpGs_mem _ _ _ q hq
    have hsb : ∀ b ∈ s.Batches, b ∈ allB x := fun b hb => List.mem_flatMap.2 ⟨s, hs, hb⟩
    have h2 := h.2 s hs
    refine ⟨?_, fun b hb => ?_⟩
    · have h3 := cpL_len (cpMat x tt now keep) s.Batches a (fun b hb => (hCO b (hsb b hb)).2.2.2.2)
      have h4 : s.Batches.length ≤ (allB x).length := by
        unfold allB
        rw [List.length_flatMap]
        exact sumF_mem (f := fun s : Segment => s.Batches.length) hs
      have h5 := hall.1
      show (cpL (cpMat x tt now keep) s.Batches a).length ≤ 1048576
      omega
    · obtain ⟨c, hc, i, j, rfl⟩ := cpL_mem _ _ _ b hb
      have h3 := h2.2 c hc
      refine ⟨?_, fun y hy => h3.2 y (List.mem_of_mem_drop (List.mem_of_mem_take hy))⟩
      have h4 : (mkB c i j).Records.length ≤ c.Records.length := by unfold mkB; simp only [List.length_take, List.length_drop]; omega
      exact Nat.le_trans h4 h3.1
  · exact ⟨Nat.zero_le _, fun y hy => by cases hy⟩
end Go.Proofs.Ytiefpllmnmmdlaa.H
