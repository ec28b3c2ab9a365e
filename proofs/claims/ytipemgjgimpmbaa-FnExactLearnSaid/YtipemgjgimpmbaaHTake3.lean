/-
What Take hands back, read and bounded. No program in sight but the contract. Conditions: the contract's own premises.
-/
import Derived.Test.YtipemgjgimpmbaaHTake2
namespace Go.Proofs.Ytipemgjgimpmbaa.H
open Go.RowKit
set_option linter.unusedVariables false
def GivesT (l : List Seen) (c o : Int) (w : World) (en : Ending) (w' : World) : Prop := ∃ A cc, en = .returned (.tuple #[.slice A l.length cc, .int .i64 c, .int .i64 o]) ∧ l.length ≤ cc ∧ Row kSeen w' A l ∧ Below w.heap.size w w'
theorem specTake_g (w : World) (l : List Seen) (b : Batch) {A : Option Addr} {c : Nat} (hc : l.length ≤ c) (hr : Row kSeen w A l) {A6 : Option Addr} {c6 : Nat} (l6 : b.Records.length ≤ c6) (g6 : Row kRecord w A6 b.Records) (hs : l.length ≤ 1048576 ∧ ∀ y ∈ l, y.sm) (hsb : b.sm) :
    Calls Try.prog 25 #[.slice A l.length c, .agg #[.int .i64 b.Base, .int .i64 b.Epoch, .int .i64 b.Producer, .int .i64 b.Turn, .int .i64 b.Seq, .int .i64 b.Flags, .slice A6 b.Records.length c6]] w (GivesT (takeL l b) (takeC l b) (takeO l b) w) := by
  refine (specTake_c w l b hc hr hs l6 g6 hsb).mono ?_
  rintro e w' ⟨v, rfl, hO, hb⟩
  obtain ⟨A, cc, rfl, h1, h2⟩ := hO.rowS
  exact ⟨A, cc, rfl, h1, h2, hb⟩
theorem implTake_m (w : World) (l : List Seen) (b : Batch) {A : Option Addr} {c : Nat} (hc : l.length ≤ c) (hr : Row kSeen w A l) {A6 : Option Addr} {c6 : Nat} (l6 : b.Records.length ≤ c6) (g6 : Row kRecord w A6 b.Records) (hs : l.length ≤ 1048576 ∧ ∀ y ∈ l, y.sm) (hsb : b.sm) :
    Calls Try.prog 28 #[.slice A l.length c, .agg #[.int .i64 b.Base, .int .i64 b.Epoch, .int .i64 b.Producer, .int .i64 b.Turn, .int .i64 b.Seq, .int .i64 b.Flags, .slice A6 b.Records.length c6]] w (fun en w' => ∃ v F, en = .returned (.tuple #[v, .int .i64 (takeC l b), .int .i64 (takeO l b)]) ∧ TS kSeen 101 w' F (takeL l b) v ∧ Fresh w F ∧ Below w.heap.size w w') := by
  refine (implTake_c w l b hc hr hs l6 g6 hsb).mono ?_
  rintro e w' ⟨v, rfl, ⟨F, h1, h2, h3⟩, hb⟩
  exact ⟨v, F, rfl, h1, ⟨h2, h3⟩, hb⟩
theorem last5_len {α : Type} (l : List α) : (last5 l).length ≤ 5 := by unfold last5; rw [List.length_drop]; omega
/-- A table as Take leaves it: short rows. -/
def shortT (l : List Seen) : Prop := l.length ≤ 101 ∧ ∀ s ∈ l, s.Recent.length ≤ 5
theorem tableOk_short {l : List Seen} (h : tableOk l = true) : shortT l := by
  obtain ⟨h1, _, h2⟩ := tableOk_all h
  exact ⟨by omega, fun s hs => (snA_facts (h2 s hs).1).2.2.2⟩
theorem set_short {l : List Seen} (h : shortT l) (i : Nat) (s : Seen) (hs : s.Recent.length ≤ 5) : shortT (l.set i s) := by
  refine ⟨by rw [List.length_set]; exact h.1, fun t ht => ?_⟩
  rcases List.mem_or_eq_of_mem_set ht with ht | rfl
  · exact h.2 t ht
  · exact hs
theorem takeL_short (l : List Seen) (b : Batch) : shortT (takeL l b) := by
  have hnil : shortT [] := ⟨by simp, fun s hs => by cases hs⟩
  unfold takeL takeR
  by_cases hok : (tableOk l && batchOk b) = true
  · rw [if_pos hok]
    have ht : tableOk l = true := by simp only [Bool.and_eq_true] at hok; exact hok.1
    have hs := tableOk_short ht
    have hl := (tableOk_all ht).1
    by_cases hp : b.Producer = -1 ∨ 4 ≤ b.Flags
    · rw [if_pos hp]; exact hs
    · rw [if_neg hp]
      cases hg : seenGet b.Producer l with
      | some s =>
        simp only
        unfold takeHas
        split
        · exact hs
        · split
          · split
            · exact hs
            · split
              · exact set_short hs _ _ (last5_len _)
              · exact hs
          · split
            · exact set_short hs _ _ (last5_len _)
            · exact hs
      | none =>
        simp only
        unfold takeNo
        split
        · split
          · exact hnil
          · refine set_short ⟨?_, fun s hs' => ?_⟩ _ _ (last5_len _)
            · rw [insS_len _ _ _ (seenAt_le _ _)]; omega
            · unfold insS at hs'
              rcases List.mem_append.1 hs' with h | h
              · exact hs.2 s (List.mem_of_mem_take h)
              · rcases List.mem_cons.1 h with rfl | h
                · exact Nat.zero_le _
                · exact hs.2 s (List.mem_of_mem_drop h)
        · exact hs
  · rw [if_neg hok]; exact hnil
theorem short_sm {l : List Seen} (h : shortT l) : l.length ≤ 1048576 ∧ ∀ y ∈ l, y.sm := ⟨by have := h.1; omega, fun y hy => by have := h.2 y hy; show y.Recent.length ≤ 1048576; omega⟩
end Go.Proofs.Ytipemgjgimpmbaa.H
