/-
How many marks a table takes. No program in sight. Conditions: none.
-/
import Derived.Test.YtipemgjgimpmbaaHTake3
import Derived.Test.YtipemgjgimpmbaaHMkDef
namespace Go.Proofs.Ytipemgjgimpmbaa.H
open Go.RowKit
set_option linter.unusedVariables false
theorem recentC : ∀ l : List Recent, sumF Recent.cnt l = 3 * l.length
  | [] => rfl
  | h :: r => by
    have e : sumF Recent.cnt (h :: r) = Recent.cnt h + sumF Recent.cnt r := by simp only [sumF, List.map_cons, List.sum_cons]
    rw [e, recentC r, List.length_cons]
    unfold Recent.cnt
    omega
theorem seenC : ∀ l : List Seen, (∀ s ∈ l, s.Recent.length ≤ 5) → sumF Seen.cnt l ≤ 18 * l.length
  | [], _ => Nat.le_refl _
  | h :: r, hs => by
    have e : sumF Seen.cnt (h :: r) = Seen.cnt h + sumF Seen.cnt r := by simp only [sumF, List.map_cons, List.sum_cons]
    have h1 := seenC r (fun s hs' => hs s (List.mem_cons_of_mem _ hs'))
    have h2 := hs h List.mem_cons_self
    have h3 := recentC h.Recent
    have h4 : Seen.cnt h = 3 + sumF Recent.cnt h.Recent := rfl
    rw [e, List.length_cons]
    omega
theorem short_cnt {l : List Seen} (h : shortT l) : sumF Seen.cnt l ≤ 1000000000 := by
  have h1 := seenC l h.2
  have h2 := h.1
  omega
end Go.Proofs.Ytipemgjgimpmbaa.H
