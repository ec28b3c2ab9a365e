/-
CutFrom's answer is no larger than its log. No program in sight. Conditions: none.
-/
import Derived.Test.YtipemgjgimpmbaaHCut2
namespace Go.Proofs.Ytipemgjgimpmbaa.H
open Go.RowKit
theorem szL_drop {α : Type} (f : α → Nat) : ∀ (l : List α) (k : Nat), szL f (l.drop k) ≤ szL f l
  | l, 0 => Nat.le_refl _
  | [], k + 1 => Nat.le_refl _
  | x :: r, k + 1 => by
    rw [List.drop_succ_cons]
    have h := szL_drop f r k
    have e : szL f (x :: r) = 1 + f x + szL f r := by simp only [szL, sumF, List.map_cons, List.sum_cons, List.length_cons]; omega
    omega
theorem cutFromL_sz (x : Log) (start : Int) : (cutFromL x start).sz ≤ x.sz := by
  unfold cutFromL
  split
  · obtain ⟨k, hk⟩ := cutF_sub start x.Segments
    unfold Log.sz
    rw [hk]
    exact szL_drop _ _ _
  · exact Nat.zero_le _
theorem cutFromL_sm {x : Log} (start : Int) (h : x.sm) : (cutFromL x start).sm := by
  unfold cutFromL
  split
  · obtain ⟨k, hk⟩ := cutF_sub start x.Segments
    unfold Log.sm at *
    rw [hk]
    refine ⟨Nat.le_trans (by rw [List.length_drop]; omega) h.1, fun y hy => h.2 y (List.mem_of_mem_drop hy)⟩
  · exact ⟨Nat.zero_le _, fun y hy => by cases hy⟩
end Go.Proofs.Ytipemgjgimpmbaa.H
