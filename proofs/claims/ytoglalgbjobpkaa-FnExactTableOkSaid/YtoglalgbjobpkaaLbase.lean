/-
Sizes: what the reading tells, as linear facts. Conditions: none.
-/
import Derived.Test.YtoglalgbjobpkaaOpen
namespace Go.Proofs.Ytoglalgbjobpkaa.G
theorem strLim {s : ByteArray} (h : Open.wfStr s) : s.size ≤ 9223372036854775807 := by simp only [Open.wfStr, maxLen] at h; omega
theorem listLim {α : Type} {W : α → Prop} {xs : List α} (h : Open.wfList W xs) : xs.length ≤ 9223372036854775807 := by have := h.1; simp only [maxLen] at this; omega
theorem strsLim {xs : List ByteArray} (h : Open.wfList Open.wfStr xs) : xs.length ≤ 9223372036854775807 ∧ ∀ y ∈ xs, y.size ≤ 9223372036854775807 := ⟨listLim h, fun y hy => strLim (h.2 y hy)⟩
end Go.Proofs.Ytoglalgbjobpkaa.G
