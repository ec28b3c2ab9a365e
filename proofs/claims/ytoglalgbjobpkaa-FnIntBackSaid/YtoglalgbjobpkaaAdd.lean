/-
What the print's texts lack: comparisons of strings by one word; small equations of Bools. No program in sight.
Conditions: none.
-/
import Derived.Laws.Cover1
import Derived.Tactics
namespace Go.Proofs.Ytoglalgbjobpkaa.Add
theorem less_turn : ∀ (a b : List UInt8), (Op.bytesLess a b || a == b) = !(Op.bytesLess b a)
  | [], [] => rfl
  | [], _ :: _ => by simp [Op.bytesLess]
  | _ :: _, [] => by simp [Op.bytesLess]
  | a :: x, b :: y => by
    have ih := less_turn x y
    have hlt : ∀ c d : UInt8, (c < d) = (c.toNat < d.toNat) := fun c d => propext UInt8.lt_iff_toNat_lt
    by_cases e : a = b
    · subst e
      simpa [Op.bytesLess, hlt] using ih
    · have hn : a.toNat ≠ b.toNat := fun h => e (UInt8.toNat_inj.1 h)
      have e' : ¬ b = a := fun h => e h.symm
      simp only [Op.bytesLess, hlt, beq_eq_false_iff_ne.2 e, beq_eq_false_iff_ne.2 e', Bool.false_and, Bool.or_false, List.cons_beq_cons]
      by_cases h : a.toNat < b.toNat
      · simp [h]; omega
      · simp [h]; omega
theorem string_leq (t : TypeId) (a b : ByteArray) : binOp .leq t (.string a) (.string b) = pure (.bool !(Op.bytesLess b.toList a.toList)) := by rw [binOp_string_leq, less_turn]
theorem string_gtr (t : TypeId) (a b : ByteArray) : binOp .gtr t (.string a) (.string b) = pure (.bool (Op.bytesLess b.toList a.toList)) := by rw [binOp_string_gtr, less_turn, Bool.not_not]
theorem isEmpty_bne (l : List UInt8) : Value.bool (!l.isEmpty) = Value.bool (l != []) := by cases l <;> rfl
end Go.Proofs.Ytoglalgbjobpkaa.Add
