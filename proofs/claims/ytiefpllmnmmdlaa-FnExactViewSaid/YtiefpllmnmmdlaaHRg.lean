/-
A region that draws its order and whose calls make memory, met in every world behind the one where it begins. No program in sight. Conditions: none.
-/
import Derived.Test.YtiefpllmnmmdlaaH0
import Derived.Lib.QuietBelow
namespace Go.Proofs.Ytiefpllmnmmdlaa.H
open Go.RowKit Go.Sort
set_option linter.unusedVariables false
/-! ### a region that draws its order and whose calls make memory: in every world behind W -/
theorem rg {P : Program} {f : FuncId} {args : Array Value} {w : World} {d : Nat} {os : Array Obj} {u v : Value}
    (h : Calls P f args (grow (redrawn w d) os) fun e w' => e = .returned u ∧ Below (grow (redrawn w d) os).heap.size (grow (redrawn w d) os) w') (huv : u = v) : Calls P f args (grow (redrawn w d) os) fun e w'' => e = .returned v ∧ ∃ p : Regrown, w'' = grow (redrawn w p.d) p.os := by
  subst huv; exact Calls.regrown_of h
theorem rg_same {P : Program} {f : FuncId} {args : Array Value} {w : World} {d : Nat} {os : Array Obj} {u v : Value}
    (h : Calls P f args (grow (redrawn w d) os) fun e w' => e = .returned u ∧ grow (redrawn w d) os = w') (huv : u = v) : Calls P f args (grow (redrawn w d) os) fun e w'' => e = .returned v ∧ ∃ p : Regrown, w'' = grow (redrawn w p.d) p.os :=
  rg (h.mono fun _ _ ⟨he, hw⟩ => ⟨he, by rw [← hw]; exact Below.refl _ _⟩) huv
theorem cg {w : World} {a : Addr} {v : Value} (h : w.cell? a = some v) : ∀ d os, (grow (redrawn w d) os).cell? a = some v := fun d os => cell_regrown h d os
end Go.Proofs.Ytiefpllmnmmdlaa.H
