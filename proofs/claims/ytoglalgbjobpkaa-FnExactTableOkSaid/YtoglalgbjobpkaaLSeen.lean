/-
Limits of Seen's sizes. Conditions: as each says.
-/
import Derived.Test.YtoglalgbjobpkaaKinds
import Derived.Test.YtoglalgbjobpkaaLbase
import Derived.Test.YtoglalgbjobpkaaGSeen
namespace Go.Proofs.Ytoglalgbjobpkaa.G
open Go.RowKit Go.Proofs.Ytoglalgbjobpkaa Go.Proofs.Ytoglalgbjobpkaa.F Go.Proofs.YtoglalgbjobpkaaW.PrintWords
set_option linter.unusedVariables false

theorem lim_Seen {x : S131} (h : Kinds.Wf131 x) : Lim131 x := (listLim h.2.2.2)
theorem limS_Seen {xs : List S131} (h : Open.wfList Kinds.Wf131 xs) : xs.length ≤ 9223372036854775807 ∧ ∀ y ∈ xs, Lim131 y := ⟨listLim h, fun y hy => lim_Seen (h.2 y hy)⟩
theorem sm_Seen {x : S131} (h : Sm131 x) : Sm134 (convSeen x) := (by show (List.map _ _).length ≤ _; rw [List.length_map]; exact h)
theorem smS_Seen {xs : List S131} (h : xs.length ≤ 1048576 ∧ ∀ y ∈ xs, Sm131 y) : (xs.map convSeen).length ≤ 1048576 ∧ ∀ y ∈ xs.map convSeen, Sm134 y := ⟨by simpa using h.1, fun y hy => by obtain ⟨z, hz, rfl⟩ := List.mem_map.1 hy; exact sm_Seen (h.2 z hz)⟩

end Go.Proofs.Ytoglalgbjobpkaa.G
