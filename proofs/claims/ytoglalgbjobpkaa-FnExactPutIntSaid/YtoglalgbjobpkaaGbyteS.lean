/-
Byte slices: what the laws' eq, to, mark and held do to them. Conditions: lengths below 2^47.
-/
import Derived.Test.YtoglalgbjobpkaaGlib
import Derived.Test.YtoglalgbjobpkaaFlawseqByteS
import Derived.Test.YtoglalgbjobpkaaFlawsmarkByteS
import Derived.Test.YtoglalgbjobpkaaFlawsheldByteS
namespace Go.Proofs.Ytoglalgbjobpkaa.G
open Go.RowKit Go.Proofs.Ytoglalgbjobpkaa.F Go.Proofs.YtoglalgbjobpkaaW.PrintWords Go.Proofs.YtoglalgbjobpkaaW.PrintLast Go.Proofs.YtoglalgbjobpkaaW.PrintMore
set_option linter.unusedVariables false

theorem eqByteS_ev (xs : List Int) (hn : xs.length ≤ 140737488355328) : Ev (fun k => laws_eqByteS.f k xs xs) true := by
  refine Ev.congr (f := fun k => laws_eqByteS.l0 k xs xs (0 : Nat)) (fun k => by unfold laws_eqByteS.f; rw [if_pos rfl]; rfl) ?_
  refine loop_up xs.length (fun i k => laws_eqByteS.l0 k xs xs i) true (fun i hi h => ?_) ?_ 0 (Nat.zero_le _)
  · refine Ev.step (fun k => ?_) h
    rw [laws_eqByteS.l0, if_pos (by omega), if_pos (by omega), if_pos (by omega), if_pos rfl, wrapI (by omega) (by omega)]; rfl
  · refine Ev.step (f := fun _ => some true) (fun k => ?_) (Ev.now _)
    rw [laws_eqByteS.l0, if_neg (by omega)]

theorem markByteS_ev (xs : List Int) (m : Int) (hm : 0 ≤ m) (hn : xs.length ≤ 140737488355328) (hb : m ≤ 4611686018427387904) : ∃ ys : List Int, ys.length = xs.length ∧ (∀ j : Nat, j < xs.length → ys.getD j 0 = (m + j) % 256) ∧ Ev (fun k => laws_markByteS.f k xs m) (m + (xs.length : Int), ys) := by
  have key : ∀ (d i : Nat) (ys : List Int), i + d = xs.length → ys.length = xs.length → (∀ j : Nat, j < i → ys.getD j 0 = (m + j) % 256) →
      ∃ zs : List Int, zs.length = xs.length ∧ (∀ j : Nat, j < xs.length → zs.getD j 0 = (m + j) % 256) ∧ Ev (fun k => laws_markByteS.l0 k ys (m + i) i) (m + (xs.length : Int), zs) := by
    intro d
    induction d with
    | zero =>
      intro i ys hi hl hy
      obtain rfl : i = xs.length := by omega
      refine ⟨ys, hl, hy, Ev.step (f := fun _ => some (m + (xs.length : Int), ys)) (fun k => ?_) (Ev.now _)⟩
      rw [laws_markByteS.l0, if_neg (by omega)]
    | succ d ih =>
      intro i ys hi hl hy
      obtain ⟨zs, h1, h2, h3⟩ := ih (i + 1) (ys.set i ((m + i) % 256)) (by omega) (by simpa using hl) (fun j hj => by
        by_cases e : i = j
        · subst e; rw [getD_set_self _ _ _ _ (by omega)]
        · rw [getD_set_ne _ _ _ _ _ e]; exact hy j (by omega))
      refine ⟨zs, h1, h2, Ev.step (fun k => ?_) h3⟩
      rw [laws_markByteS.l0, if_pos (by omega), if_pos (by omega), wrapI (x := m + i + 1) (by omega) (by omega), wrapI (x := (i : Int) + 1) (by omega) (by omega), Int.toNat_natCast, show m + (i : Int) + 1 = m + ((i + 1 : Nat) : Int) by omega]; rfl
  obtain ⟨zs, h1, h2, h3⟩ := key xs.length 0 xs (by omega) rfl (fun j hj => absurd hj (by omega))
  exact ⟨zs, h1, h2, Ev.congr (fun k => by unfold laws_markByteS.f; simp) h3⟩
theorem heldByteS_ev (ys : List Int) (m : Int) (hm : 0 ≤ m) (hn : ys.length ≤ 140737488355328) (hb : m ≤ 4611686018427387904) (hy : ∀ j : Nat, j < ys.length → ys.getD j 0 = (m + j) % 256) : Ev (fun k => laws_heldByteS.f k ys m) (m + (ys.length : Int)) := by
  refine Ev.congr (f := fun k => laws_heldByteS.l0 k ys (m + ((0 : Nat) : Int)) ((0 : Nat) : Int)) (fun k => by unfold laws_heldByteS.f; simp) ?_
  have key : ∀ (d i : Nat), i + d = ys.length → Ev (fun k => laws_heldByteS.l0 k ys (m + (i : Int)) i) (m + (ys.length : Int)) := by
    intro d
    induction d with
    | zero =>
      intro i hi
      obtain rfl : i = ys.length := by omega
      refine Ev.step (f := fun _ => some (m + (ys.length : Int))) (fun k => ?_) (Ev.now _)
      rw [laws_heldByteS.l0, if_neg (by omega)]
    | succ d ih =>
      intro i hi
      refine Ev.step (fun k => ?_) (ih (i + 1) (by omega))
      rw [laws_heldByteS.l0, if_pos (by omega), if_pos (by omega), rd_getD, if_pos (hy i (by omega)), wrapI (x := m + i + 1) (by omega) (by omega), wrapI (x := (i : Int) + 1) (by omega) (by omega), show m + (i : Int) + 1 = m + ((i + 1 : Nat) : Int) by omega]; rfl
  exact key ys.length 0 (by omega)
/-- What mark leaves, held finds. -/
theorem marked (xs : List Int) (hn : xs.length ≤ 140737488355328) : ∃ ys : List Int, Ev (fun k => laws_markByteS.f k xs 1) (1 + (xs.length : Int), ys) ∧ Ev (fun k => laws_heldByteS.f k ys 1) (1 + (xs.length : Int)) := by
  obtain ⟨ys, h1, h2, h3⟩ := markByteS_ev xs 1 (by omega) hn (by omega)
  refine ⟨ys, h3, ?_⟩
  have := heldByteS_ev ys 1 (by omega) (by omega) (by omega) (fun j hj => h2 j (by omega))
  rwa [h1] at this
end Go.Proofs.Ytoglalgbjobpkaa.G
