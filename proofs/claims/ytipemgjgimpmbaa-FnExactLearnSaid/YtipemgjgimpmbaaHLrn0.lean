/-
A table of the call's own: one element written over, whole. No program in sight. Conditions: none.
-/
import Derived.Test.YtipemgjgimpmbaaHLrnP
import Derived.Test.YtipemgjgimpmbaaHSeenS
namespace Go.Proofs.Ytipemgjgimpmbaa.H
open Go.RowKit
set_option linter.unusedVariables false
set_option linter.unusedSimpArgs false
def putSeen (W : World) (g i : Nat) (p t : Int) : World := (((W.setCell ⟨g, i * 4, none⟩ (.int .i64 p)).setCell ⟨g, i * 4 + 1, none⟩ (.int .i64 t)).setCell ⟨g, i * 4 + 2, none⟩ (.int .i64 0)).setCell ⟨g, i * 4 + 3, none⟩ (.slice none 0 0)
theorem own_put {d : Ki Seen} (hsz : d.sz = 4) {e B : Nat} {W : World} {L : List Seen} {v : Value} {i : Nat} {s : Seen} (hK : ∀ w F x cs, d.T w F x cs → ∃ u3, cs = [.int .i64 x.Producer, .int .i64 x.Turn, .int .i64 x.Next, u3]) (hM : ∀ W' p t, d.T W' [] (markS p t) [.int .i64 p, .int .i64 t, .int .i64 0, .slice none 0 0]) (h : OwnT d e B W L v) (hi : L[i]? = some s) :
    ∃ g c u3, v = .slice (some ⟨g, 0, none⟩) L.length c ∧ L.length ≤ c ∧ B ≤ g ∧ g < W.heap.size ∧ (W.cell? ⟨g, i * 4, none⟩ = some (.int .i64 s.Producer) ∧ W.cell? ⟨g, i * 4 + 1, none⟩ = some (.int .i64 s.Turn) ∧ W.cell? ⟨g, i * 4 + 2, none⟩ = some (.int .i64 s.Next) ∧ W.cell? ⟨g, i * 4 + 3, none⟩ = some u3) ∧
      (W.frozen? ⟨g, i * 4, none⟩ = false ∧ W.frozen? ⟨g, i * 4 + 1, none⟩ = false ∧ W.frozen? ⟨g, i * 4 + 2, none⟩ = false ∧ W.frozen? ⟨g, i * 4 + 3, none⟩ = false) ∧
      ∀ p t, OwnT d e B (putSeen W g i p t) (L.set i (markS p t)) (.slice (some ⟨g, 0, none⟩) L.length c) := by
  obtain ⟨F, h1, h2, h3⟩ := h
  have hil := (List.getElem?_eq_some_iff.1 hi).1
  have hlt := TS_lt h1
  obtain ⟨g, c, Fi, x, cs, rfl, hc, hm, hx, hT, hF⟩ := Foc.open h1 h2 hil
  rw [hi] at hx
  cases hx
  obtain ⟨u3, rfl⟩ := hK _ _ _ _ hT
  have hmem := hF.mem
  have hcell : ∀ j, j < 4 → W.cell? ⟨g, i * 4 + j, none⟩ = [Value.int .i64 s.Producer, .int .i64 s.Turn, .int .i64 s.Next, u3][j]? ∧ W.frozen? ⟨g, i * 4 + j, none⟩ = false := fun j hj => by
    have h := hF.cell j (by rw [hsz]; exact hj)
    rw [hsz] at h
    exact ⟨h.1, h.2.1⟩
  have hset : ∀ {W' : World} {cs' : List Value} (j : Nat) (u : Value), j < 4 → Foc d e W' F Fi g L.length c L i cs' → Foc d e (W'.setCell ⟨g, i * 4 + j, none⟩ u) F Fi g L.length c L i (cs'.set j u) := fun {W' cs'} j u hj hf => by
    have h := hf.set j (by rw [hsz]; exact hj) u
    rw [hsz] at h
    exact h
  refine ⟨g, c, u3, rfl, hc, h3 g hmem.1, hlt g hmem.1, ⟨(hcell 0 (by decide)).1, (hcell 1 (by decide)).1, (hcell 2 (by decide)).1, (hcell 3 (by decide)).1⟩, ⟨(hcell 0 (by decide)).2, (hcell 1 (by decide)).2, (hcell 2 (by decide)).2, (hcell 3 (by decide)).2⟩, fun p t => ?_⟩
  have hf : Foc d e (putSeen W g i p t) F Fi g L.length c L i [.int .i64 p, .int .i64 t, .int .i64 0, .slice none 0 0] := hset 3 (.slice none 0 0) (by decide) (hset 2 (.int .i64 0) (by decide) (hset 1 (.int .i64 t) (by decide) (hset 0 (.int .i64 p) (by decide) hF)))
  obtain ⟨F', k1, k2, k3⟩ := hf.close2 (hM _ p t) List.nodup_nil (by simp)
  exact ⟨F', k1, k2, fun b hb => (k3 b hb).elim (h3 b) (fun h => by cases h)⟩
theorem put_below {B g i : Nat} {W W0 : World} (h : Below B W0 W) (hg : B ≤ g) (p t : Int) : Below B W0 (putSeen W g i p t) := (((h.setCell (p := ⟨g, i * 4, none⟩) hg _).setCell (p := ⟨g, i * 4 + 1, none⟩) hg _).setCell (p := ⟨g, i * 4 + 2, none⟩) hg _).setCell (p := ⟨g, i * 4 + 3, none⟩) hg _
theorem seen_K (w : World) (F : List Nat) (x : Seen) (cs : List Value) (h : kSeen.T w F x cs) : ∃ u3, cs = [.int .i64 x.Producer, .int .i64 x.Turn, .int .i64 x.Next, u3] := by
  obtain ⟨v3, F3, rfl, _⟩ := Seen.opnT h
  exact ⟨v3, rfl⟩
theorem seen_M (w : World) (p t : Int) : kSeen.T w [] (markS p t) [.int .i64 p, .int .i64 t, .int .i64 0, .slice none 0 0] := Seen.mkT w (markS p t) TS_nil
theorem seenS_K (w : World) (F : List Nat) (x : Seen) (cs : List Value) (h : kSeenS.T w F x cs) : ∃ u3, cs = [.int .i64 x.Producer, .int .i64 x.Turn, .int .i64 x.Next, u3] := by
  obtain ⟨A, c, rfl, _⟩ := SeenS.opnT h
  exact ⟨_, rfl⟩
theorem seenS_M (w : World) (p t : Int) : kSeenS.T w [] (markS p t) [.int .i64 p, .int .i64 t, .int .i64 0, .slice none 0 0] := SeenS.mkT w (markS p t) (Nat.le_refl _) (fun h => absurd h (Nat.lt_irrefl _)) (fun ad e => by cases e) (fun _ => rfl)
theorem OwnT.row {B : Nat} {w : World} {xs : List Seen} {v : Value} (h : OwnT kSeen 101 B w xs v) : ∃ A c, v = .slice A xs.length c ∧ xs.length ≤ c ∧ Row kSeen w A xs := by
  obtain ⟨F, h1, _⟩ := h
  obtain ⟨A, c, e, h2, _, h3⟩ := TS_read h1
  exact ⟨A, c, e, h2, h3⟩
end Go.Proofs.Ytipemgjgimpmbaa.H
