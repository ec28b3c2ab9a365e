/-
One element of a table of the call's own, laid open: its numbers are stored, its list of Recent grows. No program in sight. Conditions: none.
-/
import Derived.Test.YtipemgjgimpmbaaHTake0
namespace Go.Proofs.Ytipemgjgimpmbaa.H
open Go.RowKit
set_option linter.unusedVariables false
set_option linter.unusedSimpArgs false
theorem Foc.upd2 {α : Type} {d : Ki α} {e : Nat} {w w1 : World} {F Fi G : List Nat} {g n cap i : Nat} {xs : List α} {cs : List Value} (h : Foc d e w F Fi g n cap xs i cs) (hG : ∀ b ∈ G, b ∈ Fi ∨ b ∉ F) (hu : Upd G w w1) : Foc d e w1 F Fi g n cap xs i cs := by
  have hm := h.mem
  obtain ⟨inner, Fs, ho, hl, hn, hp, hi, hF, rfl, hx⟩ := h
  have hnd := hp.nodup_iff.1 hF
  rw [List.nodup_cons] at hnd
  refine ⟨inner, Fs, ownL_move ho (fun k hk => hu.block k (ho.lt k hk).2 (fun hh => ?_)), hl, hn, hp, hi, hF, rfl, fun k x hk hkx => ?_⟩
  · simp only [Value.ownBlock, Option.some.injEq] at hk
    subst hk
    rcases hG _ hh with h1 | h1
    · exact hm.2.1 h1
    · exact h1 hm.1
  · obtain ⟨Fj, h1, h2⟩ := hx k x hk hkx
    refine ⟨Fj, h1, d.T_frame (fun b hb => hu.block b (d.T_lt h2 b hb) (fun hh => ?_)) h2⟩
    rcases hG _ hh with h3 | h3
    · exact (flat_nd Fs hnd.2).2 k i _ _ hk h1 hi b hb h3
    · exact h3 (hp.mem_iff.2 (List.mem_cons_of_mem _ (List.mem_flatten.2 ⟨Fj, List.mem_of_getElem? h1, hb⟩)))
/-- Element i laid open: its cells (the last one u3), and a row of Recent, v3, that is to be its own. -/
def SeenAt (B : Nat) (W : World) (L : List Seen) (i g c : Nat) (P T N : Int) (u3 v3 : Value) (R : List Recent) : Prop :=
  ∃ F Fi Fc, Foc kSeenX 101 W F Fi g L.length c L i [.int .i64 P, .int .i64 T, .int .i64 N, u3] ∧ TS kRecent 103 W Fc R v3 ∧ Ex W 103 3 v3 R.length ∧ Fc.Nodup ∧ (∀ b ∈ Fc, b ∈ Fi ∨ b ∉ F) ∧ (∀ b ∈ F, B ≤ b ∧ b < W.heap.size) ∧ ∀ b ∈ Fc, B ≤ b
section
variable {B : Nat} {W W1 : World} {L : List Seen} {i g c : Nat} {P T N : Int} {u3 v3 : Value} {R : List Recent}
theorem SeenAt.open {v : Value} {s : Seen} (h : OwnR kSeenX 101 B W L v) (hi : L[i]? = some s) : ∃ g c v3, v = .slice (some ⟨g, 0, none⟩) L.length c ∧ SeenAt B W L i g c s.Producer s.Turn s.Next v3 v3 s.Recent := by
  obtain ⟨F, h1, h2, h3, h4⟩ := h
  have hil := (List.getElem?_eq_some_iff.1 hi).1
  have hlt := TS_lt h1
  obtain ⟨g, c, Fi, x, cs, rfl, hc, hm, hx, hT, hF⟩ := Foc.open h1 h2 hil
  rw [hi] at hx
  cases hx
  obtain ⟨v3, rfl, g3, ex⟩ := SeenX.opnT hT
  have hmem := hF.mem
  exact ⟨g, c, v3, rfl, F, Fi, Fi, hF, g3, ex, hmem.2.2.1, fun b hb => .inl hb, fun b hb => ⟨h3 b hb, hlt b hb⟩, fun b hb => h3 b (hmem.2.2.2 b hb)⟩
theorem SeenAt.cell (h : SeenAt B W L i g c P T N u3 v3 R) : W.cell? ⟨g, i * 4, none⟩ = some (.int .i64 P) ∧ W.cell? ⟨g, i * 4 + 1, none⟩ = some (.int .i64 T) ∧ W.cell? ⟨g, i * 4 + 2, none⟩ = some (.int .i64 N) ∧ W.cell? ⟨g, i * 4 + 3, none⟩ = some u3 := by
  obtain ⟨F, Fi, Fc, hF, _⟩ := h
  exact ⟨(hF.cell 0 (by decide)).1, (hF.cell 1 (by decide)).1, (hF.cell 2 (by decide)).1, (hF.cell 3 (by decide)).1⟩
theorem SeenAt.frz (h : SeenAt B W L i g c P T N u3 v3 R) (j : Nat) (hj : j < 4) : W.frozen? ⟨g, i * 4 + j, none⟩ = false := by
  obtain ⟨F, Fi, Fc, hF, _⟩ := h
  exact (hF.cell j hj).2.1
theorem SeenAt.lt (h : SeenAt B W L i g c P T N u3 v3 R) : g < W.heap.size ∧ B ≤ g := by
  obtain ⟨F, Fi, Fc, hF, _, _, _, _, h6, _⟩ := h
  exact ⟨(h6 g hF.mem.1).2, (h6 g hF.mem.1).1⟩
theorem SeenAt.below (h : SeenAt B W L i g c P T N u3 v3 R) (hb : Below W.heap.size W W1) : SeenAt B W1 L i g c P T N u3 v3 R := by
  obtain ⟨F, Fi, Fc, hF, h1, h2, h3, h4, h5, h6⟩ := h
  exact ⟨F, Fi, Fc, hF.frame hb, TS_below h1 hb, h2.below hb, h3, h4, fun b hb' => ⟨(h5 b hb').1, Nat.lt_of_lt_of_le (h5 b hb').2 hb.size⟩, h6⟩
theorem SeenAt.set (h : SeenAt B W L i g c P T N u3 v3 R) (j : Nat) (hj : j < 4) (u : Value) : ∃ F Fi Fc, Foc kSeenX 101 (W.setCell ⟨g, i * 4 + j, none⟩ u) F Fi g L.length c L i ([Value.int .i64 P, .int .i64 T, .int .i64 N, u3].set j u) ∧ TS kRecent 103 (W.setCell ⟨g, i * 4 + j, none⟩ u) Fc R v3 ∧ Ex (W.setCell ⟨g, i * 4 + j, none⟩ u) 103 3 v3 R.length ∧ Fc.Nodup ∧ (∀ b ∈ Fc, b ∈ Fi ∨ b ∉ F) ∧ (∀ b ∈ F, B ≤ b ∧ b < (W.setCell ⟨g, i * 4 + j, none⟩ u).heap.size) ∧ ∀ b ∈ Fc, B ≤ b := by
  obtain ⟨F, Fi, Fc, hF, h1, h2, h3, h4, h5, h6⟩ := h
  have hm := hF.mem
  have hg : g ∉ Fc := fun hh => by
    rcases h4 g hh with h | h
    · exact hm.2.1 h
    · exact h hm.1
  have hT := h1
  obtain ⟨inner, Fs, ho, hl, hn, hp, hx⟩ := h1
  exact ⟨F, Fi, Fc, hF.set j hj u, TS_setn hT hg, h2.move (fun k hk => Below.heap_setCell W ⟨g, i * 4 + j, none⟩ u k (fun e => hg (hp.mem_iff.2 (by simp at e; subst e; simp [hk])))), h3, h4, fun b hb => ⟨(h5 b hb).1, by simpa using (h5 b hb).2⟩, h6⟩
theorem SeenAt.setT (h : SeenAt B W L i g c P T N u3 v3 R) (t : Int) : SeenAt B (W.setCell ⟨g, i * 4 + 1, none⟩ (.int .i64 t)) L i g c P t N u3 v3 R := h.set 1 (by decide) _
theorem SeenAt.setN (h : SeenAt B W L i g c P T N u3 v3 R) (t : Int) : SeenAt B (W.setCell ⟨g, i * 4 + 2, none⟩ (.int .i64 t)) L i g c P T t u3 v3 R := h.set 2 (by decide) _
theorem SeenAt.set3 (h : SeenAt B W L i g c P T N u3 v3 R) (u : Value) : SeenAt B (W.setCell ⟨g, i * 4 + 3, none⟩ u) L i g c P T N u v3 R := h.set 3 (by decide) _
/-- Another row of Recent, its blocks new, or none. -/
theorem SeenAt.row (h : SeenAt B W L i g c P T N u3 v3 R) {R' : List Recent} {v' : Value} {Fc : List Nat} (h1 : TS kRecent 103 W Fc R' v') (h2 : Ex W 103 3 v' R'.length) (h3 : Fc.Nodup) (h4 : ∀ F : List Nat, (∀ b ∈ F, b < W.heap.size) → g ∈ F → ∀ b ∈ Fc, b ∉ F) (h6 : ∀ b ∈ Fc, B ≤ b) : SeenAt B W L i g c P T N u3 v' R' := by
  obtain ⟨F, Fi, Fc0, hF, _, _, _, _, h5, _⟩ := h
  exact ⟨F, Fi, Fc, hF, h1, h2, h3, fun b hb => .inr (h4 F (fun b hb => (h5 b hb).2) hF.mem.1 b hb), h5, h6⟩
theorem SeenAt.nil (h : SeenAt B W L i g c P T N u3 v3 R) : SeenAt B W L i g c P T N u3 (.slice none 0 0) [] := h.row TS_nil Ex.nil List.nodup_nil (by simp) (by simp)
/-- A row of Recent made behind W: its blocks are newer than all that the table has. -/
theorem SeenAt.fresh (h : SeenAt B W L i g c P T N u3 v3 R) (hb : Below W.heap.size W W1) {R' : List Recent} {v' : Value} (hO : OwnR kRecent 103 W.heap.size W1 R' v') : SeenAt B W1 L i g c P T N u3 v' R' := by
  have hB := h.lt
  obtain ⟨F, Fi, Fc0, hF, _, _, _, _, h5, _⟩ := h
  obtain ⟨Fc, k1, k2, k3, k4⟩ := hO
  exact ⟨F, Fi, Fc, hF.frame hb, k1, k4, k2, fun b hb' => .inr (fun hf => by have := (h5 b hf).2; have := k3 b hb'; omega), fun b hb' => ⟨(h5 b hb').1, Nat.lt_of_lt_of_le (h5 b hb').2 hb.size⟩, fun b hb' => by have := k3 b hb'; omega⟩
theorem SeenAt.close (h : SeenAt B W L i g c P T N v3 v3 R) : OwnT kSeenX 101 B W (L.set i ⟨P, T, N, R⟩) (.slice (some ⟨g, 0, none⟩) L.length c) := by
  obtain ⟨F, Fi, Fc, hF, h1, h2, h3, h4, h5, h6⟩ := h
  obtain ⟨F', k1, k2, k3⟩ := Foc.close2 hF (SeenX.mkT W ⟨P, T, N, R⟩ h1 h2) h3 h4
  refine ⟨F', k1, k2, fun b hb => ?_⟩
  rcases k3 b hb with hh | hh
  · exact (h5 b hh).1
  · exact h6 b hh
theorem SeenAt.recent (h : SeenAt B W L i g c P T N v3 v3 R) : ∃ A c3, v3 = .slice A R.length c3 ∧ R.length ≤ c3 ∧ Row kRecent W A R := by
  obtain ⟨F, Fi, Fc, hF, h1, _⟩ := h
  obtain ⟨A, c3, e, hl, _, hr⟩ := TS_read h1
  exact ⟨A, c3, e, hl, hr⟩
theorem SeenAt.rowOf {A : Option Addr} {n c9 : Nat} (h : SeenAt B W L i g c P T N u3 (.slice A n c9) R) (hp : 0 < R.length) (hn : n = 6) : ∃ k, A = some ⟨k, 0, none⟩ ∧ 6 ≤ c9 ∧ Row kRecent W (some ⟨k, 0, none⟩) R := by
  obtain ⟨F, Fi, Fc, hF, h1, _⟩ := h
  have h2 := TS_read h1
  obtain ⟨inner, Fs, ho, _⟩ := h1
  obtain ⟨A', c', e, hl, _, hr⟩ := h2
  simp only [Value.slice.injEq] at e
  obtain ⟨rfl, rfl, rfl⟩ := e
  rcases ownL_form ho with ⟨e1, _⟩ | ⟨k, cap, e1, _⟩
  · simp only [Value.slice.injEq] at e1
    omega
  · simp only [Value.slice.injEq] at e1
    obtain ⟨rfl, _, _⟩ := e1
    exact ⟨k, rfl, by omega, hr⟩
theorem OwnT.toSeen {v : Value} (h : OwnT kSeenX 101 B W L v) : OwnT kSeen 101 B W L v := by
  obtain ⟨F, h1, h2, h3⟩ := h
  exact ⟨F, seenX_TS h1, h2, h3⟩
end
/-- 'append(s.Recent, r)', at a step of a region that draws its order. -/
theorem step_recent {P : Program} {W w : World} {ops : Array Oper} {o : Oper} {a : Act} {K : Act → World → Prop} {Q : Exit → Act → World → Prop} {E : Prop} {z : Value} (hI : (P.info? 103).map (fun i => (i.zero, i.size, i.bytes)) = some (some z, 3, 24)) (hzs : z.cells.size = 3)
    (hgd : o.guard = none) (s x : Operand) (t : TypeId) (ho : o.op = .call { callee := .builtin .append, args := #[s, x], argTypes := #[t, t] }) (ht : P.underlying t = some (.slice 103))
    {B : Nat} {L : List Seen} {i g c : Nat} {Pr T N : Int} {u3 v3 : Value} {R : List Recent} (hs : a.eval s = v3) (h : SeenAt B W L i g c Pr T N u3 v3 R) (hb : Below W.heap.size W w) (r : Recent) (vb cx : Nat) (hx : a.eval x = .slice (some ⟨vb, 0, none⟩) 1 cx) (hc : Box w vb #[.int .i64 r.Seq, .int .i64 r.Many, .int .i64 r.Offset]) (hn : R.length ≤ 1000)
    (hK : ∀ A cap w', SeenAt B w' L i g c Pr T N u3 (.slice A (R.length + 1) cap) (R ++ [r]) → (∀ k, k < w.heap.size → k < B → w'.heap[k]? = w.heap[k]?) → Below B w w' → K (a.put o.dst (.slice A (R.length + 1) cap)) w') :
    if Region.wanted o (yielded ops a.tmps) = true then Oper.wp P o a w K Q else E := by
  obtain ⟨i0, hi, hz0, hz1, hz2⟩ := info_parts hI
  have hg := (h.below hb).lt
  obtain ⟨F, Fi, Fc, hF, h1, h2, h3, h4, h5, h6⟩ := h.below hb
  obtain ⟨inner, Gs, hownL, hl, _, hp, hxx⟩ := h1
  have hown := h2.row hownL (by decide)
  refine step_append_lies w hgd s x t ho 0 103 i0 z 3 24 ht hi hz0 hz1 hz2 hzs (by decide) v3 _ inner hs hown ⟨vb, 0, none⟩ 1 cx [.int .i64 r.Seq, .int .i64 r.Many, .int .i64 r.Offset] hx rfl (fun j u hj => ?_) (kRecent.one (Recent.mk_ w r)) (by omega) (by simp only [maxLen]; omega) (Nat.le_trans (Nat.mul_le_mul (by omega : _ ≤ 1001) (Nat.le_refl 24)) (by decide)) (Nat.zero_le _) w.heap.size rfl fun g' cap w' hown' hgr hat _ => ?_
  · have hcj := hc j u (by simpa using hj)
    by_cases e0 : j = 0
    · subst e0; exact hcj
    · simpa [Addr.add, e0] using hcj
  · obtain ⟨F', k1, k2, k3, k4⟩ := TS_appF (Fx := []) hown hl hp (by simpa using h3) hxx (Recent.mkT w r) hown' hgr (by
      rcases hat with h | h
      · exact .inl (by rw [h]; rfl)
      · exact .inr (by rw [h]; rfl))
    have hbB : Below B w w' := k4.below h6 (by omega)
    refine hK _ cap w' ⟨F, Fi, F', hF.upd2 h4 k4, k1, by rw [List.length_append, List.length_singleton]; exact Ex.of hown', k2, fun b hb' => ?_, fun b hb' => ⟨(h5 b hb').1, Nat.lt_of_lt_of_le (h5 b hb').2 k4.size⟩, fun b hb' => ?_⟩ (fun k _ hk => hbB.block k hk) hbB
    · rcases k3 b hb' with hh | hh | hh
      · exact h4 b hh
      · cases hh
      · exact .inr (fun hf => by have := (h5 b hf).2; omega)
    · rcases k3 b hb' with hh | hh | hh
      · exact h6 b hh
      · cases hh
      · omega
theorem rec_tail {w W9 W' wa : World} {B J g o : Nat} {cs : Array Value} {t : TypeId} (hX : Blk W9 J cs t) (hb : Below w.heap.size w W9) (bl : Below W9.heap.size W9 W') (hbB : Below B W' wa) (hJ : J < B) (hwB : w.heap.size ≤ B) (hgB : B ≤ g) (u : Value) :
    Blk (wa.setCell ⟨g, o, none⟩ u) J cs t ∧ Below w.heap.size w (wa.setCell ⟨g, o, none⟩ u) := by
  have h1 : Blk wa J cs t := (hbB.block J hJ).trans (hX.below bl)
  refine ⟨h1.far g o u (by omega), ?_⟩
  have h2 : Below w.heap.size w wa := (below_tr hb bl).trans (hbB.mono hwB)
  exact h2.setCell (p := ⟨g, o, none⟩) (by simp; omega) u
theorem cloneRecent_n (w : World) (l : List Recent) (n : Nat) (hn : l.length = n) {A : Option Addr} {c : Nat} (hc : n ≤ c) (hr : Row kRecent w A l) (hl : n ≤ 1048576) :
    Calls Try.prog 72 #[.slice A n c] w (fun en w' => ∃ A c, en = .returned (.slice A n c) ∧ OwnR kRecent 103 w.heap.size w' l (.slice A n c) ∧ Below w.heap.size w w') := by
  subst hn
  exact cloneRecent_c w l hc hr hl
end Go.Proofs.Ytipemgjgimpmbaa.H
