/-
Elements that are moved out of one row after another into a row of the call's own. No program in sight. Conditions: none.
-/
import Derived.Test.YtipemgjgimpmbaaHMv2
namespace Go.Proofs.Ytipemgjgimpmbaa.H
open Go.RowKit
set_option linter.unusedVariables false
/-- A row, in blocks from B on: blocks older than M, of the elements ahead of place i, or from N on. -/
def MvM {α : Type} (d : Ki α) (e : Nat) (w : World) (Fs : List (List Nat)) (i M N B : Nat) (ys : List α) (v : Value) : Prop :=
  ∃ F, TS d e w F ys v ∧ F.Nodup ∧ (∀ b ∈ F, B ≤ b) ∧ (∀ b ∈ F, (∃ j Fj, j < i ∧ Fs[j]? = some Fj ∧ b ∈ Fj) ∨ b < M ∨ N ≤ b) ∧ Ex w e d.sz v ys.length ∧ ∀ k, v.ownBlock = some k → k < M ∨ N ≤ k
section
variable {α : Type} {d : Ki α} {e : Nat} {w w1 : World} {Fs : List (List Nat)} {ys : List α} {v : Value} {i M N B : Nat}
theorem MvM.start (h : OwnR d e B w ys v) (hM : w.heap.size ≤ M) : MvM d e w Fs i M N B ys v := by
  obtain ⟨F, h1, h2, h3, h4⟩ := h
  exact ⟨F, h1, h2, h3, fun b hb => .inr (.inl (by have := TS_lt h1 b hb; omega)), h4, fun k hk => .inl (by have := h4.lt k hk; omega)⟩
theorem MvM.own (h : MvM d e w Fs i M N B ys v) : OwnR d e B w ys v := by
  obtain ⟨F, h1, h2, h3, _, h4, _⟩ := h
  exact ⟨F, h1, h2, h3, h4⟩
theorem MvM.blk (h : MvM d e w Fs i M N B ys v) : ∀ k, v.ownBlock = some k → B ≤ k := h.own.blk
theorem MvM.below (h : MvM d e w Fs i M N B ys v) (hb : Below w.heap.size w w1) : MvM d e w1 Fs i M N B ys v := by
  obtain ⟨F, h1, h2, h3, h4, h5, h6⟩ := h
  exact ⟨F, TS_below h1 hb, h2, h3, h4, h5.below hb, h6⟩
theorem MvM.skip (h : MvM d e w Fs i M N B ys v) : MvM d e w Fs (i + 1) M N B ys v := by
  obtain ⟨F, h1, h2, h3, h4, h5, h6⟩ := h
  exact ⟨F, h1, h2, h3, fun b hb => (h4 b hb).imp (fun ⟨j, Fj, hj, h⟩ => ⟨j, Fj, by omega, h⟩) id, h5, h6⟩
theorem St.grown2 {B N : Nat} {w w1 : World} {row : Option Nat} (hg : w.grownBy w1 row) (hN : N ≤ w.heap.size) (hr : ∀ k, row = some k → k < B ∨ N ≤ k) : St B N w w1 := fun i h1 h2 => hg.block i (by omega) (fun e => by have := hr i e.symm; omega)
end
/-- 'append(s, y)', y moved out of the row told by Fs, s begun earlier. -/
theorem list_mv3 {α : Type} {d : Ki α} {P : Program} {wo w : World} {e N M B i : Nat} {Fs : List (List Nat)} {ops : Array Oper} {rest : List Oper} {o : Oper} {a : Act} {Q : Exit → Act → World → Prop} {z : Value} {bytes : Nat} (hI : (P.info? e).map (fun i => (i.zero, i.size, i.bytes)) = some (some z, d.sz, bytes)) (hzs : z.cells.size = d.sz) (hsz : 0 < d.sz) (hb2 : bytes ≤ 1000)
    (hgd : o.guard = none) (s x : Operand) (t : TypeId) (ho : o.op = .call { callee := .builtin .append, args := #[s, x], argTypes := #[t, t] }) (ht : P.underlying t = some (.slice e))
    {xs : List α} {y : α} {v : Value} {Fi : List Nat} {cs : Array Value} (hs : a.eval s = v) (hO : MvM d e wo Fs i M N B xs v) (hb : Below wo.heap.size wo w) (hNw : N ≤ wo.heap.size) (g c : Nat) (hx : a.eval x = .slice (some ⟨g, 0, none⟩) 1 c)
    (hT : d.T w Fi y cs.toList) (hc : Box w g cs) (hFs : Fs.flatten.Nodup) (hFi : Fs[i]? = some Fi) (hFN : ∀ b ∈ Fi, M ≤ b ∧ b < N) (hBM : B ≤ M) (hMN : M ≤ N) (hn : xs.length ≤ 1048576)
    (h : ∀ A c w', MvM d e w' Fs (i + 1) M N B (xs ++ [y]) (.slice A (xs.length + 1) c) → w.grownBy w' v.ownBlock → (∀ k, v.ownBlock = some k → B ≤ k ∧ (k < M ∨ N ≤ k)) → wpList P ops Q rest (a.put o.dst (.slice A (xs.length + 1) c)) w') : wpList P ops Q (o :: rest) a w := by
  have hsw := hb.size
  have hbk := hO.blk
  obtain ⟨F, h1, h2, h3, h4, hEx, h6⟩ := hO
  obtain ⟨i0, hi, hz0, hz1, hz2⟩ := info_parts hI
  have hnd : (F ++ Fi).Nodup := List.nodup_append.2 ⟨h2, (flat_nd Fs hFs).1 Fi (List.mem_of_getElem? hFi), fun p hp q hq => fun e => by
    subst e
    have hq2 := hFN p hq
    rcases h4 p hp with ⟨j, Fj, hj, hFj, hb⟩ | hb | hb
    · exact (flat_nd Fs hFs).2 j i Fj Fi (by omega) hFj hFi p hb hq
    · omega
    · omega⟩
  obtain ⟨inner, Gs, hownL, hl, _, hp, hxx⟩ := TS_below h1 hb
  have hown := (hEx.below hb).row hownL hsz
  have hlen := d.len (d.T_K hT)
  have hnews : ∀ j u, cs.toList[j]? = some u → w.cell? ((⟨g, 0, none⟩ : Addr).add j) = some u := fun j u hj => by
    have hcj := hc j u (by simpa using hj)
    by_cases e0 : j = 0
    · subst e0; exact hcj
    · simpa [Addr.add, e0] using hcj
  refine wpList_append_own_at _ hgd s x t ho 0 e i0 z d.sz bytes ht hi hz0 hz1 hz2 hzs hsz v _ inner hs hown ⟨g, 0, none⟩ 1 c cs.toList hx (by omega) hnews (d.one (d.T_K hT)) (by simp only [maxLen]; omega) (Nat.le_trans (Nat.mul_le_mul (by omega : _ ≤ 1048577) hb2) (by decide)) (Nat.zero_le _) fun v' w' hown' hgr _ hat => ?_
  obtain ⟨F', q1, q2, q3, q4⟩ := TS_appF hown hl hp hnd hxx hT hown' hgr hat
  obtain ⟨A, cap, rfl, _⟩ := TS_read q1
  have hl2 : (xs ++ [y]).length = xs.length + 1 := by simp
  rw [hl2] at q1 hat hown' ⊢
  refine h A cap w' ⟨F', q1, q2, fun b hb' => ?_, fun b hb' => ?_, Ex.of (base := 0) (by rw [hl2]; exact hown'), fun k hk => ?_⟩ hgr (fun k hk => ⟨hbk k hk, h6 k hk⟩)
  · rcases q3 b hb' with h | h | h
    · exact h3 b h
    · have := hFN b h; omega
    · omega
  · rcases q3 b hb' with h | h | h
    · exact (h4 b h).imp (fun ⟨j, Fj, hj, h⟩ => ⟨j, Fj, by omega, h⟩) id
    · exact .inl ⟨i, Fi, by omega, hFi, h⟩
    · exact .inr (.inr (by omega))
  · rcases hat with h | h
    · exact h6 k (by rw [← h]; exact hk)
    · rw [hk] at h
      have := Option.some.inj h
      exact .inr (by omega)
end Go.Proofs.Ytipemgjgimpmbaa.H
