/-
Elements that are moved from one row of the call's own to another, changed on the way. No program in sight. Conditions: none.
-/
import Derived.Test.YtipemgjgimpmbaaHMv
namespace Go.Proofs.Ytipemgjgimpmbaa.H
open Go.RowKit
set_option linter.unusedVariables false
/-- The same, y made out of the element at place i: its blocks are of Fi, or newer than s. -/
theorem list_mv2 {α : Type} {d : Ki α} {P : Program} {wo w : World} {e N i : Nat} {Fs : List (List Nat)} {ops : Array Oper} {rest : List Oper} {o : Oper} {a : Act} {Q : Exit → Act → World → Prop} {z : Value} {bytes : Nat} (hI : (P.info? e).map (fun i => (i.zero, i.size, i.bytes)) = some (some z, d.sz, bytes)) (hzs : z.cells.size = d.sz) (hsz : 0 < d.sz) (hb2 : bytes ≤ 1000)
    (hgd : o.guard = none) (s x : Operand) (t : TypeId) (ho : o.op = .call { callee := .builtin .append, args := #[s, x], argTypes := #[t, t] }) (ht : P.underlying t = some (.slice e))
    {xs : List α} {y : α} {v : Value} {Fi Fx : List Nat} {cs : Array Value} (hs : a.eval s = v) (hO : Mv d e wo Fs i N xs v) (hb : Below wo.heap.size wo w) (hNw : N ≤ wo.heap.size) (g c : Nat) (hx : a.eval x = .slice (some ⟨g, 0, none⟩) 1 c)
    (hT : d.T w Fx y cs.toList) (hc : Box w g cs) (hFs : Fs.flatten.Nodup) (hFi : Fs[i]? = some Fi) (hFN : ∀ b ∈ Fi, b < N) (hFx : Fx.Nodup) (hFxi : ∀ b ∈ Fx, b ∈ Fi ∨ wo.heap.size ≤ b) (hn : xs.length ≤ 1048576)
    (h : ∀ A c w', Mv d e w' Fs (i + 1) N (xs ++ [y]) (.slice A (xs.length + 1) c) → w.grownBy w' v.ownBlock → (∀ k, v.ownBlock = some k → N ≤ k) → wpList P ops Q rest (a.put o.dst (.slice A (xs.length + 1) c)) w') : wpList P ops Q (o :: rest) a w := by
  have hsw := hb.size
  obtain ⟨F, h1, h2, h3, h4, hEx⟩ := hO
  obtain ⟨i0, hi, hz0, hz1, hz2⟩ := info_parts hI
  have hlt := TS_lt h1
  have hnd : (F ++ Fx).Nodup := List.nodup_append.2 ⟨h2, hFx, fun p hp q hq => fun e => by
    subst e
    rcases hFxi p hq with hq | hq
    · rcases h4 p hp with ⟨j, Fj, hj, hFj, hb⟩ | hb
      · exact (flat_nd Fs hFs).2 j i Fj Fi (by omega) hFj hFi p hb hq
      · have := hFN p hq; omega
    · have := hlt p hp; omega⟩
  obtain ⟨inner, Gs, hownL, hl, _, hp, hxx⟩ := TS_below h1 hb
  have hown := (hEx.below hb).row hownL hsz
  have hlen := d.len (d.T_K hT)
  have hnews : ∀ j u, cs.toList[j]? = some u → w.cell? ((⟨g, 0, none⟩ : Addr).add j) = some u := fun j u hj => by
    have hcj := hc j u (by simpa using hj)
    by_cases e0 : j = 0
    · subst e0; exact hcj
    · simpa [Addr.add, e0] using hcj
  refine wpList_append_own_at _ hgd s x t ho 0 e i0 z d.sz bytes ht hi hz0 hz1 hz2 hzs hsz v _ inner hs hown ⟨g, 0, none⟩ 1 c cs.toList hx (by omega) hnews (d.one (d.T_K hT)) (by simp only [maxLen]; omega) (Nat.le_trans (Nat.mul_le_mul (by omega : _ ≤ 1048577) hb2) (by decide)) (Nat.zero_le _) fun v' w' hown' hgr _ hat => ?_
  obtain ⟨F', q1, q2, q3, q4⟩ := TS_appF hown hl hp hnd hxx hT hown' hgr hat
  obtain ⟨A, cap, rfl, _⟩ := TS_read q1
  have hl2 : (xs ++ [y]).length = xs.length + 1 := by simp
  rw [hl2] at q1 hat hown' ⊢
  refine h A cap w' ⟨F', q1, q2, fun k hk => ?_, fun b hb' => ?_, Ex.of (base := 0) (by rw [hl2]; exact hown')⟩ hgr h3
  · rcases hat with h | h
    · exact h3 k (by rw [← h]; exact hk)
    · rw [hk] at h
      have := Option.some.inj h
      omega
  · rcases q3 b hb' with h | h | h
    · exact (h4 b h).imp (fun ⟨j, Fj, hj, h⟩ => ⟨j, Fj, by omega, h⟩) id
    · rcases hFxi b h with h | h
      · exact .inl ⟨i, Fi, by omega, hFi, h⟩
      · exact .inr (by omega)
    · exact .inr (by omega)
end Go.Proofs.Ytipemgjgimpmbaa.H
