/-
A row whose own block is old or new: one element more, its blocks newer. No program in sight. Conditions: none.
-/
import Derived.Test.YtipemgjgimpmbaaHMv3
namespace Go.Proofs.Ytipemgjgimpmbaa.H
open Go.RowKit
set_option linter.unusedVariables false
theorem MvM.lit {α : Type} {d : Ki α} {e : Nat} {w : World} {g N : Nat} (h : Blk w g #[] e) : MvM d e w [] 0 (g + 1) N g [] (.slice (some ⟨g, 0, none⟩) 0 0) := by
  have ho : w.ownsRow 0 e d.sz (.slice (some ⟨g, 0, none⟩) 0 0) 0 [] := ⟨by simp, .inr ⟨g, 0, #[], rfl, Nat.zero_le _, h, Nat.le_refl _, Nat.zero_le _, by simp, by simp⟩⟩
  exact ⟨[g], ⟨[], [], ownsL_of ho, rfl, Nat.le_refl _, by simp [Value.ownBlock], by simp⟩, by simp, by simp, by simp, Ex.of ho, fun k hk => by simp [Value.ownBlock] at hk; omega⟩
/-- 'append(s, y)', y's blocks newer than s. -/
theorem list_mv4 {α : Type} {d : Ki α} {P : Program} {wo w : World} {e N M B i : Nat} {Fs : List (List Nat)} {ops : Array Oper} {rest : List Oper} {o : Oper} {a : Act} {Q : Exit → Act → World → Prop} {z : Value} {bytes : Nat} (hI : (P.info? e).map (fun i => (i.zero, i.size, i.bytes)) = some (some z, d.sz, bytes)) (hzs : z.cells.size = d.sz) (hsz : 0 < d.sz) (hb2 : bytes ≤ 1000)
    (hgd : o.guard = none) (s x : Operand) (t : TypeId) (ho : o.op = .call { callee := .builtin .append, args := #[s, x], argTypes := #[t, t] }) (ht : P.underlying t = some (.slice e))
    {xs : List α} {y : α} {v : Value} {Fx : List Nat} {cs : Array Value} (hs : a.eval s = v) (hO : MvM d e wo Fs i M N B xs v) (hb : Below wo.heap.size wo w) (hNw : N ≤ wo.heap.size) (g c : Nat) (hx : a.eval x = .slice (some ⟨g, 0, none⟩) 1 c)
    (hT : d.T w Fx y cs.toList) (hc : Box w g cs) (hFx : Fresh wo Fx) (hBM : B ≤ M) (hMN : M ≤ N) (hn : xs.length ≤ 1048576)
    (h : ∀ A c w', MvM d e w' Fs i M N B (xs ++ [y]) (.slice A (xs.length + 1) c) → w.grownBy w' v.ownBlock → (∀ k, v.ownBlock = some k → B ≤ k ∧ (k < M ∨ N ≤ k)) → ((Value.slice A (xs.length + 1) c).ownBlock = v.ownBlock ∨ (Value.slice A (xs.length + 1) c).ownBlock = some w.heap.size) → wpList P ops Q rest (a.put o.dst (.slice A (xs.length + 1) c)) w') : wpList P ops Q (o :: rest) a w := by
  have hsw := hb.size
  have hbk := hO.blk
  obtain ⟨F, h1, h2, h3, h4, hEx, h6⟩ := hO
  obtain ⟨i0, hi, hz0, hz1, hz2⟩ := info_parts hI
  have hlt := TS_lt h1
  have hnd : (F ++ Fx).Nodup := List.nodup_append.2 ⟨h2, hFx.1, fun p hp q hq => by have := hlt p hp; have := hFx.2 q hq; omega⟩
  obtain ⟨inner, Gs, hownL, hl, _, hp, hxx⟩ := TS_below h1 hb
  have hown := (hEx.below hb).row hownL hsz
  have hlen := d.len (d.T_K hT)
  have hnews : ∀ j u, cs.toList[j]? = some u → w.cell? ((⟨g, 0, none⟩ : Addr).add j) = some u := fun j u hj => by
    have hcj := hc j u (by simpa using hj)
    by_cases e0 : j = 0
    · subst e0; exact hcj
    · simpa [Addr.add, e0] using hcj
  refine wpList_append_own_at _ hgd s x t ho 0 e i0 z d.sz bytes ht hi hz0 hz1 hz2 hzs hsz v _ inner hs hown ⟨g, 0, none⟩ 1 c cs.toList hx (by omega) hnews (d.one (d.T_K hT)) (by simp only [maxLen]; omega) (Nat.le_trans (Nat.mul_le_mul (by omega : _ ≤ 1048577) hb2) (by decide)) (Nat.zero_le _) fun v' w' hown' hgr _ hat => ?_
  obtain ⟨F', q1, q2, q3, q4⟩ := TS_appF hown hl hp hnd hxx hT hown' hgr hat
  obtain ⟨A, cap, rfl, _⟩ := TS_read q1
  have hl2 : (xs ++ [y]).length = xs.length + 1 := by simp
  rw [hl2] at q1 hat hown' ⊢
  refine h A cap w' ⟨F', q1, q2, fun b hb' => ?_, fun b hb' => ?_, Ex.of (base := 0) (by rw [hl2]; exact hown'), fun k hk => ?_⟩ hgr (fun k hk => ⟨hbk k hk, h6 k hk⟩) hat
  · rcases q3 b hb' with h | h | h
    · exact h3 b h
    · have := hFx.2 b h; omega
    · omega
  · rcases q3 b hb' with h | h | h
    · exact h4 b h
    · exact .inr (.inr (by have := hFx.2 b h; omega))
    · exact .inr (.inr (by omega))
  · rcases hat with h | h
    · exact h6 k (by rw [← h]; exact hk)
    · rw [hk] at h
      have := Option.some.inj h
      exact .inr (by omega)
end Go.Proofs.Ytipemgjgimpmbaa.H
