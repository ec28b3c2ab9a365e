/-
Elements that are moved from one row of the call's own to another: what they lead to stays. No program in sight. Conditions: none.
-/
import Derived.Test.YtipemgjgimpmbaaHCopy3
namespace Go.Proofs.Ytipemgjgimpmbaa.H
open Go.RowKit
set_option linter.unusedVariables false
/-- The blocks from B up to N stand as they did. -/
def St (B N : Nat) (w w1 : World) : Prop := ∀ b, B ≤ b → b < N → w1.heap[b]? = w.heap[b]?
theorem St.refl (B N : Nat) (w : World) : St B N w w := fun _ _ _ => rfl
theorem St.trans {B N : Nat} {a b c : World} (h : St B N a b) (k : St B N b c) : St B N a c := fun i h1 h2 => (k i h1 h2).trans (h i h1 h2)
theorem St.of_below {B N : Nat} {a b : World} (h : Below a.heap.size a b) (hN : N ≤ a.heap.size) : St B N a b := fun i _ h2 => h.block i (by omega)
theorem St.set {B N : Nat} (w : World) (g o : Nat) (u : Value) (hg : g < B) : St B N w (w.setCell ⟨g, o, none⟩ u) := fun i h1 _ => Below.heap_setCell w ⟨g, o, none⟩ u i (by simp; omega)
theorem St.grown {B N : Nat} {w w1 : World} {row : Option Nat} (hg : w.grownBy w1 row) (hN : N ≤ w.heap.size) (hr : ∀ k, row = some k → N ≤ k) : St B N w w1 := fun i _ h2 => hg.block i (by omega) (fun e => by have := hr i e.symm; omega)
/-- A row of the call's own, each element's blocks told. -/
def TSx {α : Type} (d : Ki α) (e : Nat) (w : World) (Fs : List (List Nat)) (xs : List α) (v : Value) : Prop :=
  ∃ inner, ownsL w e d.sz v xs.length inner ∧ Fs.length = xs.length ∧ (v.ownBlock.toList ++ Fs.flatten).Nodup ∧ ∀ i x, xs[i]? = some x → ∃ Fi, Fs[i]? = some Fi ∧ d.T w Fi x ((inner.drop (i * d.sz)).take d.sz)
section
variable {α : Type} {d : Ki α} {e : Nat} {w w1 : World} {F : List Nat} {Fs : List (List Nat)} {xs ys : List α} {v : Value}
theorem TSx.of (h : TS d e w F xs v) (hF : F.Nodup) : ∃ Fs, TSx d e w Fs xs v ∧ (∀ b ∈ v.ownBlock.toList ++ Fs.flatten, b ∈ F) := by
  obtain ⟨inner, Fs, ho, hl, hn, hp, hx⟩ := h
  exact ⟨Fs, ⟨inner, ho, hl, hp.nodup_iff.1 hF, hx⟩, fun b hb => hp.mem_iff.2 hb⟩
theorem TSx.frame (h : TSx d e w Fs xs v) (hf : ∀ b ∈ v.ownBlock.toList ++ Fs.flatten, w1.heap[b]? = w.heap[b]?) : TSx d e w1 Fs xs v := by
  obtain ⟨inner, ho, hl, hn, hx⟩ := h
  refine ⟨inner, ownL_move ho (fun k hk => hf k (by simp [hk])), hl, hn, fun i x hi => ?_⟩
  obtain ⟨Fi, h1, h2⟩ := hx i x hi
  exact ⟨Fi, h1, d.T_frame (fun b hb => hf b (List.mem_append_right _ (List.mem_flatten.2 ⟨Fi, List.mem_of_getElem? h1, hb⟩))) h2⟩
theorem TSx.lt (h : TSx d e w Fs xs v) : ∀ b ∈ v.ownBlock.toList ++ Fs.flatten, b < w.heap.size := by
  obtain ⟨inner, ho, hl, hn, hx⟩ := h
  intro b hb
  rcases List.mem_append.1 hb with hb | hb
  · exact (ho.lt b (by simpa using hb)).2
  · obtain ⟨Fi, hi, hb⟩ := List.mem_flatten.1 hb
    obtain ⟨i, hlt, rfl⟩ := List.getElem_of_mem hi
    obtain ⟨Fj, h1, h2⟩ := hx i _ (List.getElem?_eq_getElem (by omega))
    rw [List.getElem?_eq_getElem hlt] at h1
    cases h1
    exact d.T_lt h2 b hb
theorem TSx.st {B N : Nat} (h : TSx d e w Fs xs v) (hs : St B N w w1) (hB : ∀ b ∈ v.ownBlock.toList ++ Fs.flatten, B ≤ b) (hN : w.heap.size ≤ N) : TSx d e w1 Fs xs v :=
  h.frame (fun b hb => hs b (hB b hb) (by have := h.lt b hb; omega))
theorem TSx.at (h : TSx d e w Fs xs v) (i : Nat) (hi : i < xs.length) : ∃ ad x cs Fi, (∃ c, v = .slice (some ad) xs.length c) ∧ xs[i]? = some x ∧ Fs[i]? = some Fi ∧ d.T w Fi x cs ∧ ∀ j u, cs[j]? = some u → w.cell? (ad.add (i * d.sz + j)) = some u := by
  obtain ⟨inner, ho, hl, hn, hx⟩ := h
  obtain ⟨A, c, rfl, hc, hm, hA⟩ := ownL_read ho
  obtain ⟨a, rfl, ha⟩ := hA (by omega)
  obtain ⟨Fi, h1, h2⟩ := hx i _ (List.getElem?_eq_getElem hi)
  exact ⟨a, _, _, Fi, ⟨c, rfl⟩, List.getElem?_eq_getElem hi, h1, h2, fun j u hj => ha _ u (chunk_get hj)⟩
theorem TSx.form (h : TSx d e w Fs xs v) : ∃ A c, v = .slice A xs.length c ∧ xs.length ≤ c := by
  obtain ⟨inner, ho, hl, hn, hx⟩ := h
  obtain ⟨A, c, rfl, hc, hm, hA⟩ := ownL_read ho
  exact ⟨A, c, rfl, hc⟩
/-- A row that takes elements of the row told by Fs, those ahead of place i. -/
def Mv {α : Type} (d : Ki α) (e : Nat) (w : World) (Fs : List (List Nat)) (i N : Nat) (ys : List α) (v : Value) : Prop :=
  ∃ F, TS d e w F ys v ∧ F.Nodup ∧ (∀ k, v.ownBlock = some k → N ≤ k) ∧ (∀ b ∈ F, (∃ j Fj, j < i ∧ Fs[j]? = some Fj ∧ b ∈ Fj) ∨ N ≤ b) ∧ Ex w e d.sz v ys.length
variable {i N : Nat}
theorem Mv.nil : Mv d e w Fs i N [] (.slice none 0 0) := ⟨[], TS_nil, List.nodup_nil, fun k hk => by simp [Value.ownBlock] at hk, by simp, Ex.nil⟩
theorem Mv.below (h : Mv d e w Fs i N ys v) (hb : Below w.heap.size w w1) : Mv d e w1 Fs i N ys v := by
  obtain ⟨F, h1, h2, h3, h4, h5⟩ := h
  exact ⟨F, TS_below h1 hb, h2, h3, h4, h5.below hb⟩
theorem Mv.skip (h : Mv d e w Fs i N ys v) : Mv d e w Fs (i + 1) N ys v := by
  obtain ⟨F, h1, h2, h3, h4, h5⟩ := h
  exact ⟨F, h1, h2, h3, fun b hb => (h4 b hb).imp (fun ⟨j, Fj, hj, h⟩ => ⟨j, Fj, by omega, h⟩) id, h5⟩
theorem Mv.setc (h : Mv d e w Fs i N ys v) (g o : Nat) (u : Value) {B : Nat} (hB : ∀ b ∈ Fs.flatten, B ≤ b) (hN : B ≤ N) (hg : g < B) : Mv d e (w.setCell ⟨g, o, none⟩ u) Fs i N ys v := by
  obtain ⟨F, h1, h2, h3, h4, h5⟩ := h
  refine ⟨F, TS_setn h1 (fun hh => ?_), h2, h3, h4, h5.move (fun k hk => Below.heap_setCell w ⟨g, o, none⟩ u k (by have := h3 k hk; simp; omega))⟩
  rcases h4 g hh with ⟨j, Fj, _, hj, hb⟩ | hb
  · have := hB g (List.mem_flatten.2 ⟨Fj, List.mem_of_getElem? hj, hb⟩); omega
  · omega
theorem Mv.own {B : Nat} (h : Mv d e w Fs i N ys v) (hB : ∀ b ∈ Fs.flatten, B ≤ b) (hN : B ≤ N) : OwnT d e B w ys v := by
  obtain ⟨F, h1, h2, h3, h4, _⟩ := h
  refine ⟨F, h1, h2, fun b hb => ?_⟩
  rcases h4 b hb with ⟨j, Fj, _, hj, hb⟩ | hb
  · exact hB b (List.mem_flatten.2 ⟨Fj, List.mem_of_getElem? hj, hb⟩)
  · omega
theorem Mv.form (h : Mv d e w Fs i N ys v) : ∃ A c, v = .slice A ys.length c ∧ ys.length ≤ c := by
  obtain ⟨F, h1, _⟩ := h
  obtain ⟨A, c, rfl, hc, _⟩ := TS_read h1
  exact ⟨A, c, rfl, hc⟩
end
/-- 'append(s, y)', y moved out of the row told by Fs (its place i, its blocks Fi). -/
theorem list_mv {α : Type} {d : Ki α} {P : Program} {wo w : World} {e N i : Nat} {Fs : List (List Nat)} {ops : Array Oper} {rest : List Oper} {o : Oper} {a : Act} {Q : Exit → Act → World → Prop} {z : Value} {bytes : Nat} (hI : (P.info? e).map (fun i => (i.zero, i.size, i.bytes)) = some (some z, d.sz, bytes)) (hzs : z.cells.size = d.sz) (hsz : 0 < d.sz) (hb2 : bytes ≤ 1000)
    (hgd : o.guard = none) (s x : Operand) (t : TypeId) (ho : o.op = .call { callee := .builtin .append, args := #[s, x], argTypes := #[t, t] }) (ht : P.underlying t = some (.slice e))
    {xs : List α} {y : α} {v : Value} {Fi : List Nat} {cs : Array Value} (hs : a.eval s = v) (hO : Mv d e wo Fs i N xs v) (hb : Below wo.heap.size wo w) (hNw : N ≤ wo.heap.size) (g c : Nat) (hx : a.eval x = .slice (some ⟨g, 0, none⟩) 1 c)
    (hT : d.T w Fi y cs.toList) (hc : Box w g cs) (hFs : Fs.flatten.Nodup) (hFi : Fs[i]? = some Fi) (hFN : ∀ b ∈ Fi, b < N) (hn : xs.length ≤ 1048576)
    (h : ∀ A c w', Mv d e w' Fs (i + 1) N (xs ++ [y]) (.slice A (xs.length + 1) c) → w.grownBy w' v.ownBlock → (∀ k, v.ownBlock = some k → N ≤ k) → wpList P ops Q rest (a.put o.dst (.slice A (xs.length + 1) c)) w') : wpList P ops Q (o :: rest) a w := by
  have hsw := hb.size
  obtain ⟨F, h1, h2, h3, h4, hEx⟩ := hO
  obtain ⟨i0, hi, hz0, hz1, hz2⟩ := info_parts hI
  have hnd : (F ++ Fi).Nodup := List.nodup_append.2 ⟨h2, (flat_nd Fs hFs).1 Fi (List.mem_of_getElem? hFi), fun p hp q hq => fun e => by
    subst e
    rcases h4 p hp with ⟨j, Fj, hj, hFj, hb⟩ | hb
    · exact (flat_nd Fs hFs).2 j i Fj Fi (by omega) hFj hFi p hb hq
    · have := hFN p hq; omega⟩
  obtain ⟨inner, Gs, hownL, hl, _, hp, hxx⟩ := TS_below h1 hb
  have hown := (hEx.below hb).row hownL hsz
  have hlen := d.len (d.T_K hT)
  have hnews : ∀ j u, cs.toList[j]? = some u → w.cell? ((⟨g, 0, none⟩ : Addr).add j) = some u := fun j u hj => by
    have hcj := hc j u (by simpa using hj)
    by_cases e0 : j = 0
    · subst e0; exact hcj
    · simpa [Addr.add, e0] using hcj
  refine wpList_append_own_at _ hgd s x t ho 0 e i0 z d.sz bytes ht hi hz0 hz1 hz2 hzs hsz v _ inner hs hown ⟨g, 0, none⟩ 1 c cs.toList hx (by omega) hnews (d.one (d.T_K hT)) (by simp only [maxLen]; omega) (Nat.le_trans (Nat.mul_le_mul (by omega : _ ≤ 1048577) hb2) (by decide)) (Nat.zero_le _) fun v' w' hown' hgr _ hat => ?_
  obtain ⟨F', q1, q2, q3, q4⟩ := TS_appF hown hl hp hnd hxx hT hown' hgr hat
  obtain ⟨A, cap, rfl, _⟩ := TS_read q1
  have hl2 : (xs ++ [y]).length = xs.length + 1 := by simp
  rw [hl2] at q1 hat hown' ⊢
  refine h A cap w' ⟨F', q1, q2, fun k hk => ?_, fun b hb' => ?_, Ex.of (base := 0) (by rw [hl2]; exact hown')⟩ hgr h3
  · rcases hat with h | h
    · exact h3 k (by rw [← h]; exact hk)
    · rw [hk] at h
      have := Option.some.inj h
      omega
  · rcases q3 b hb' with h | h | h
    · exact (h4 b h).imp (fun ⟨j, Fj, hj, h⟩ => ⟨j, Fj, by omega, h⟩) id
    · exact .inl ⟨i, Fi, by omega, hFi, h⟩
    · exact .inr (by omega)
end Go.Proofs.Ytipemgjgimpmbaa.H
