/-
A row of the call's own, one element of it laid open: its cells may be stored into, what it leads to may be changed; then it is closed again. No program in sight. Conditions: none.
-/
import Derived.Test.YtiefpllmnmmdlaaH0
namespace Go.Proofs.Ytiefpllmnmmdlaa.H
open Go.RowKit
set_option linter.unusedVariables false
/-- Only the blocks of F are written to, and new ones. -/
structure Upd (F : List Nat) (w w' : World) : Prop where
  os : w'.os = w.os
  tape : w'.tape = w.tape
  output : w'.output = w.output
  size : w.heap.size ≤ w'.heap.size
  block : ∀ k, k < w.heap.size → k ∉ F → w'.heap[k]? = w.heap[k]?
theorem Upd.refl (F : List Nat) (w : World) : Upd F w w := ⟨rfl, rfl, rfl, Nat.le_refl _, fun _ _ _ => rfl⟩
theorem Upd.trans {F : List Nat} {a b c : World} (h : Upd F a b) (k : Upd F b c) : Upd F a c :=
  ⟨k.os.trans h.os, k.tape.trans h.tape, k.output.trans h.output, Nat.le_trans h.size k.size, fun i hi hF => (k.block i (Nat.lt_of_lt_of_le hi h.size) hF).trans (h.block i hi hF)⟩
theorem Upd.mono {F G : List Nat} {a b : World} (h : Upd F a b) (hs : ∀ x ∈ F, x ∈ G) : Upd G a b := ⟨h.os, h.tape, h.output, h.size, fun k hk hF => h.block k hk (fun hh => hF (hs k hh))⟩
theorem Upd.of_below {F : List Nat} {a b : World} (h : Below a.heap.size a b) : Upd F a b := ⟨h.os, h.tape, h.output, h.size, fun k hk _ => h.block k hk⟩
theorem Upd.set {F : List Nat} (w : World) {g : Nat} (o : Nat) (u : Value) (hg : g ∈ F) : Upd F w (w.setCell ⟨g, o, none⟩ u) := by
  have hb : Below g w (w.setCell ⟨g, o, none⟩ u) := (Below.refl g w).setCell (p := ⟨g, o, none⟩) (Nat.le_refl g) u
  refine ⟨hb.os, hb.tape, hb.output, hb.size, fun k hk hF => ?_⟩
  exact Below.heap_setCell w ⟨g, o, none⟩ u k (fun e => hF (by cases e; exact hg))
theorem Upd.below {F : List Nat} {B : Nat} {a b : World} (h : Upd F a b) (hF : ∀ x ∈ F, B ≤ x) (hB : B ≤ a.heap.size) : Below B a b := ⟨h.os, h.tape, h.output, h.size, fun k hk => h.block k (by omega) (fun hh => by have := hF k hh; omega)⟩
theorem flat_nd : ∀ (Fs : List (List Nat)), Fs.flatten.Nodup → (∀ l ∈ Fs, l.Nodup) ∧ ∀ (i j : Nat) (a b : List Nat), i ≠ j → Fs[i]? = some a → Fs[j]? = some b → ∀ x ∈ a, x ∉ b
  | [], _ => ⟨by simp, by simp⟩
  | l :: r, h => by
    rw [List.flatten_cons, List.nodup_append] at h
    obtain ⟨h1, h2, h3⟩ := h
    obtain ⟨h4, h5⟩ := flat_nd r h2
    refine ⟨fun q hq => (List.mem_cons.1 hq).elim (fun e => e ▸ h1) (h4 q), fun i j a b hij hi hj x hx hb => ?_⟩
    cases i with
    | zero =>
      cases j with
      | zero => exact hij rfl
      | succ j =>
        simp only [List.getElem?_cons_zero, Option.some.injEq, List.getElem?_cons_succ] at hi hj
        subst hi
        exact h3 x hx x (List.mem_flatten.2 ⟨b, List.mem_of_getElem? hj, hb⟩) rfl
    | succ i =>
      cases j with
      | zero =>
        simp only [List.getElem?_cons_zero, Option.some.injEq, List.getElem?_cons_succ] at hi hj
        subst hj
        exact h3 x hb x (List.mem_flatten.2 ⟨a, List.mem_of_getElem? hi, hx⟩) rfl
      | succ j =>
        simp only [List.getElem?_cons_succ] at hi hj
        exact h5 i j a b (by omega) hi hj x hx hb
/-- Element i laid open: its cells cs, its blocks Fi. -/
def Foc {α : Type} (d : Ki α) (e : Nat) (w : World) (F Fi : List Nat) (g n cap : Nat) (xs : List α) (i : Nat) (cs : List Value) : Prop :=
  ∃ (inner : List Value) (Fs : List (List Nat)), ownsL w e d.sz (.slice (some ⟨g, 0, none⟩) n cap) n inner ∧ Fs.length = n ∧ xs.length = n ∧ F.Perm (g :: Fs.flatten) ∧ Fs[i]? = some Fi ∧ F.Nodup ∧ (inner.drop (i * d.sz)).take d.sz = cs ∧
    ∀ j x, j ≠ i → xs[j]? = some x → ∃ Fj, Fs[j]? = some Fj ∧ d.T w Fj x ((inner.drop (j * d.sz)).take d.sz)
section
variable {α : Type} {d : Ki α} {e : Nat} {w w1 : World} {F Fi : List Nat} {g n cap i : Nat} {xs : List α} {cs : List Value}
theorem Foc.open {v : Value} (h : TS d e w F xs v) (hF : F.Nodup) (hi : i < xs.length) : ∃ g cap Fi x cs, v = .slice (some ⟨g, 0, none⟩) xs.length cap ∧ xs.length ≤ cap ∧ cap ≤ maxLen ∧ xs[i]? = some x ∧ d.T w Fi x cs ∧ Foc d e w F Fi g xs.length cap xs i cs := by
  obtain ⟨inner, Fs, ho, hl, hn, hp, hx⟩ := h
  obtain ⟨Fi, h1, h2⟩ := hx i _ (List.getElem?_eq_getElem hi)
  rcases ownL_form ho with ⟨_, h0⟩ | ⟨g, cap, rfl, hc, hm⟩
  · omega
  · exact ⟨g, cap, Fi, _, _, rfl, hc, hm, List.getElem?_eq_getElem hi, h2, inner, Fs, ho, hl, rfl, by simpa [Value.ownBlock] using hp, h1, hF, rfl, fun j x _ hj => hx j x hj⟩
theorem Foc.cell (h : Foc d e w F Fi g n cap xs i cs) (j : Nat) (hj : j < d.sz) : w.cell? ⟨g, i * d.sz + j, none⟩ = cs[j]? ∧ w.frozen? ⟨g, i * d.sz + j, none⟩ = false ∧ g < w.heap.size := by
  obtain ⟨inner, Fs, ho, hl, hn, hp, hi, hF, rfl, hx⟩ := h
  have hin : i < n := by have := (List.getElem?_eq_some_iff.1 hi).1; omega
  have hlt : i * d.sz + j < n * d.sz := by
    have : (i + 1) * d.sz ≤ n * d.sz := Nat.mul_le_mul_right _ hin
    rw [Nat.add_mul] at this; omega
  obtain ⟨_, h2, h3⟩ := ownL_cells ho _ hlt
  refine ⟨?_, h2, h3⟩
  have hlen := ho.1
  have hc := ho.cells (g := g) rfl (i * d.sz + j) _ (List.getElem?_eq_getElem (by omega))
  rw [List.getElem?_take, if_pos hj, List.getElem?_drop, List.getElem?_eq_getElem (by omega), ← hc]
  generalize i * d.sz + j = o
  by_cases e0 : o = 0
  · subst e0; rfl
  · simp [Addr.add, e0]
theorem Foc.mem (h : Foc d e w F Fi g n cap xs i cs) : g ∈ F ∧ g ∉ Fi ∧ Fi.Nodup ∧ (∀ b ∈ Fi, b ∈ F) := by
  obtain ⟨inner, Fs, ho, hl, hn, hp, hi, hF, rfl, hx⟩ := h
  have hnd := hp.nodup_iff.1 hF
  rw [List.nodup_cons] at hnd
  have hm := List.mem_of_getElem? hi
  exact ⟨hp.mem_iff.2 (by simp), fun hh => hnd.1 (List.mem_flatten.2 ⟨Fi, hm, hh⟩), (flat_nd Fs hnd.2).1 Fi hm, fun b hb => hp.mem_iff.2 (List.mem_cons_of_mem _ (List.mem_flatten.2 ⟨Fi, hm, hb⟩))⟩
theorem Foc.set (h : Foc d e w F Fi g n cap xs i cs) (j : Nat) (hj : j < d.sz) (u : Value) : Foc d e (w.setCell ⟨g, i * d.sz + j, none⟩ u) F Fi g n cap xs i (cs.set j u) := by
  obtain ⟨inner, Fs, ho, hl, hn, hp, hi, hF, rfl, hx⟩ := h
  have hnd := hp.nodup_iff.1 hF
  rw [List.nodup_cons] at hnd
  have hin : i < n := by have := (List.getElem?_eq_some_iff.1 hi).1; omega
  have hlen := ho.1
  have hle : (i + 1) * d.sz ≤ n * d.sz := Nat.mul_le_mul_right _ hin
  rw [Nat.add_mul] at hle
  refine ⟨_, Fs, (ho.stored (i * d.sz + j) u).1, hl, hn, hp, hi, hF, ?_, fun k x hk hkx => ?_⟩
  · apply List.ext_getElem?
    intro q
    rw [List.getElem?_take, List.getElem?_drop, List.getElem?_set, List.getElem?_set, List.length_take, List.length_drop]
    by_cases hq : q < d.sz
    · rw [if_pos hq]
      by_cases e1 : j = q
      · subst e1; rw [if_pos rfl, if_pos rfl, if_pos (by omega), if_pos (by omega)]
      · rw [if_neg (by omega), if_neg e1, List.getElem?_take, if_pos hq, List.getElem?_drop]
    · rw [if_neg hq, if_neg (by omega), List.getElem?_take, if_neg hq]
  · obtain ⟨Fj, h1, h2⟩ := hx k x hk hkx
    refine ⟨Fj, h1, ?_⟩
    have hch : ((inner.set (i * d.sz + j) u).drop (k * d.sz)).take d.sz = (inner.drop (k * d.sz)).take d.sz := by
      apply List.ext_getElem?
      intro q
      rw [List.getElem?_take, List.getElem?_take]
      split
      · rename_i hq
        rw [List.getElem?_drop, List.getElem?_drop, List.getElem?_set_ne]
        rcases Nat.lt_or_gt_of_ne hk with h | h
        · have : (k + 1) * d.sz ≤ i * d.sz := Nat.mul_le_mul_right _ h
          rw [Nat.add_mul] at this; omega
        · have : (i + 1) * d.sz ≤ k * d.sz := Nat.mul_le_mul_right _ h
          rw [Nat.add_mul] at this; omega
      · rfl
    rw [hch]
    exact d.T_frame (fun b hb => Below.heap_setCell w ⟨g, _, none⟩ u b (fun e => hnd.1 (List.mem_flatten.2 ⟨Fj, List.mem_of_getElem? h1, by cases e; exact hb⟩))) h2
theorem Foc.upd (h : Foc d e w F Fi g n cap xs i cs) (hu : Upd Fi w w1) : Foc d e w1 F Fi g n cap xs i cs := by
  obtain ⟨inner, Fs, ho, hl, hn, hp, hi, hF, rfl, hx⟩ := h
  have hnd := hp.nodup_iff.1 hF
  rw [List.nodup_cons] at hnd
  refine ⟨inner, Fs, ownL_move ho (fun k hk => hu.block k (ho.lt k hk).2 (fun hh => ?_)), hl, hn, hp, hi, hF, rfl, fun k x hk hkx => ?_⟩
  · simp only [Value.ownBlock, Option.some.injEq] at hk
    subst hk
    exact hnd.1 (List.mem_flatten.2 ⟨Fi, List.mem_of_getElem? hi, hh⟩)
  · obtain ⟨Fj, h1, h2⟩ := hx k x hk hkx
    exact ⟨Fj, h1, d.T_frame (fun b hb => hu.block b (d.T_lt h2 b hb) (fun hh => (flat_nd Fs hnd.2).2 k i _ _ hk h1 hi b hb hh)) h2⟩
theorem Foc.close (h : Foc d e w F Fi g n cap xs i cs) {x' : α} (hT : d.T w Fi x' cs) : TS d e w F (xs.set i x') (.slice (some ⟨g, 0, none⟩) n cap) := by
  obtain ⟨inner, Fs, ho, hl, hn, hp, hi, hF, rfl, hx⟩ := h
  have hlen : (xs.set i x').length = n := by simp [hn]
  unfold TS
  rw [hlen]
  refine ⟨inner, Fs, ho, by omega, by omega, by simpa [Value.ownBlock] using hp, fun k x hk => ?_⟩
  by_cases e1 : k = i
  · subst e1
    rw [List.getElem?_set_self (by have := (List.getElem?_eq_some_iff.1 hi).1; omega)] at hk
    cases hk
    exact ⟨Fi, hi, hT⟩
  · rw [List.getElem?_set_ne (fun h => e1 h.symm)] at hk
    exact hx k x e1 hk
end
/-- Marked from a on, up to b. -/
def Mks {α : Type} (R : α → Int → Int → Prop) : List α → Int → Int → Prop
  | [], a, b => a = b
  | x :: r, a, b => ∃ c, R x a c ∧ Mks R r c b
theorem Mks.snoc {α : Type} {R : α → Int → Int → Prop} : ∀ {l : List α} {x : α} {a b c : Int}, Mks R l a b → R x b c → Mks R (l ++ [x]) a c
  | [], x, a, b, c, h, hx => by cases h; exact ⟨c, hx, rfl⟩
  | y :: r, x, a, b, c, h, hx => by
    obtain ⟨q, h1, h2⟩ := h
    exact ⟨q, h1, h2.snoc hx⟩
theorem Mks.len {α : Type} {R : α → Int → Int → Prop} (hR : ∀ x a b, R x a b → a + 1 ≤ b) : ∀ {l : List α} {a b : Int}, Mks R l a b → a + l.length ≤ b
  | [], a, b, h => by cases h; simp
  | y :: r, a, b, h => by
    obtain ⟨q, h1, h2⟩ := h
    have := hR _ _ _ h1
    have := Mks.len hR h2
    simp only [List.length_cons]
    omega
theorem Mks.le {α : Type} {R : α → Int → Int → Prop} (hR : ∀ x a b, R x a b → a + 1 ≤ b) {l : List α} {a b : Int} (h : Mks R l a b) : a ≤ b := by have := Mks.len hR h; omega
/-- The marks in what is left of a row. -/
theorem Mks.drop {α : Type} {R : α → Int → Int → Prop} {l : List α} {k : Nat} {x : α} {a b : Int} (h : Mks R (l.drop k) a b) (hx : l[k]? = some x) : ∃ c, R x a c ∧ Mks R (l.drop (k + 1)) c b := by
  obtain ⟨hk, rfl⟩ := List.getElem?_eq_some_iff.1 hx
  rw [List.drop_eq_getElem_cons hk] at h
  exact h
def intR (x a b : Int) : Prop := x = a ∧ b = a + 1
theorem intR_lt (x a b : Int) (h : intR x a b) : a + 1 ≤ b := by obtain ⟨_, rfl⟩ := h; omega
theorem set_snoc {α : Type} {done l : List α} {k : Nat} {x y : α} (hd : done.length = k) (hx : l[k]? = some x) : (done ++ l.drop k).set k y = (done ++ [y]) ++ l.drop (k + 1) := by
  obtain ⟨hk, rfl⟩ := List.getElem?_eq_some_iff.1 hx
  rw [List.drop_eq_getElem_cons hk, List.set_append_right _ _ (by omega), show k - done.length = 0 by omega]
  simp only [List.set_cons_zero, List.append_assoc, List.singleton_append]
theorem sumF_drop {α : Type} {f : α → Nat} {l : List α} {k : Nat} {x : α} (h : l[k]? = some x) : sumF f (l.drop k) = f x + sumF f (l.drop (k + 1)) := by
  obtain ⟨hk, rfl⟩ := List.getElem?_eq_some_iff.1 h
  rw [List.drop_eq_getElem_cons hk]
  unfold sumF
  rw [List.map_cons, List.sum_cons]
theorem nd_split {F G : List Nat} (h : (F ++ G).Nodup) : F.Nodup ∧ G.Nodup ∧ (∀ b ∈ G, b ∉ F) ∧ ∀ b ∈ F, b ∉ G := by
  rw [List.nodup_append] at h
  exact ⟨h.1, h.2.1, fun b hb hf => h.2.2 b hf b hb rfl, fun b hb hg => h.2.2 b hb b hg rfl⟩
theorem TS_setn {α : Type} {d : Ki α} {e : Nat} {w : World} {F : List Nat} {xs : List α} {v : Value} {g o : Nat} {u : Value} (h : TS d e w F xs v) (hg : g ∉ F) : TS d e (w.setCell ⟨g, o, none⟩ u) F xs v :=
  TP_frame (fun b hb => Below.heap_setCell w ⟨g, o, none⟩ u b (fun e => hg (by cases e; exact hb))) h
theorem TS_upd {α : Type} {d : Ki α} {e : Nat} {w w1 : World} {F G : List Nat} {xs : List α} {v : Value} (h : TS d e w F xs v) (hu : Upd G w w1) (hd : ∀ b ∈ F, b ∉ G) : TS d e w1 F xs v :=
  TP_frame (fun b hb => hu.block b (TS_lt h b hb) (hd b hb)) h
theorem upd_cell {w w1 : World} {F : List Nat} {b o : Nat} {u : Value} (hu : Upd F w w1) (hF : b ∉ F) (h : w.cell? ⟨b, o, none⟩ = some u) : w1.cell? ⟨b, o, none⟩ = some u := by
  have hlt : b < w.heap.size := World.block_lt_of_cell? w _ h
  have hb : Below (b + 1) w w1 ∨ True := .inr trivial
  have hh := hu.block b hlt hF
  have key : ∀ a c : World, a.heap[b]? = c.heap[b]? → c.cell? ⟨b, o, none⟩ = some u → a.cell? ⟨b, o, none⟩ = some u := by
    intro a c he hc
    simpa [World.cell?, he] using hc
  exact key _ _ hh h
def MarkedS {α : Type} (d : Ki α) (e : Nat) (R : α → Int → Int → Prop) (F : List Nat) (n : Nat) (v : Value) (k k' : Int) (w : World) (en : Ending) (w' : World) : Prop :=
  ∃ l' : List α, en = .returned (.int .i64 k') ∧ l'.length = n ∧ Mks R l' k k' ∧ TS d e w' F l' v ∧ Upd F w w'
theorem Box.upd {w w1 : World} {F : List Nat} {g : Nat} {cs : Array Value} (h : Box w g cs) (hu : Upd F w w1) (hg : g ∉ F) : Box w1 g cs := fun j u hj => upd_cell hu hg (h j u hj)
end Go.Proofs.Ytiefpllmnmmdlaa.H
