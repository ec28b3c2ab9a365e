/-
WHAT VALUES READ AS, AND WHAT A CALL OWNS: kinds of data, read (K) and owned, row by row, in blocks told by a list (T). No program in sight.
Conditions: none.
-/
import Derived.WalkKit
import Derived.Below
import Derived.Deep.Slices
import Derived.Maps.AppendAt
import Derived.Laws.MakeOwn
import Derived.Laws.OwnMore
import Derived.OwnWalk
import Derived.StillTail
import Derived.StillTactics
import Derived.KernelRfl
import Derived.Outline
import Derived.Lib.Hide
import Derived.Deep.DeepCutAuto
import Derived.Deep.LoopGhost
import Derived.Deep.QuietTactic
import Derived.Deep.RegionHeld3
import Derived.BigQuiet
import Derived.WalkLawsBesides
namespace Go.Proofs.Ytiefpllmnmmdlaa.H
open Go.RowKit
set_option linter.unusedVariables false
set_option linter.unusedSimpArgs false

/-! ### kinds -/
structure Ki (α : Type) where
  sz : Nat
  K : World → α → List Value → Prop
  T : World → List Nat → α → List Value → Prop
  len : ∀ {w x cs}, K w x cs → cs.length = sz
  one : ∀ {w x cs}, K w x cs → ∀ u ∈ cs, u.oneCell' = true
  mono : ∀ {w w1 : World} {x cs}, (∀ p u, w.cell? p = some u → w1.cell? p = some u) → K w x cs → K w1 x cs
  T_K : ∀ {w F x cs}, T w F x cs → K w x cs
  T_frame : ∀ {w w1 : World} {F x cs}, (∀ b ∈ F, w1.heap[b]? = w.heap[b]?) → T w F x cs → T w1 F x cs
  T_lt : ∀ {w : World} {F x cs}, T w F x cs → ∀ b ∈ F, b < w.heap.size

theorem later {w w1 : World} {p : Addr} {u : Value} (hb : Below w.heap.size w w1) (h : w.cell? p = some u) : w1.cell? p = some u := (hb.cell (World.block_lt_of_cell? w _ h)).trans h
/-- What cells there were, there are still. -/
def Kp (w w1 : World) : Prop := ∀ p u, w.cell? p = some u → w1.cell? p = some u
theorem Ki.below {α : Type} (d : Ki α) {w w1 : World} {x : α} {cs : List Value} (hb : Below w.heap.size w w1) (h : d.K w x cs) : d.K w1 x cs := d.mono (fun p u h => later hb h) h
/-- Elements that are read. -/
def Row {α : Type} (d : Ki α) (w : World) (A : Option Addr) (xs : List α) : Prop :=
  0 < xs.length → ∃ a : Addr, A = some a ∧ ∀ i x, xs[i]? = some x → ∃ cs, d.K w x cs ∧ ∀ j u, cs[j]? = some u → w.cell? (a.add (i * d.sz + j)) = some u

/-- The same row, told with a lesser cap. -/
def Cap (v0 v : Value) : Prop := v = v0 ∨ ∃ g n c0 c, v0 = .slice (some ⟨g, 0, none⟩) n c0 ∧ v = .slice (some ⟨g, 0, none⟩) n c ∧ n ≤ c ∧ c ≤ c0
/-- A row of the call's own; its block may be longer than its cap tells. -/
structure ownsL (w : World) (e : TypeId) (sz : Nat) (v : Value) (n : Nat) (inner : List Value) : Prop where
  len : inner.length = n * sz
  own : ∃ v0, w.ownsRow 0 e sz v0 n inner ∧ Cap v0 v
theorem ownsL_of {w : World} {base : Nat} {e : TypeId} {sz n : Nat} {v : Value} {inner : List Value} (h : w.ownsRow base e sz v n inner) : ownsL w e sz v n inner := by
  refine ⟨h.1, v, ⟨h.1, ?_⟩, .inl rfl⟩
  rcases h.2 with h2 | ⟨g, cap, cur, hv, hg, r⟩
  · exact .inl h2
  · exact .inr ⟨g, cap, cur, hv, Nat.zero_le _, r⟩
theorem Cap.own {v0 v : Value} (h : Cap v0 v) : v.ownBlock = v0.ownBlock := by
  rcases h with rfl | ⟨g, n, c0, c, rfl, rfl, _, _⟩ <;> rfl
/-- Elements in a block of the call's own (type e), the first ones told; what they lead to lies in blocks of their own. -/
def TP {α : Type} (d : Ki α) (e : Nat) (w : World) (F : List Nat) (n : Nat) (xs : List α) (v : Value) : Prop :=
  ∃ (inner : List Value) (Fs : List (List Nat)), ownsL w e d.sz v n inner ∧ Fs.length = xs.length ∧ xs.length ≤ n ∧ F.Perm (v.ownBlock.toList ++ Fs.flatten) ∧
    ∀ i x, xs[i]? = some x → ∃ Fi, Fs[i]? = some Fi ∧ d.T w Fi x ((inner.drop (i * d.sz)).take d.sz)
def TS {α : Type} (d : Ki α) (e : Nat) (w : World) (F : List Nat) (xs : List α) (v : Value) : Prop := TP d e w F xs.length xs v

theorem Row_kp {α : Type} {d : Ki α} {w w1 : World} {A : Option Addr} {xs : List α} (h : Row d w A xs) (hk1 : Kp w w1) : Row d w1 A xs := by
  intro hp
  obtain ⟨a, ha, hx⟩ := h hp
  refine ⟨a, ha, fun i x hi => ?_⟩
  obtain ⟨cs, hk, hc⟩ := hx i x hi
  exact ⟨cs, d.mono hk1 hk, fun j u hj => hk1 _ _ (hc j u hj)⟩
theorem Row_below {α : Type} {d : Ki α} {w w1 : World} {A : Option Addr} {xs : List α} (h : Row d w A xs) (hb : Below w.heap.size w w1) : Row d w1 A xs := Row_kp h (fun p u h => later hb h)
theorem own_move {w w1 : World} {base : Nat} {e : TypeId} {size n : Nat} {v : Value} {xs : List Value} (h : w.ownsRow base e size v n xs) (hm : ∀ k, v.ownBlock = some k → w1.heap[k]? = w.heap[k]?) : w1.ownsRow base e size v n xs := by
  obtain ⟨h1, h2⟩ := h
  refine ⟨h1, ?_⟩
  rcases h2 with h2 | ⟨g, cap, cur, rfl, hg, hh, r⟩
  · exact .inl h2
  · exact .inr ⟨g, cap, cur, rfl, hg, (hm g (by simp [Value.ownBlock])).trans hh, r⟩
theorem chunk_get {inner : List Value} {o sz j : Nat} {u : Value} (h : ((inner.drop o).take sz)[j]? = some u) : inner[o + j]? = some u := by
  rw [List.getElem?_take] at h
  split at h
  · rwa [List.getElem?_drop] at h
  · cases h
theorem own_read {w : World} {base : Nat} {e : TypeId} {size n : Nat} {v : Value} {inner : List Value} (h : w.ownsRow base e size v n inner) :
    ∃ A c, v = .slice A n c ∧ n ≤ c ∧ c ≤ maxLen ∧ (0 < n → ∃ a : Addr, A = some a ∧ ∀ j u, inner[j]? = some u → w.cell? (a.add j) = some u) := by
  rcases h.2 with ⟨rfl, rfl⟩ | ⟨g, cap, cur, rfl, _, _, hc, hm, _⟩
  · exact ⟨none, 0, rfl, Nat.le_refl _, Nat.zero_le _, fun h => absurd h (Nat.lt_irrefl _)⟩
  · exact ⟨_, cap, rfl, hc, hm, fun _ => ⟨_, rfl, fun j u hj => h.cells (g := g) rfl j u hj⟩⟩
theorem ownL_move {w w1 : World} {e : TypeId} {size n : Nat} {v : Value} {xs : List Value} (h : ownsL w e size v n xs) (hm : ∀ k, v.ownBlock = some k → w1.heap[k]? = w.heap[k]?) : ownsL w1 e size v n xs := by
  obtain ⟨h1, v0, h2, h3⟩ := h
  exact ⟨h1, v0, own_move h2 (fun k hk => hm k (by rw [h3.own]; exact hk)), h3⟩
theorem ownL_read {w : World} {e : TypeId} {size n : Nat} {v : Value} {inner : List Value} (h : ownsL w e size v n inner) :
    ∃ A c, v = .slice A n c ∧ n ≤ c ∧ c ≤ maxLen ∧ (0 < n → ∃ a : Addr, A = some a ∧ ∀ j u, inner[j]? = some u → w.cell? (a.add j) = some u) := by
  obtain ⟨h1, v0, h2, h3⟩ := h
  obtain ⟨A, c, rfl, hc, hm, hA⟩ := own_read h2
  rcases h3 with rfl | ⟨g, n', c0, c', e1, rfl, h4, h5⟩
  · exact ⟨A, c, rfl, hc, hm, hA⟩
  · simp only [Value.slice.injEq] at e1
    obtain ⟨rfl, rfl, rfl⟩ := e1
    exact ⟨_, c', rfl, h4, Nat.le_trans h5 hm, hA⟩
theorem ownsL.lt {w : World} {e : TypeId} {size n : Nat} {v : Value} {inner : List Value} (h : ownsL w e size v n inner) : ∀ k, v.ownBlock = some k → 0 ≤ k ∧ k < w.heap.size := by
  obtain ⟨h1, v0, h2, h3⟩ := h
  intro k hk
  exact h2.lt k (by rw [← h3.own]; exact hk)
theorem ownsL.cells {w : World} {e : TypeId} {size n : Nat} {v : Value} {inner : List Value} (h : ownsL w e size v n inner) {g : Nat} (hg : v.ownBlock = some g) : ∀ j u, inner[j]? = some u → w.cell? ((⟨g, 0, none⟩ : Addr).add j) = some u := by
  obtain ⟨h1, v0, h2, h3⟩ := h
  exact h2.cells (by rw [← h3.own]; exact hg)
theorem ownL_form {w : World} {e : TypeId} {size n : Nat} {v : Value} {inner : List Value} (h : ownsL w e size v n inner) : (v = .slice none 0 0 ∧ n = 0) ∨ ∃ g cap, v = .slice (some ⟨g, 0, none⟩) n cap ∧ n ≤ cap ∧ cap ≤ maxLen := by
  obtain ⟨h1, v0, h2, h3⟩ := h
  rcases h2.2 with ⟨rfl, h0⟩ | ⟨g, cap, cur, rfl, _, _, hc, hm, _⟩
  · rcases h3 with rfl | ⟨_, _, _, _, e1, _⟩
    · exact .inl ⟨rfl, h0⟩
    · cases e1
  · rcases h3 with rfl | ⟨g', n', c0, c', e1, rfl, h4, h5⟩
    · exact .inr ⟨g, cap, rfl, hc, hm⟩
    · simp only [Value.slice.injEq, Option.some.injEq, Addr.mk.injEq, and_true, true_and] at e1
      obtain ⟨rfl, rfl, rfl⟩ := e1
      exact .inr ⟨g, c', rfl, h4, Nat.le_trans h5 hm⟩
/-- The cap is the block's. -/
def Ex (w : World) (e : TypeId) (sz : Nat) (v : Value) (n : Nat) : Prop := ∃ inner, w.ownsRow 0 e sz v n inner
theorem Ex.move {w w1 : World} {e : TypeId} {sz n : Nat} {v : Value} (h : Ex w e sz v n) (hm : ∀ k, v.ownBlock = some k → w1.heap[k]? = w.heap[k]?) : Ex w1 e sz v n := by
  obtain ⟨inner, h⟩ := h
  exact ⟨inner, own_move h hm⟩
theorem Ex.lt {w : World} {e : TypeId} {sz n : Nat} {v : Value} (h : Ex w e sz v n) : ∀ k, v.ownBlock = some k → k < w.heap.size := fun k hk => by
  obtain ⟨inner, h⟩ := h
  exact (h.lt k hk).2
theorem Ex.below {w w1 : World} {e : TypeId} {sz n : Nat} {v : Value} (h : Ex w e sz v n) (hb : Below w.heap.size w w1) : Ex w1 e sz v n := h.move (fun k hk => hb.block k (h.lt k hk))
theorem Ex.nil {w : World} {e : TypeId} {sz : Nat} : Ex w e sz (.slice none 0 0) 0 := ⟨[], World.ownsRow_nil _ _ _ _⟩
theorem Ex.of {w : World} {base : Nat} {e : TypeId} {sz n : Nat} {v : Value} {inner : List Value} (h : w.ownsRow base e sz v n inner) : Ex w e sz v n := by
  refine ⟨inner, h.1, ?_⟩
  rcases h.2 with h2 | ⟨g, cap, cur, hv, hg, r⟩
  · exact .inl h2
  · exact .inr ⟨g, cap, cur, hv, Nat.zero_le _, r⟩
theorem Ex.row {w : World} {e : TypeId} {sz n : Nat} {v : Value} {inner : List Value} (hx : Ex w e sz v n) (h : ownsL w e sz v n inner) (hsz : 0 < sz) : w.ownsRow 0 e sz v n inner := by
  obtain ⟨i2, h2⟩ := hx
  obtain ⟨h1, v0, ho, h3⟩ := h
  rcases h3 with rfl | ⟨g, n', c0, c, rfl, rfl, h4, h5⟩
  · exact ho
  · rcases ho.2 with ⟨e1, _⟩ | ⟨g1, cap1, cur1, e1, _, hg1, _, _, hs1, _⟩
    · cases e1
    · rcases h2.2 with ⟨e2, _⟩ | ⟨g2, cap2, cur2, e2, _, hg2, _, _, hs2, _⟩
      · cases e2
      · simp only [Value.slice.injEq, Option.some.injEq, Addr.mk.injEq, and_true, true_and] at e1 e2
        obtain ⟨rfl, rfl, rfl⟩ := e1
        obtain ⟨rfl, _, rfl⟩ := e2
        rw [hg1] at hg2
        simp only [Option.some.injEq, Obj.cells.injEq, true_and, and_true] at hg2
        subst hg2
        have hcc : c0 = c := Nat.eq_of_mul_eq_mul_right hsz (by rw [← hs1, ← hs2])
        subst hcc
        exact ho
section
variable {α : Type} {d : Ki α} {e : Nat} {w w1 : World} {F : List Nat} {n : Nat} {xs : List α} {v : Value}
theorem TP_read (h : TP d e w F n xs v) : ∃ A c, v = .slice A n c ∧ n ≤ c ∧ c ≤ maxLen ∧ Row d w A xs := by
  obtain ⟨inner, Fs, ho, hl, hn, hF, hx⟩ := h
  obtain ⟨A, c, rfl, hc, hm, hA⟩ := ownL_read ho
  refine ⟨A, c, rfl, hc, hm, fun hp => ?_⟩
  obtain ⟨a, rfl, ha⟩ := hA (by omega)
  refine ⟨a, rfl, fun i x hi => ?_⟩
  obtain ⟨Fi, _, hT⟩ := hx i x hi
  exact ⟨_, d.T_K hT, fun j u hj => ha _ u (chunk_get hj)⟩
theorem TS_read (h : TS d e w F xs v) : ∃ A c, v = .slice A xs.length c ∧ xs.length ≤ c ∧ c ≤ maxLen ∧ Row d w A xs := TP_read h
theorem TP_frame (hf : ∀ b ∈ F, w1.heap[b]? = w.heap[b]?) (h : TP d e w F n xs v) : TP d e w1 F n xs v := by
  obtain ⟨inner, Fs, ho, hl, hn, hF, hx⟩ := h
  refine ⟨inner, Fs, ownL_move ho (fun k hk => hf k (hF.mem_iff.2 (by simp [hk]))), hl, hn, hF, fun i x hi => ?_⟩
  obtain ⟨Fi, h1, h2⟩ := hx i x hi
  exact ⟨Fi, h1, d.T_frame (fun b hb => hf b (hF.mem_iff.2 (List.mem_append_right _ (List.mem_flatten.2 ⟨Fi, List.mem_of_getElem? h1, hb⟩)))) h2⟩
theorem TP_lt (h : TP d e w F n xs v) : ∀ b ∈ F, b < w.heap.size := by
  obtain ⟨inner, Fs, ho, hl, hn, hF, hx⟩ := h
  intro b hb
  rcases List.mem_append.1 (hF.mem_iff.1 hb) with hb | hb
  · exact (ho.lt b (by simpa using hb)).2
  · obtain ⟨Fi, hi, hb⟩ := List.mem_flatten.1 hb
    obtain ⟨i, hlt, rfl⟩ := List.getElem_of_mem hi
    obtain ⟨Fj, h1, h2⟩ := hx i _ (List.getElem?_eq_getElem (by omega))
    rw [List.getElem?_eq_getElem hlt] at h1
    cases h1
    exact d.T_lt h2 b hb
theorem TP_below (h : TP d e w F n xs v) (hb : Below w.heap.size w w1) : TP d e w1 F n xs v := TP_frame (fun b hb' => hb.block b (TP_lt h b hb')) h
theorem TS_nil : TS d e w [] [] (.slice none 0 0) := ⟨[], [], ownsL_of (base := 0) (World.ownsRow_nil _ _ _ _), rfl, Nat.le_refl _, by simp [Value.ownBlock], fun i x hi => by simp at hi⟩
end

namespace Ki
def scalar {α : Type} (enc : α → Value) (h1 : ∀ x, (enc x).oneCell' = true) : Ki α where
  sz := 1
  K := fun _ x cs => cs = [enc x]
  T := fun _ F x cs => cs = [enc x] ∧ F = []
  len := fun h => by rw [h]; rfl
  one := fun h u hu => by
    rw [h] at hu
    rw [List.mem_singleton.1 hu]
    exact h1 _
  mono := fun _ h => h
  T_K := fun h => h.1
  T_frame := fun _ h => h
  T_lt := fun h b hb => by rw [h.2] at hb; cases hb
def int (k : IntKind) : Ki Int := scalar (Value.int k) (fun _ => rfl)
def bool : Ki Bool := scalar Value.bool (fun _ => rfl)
def str : Ki ByteArray := scalar Value.string (fun _ => rfl)
def slice {α : Type} (e : Nat) (d : Ki α) : Ki (List α) where
  sz := 1
  K := fun w xs cs => ∃ A c, cs = [.slice A xs.length c] ∧ xs.length ≤ c ∧ Row d w A xs
  T := fun w F xs cs => ∃ v, cs = [v] ∧ TS d e w F xs v
  len := by
    rintro w x cs ⟨A, c, rfl, _⟩
    rfl
  one := by
    rintro w x cs ⟨A, c, rfl, _⟩ u hu
    rw [List.mem_singleton.1 hu]
    rfl
  mono := by
    rintro w w1 x cs hb ⟨A, c, rfl, hl, hr⟩
    exact ⟨A, c, rfl, hl, Row_kp hr hb⟩
  T_K := by
    rintro w F xs cs ⟨v, rfl, h⟩
    obtain ⟨A, c, rfl, hc, _, hr⟩ := TS_read h
    exact ⟨A, c, rfl, hc, hr⟩
  T_frame := by
    rintro w w1 F x cs hf ⟨v, rfl, h⟩
    exact ⟨v, rfl, TP_frame hf h⟩
  T_lt := by
    rintro w F x cs ⟨v, rfl, h⟩
    exact TP_lt h
def pair {α β : Type} (a : Ki α) (b : Ki β) : Ki (α × β) where
  sz := a.sz + b.sz
  K := fun w x cs => ∃ c1 c2, cs = c1 ++ c2 ∧ a.K w x.1 c1 ∧ b.K w x.2 c2
  T := fun w F x cs => ∃ c1 c2 F1 F2, cs = c1 ++ c2 ∧ F = F1 ++ F2 ∧ a.T w F1 x.1 c1 ∧ b.T w F2 x.2 c2
  len := by
    rintro w x cs ⟨c1, c2, rfl, h1, h2⟩
    rw [List.length_append, a.len h1, b.len h2]
  one := by
    rintro w x cs ⟨c1, c2, rfl, h1, h2⟩ u hu
    rcases List.mem_append.1 hu with hu | hu
    · exact a.one h1 u hu
    · exact b.one h2 u hu
  mono := by
    rintro w w1 x cs hb ⟨c1, c2, rfl, h1, h2⟩
    exact ⟨c1, c2, rfl, a.mono hb h1, b.mono hb h2⟩
  T_K := by
    rintro w F x cs ⟨c1, c2, F1, F2, rfl, rfl, h1, h2⟩
    exact ⟨c1, c2, rfl, a.T_K h1, b.T_K h2⟩
  T_frame := by
    rintro w w1 F x cs hf ⟨c1, c2, F1, F2, rfl, rfl, h1, h2⟩
    exact ⟨c1, c2, F1, F2, rfl, rfl, a.T_frame (fun k hk => hf k (List.mem_append_left _ hk)) h1, b.T_frame (fun k hk => hf k (List.mem_append_right _ hk)) h2⟩
  T_lt := by
    rintro w F x cs ⟨c1, c2, F1, F2, rfl, rfl, h1, h2⟩ k hk
    rcases List.mem_append.1 hk with hk | hk
    · exact a.T_lt h1 k hk
    · exact b.T_lt h2 k hk
def iso {α β : Type} (d : Ki α) (f : β → α) : Ki β where
  sz := d.sz
  K := fun w x cs => d.K w (f x) cs
  T := fun w F x cs => d.T w F (f x) cs
  len := fun h => d.len h
  one := fun h => d.one h
  mono := fun hb h => d.mono hb h
  T_K := fun h => d.T_K h
  T_frame := fun hf h => d.T_frame hf h
  T_lt := fun h => d.T_lt h
end Ki

/-- What is read at place i. -/
theorem Row_get {α : Type} {d : Ki α} {w : World} {A : Option Addr} {xs : List α} (h : Row d w A xs) (i : Nat) (hi : i < xs.length) :
    ∃ ad x cs, A = some ad ∧ xs[i]? = some x ∧ d.K w x cs ∧ ∀ j u, cs[j]? = some u → w.cell? (ad.add (i * d.sz + j)) = some u := by
  obtain ⟨a, ha, hx⟩ := h (by omega)
  obtain ⟨cs, h1, h2⟩ := hx i _ (List.getElem?_eq_getElem hi)
  exact ⟨a, _, cs, ha, List.getElem?_eq_getElem hi, h1, h2⟩
theorem add_field (a : Addr) (n j : Nat) (hj : j ≠ 0) : a.add (n + j) = ⟨(a.add n).block, (a.add n).off + j, none⟩ := by
  unfold Addr.add
  by_cases hn : n = 0
  · subst hn; simp [hj]
  · simp [hn, Nat.add_assoc]

/-! ### at the end of a walk, and at a region that draws its order -/
theorem ret_int {k : IntKind} {a b : Int} (h : a = b) : Ending.returned (.int k a) = .returned (.int k b) := by rw [h]
theorem ret_bool {a b : Bool} (h : a = b) : Ending.returned (.bool a) = .returned (.bool b) := by rw [h]
theorem tailW {P : Program} {id : Nat} {Q : Exit → Act → World → Prop} {a : Act} {w : World} {l : List Oper} (n : Nat) (hm : P.follows .mixedOrders = true) (hB : Region.lexTailB .any l.toArray n = true)
    (h : wpStill P l.toArray w.drew (fun a' => wpList P l.toArray Q (l.drop n) a' w.drew) (l.take n) a) : (Code.region id l.toArray true).wp P Q a w := wp_region_still_tail n hm hB h
theorem wrapI {x : Int} (h0 : -9223372036854775808 ≤ x) (h : x ≤ 9223372036854775807) : wrap64 x = x := by
  unfold wrap64; omega
/-! ### Below, stores, what is owned grows -/
theorem below_al (w : World) (o : Obj) : Below w.heap.size w (w.alloc o) := (Below.refl _ _).alloc (Nat.le_refl _) _
theorem below_tr {a b c : World} (h : Below a.heap.size a b) (k : Below b.heap.size b c) : Below a.heap.size a c := h.trans (k.mono h.size)
theorem bcell {w w1 : World} (hb : Below w.heap.size w w1) : (∀ b o, b < w.heap.size → w1.cell? ⟨b, o, none⟩ = w.cell? ⟨b, o, none⟩) ∧ (∀ b o, b < w.heap.size → w1.frozen? ⟨b, o, none⟩ = w.frozen? ⟨b, o, none⟩) :=
  ⟨fun b o h => hb.cell (p := ⟨b, o, none⟩) h, fun b o h => hb.frozen (p := ⟨b, o, none⟩) h⟩
theorem below_dn {B : Nat} {a w : World} (h : Below B a w) (n : Nat) : Below B a (w.drewN n) := ⟨h.os, h.tape, h.output, h.size, h.block⟩
/-- Cells stored one behind the other. -/
def setCells (w : World) (g : Nat) : Nat → List Value → World
  | _, [] => w
  | o, u :: us => setCells (w.setCell ⟨g, o, none⟩ u) g (o + 1) us
def setInner (inner : List Value) : Nat → List Value → List Value
  | _, [] => inner
  | o, u :: us => setInner (inner.set o u) (o + 1) us
theorem setInner_len (cs : List Value) : ∀ (inner : List Value) (o : Nat), (setInner inner o cs).length = inner.length := by
  induction cs with
  | nil => intro inner o; rfl
  | cons u us ih => intro inner o; simp [setInner, ih]
theorem setInner_get (cs : List Value) : ∀ (inner : List Value) (o j : Nat), o + cs.length ≤ inner.length → (setInner inner o cs)[j]? = if o ≤ j ∧ j < o + cs.length then cs[j - o]? else inner[j]? := by
  induction cs with
  | nil => intro inner o j h; simp [setInner]; omega
  | cons u us ih =>
    intro inner o j h
    simp only [List.length_cons] at h
    rw [setInner, ih _ _ _ (by simp; omega)]
    by_cases h1 : o = j
    · subst h1
      rw [if_neg (by omega), if_pos (by simp), List.getElem?_set_self (by omega)]
      simp
    · rw [List.getElem?_set_ne h1]
      by_cases h2 : o + 1 ≤ j ∧ j < o + 1 + us.length
      · rw [if_pos h2, if_pos (by simp only [List.length_cons]; omega), show j - o = (j - (o + 1)) + 1 by omega, List.getElem?_cons_succ]
      · rw [if_neg h2, if_neg (by simp only [List.length_cons]; omega)]
theorem setCells_own {base g n cap e sz : Nat} (cs : List Value) : ∀ (w : World) (inner : List Value) (o : Nat), w.ownsRow base e sz (.slice (some ⟨g, 0, none⟩) n cap) n inner →
    (setCells w g o cs).ownsRow base e sz (.slice (some ⟨g, 0, none⟩) n cap) n (setInner inner o cs) ∧ w.grownBy (setCells w g o cs) (some g) := by
  induction cs with
  | nil => intro w inner o h; exact ⟨h, World.grownBy.refl _ _⟩
  | cons u us ih =>
    intro w inner o h
    have h1 := h.stored o u
    have h2 := ih _ _ (o + 1) h1.1
    exact ⟨h2.1, h1.2.trans h2.2⟩
theorem ownL_setCells {g n cap e sz : Nat} (cs : List Value) : ∀ (w : World) (inner : List Value) (o : Nat), ownsL w e sz (.slice (some ⟨g, 0, none⟩) n cap) n inner →
    ownsL (setCells w g o cs) e sz (.slice (some ⟨g, 0, none⟩) n cap) n (setInner inner o cs) ∧ w.grownBy (setCells w g o cs) (some g) := by
  intro w inner o h
  obtain ⟨h1, v0, ho, h3⟩ := h
  have hv : ∃ c0, v0 = .slice (some ⟨g, 0, none⟩) n c0 := by
    rcases h3 with rfl | ⟨g', n', c0, c', rfl, e1, _, _⟩
    · exact ⟨cap, rfl⟩
    · simp only [Value.slice.injEq, Option.some.injEq, Addr.mk.injEq, and_true, true_and] at e1
      obtain ⟨rfl, rfl, rfl⟩ := e1
      exact ⟨c0, rfl⟩
  obtain ⟨c0, rfl⟩ := hv
  obtain ⟨q1, q2⟩ := setCells_own cs w inner o ho
  exact ⟨⟨q1.1, _, q1, h3⟩, q2⟩
theorem ownsL.stored {g n cap e sz : Nat} {w : World} {inner : List Value} (h : ownsL w e sz (.slice (some ⟨g, 0, none⟩) n cap) n inner) (j : Nat) (u : Value) : ownsL (w.setCell ⟨g, j, none⟩ u) e sz (.slice (some ⟨g, 0, none⟩) n cap) n (inner.set j u) ∧ w.grownBy (w.setCell ⟨g, j, none⟩ u) (some g) := ownL_setCells [u] w inner j h
theorem chunk_ext {inner : List Value} {o sz : Nat} {cs : List Value} (hl : cs.length = sz) (hin : o + sz ≤ inner.length) : ((setInner inner o cs).drop o).take sz = cs := by
  apply List.ext_getElem?
  intro j
  rw [List.getElem?_take]
  split
  · rw [List.getElem?_drop, setInner_get _ _ _ _ (by omega), if_pos (by omega)]; congr 1; omega
  · rw [List.getElem?_eq_none (by omega)]
theorem chunk_far {inner : List Value} {i k sz : Nat} {cs : List Value} (hl : cs.length = sz) (hin : k * sz + sz ≤ inner.length) (hik : i ≠ k) : ((setInner inner (k * sz) cs).drop (i * sz)).take sz = (inner.drop (i * sz)).take sz := by
  apply List.ext_getElem?
  intro j
  rw [List.getElem?_take, List.getElem?_take]
  split
  · rw [List.getElem?_drop, List.getElem?_drop, setInner_get _ _ _ _ (by omega), if_neg]
    rcases Nat.lt_or_gt_of_ne hik with h | h
    · have : (i + 1) * sz ≤ k * sz := Nat.mul_le_mul_right _ h
      rw [Nat.add_mul] at this; omega
    · have : (k + 1) * sz ≤ i * sz := Nat.mul_le_mul_right _ h
      rw [Nat.add_mul] at this; omega
  · rfl
theorem own_cells {base g n cap e sz : Nat} {w : World} {inner : List Value} (h : w.ownsRow base e sz (.slice (some ⟨g, 0, none⟩) n cap) n inner) (o : Nat) (ho : o < n * sz) :
    (∃ u, w.cell? ⟨g, o, none⟩ = some u) ∧ w.frozen? ⟨g, o, none⟩ = false ∧ g < w.heap.size := by
  have hl := h.1
  obtain ⟨u, hu⟩ : ∃ u, inner[o]? = some u := ⟨_, List.getElem?_eq_getElem (by omega)⟩
  refine ⟨⟨u, ?_⟩, ?_, (h.lt g rfl).2⟩
  · have := h.cells (g := g) rfl o u hu
    by_cases e0 : o = 0
    · subst e0; simpa [Addr.add] using this
    · simpa [Addr.add, e0] using this
  · rcases h.2 with ⟨h', _⟩ | ⟨g', cap', cur, h', _, hg, _⟩
    · cases h'
    · simp only [Value.slice.injEq, Option.some.injEq, Addr.mk.injEq, and_true, true_and] at h'
      obtain ⟨rfl, _⟩ := h'
      simp [World.frozen?, hg]
theorem ownL_cells {g n cap e sz : Nat} {w : World} {inner : List Value} (h : ownsL w e sz (.slice (some ⟨g, 0, none⟩) n cap) n inner) (o : Nat) (ho : o < n * sz) :
    (∃ u, w.cell? ⟨g, o, none⟩ = some u) ∧ w.frozen? ⟨g, o, none⟩ = false ∧ g < w.heap.size := by
  obtain ⟨h1, v0, h2, h3⟩ := h
  rcases h3 with rfl | ⟨g', n', c0, c', rfl, e1, _, _⟩
  · exact own_cells h2 o ho
  · simp only [Value.slice.injEq, Option.some.injEq, Addr.mk.injEq, and_true, true_and] at e1
    obtain ⟨rfl, rfl, rfl⟩ := e1
    exact own_cells h2 o ho
section
variable {α : Type} {d : Ki α} {e : Nat} {w w1 : World} {F : List Nat} {n : Nat} {xs : List α} {v : Value}
theorem TP_cells {g cap : Nat} (h : TP d e w F n xs (.slice (some ⟨g, 0, none⟩) n cap)) (o : Nat) (ho : o < n * d.sz) : (∃ u, w.cell? ⟨g, o, none⟩ = some u) ∧ w.frozen? ⟨g, o, none⟩ = false ∧ g < w.heap.size := by
  obtain ⟨inner, Fs, hown, _⟩ := h
  exact ownL_cells hown o ho
theorem TP_push {g cap : Nat} (h : TP d e w F n xs (.slice (some ⟨g, 0, none⟩) n cap)) (hk : xs.length < n) {x : α} {cs : List Value} {Fx : List Nat} (hT : d.T w Fx x cs) (hg : g ∉ Fx) (hF : g ∉ F.erase g) :
    TP d e (setCells w g (xs.length * d.sz) cs) (F ++ Fx) n (xs ++ [x]) (.slice (some ⟨g, 0, none⟩) n cap) := by
  obtain ⟨inner, Fs, ho, hl, hn, hp, hx⟩ := h
  have hlen := d.len (d.T_K hT)
  obtain ⟨h1, h2⟩ := ownL_setCells cs w inner (xs.length * d.sz) ho
  have hin : xs.length * d.sz + d.sz ≤ inner.length := by
    rw [ho.1]; have : (xs.length + 1) * d.sz ≤ n * d.sz := Nat.mul_le_mul_right _ hk
    rwa [Nat.add_mul, Nat.one_mul] at this
  have hgF : g ∉ Fs.flatten := by
    intro hm
    have h3 : (F.erase g).Perm Fs.flatten := by
      have := hp.erase g
      simpa [Value.ownBlock] using this
    exact hF (h3.mem_iff.2 hm)
  refine ⟨_, Fs ++ [Fx], h1, by simp [hl], by simp; omega, ?_, fun i y hi => ?_⟩
  · simp only [List.flatten_append, List.flatten_cons, List.flatten_nil, List.append_nil]
    rw [← List.append_assoc]
    exact hp.append_right Fx
  · by_cases hik : i = xs.length
    · subst hik
      simp at hi
      subst hi
      refine ⟨Fx, by rw [← hl]; simp, ?_⟩
      rw [chunk_ext hlen hin]
      exact d.T_frame (fun b hb => h2.block b (d.T_lt hT b hb) (fun e => hg (by cases e; exact hb))) hT
    · have hlt : i < xs.length := by have := (List.getElem?_eq_some_iff.1 hi).1; simp at this; omega
      rw [List.getElem?_append_left hlt] at hi
      obtain ⟨Fi, h3, h4⟩ := hx i y hi
      refine ⟨Fi, by rw [List.getElem?_append_left (by omega)]; exact h3, ?_⟩
      rw [chunk_far hlen hin hik]
      exact d.T_frame (fun b hb => h2.block b (d.T_lt h4 b hb) (fun e => hgF (by cases e; exact List.mem_flatten.2 ⟨Fi, List.mem_of_getElem? h3, hb⟩))) h4
theorem TP_full (h : TP d e w F n xs v) (hn : xs.length = n) : TS d e w F xs v := by subst hn; exact h
theorem TP_made {g cap : Nat} {inner : List Value} (h : w.ownsRow 0 e d.sz (.slice (some ⟨g, 0, none⟩) n cap) n inner) : TP d e w [g] n [] (.slice (some ⟨g, 0, none⟩) n cap) :=
  ⟨inner, [], ownsL_of h, rfl, Nat.zero_le _, by simp [Value.ownBlock], fun i x hi => by simp at hi⟩
end
theorem TP_setc {α : Type} {d : Ki α} {e : Nat} {w : World} {F : List Nat} {n : Nat} {xs : List α} {v : Value} {B g o : Nat} {u : Value} (h : TP d e w F n xs v) (hF : ∀ b ∈ F, B ≤ b) (hg : g < B) : TP d e (w.setCell ⟨g, o, none⟩ u) F n xs v :=
  TP_frame (fun b hb => Below.heap_setCell w ⟨g, o, none⟩ u b (by have := hF b hb; simp; omega)) h
/-- A variable in memory: its block and its cells. -/
def Box (w : World) (g : Nat) (cs : Array Value) : Prop := ∀ j u, cs[j]? = some u → w.cell? ⟨g, j, none⟩ = some u
theorem Box.later {w w1 : World} {g : Nat} {cs : Array Value} (h : Box w g cs) (hb : Below w.heap.size w w1) : Box w1 g cs := fun j u hu => H.later hb (h j u hu)
theorem Box.new (w : World) (cs : Array Value) (t : TypeId) : Box (w.alloc (.cells cs t)) w.heap.size cs := fun j u hu => by rw [World.cell?_alloc_new]; exact hu
theorem Box.lt {w : World} {g : Nat} {cs : Array Value} (h : Box w g cs) {u : Value} (hu : cs[0]? = some u) : g < w.heap.size := World.block_lt_of_cell? w _ (h 0 u hu)
/-- Blocks that are new since w, none twice. -/
structure Fresh (w : World) (F : List Nat) : Prop where
  nd : F.Nodup
  ge : ∀ b ∈ F, w.heap.size ≤ b
theorem Fresh.nil (w : World) : Fresh w [] := ⟨List.nodup_nil, fun b h => by cases h⟩
theorem Fresh.app {w w1 : World} {F Fx : List Nat} (h : Fresh w F) (hlt : ∀ b ∈ F, b < w1.heap.size) (hx : Fresh w1 Fx) (hs : w.heap.size ≤ w1.heap.size) : Fresh w (F ++ Fx) :=
  ⟨List.nodup_append.2 ⟨h.1, hx.1, fun a ha b hb => by have := hlt a ha; have := hx.2 b hb; omega⟩, fun b hb => by
    rcases List.mem_append.1 hb with hb | hb
    · exact h.2 b hb
    · have := hx.2 b hb; omega⟩
def MadeS {α : Type} (d : Ki α) (e : Nat) (xs : List α) (w : World) (en : Ending) (w' : World) : Prop := ∃ v F, en = .returned v ∧ TS d e w' F xs v ∧ Fresh w F ∧ Below w.heap.size w w'
theorem cells_below {B : Nat} {a w : World} (cs : List Value) : ∀ (w : World) (g o : Nat), Below B a w → B ≤ g → Below B a (setCells w g o cs) := by
  induction cs with
  | nil => intro w g o h _; exact h
  | cons u us ih => intro w g o h hg; exact ih _ _ _ (h.setCell (p := ⟨g, o, none⟩) hg u) hg
/-- A row that is filled, one element after the other. -/
def Fill {α : Type} (d : Ki α) (e : Nat) (w0 w : World) (g n : Nat) (xs : List α) : Prop :=
  ∃ F, TP d e w F n xs (.slice (some ⟨g, 0, none⟩) n n) ∧ Fresh w0 F ∧ Below w0.heap.size w0 w ∧ w0.heap.size ≤ g
theorem Fill.start {α : Type} {d : Ki α} {e : Nat} {w0 w : World} {n : Nat} {inner : List Value} (h : w.ownsRow 0 e d.sz (.slice (some ⟨w0.heap.size, 0, none⟩) n n) n inner) (hg : w0.grownBy w none) : Fill d e w0 w w0.heap.size n [] :=
  ⟨[w0.heap.size], TP_made h, ⟨by simp, by simp⟩, (Below.refl _ _).grown hg (Nat.le_refl _) (fun k h => by cases h), Nat.le_refl _⟩
theorem Fill.bel {α : Type} {d : Ki α} {e : Nat} {w0 w : World} {g n : Nat} {xs : List α} (h : Fill d e w0 w g n xs) : Below w0.heap.size w0 w := by obtain ⟨F, _, _, h, _⟩ := h; exact h
theorem Fill.cells {α : Type} {d : Ki α} {e : Nat} {w0 w w1 : World} {g n : Nat} {xs : List α} (h : Fill d e w0 w g n xs) (hb : Below w.heap.size w w1) (o : Nat) (ho : o < n * d.sz) : (∃ u, w1.cell? ⟨g, o, none⟩ = some u) ∧ w1.frozen? ⟨g, o, none⟩ = false ∧ g < w1.heap.size := by
  obtain ⟨F, h, _⟩ := h
  exact TP_cells (TP_below h hb) o ho
theorem Fill.push {α : Type} {d : Ki α} {e : Nat} {w0 w w1 : World} {g n : Nat} {xs : List α} (h : Fill d e w0 w g n xs) (k : Nat) (hk : xs.length = k) (hlt : k < n) (hb : Below w.heap.size w w1) {Fx : List Nat} {x : α} {cs : List Value} (hT : d.T w1 Fx x cs) (hx : Fresh w Fx) :
    Fill d e w0 (setCells w1 g (k * d.sz) cs) g n (xs ++ [x]) := by
  obtain ⟨F, hP, hF, hb0, hg⟩ := h
  subst hk
  have hgw : g < w.heap.size := by
    obtain ⟨_, _, ho, _⟩ := hP
    exact (ho.lt g rfl).2
  exact ⟨_, TP_push (TP_below hP hb) hlt hT (fun hm => by have := hx.2 g hm; omega) (hF.1.not_mem_erase), hF.app (TP_lt hP) hx hb0.size, cells_below (a := w0) (w := w0) _ _ _ _ (below_tr hb0 hb) hg, hg⟩
/-- The same, the size told and the cells' places counted from it. -/
def putCells (w : World) (g o : Nat) : Nat → List Value → World
  | _, [] => w
  | j, u :: us => putCells (w.setCell ⟨g, o + j, none⟩ u) g o (j + 1) us
theorem putCells_eq (cs : List Value) : ∀ (w : World) (g o j : Nat), putCells w g o j cs = setCells w g (o + j) cs := by
  induction cs with
  | nil => intro w g o j; rfl
  | cons u us ih => intro w g o j; rw [putCells, setCells, ih]; rfl
theorem Fill.put {α : Type} {d : Ki α} {e : Nat} {w0 w w1 : World} {g n : Nat} {xs : List α} (h : Fill d e w0 w g n xs) (k s : Nat) (hs : d.sz = s) (hk : xs.length = k) (hlt : k < n) (hb : Below w.heap.size w w1) {Fx : List Nat} {x : α} {c0 : Value} {cs : List Value} (hT : d.T w1 Fx x (c0 :: cs)) (hx : Fresh w Fx) :
    Fill d e w0 (putCells (w1.setCell ⟨g, k * s, none⟩ c0) g (k * s) 1 cs) g n (xs ++ [x]) := by
  subst hs
  rw [putCells_eq]
  exact h.push k hk hlt hb hT hx
theorem TS_setc {α : Type} {d : Ki α} {e : Nat} {w : World} {F : List Nat} {xs : List α} {v : Value} {B g o : Nat} {u : Value} (h : TS d e w F xs v) (hF : ∀ b ∈ F, B ≤ b) (hg : g < B) : TS d e (w.setCell ⟨g, o, none⟩ u) F xs v := TP_setc h hF hg
theorem TS_below {α : Type} {d : Ki α} {e : Nat} {w w1 : World} {F : List Nat} {xs : List α} {v : Value} (h : TS d e w F xs v) (hb : Below w.heap.size w w1) : TS d e w1 F xs v := TP_below h hb
theorem Fill.done {α : Type} {d : Ki α} {e : Nat} {w0 w : World} {g n : Nat} {xs : List α} (h : Fill d e w0 w g n xs) (hn : xs.length = n) : MadeS d e xs w0 (.returned (.slice (some ⟨g, 0, none⟩) n n)) w := by
  obtain ⟨F, hP, hF, hb, _⟩ := h
  exact ⟨_, F, rfl, TP_full hP hn, hF, hb⟩
theorem all_step {α : Type} {p : α → Bool} {l : List α} {k : Nat} {x : α} (h : (l.take k).all p = true) (hx : l[k]? = some x) (hp : p x = true) : (l.take (k + 1)).all p = true := by
  rw [List.take_add_one, hx, List.all_append, h]
  simp [hp]
theorem all_fail {α : Type} {p : α → Bool} {l : List α} {k : Nat} {x : α} (hx : l[k]? = some x) (hp : p x = false) : l.all p = false :=
  List.all_eq_false.2 ⟨x, List.mem_of_getElem? hx, by simp [hp]⟩
theorem all_full {α : Type} {p : α → Bool} {l : List α} {k : Nat} (h : (l.take k).all p = true) (hk : l.length ≤ k) : l.all p = true := by rwa [List.take_of_length_le hk] at h
theorem take_snoc {α : Type} {l : List α} {k : Nat} {x : α} (h : l[k]? = some x) : l.take (k + 1) = l.take k ++ [x] := by
  rw [List.take_add_one, h]; rfl
/-! ### how much a value holds -/
def sumF {α : Type} (f : α → Nat) (l : List α) : Nat := (l.map f).sum
def szL {α : Type} (f : α → Nat) (l : List α) : Nat := l.length + sumF f l
theorem sumF_take {α : Type} {f : α → Nat} {l : List α} {k : Nat} {x : α} (h : l[k]? = some x) : sumF f (l.take (k + 1)) = sumF f (l.take k) + f x := by
  unfold sumF; rw [take_snoc h]; simp
theorem sumF_mem {α : Type} {f : α → Nat} {l : List α} {x : α} (h : x ∈ l) : f x ≤ sumF f l := by
  induction l with
  | nil => cases h
  | cons y r ih =>
    unfold sumF at *
    simp only [List.map_cons, List.sum_cons]
    rcases List.mem_cons.1 h with rfl | h
    · omega
    · have := ih h; omega
theorem szL_len {α : Type} (f : α → Nat) (l : List α) : l.length ≤ szL f l := by unfold szL; omega
theorem szL_mem {α : Type} (f : α → Nat) {l : List α} {x : α} (h : x ∈ l) : f x ≤ szL f l := by have := sumF_mem (f := f) h; unfold szL; omega
theorem sumF_zero {α : Type} (l : List α) : sumF (fun _ => 0) l = 0 := by
  unfold sumF; induction l with
  | nil => rfl
  | cons x r ih => simp [ih]
theorem Fresh.cat {wa wb : World} {F G : List Nat} (hF : Fresh wa F) (hG : Fresh wb G) (hlt : ∀ b ∈ F, b < wb.heap.size) (hw : wa.heap.size ≤ wb.heap.size) : Fresh wa (F ++ G) := hF.app hlt hG hw
theorem Fresh.mono {wa wb : World} {F : List Nat} (hF : Fresh wb F) (hw : wa.heap.size ≤ wb.heap.size) : Fresh wa F := ⟨hF.1, fun b hb => Nat.le_trans hw (hF.2 b hb)⟩
theorem TS_lt {α : Type} {d : Ki α} {e : Nat} {w : World} {F : List Nat} {xs : List α} {v : Value} (h : TS d e w F xs v) : ∀ b ∈ F, b < w.heap.size := TP_lt h
theorem size_al (w : World) (o : Obj) : (w.alloc o).heap.size = w.heap.size + 1 := by simp
theorem Box.new2 (w : World) (o : Obj) (cs : Array Value) (t : TypeId) : Box ((w.alloc o).alloc (.cells cs t)) (w.heap.size + 1) cs := by
  have h := Box.new (w.alloc o) cs t
  rw [size_al] at h
  exact h
end Go.Proofs.Ytiefpllmnmmdlaa.H
