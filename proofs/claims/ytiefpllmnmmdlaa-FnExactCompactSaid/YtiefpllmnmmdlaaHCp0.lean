/-
What Compact's walks lean on: appends that tell whose block the row lies in; what stays but one block; rows that stand while the call's own blocks stand. Conditions: none.
-/
import Derived.Test.YtiefpllmnmmdlaaHCopy3
import Derived.Test.YtiefpllmnmmdlaaHCpP
import Derived.Test.YtiefpllmnmmdlaaHD8
namespace Go.Proofs.Ytiefpllmnmmdlaa.H
open Go.RowKit
set_option linter.unusedVariables false
set_option linter.unusedSimpArgs false
set_option maxRecDepth 100000
/-- 'append(s, y)', s the call's own; told, too: the row's block is the old one or new. -/
theorem list_elh {α : Type} {d : Ki α} {P : Program} {wo w : World} {B e : Nat} {ops : Array Oper} {rest : List Oper} {o : Oper} {a : Act} {Q : Exit → Act → World → Prop} {z : Value} {bytes : Nat} (hI : (P.info? e).map (fun i => (i.zero, i.size, i.bytes)) = some (some z, d.sz, bytes)) (hzs : z.cells.size = d.sz) (hsz : 0 < d.sz) (hb2 : bytes ≤ 1000)
    (hgd : o.guard = none) (s x : Operand) (t : TypeId) (ho : o.op = .call { callee := .builtin .append, args := #[s, x], argTypes := #[t, t] }) (ht : P.underlying t = some (.slice e))
    {xs : List α} {y : α} {v : Value} {Fx : List Nat} {cs : Array Value} (hs : a.eval s = v) (hO : OwnR d e B wo xs v) (hb : Below wo.heap.size wo w) (hB : B ≤ wo.heap.size) (g c : Nat) (hx : a.eval x = .slice (some ⟨g, 0, none⟩) 1 c)
    (hT : d.T w Fx y cs.toList) (hc : Box w g cs) (hF : Fresh wo Fx) (hn : xs.length ≤ 1048576)
    (h : ∀ A c w', OwnR d e B w' (xs ++ [y]) (.slice A (xs.length + 1) c) → w.grownBy w' v.ownBlock → (∀ k, v.ownBlock = some k → B ≤ k) → ((Value.slice A (xs.length + 1) c).ownBlock = v.ownBlock ∨ (Value.slice A (xs.length + 1) c).ownBlock = some w.heap.size) → wpList P ops Q rest (a.put o.dst (.slice A (xs.length + 1) c)) w') : wpList P ops Q (o :: rest) a w := by
  have hv := hO.blk
  have hsw := hb.size
  obtain ⟨F, h1, h2, h3, hEx⟩ := hO
  obtain ⟨i0, hi, hz0, hz1, hz2⟩ := info_parts hI
  have hlt := TS_lt h1
  have h1' := TS_below h1 hb
  have hEx' := hEx.below hb
  obtain ⟨inner, Fs, hownL, hl, _, hp, hxx⟩ := h1'
  have hown := hEx'.row hownL hsz
  have hlen := d.len (d.T_K hT)
  refine wpList_append_own_at _ hgd s x t ho 0 e i0 z d.sz bytes ht hi hz0 hz1 hz2 hzs hsz v _ inner hs hown ⟨g, 0, none⟩ 1 c cs.toList hx (by omega) (fun j u hj => ?_) (d.one (d.T_K hT)) (by simp only [maxLen]; omega) (Nat.le_trans (Nat.mul_le_mul (by omega : _ ≤ 1048577) hb2) (by decide)) (Nat.zero_le _) fun v' w' hown' hgr _ hat => ?_
  · have hcj := hc j u (by simpa using hj)
    by_cases e0 : j = 0
    · subst e0; exact hcj
    · simpa [Addr.add, e0] using hcj
  · have hO' : OwnR d e B w' (xs ++ [y]) v' := TS_app hown hl hp (List.nodup_append.2 ⟨h2, hF.1, fun p hp q hq => by have := hlt p hp; have := hF.2 q hq; omega⟩) (fun b hb' => by
      rcases List.mem_append.1 hb' with h | h
      · exact h3 b h
      · have := hF.2 b h; omega) (by omega) hxx hT hown' hgr hat
    obtain ⟨A, c, rfl, _⟩ := hO'.slice
    simp only [List.length_append, List.length_singleton] at hO' hat ⊢
    exact h A c w' hO' hgr hv hat
/-- All that stood, but block G, stands. -/
def Stay (G : Nat) (w w' : World) : Prop := w.heap.size ≤ w'.heap.size ∧ ∀ b, b < w.heap.size → b ≠ G → w'.heap[b]? = w.heap[b]?
theorem Stay.refl (G : Nat) (w : World) : Stay G w w := ⟨Nat.le_refl _, fun _ _ _ => rfl⟩
theorem Stay.below {G : Nat} {w w1 w2 : World} (h : Stay G w w1) (hb : Below w1.heap.size w1 w2) : Stay G w w2 := ⟨Nat.le_trans h.1 hb.size, fun b h1 h2 => (hb.block b (Nat.lt_of_lt_of_le h1 h.1)).trans (h.2 b h1 h2)⟩
theorem Stay.setc {G : Nat} {w w1 : World} (h : Stay G w w1) (j : Nat) (u : Value) : Stay G w (w1.setCell ⟨G, j, none⟩ u) := ⟨by simpa using h.1, fun b h1 h2 => (Below.heap_setCell w1 ⟨G, j, none⟩ u b h2).trans (h.2 b h1 h2)⟩
theorem Stay.grown {G : Nat} {w w1 w2 : World} {row : Option Nat} (h : Stay G w w1) (hg : w1.grownBy w2 row) (hr : ∀ k, row = some k → w.heap.size ≤ k ∨ k = G) : Stay G w w2 := ⟨Nat.le_trans h.1 hg.size, fun b h1 h2 => (hg.block b (Nat.lt_of_lt_of_le h1 h.1) (fun e => by rcases hr b e.symm with h | h <;> omega)).trans (h.2 b h1 h2)⟩
theorem KeepR.of {α : Type} {d : Ki α} {e : Nat} {w0 w1 : World} {F : List Nat} {xs : List α} {A : Option Addr} {c : Nat} (h : TS d e w1 F xs (.slice A xs.length c)) (hF : Fresh w0 F) : KeepR d w0 w1 A xs := fun W hW => by
  have hlt := TS_lt h
  obtain ⟨A', c', hv, _, _, hr⟩ := TS_read (TP_frame (w1 := W) (fun b hb => hW b (hF.2 b hb) (hlt b hb)) h)
  cases hv
  exact hr
theorem KeepR.use {α : Type} {d : Ki α} {G : Nat} {w0 w1 wp wr : World} {A : Option Addr} {xs : List α} (h : KeepR d w0 w1 A xs) (hG : G < w0.heap.size) (hb : Stay G w1 wp) (hs : Stay G wp wr) : Row d wr A xs :=
  h wr (fun b h1 h2 => (hs.2 b (Nat.lt_of_lt_of_le h2 hb.1) (by omega)).trans (hb.2 b h2 (by omega)))
/-- What a compactable log's batch is. -/
def cOk (b : Batch) : Prop := (-1 ≤ b.Producer ∧ b.Producer ≤ 1000000000) ∧ (0 ≤ b.Base ∧ b.Base ≤ 1000000000) ∧ (0 ≤ b.Seq ∧ b.Seq ≤ 1000000000) ∧ 1 ≤ b.Records.length ∧ b.Records.length ≤ 40
theorem cOk_of {b : Batch} (h : batchOk b = true) : cOk b := by
  unfold batchOk bA bA0 inB at h
  simp only [Bool.and_eq_true, Bool.or_eq_true, decide_eq_true_eq, Bool.not_eq_true', decide_eq_false_iff_not, beq_iff_eq] at h
  unfold cOk
  refine ⟨?_, ?_, ?_, ?_, ?_⟩ <;> omega
theorem cpL_len (M : List (List Bool)) : ∀ (l : List Batch) (a : Nat), (∀ b ∈ l, b.Records.length ≤ 40) → (cpL M l a).length ≤ 40 * l.length
  | [], a, _ => by simp [cpL]
  | b :: l, a, h => by
    have h1 := cpL_len M l (a + 1) (fun q hq => h q (List.mem_cons_of_mem _ hq))
    have h2 := cpB_len b ((M[a]?).getD [])
    have h3 := h b List.mem_cons_self
    rw [cpL, List.length_append, List.length_cons]
    omega
theorem cpN_len (M : List (List Bool)) : ∀ (l : List Segment) (a : Nat), (∀ b ∈ l.flatMap (·.Batches), b.Records.length ≤ 40) → cpN M l a ≤ 40 * (l.flatMap (·.Batches)).length
  | [], a, _ => by simp [cpN]
  | s :: l, a, h => by
    rw [List.flatMap_cons] at h
    have h1 := cpN_len M l (a + s.Batches.length) (fun q hq => h q (List.mem_append_right _ hq))
    have h2 := cpL_len M s.Batches a (fun q hq => h q (List.mem_append_left _ hq))
    rw [cpN, List.flatMap_cons, List.length_append]
    omega
theorem cpGs_len (M : List (List Bool)) : ∀ (l : List Segment) (a : Nat), (cpGs M l a).length ≤ l.length
  | [], a => by simp [cpGs]
  | s :: l, a => by
    have h1 := cpGs_len M l (a + s.Batches.length)
    rw [cpGs, List.length_append, List.length_cons]
    unfold cpG
    split <;> simp <;> omega
end Go.Proofs.Ytiefpllmnmmdlaa.H
