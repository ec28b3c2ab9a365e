/-
Compact in plain Lean: the runs of what stays. No program in sight. Conditions: none.
-/
import Derived.Test.YtiefpllmnmmdlaaHD4
namespace Go.Proofs.Ytiefpllmnmmdlaa.H
open Go.RowKit
set_option linter.unusedVariables false
set_option linter.unusedSimpArgs false
/-- What is left of a batch between two places. -/
def mkB (b : Batch) (i j : Nat) : Batch := ⟨b.Base + i, b.Epoch, b.Producer, b.Turn, if 0 ≤ b.Producer then b.Seq + i else b.Seq, b.Flags, (b.Records.drop i).take (j - i)⟩
def cpOut (b : Batch) (s : List Batch × Option Nat) (k : Nat) : List Batch := s.1 ++ (match s.2 with
  | some i => [mkB b i k]
  | none => [])
def cpS (b : Batch) (g : List Bool) : Nat → List Batch × Option Nat
  | 0 => ([], none)
  | k + 1 => if g[k]? = some false then ((cpS b g k).1, some ((cpS b g k).2.getD k)) else (cpOut b (cpS b g k) k, none)
theorem cpS_keep {b : Batch} {g : List Bool} {k : Nat} (h : g[k]? = some false) : cpS b g (k + 1) = ((cpS b g k).1, some ((cpS b g k).2.getD k)) := by rw [cpS, if_pos h]
theorem cpS_gone {b : Batch} {g : List Bool} {k : Nat} (h : g[k]? ≠ some false) : cpS b g (k + 1) = (cpOut b (cpS b g k) k, none) := by rw [cpS, if_neg h]
def cpB (b : Batch) (g : List Bool) : List Batch := cpOut b (cpS b g b.Records.length) b.Records.length
/-- A run that begins where none is open. -/
theorem cpS_run {b : Batch} {g : List Bool} {i : Nat} (h0 : (cpS b g i).2 = none) : ∀ (n : Nat), (∀ q, i ≤ q → q < i + n → g[q]? = some false) → 0 < n → cpS b g (i + n) = ((cpS b g i).1, some i)
  | 0, _, h => absurd h (Nat.lt_irrefl _)
  | 1, hg, _ => by rw [cpS_keep (hg i (by omega) (by omega)), h0]; rfl
  | n + 2, hg, _ => by
    have ih := cpS_run h0 (n + 1) (fun q h1 h2 => hg q h1 (by omega)) (by omega)
    rw [show i + (n + 2) = (i + (n + 1)) + 1 by omega, cpS_keep (hg (i + (n + 1)) (by omega) (by omega)), ih]
    rfl
theorem cpOut_run {b : Batch} {g : List Bool} {i j : Nat} (h0 : (cpS b g i).2 = none) (hg : ∀ q, i ≤ q → q < j → g[q]? = some false) (hij : i < j) : cpOut b (cpS b g j) j = cpOut b (cpS b g i) i ++ [mkB b i j] := by
  have h := cpS_run h0 (j - i) (fun q h1 h2 => hg q h1 (by omega)) (by omega)
  rw [show i + (j - i) = j by omega] at h
  rw [h]
  unfold cpOut
  rw [h0]
  simp
theorem cpOut_gone {b : Batch} {g : List Bool} {k : Nat} (h : g[k]? ≠ some false) : cpOut b (cpS b g (k + 1)) (k + 1) = cpOut b (cpS b g k) k := by
  rw [cpS_gone h]
  unfold cpOut
  simp
/-- What the reference does at a record that stays. -/
theorem cpOut_first {b : Batch} {g : List Bool} {k : Nat} (h : g[k]? = some false) (h0 : (cpS b g k).2 = none) : cpOut b (cpS b g (k + 1)) (k + 1) = cpOut b (cpS b g k) k ++ [mkB b k (k + 1)] := cpOut_run h0 (fun q h1 h2 => by rw [show q = k by omega]; exact h) (by omega)
theorem cpOut_next {b : Batch} {g : List Bool} {k i : Nat} (h : g[k]? = some false) (h0 : (cpS b g k).2 = some i) : cpOut b (cpS b g k) k = (cpS b g k).1 ++ [mkB b i k] ∧ cpOut b (cpS b g (k + 1)) (k + 1) = (cpS b g k).1 ++ [mkB b i (k + 1)] ∧ (cpS b g (k + 1)).2 = some i := by
  rw [cpS_keep h, h0]
  unfold cpOut
  rw [h0]
  simp
theorem cpS_le {b : Batch} {g : List Bool} : ∀ (k i : Nat), (cpS b g k).2 = some i → i < k
  | 0, i, h => by simp [cpS] at h
  | k + 1, i, h => by
    rw [cpS] at h
    split at h
    · cases h2 : (cpS b g k).2 with
      | none => rw [h2] at h; simp at h; omega
      | some q =>
        rw [h2] at h
        simp at h
        have := cpS_le k q h2
        omega
    · cases h
theorem mkB_next {b : Batch} {i k : Nat} {r : Record} (h : b.Records[k]? = some r) (hi : i ≤ k) : (mkB b i (k + 1)).Records = (mkB b i k).Records ++ [r] := by
  unfold mkB
  show (b.Records.drop i).take (k + 1 - i) = (b.Records.drop i).take (k - i) ++ [r]
  rw [show k + 1 - i = (k - i) + 1 by omega]
  exact take_snoc (by rw [List.getElem?_drop, show i + (k - i) = k by omega]; exact h)
theorem mkB_nil (b : Batch) (k : Nat) : (mkB b k k).Records = [] := by unfold mkB; simp
theorem cpOut_len {b : Batch} {g : List Bool} : ∀ k, (cpOut b (cpS b g k) k).length ≤ k
  | 0 => by simp [cpS, cpOut]
  | k + 1 => by
    by_cases h : g[k]? = some false
    · cases h0 : (cpS b g k).2 with
      | none => rw [cpOut_first h h0, List.length_append, List.length_singleton]; have := cpOut_len (b := b) (g := g) k; omega
      | some i =>
        obtain ⟨h1, h2, _⟩ := cpOut_next h h0
        have := cpOut_len (b := b) (g := g) k
        rw [h1, List.length_append, List.length_singleton] at this
        rw [h2, List.length_append, List.length_singleton]
        omega
    · rw [cpOut_gone h]
      have := cpOut_len (b := b) (g := g) k
      omega
theorem cpB_len (b : Batch) (g : List Bool) : (cpB b g).length ≤ b.Records.length := cpOut_len _
/-! ### segments -/
def cpL (M : List (List Bool)) : List Batch → Nat → List Batch
  | [], _ => []
  | b :: r, at_ => cpB b ((M[at_]?).getD []) ++ cpL M r (at_ + 1)
def cpG (s : Segment) (o : List Batch) : List Segment := if o.length = 0 then [] else [⟨s.Base, o⟩]
def cpGs (M : List (List Bool)) : List Segment → Nat → List Segment
  | [], _ => []
  | s :: r, at_ => cpG s (cpL M s.Batches at_) ++ cpGs M r (at_ + s.Batches.length)
def cpN (M : List (List Bool)) : List Segment → Nat → Nat
  | [], _ => 0
  | s :: r, at_ => (cpL M s.Batches at_).length + cpN M r (at_ + s.Batches.length)
theorem cpL_snoc (M : List (List Bool)) : ∀ (l : List Batch) (b : Batch) (a : Nat), cpL M (l ++ [b]) a = cpL M l a ++ cpB b ((M[a + l.length]?).getD [])
  | [], b, a => by simp [cpL]
  | q :: l, b, a => by rw [List.cons_append, cpL, cpL_snoc M l b (a + 1), cpL, List.append_assoc, List.length_cons, show a + 1 + l.length = a + (l.length + 1) by omega]
theorem cpL_take {M : List (List Bool)} {l : List Batch} {k a : Nat} {b : Batch} (h : l[k]? = some b) : cpL M (l.take (k + 1)) a = cpL M (l.take k) a ++ cpB b ((M[a + k]?).getD []) := by
  have hk := (List.getElem?_eq_some_iff.1 h).1
  rw [take_snoc h, cpL_snoc, List.length_take, Nat.min_eq_left (Nat.le_of_lt hk)]
def atS (l : List Segment) (k : Nat) : Nat := ((l.take k).flatMap (·.Batches)).length
theorem atS_step {l : List Segment} {k : Nat} {s : Segment} (h : l[k]? = some s) : atS l (k + 1) = atS l k + s.Batches.length := by
  unfold atS
  rw [flatMap_take h, List.length_append]
theorem cpGs_snoc (M : List (List Bool)) : ∀ (l : List Segment) (s : Segment) (a : Nat), cpGs M (l ++ [s]) a = cpGs M l a ++ cpG s (cpL M s.Batches (a + (l.flatMap (·.Batches)).length)) ∧ cpN M (l ++ [s]) a = cpN M l a + (cpL M s.Batches (a + (l.flatMap (·.Batches)).length)).length
  | [], s, a => by simp [cpGs, cpN]
  | q :: l, s, a => by
    obtain ⟨h1, h2⟩ := cpGs_snoc M l s (a + q.Batches.length)
    rw [List.cons_append, cpGs, cpN, h1, h2, cpGs, cpN, List.flatMap_cons, List.length_append, ← Nat.add_assoc, List.append_assoc, Nat.add_assoc]
    exact ⟨rfl, by omega⟩
theorem cpGs_take {M : List (List Bool)} {l : List Segment} {k : Nat} {s : Segment} (h : l[k]? = some s) : cpGs M (l.take (k + 1)) 0 = cpGs M (l.take k) 0 ++ cpG s (cpL M s.Batches (atS l k)) ∧ cpN M (l.take (k + 1)) 0 = cpN M (l.take k) 0 + (cpL M s.Batches (atS l k)).length := by
  have h2 := cpGs_snoc M (l.take k) s 0
  rw [Nat.zero_add] at h2
  rw [take_snoc h]
  exact h2
def cpMat (x : Log) (tt now keep : Int) : List (List Bool) := matF tt (now - keep) (allB x)
def compactOk (x : Log) (tt now keep : Int) : Bool := argsF x tt now keep && decide (cpN (cpMat x tt now keep) x.Segments 0 ≤ 400)
def compactL (x : Log) (tt now keep : Int) : Log := if compactOk x tt now keep = true then ⟨x.Start, x.Next, x.Roll, cpGs (cpMat x tt now keep) x.Segments 0⟩ else zLog
/-- The batch at a segment's place k is the log's at atS + k. -/
theorem allB_at {x : Log} {i k : Nat} {s : Segment} {b : Batch} (hs : x.Segments[i]? = some s) (hb : s.Batches[k]? = some b) : (allB x)[atS x.Segments i + k]? = some b := by
  unfold allB atS
  have h1 : x.Segments = x.Segments.take i ++ s :: x.Segments.drop (i + 1) := by
    rw [← drop_cons hs, List.take_append_drop]
  have h2 : x.Segments.flatMap (·.Batches) = (x.Segments.take i).flatMap (·.Batches) ++ (s.Batches ++ (x.Segments.drop (i + 1)).flatMap (·.Batches)) := by
    conv => lhs; rw [h1]
    rw [List.flatMap_append, List.flatMap_cons]
  have hk := (List.getElem?_eq_some_iff.1 hb).1
  rw [h2, List.getElem?_append_right (by omega), Nat.add_sub_cancel_left, List.getElem?_append_left hk]
  exact hb
end Go.Proofs.Ytiefpllmnmmdlaa.H
