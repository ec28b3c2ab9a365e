/-
How many marks a value holds. Printed by hlaws.py (this session's own). Conditions: each contract's own premises.
-/
import Derived.Test.YtiefpllmnmmdlaaHMk
import Derived.Test.YtiefpllmnmmdlaaHMkDef
namespace Go.Proofs.Ytiefpllmnmmdlaa.H
open Go.RowKit
set_option linter.unusedVariables false
set_option linter.unusedSimpArgs false
set_option maxRecDepth 100000
theorem sumF_le {α : Type} {f g : α → Nat} (h : ∀ x, f x ≤ 10 * (1 + g x)) : ∀ l : List α, sumF f l ≤ 10 * szL g l
  | [] => by simp [sumF, szL]
  | x :: r => by
    have h1 := sumF_le h r
    have h2 := h x
    have e1 : sumF f (x :: r) = f x + sumF f r := by simp [sumF]
    have e2 : szL g (x :: r) = 1 + g x + szL g r := by simp only [szL, sumF, List.map_cons, List.sum_cons, List.length_cons]; omega
    omega
theorem Ki.T_below {α : Type} {d : Ki α} {w w1 : World} {F : List Nat} {x : α} {cs : List Value} (h : d.T w F x cs) (hb : Below w.heap.size w w1) : d.T w1 F x cs := d.T_frame (fun b hb' => hb.block b (d.T_lt h b hb')) h
theorem Ki.T_upd {α : Type} {d : Ki α} {w w1 : World} {F G : List Nat} {x : α} {cs : List Value} (h : d.T w F x cs) (hu : Upd G w w1) (hd : ∀ b ∈ F, b ∉ G) : d.T w1 F x cs := d.T_frame (fun b hb => hu.block b (d.T_lt h b hb) (hd b hb)) h
theorem Head.cnt_le (x : Head) : x.cnt ≤ 10 * (1 + Head.sz x) := by
  rw [Head.cnt_eq]
  unfold Head.sz
  omega
theorem Record.cnt_le (x : Record) : x.cnt ≤ 10 * (1 + Record.sz x) := by
  rw [Record.cnt_eq]
  have h0 := sumF_le Head.cnt_le x.Heads
  unfold Record.sz
  omega
theorem Record.cntV_le (x : Record) : x.cntV ≤ 10 * Record.sz x := by
  unfold Record.cntV
  have h0 := sumF_le Head.cnt_le x.Heads
  unfold Record.sz
  omega
theorem Batch.cnt_le (x : Batch) : x.cnt ≤ 10 * (1 + Batch.sz x) := by
  rw [Batch.cnt_eq]
  have h0 := sumF_le Record.cnt_le x.Records
  unfold Batch.sz
  omega
theorem Batch.cntV_le (x : Batch) : x.cntV ≤ 10 * Batch.sz x := by
  unfold Batch.cntV
  have h0 := sumF_le Record.cnt_le x.Records
  unfold Batch.sz
  omega
theorem Segment.cnt_le (x : Segment) : x.cnt ≤ 10 * (1 + Segment.sz x) := by
  rw [Segment.cnt_eq]
  have h0 := sumF_le Batch.cnt_le x.Batches
  unfold Segment.sz
  omega
theorem Segment.cntV_le (x : Segment) : x.cntV ≤ 10 * Segment.sz x := by
  unfold Segment.cntV
  have h0 := sumF_le Batch.cnt_le x.Batches
  unfold Segment.sz
  omega
theorem Log.cnt_le (x : Log) : x.cnt ≤ 10 * (1 + Log.sz x) := by
  rw [Log.cnt_eq]
  have h0 := sumF_le Segment.cnt_le x.Segments
  unfold Log.sz
  omega
theorem Log.cntV_le (x : Log) : x.cntV ≤ 10 * Log.sz x := by
  unfold Log.cntV
  have h0 := sumF_le Segment.cnt_le x.Segments
  unfold Log.sz
  omega
theorem Pair.cnt_le (x : Pair) : x.cnt ≤ 10 * (1 + Pair.sz x) := by
  rw [Pair.cnt_eq]
  unfold Pair.sz
  omega
end Go.Proofs.Ytiefpllmnmmdlaa.H
