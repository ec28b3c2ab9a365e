/-
What marked values are. Printed by hlaws.py (this session's own). Conditions: each contract's own premises.
-/
import Derived.Test.YtiefpllmnmmdlaaHMark
import Derived.Test.YtiefpllmnmmdlaaHTypes
import Derived.Test.YtiefpllmnmmdlaaHText
namespace Go.Proofs.Ytiefpllmnmmdlaa.H
open Go.RowKit
set_option linter.unusedVariables false
set_option linter.unusedSimpArgs false
set_option maxRecDepth 100000
def Head.cnt (x : Head) : Nat := 2
theorem Head.cnt_eq (x : Head) : x.cnt = 2 := rfl
def Head.mkR (x : Head) (a b : Int) : Prop := x.Key = mtext (a) ∧ x.Value = mtext (a + 1) ∧ b = a + 1 + 1
theorem Head.mkR_lt (x : Head) (a b : Int) (h : x.mkR a b) : a + 1 ≤ b := by
  obtain ⟨h0, h1, h2⟩ := h
  omega
def Record.cnt (x : Record) : Nat := 5 + sumF Head.cnt x.Heads
theorem Record.cnt_eq (x : Record) : x.cnt = 5 + sumF Head.cnt x.Heads := rfl
def Record.mkR (x : Record) (a b : Int) : Prop := ∃ c5 : Int, x.Time = a ∧ x.Keyed = ((a + 1) % 3 == 0) ∧ x.Key = mtext (a + 1 + 1) ∧ x.Gone = ((a + 1 + 1 + 1) % 3 == 0) ∧ x.Value = mtext (a + 1 + 1 + 1 + 1) ∧ Mks Head.mkR x.Heads (a + 1 + 1 + 1 + 1 + 1) c5 ∧ b = c5
theorem Record.mkR_lt (x : Record) (a b : Int) (h : x.mkR a b) : a + 1 ≤ b := by
  obtain ⟨c5, h0, h1, h2, h3, h4, h5, h6⟩ := h
  have g5 := Mks.le Head.mkR_lt h5
  omega
def Record.mkV (x : Record) (a b : Int) : Prop := ∃ c5 : Int, Mks Head.mkR x.Heads a c5 ∧ b = c5
def Record.cntV (x : Record) : Nat := sumF Head.cnt x.Heads
def Batch.cnt (x : Batch) : Nat := 6 + sumF Record.cnt x.Records
theorem Batch.cnt_eq (x : Batch) : x.cnt = 6 + sumF Record.cnt x.Records := rfl
def Batch.mkR (x : Batch) (a b : Int) : Prop := ∃ c6 : Int, x.Base = a ∧ x.Epoch = a + 1 ∧ x.Producer = a + 1 + 1 ∧ x.Turn = a + 1 + 1 + 1 ∧ x.Seq = a + 1 + 1 + 1 + 1 ∧ x.Flags = a + 1 + 1 + 1 + 1 + 1 ∧ Mks Record.mkR x.Records (a + 1 + 1 + 1 + 1 + 1 + 1) c6 ∧ b = c6
theorem Batch.mkR_lt (x : Batch) (a b : Int) (h : x.mkR a b) : a + 1 ≤ b := by
  obtain ⟨c6, h0, h1, h2, h3, h4, h5, h6, h7⟩ := h
  have g6 := Mks.le Record.mkR_lt h6
  omega
def Batch.mkV (x : Batch) (a b : Int) : Prop := ∃ c6 : Int, Mks Record.mkR x.Records a c6 ∧ b = c6
def Batch.cntV (x : Batch) : Nat := sumF Record.cnt x.Records
def Segment.cnt (x : Segment) : Nat := 1 + sumF Batch.cnt x.Batches
theorem Segment.cnt_eq (x : Segment) : x.cnt = 1 + sumF Batch.cnt x.Batches := rfl
def Segment.mkR (x : Segment) (a b : Int) : Prop := ∃ c1 : Int, x.Base = a ∧ Mks Batch.mkR x.Batches (a + 1) c1 ∧ b = c1
theorem Segment.mkR_lt (x : Segment) (a b : Int) (h : x.mkR a b) : a + 1 ≤ b := by
  obtain ⟨c1, h0, h1, h2⟩ := h
  have g1 := Mks.le Batch.mkR_lt h1
  omega
def Segment.mkV (x : Segment) (a b : Int) : Prop := ∃ c1 : Int, Mks Batch.mkR x.Batches a c1 ∧ b = c1
def Segment.cntV (x : Segment) : Nat := sumF Batch.cnt x.Batches
def Log.cnt (x : Log) : Nat := 3 + sumF Segment.cnt x.Segments
theorem Log.cnt_eq (x : Log) : x.cnt = 3 + sumF Segment.cnt x.Segments := rfl
def Log.mkR (x : Log) (a b : Int) : Prop := ∃ c3 : Int, x.Start = a ∧ x.Next = a + 1 ∧ x.Roll = a + 1 + 1 ∧ Mks Segment.mkR x.Segments (a + 1 + 1 + 1) c3 ∧ b = c3
theorem Log.mkR_lt (x : Log) (a b : Int) (h : x.mkR a b) : a + 1 ≤ b := by
  obtain ⟨c3, h0, h1, h2, h3, h4⟩ := h
  have g3 := Mks.le Segment.mkR_lt h3
  omega
def Log.mkV (x : Log) (a b : Int) : Prop := ∃ c3 : Int, Mks Segment.mkR x.Segments a c3 ∧ b = c3
def Log.cntV (x : Log) : Nat := sumF Segment.cnt x.Segments
def Pair.cnt (x : Pair) : Nat := 2
theorem Pair.cnt_eq (x : Pair) : x.cnt = 2 := rfl
def Pair.mkR (x : Pair) (a b : Int) : Prop := x.Key = mtext (a) ∧ x.Value = mtext (a + 1) ∧ b = a + 1 + 1
theorem Pair.mkR_lt (x : Pair) (a b : Int) (h : x.mkR a b) : a + 1 ≤ b := by
  obtain ⟨h0, h1, h2⟩ := h
  omega
end Go.Proofs.Ytiefpllmnmmdlaa.H
