/-
The program's structs, as Lean's: what is read, what is owned, laid open and put together; printed by htypes.py (this session's own). Conditions: none.
-/
import Derived.Test.YtenldgbabcjjkaaH0
import Derived.Test.YtenldgbabcjjkaaHOpen
namespace Go.Proofs.Ytenldgbabcjjkaa.H
open Go.RowKit
set_option linter.unusedVariables false
set_option linter.unusedSimpArgs false
/-! ### Head -/
structure Head where
  Key : ByteArray
  Value : ByteArray
def zHead : Head := ⟨(⟨#[]⟩ : ByteArray), (⟨#[]⟩ : ByteArray)⟩
def kHead : Ki Head := Ki.iso (Ki.pair Ki.str Ki.str) (fun x : Head => (x.Key, x.Value))
def Head.wf (x : Head) : Prop := (wfPair wfStr wfStr) (x.Key, x.Value)
def Head.sm (x : Head) : Prop := x.Key.size ≤ 1048576 ∧ x.Value.size ≤ 1048576
def Head.sz (x : Head) : Nat := x.Key.size + x.Value.size
theorem Head.sm_of {x : Head} (h : x.sz ≤ 1048576) : x.sm := by
  unfold Head.sz at h
  have h0 : x.Key.size ≤ 1048576 := by omega
  have h1 : x.Value.size ≤ 1048576 := by omega
  exact ⟨h0, h1⟩
theorem Head.opn {w : World} {x : Head} {cs : List Go.Value} (h : kHead.K w x cs) : cs = [.string x.Key, .string x.Value] := by
  obtain ⟨_, _, rfl, rfl, rfl⟩ := h
  exact rfl
theorem Head.mk_ (w : World) (x : Head) : kHead.K w x [.string x.Key, .string x.Value] := ⟨[.string x.Key], [.string x.Value], rfl, rfl, rfl⟩
theorem Head.opnT {w : World} {F : List Nat} {x : Head} {cs : List Go.Value} (h : kHead.T w F x cs) : cs = [.string x.Key, .string x.Value] ∧ F = [] := by
  obtain ⟨_, _, _, _, rfl, rfl, ⟨rfl, rfl⟩, ⟨rfl, rfl⟩⟩ := h
  exact ⟨rfl, by simp⟩
theorem Head.mkT (w : World) (x : Head) : kHead.T w ([]) x [.string x.Key, .string x.Value] := by
  have h : kHead.T w _ x [.string x.Key, .string x.Value] := ⟨[.string x.Key], [.string x.Value], _, _, rfl, rfl, ⟨rfl, rfl⟩, ⟨rfl, rfl⟩⟩
  simpa using h
theorem Head.at {w : World} {A : Option Addr} {xs : List Head} (h : Row kHead w A xs) (i : Nat) (hi : i < xs.length) : ∃ ad x, A = some ad ∧ xs[i]? = some x ∧ w.cell? (ad.add (i * 2)) = some (.string x.Key) ∧ w.cell? ⟨(ad.add (i * 2)).block, (ad.add (i * 2)).off + 1, none⟩ = some (.string x.Value) := by
  obtain ⟨ad, x, cs, e, hx, hK, hc0⟩ := Row_get h i hi
  have hc : ∀ j u, cs[j]? = some u → w.cell? (ad.add (i * 2 + j)) = some u := hc0
  obtain rfl := Head.opn hK
  exact ⟨ad, x, e, hx, hc 0 _ rfl, by rw [← add_field _ _ 1 (by omega)]; exact hc 1 _ rfl⟩

/-! ### Record -/
structure Record where
  Time : Int
  Keyed : Bool
  Key : ByteArray
  Gone : Bool
  Value : ByteArray
  Heads : (List Head)
def zRecord : Record := ⟨(0 : Int), false, (⟨#[]⟩ : ByteArray), false, (⟨#[]⟩ : ByteArray), []⟩
def kRecord : Ki Record := Ki.iso (Ki.pair (Ki.int .i64) (Ki.pair Ki.bool (Ki.pair Ki.str (Ki.pair Ki.bool (Ki.pair Ki.str (Ki.slice 168 kHead)))))) (fun x : Record => (x.Time, x.Keyed, x.Key, x.Gone, x.Value, x.Heads))
def Record.wf (x : Record) : Prop := (wfPair (wfInt .i64) (wfPair wfBool (wfPair wfStr (wfPair wfBool (wfPair wfStr (wfList Head.wf)))))) (x.Time, x.Keyed, x.Key, x.Gone, x.Value, x.Heads)
def Record.sm (x : Record) : Prop := x.Key.size ≤ 1048576 ∧ x.Value.size ≤ 1048576 ∧ (x.Heads.length ≤ 1048576 ∧ ∀ y ∈ x.Heads, y.sm)
def Record.sz (x : Record) : Nat := x.Key.size + x.Value.size + szL Head.sz x.Heads
theorem Record.sm_of {x : Record} (h : x.sz ≤ 1048576) : x.sm := by
  unfold Record.sz at h
  have h0 : x.Key.size ≤ 1048576 := by omega
  have h1 : x.Value.size ≤ 1048576 := by omega
  have h2 : szL Head.sz x.Heads ≤ 1048576 := by omega
  exact ⟨h0, h1, ⟨Nat.le_trans (szL_len _ _) h2, fun y0 hy0 => Head.sm_of (Nat.le_trans (szL_mem Head.sz hy0) h2)⟩⟩
theorem Record.opn {w : World} {x : Record} {cs : List Go.Value} (h : kRecord.K w x cs) : ∃ A5 c5, cs = [.int .i64 x.Time, .bool x.Keyed, .string x.Key, .bool x.Gone, .string x.Value, .slice A5 x.Heads.length c5] ∧ x.Heads.length ≤ c5 ∧ Row kHead w A5 x.Heads := by
  obtain ⟨_, _, rfl, rfl, ⟨_, _, rfl, rfl, ⟨_, _, rfl, rfl, ⟨_, _, rfl, rfl, ⟨_, _, rfl, rfl, ⟨A5, c5, rfl, l5, g5⟩⟩⟩⟩⟩⟩ := h
  exact ⟨A5, c5, rfl, l5, g5⟩
theorem Record.mk_ (w : World) (x : Record) {A5 : Option Addr} {c5 : Nat} (l5 : x.Heads.length ≤ c5) (g5 : Row kHead w A5 x.Heads) : kRecord.K w x [.int .i64 x.Time, .bool x.Keyed, .string x.Key, .bool x.Gone, .string x.Value, .slice A5 x.Heads.length c5] := ⟨[.int .i64 x.Time], [.bool x.Keyed, .string x.Key, .bool x.Gone, .string x.Value, .slice A5 x.Heads.length c5], rfl, rfl, ⟨[.bool x.Keyed], [.string x.Key, .bool x.Gone, .string x.Value, .slice A5 x.Heads.length c5], rfl, rfl, ⟨[.string x.Key], [.bool x.Gone, .string x.Value, .slice A5 x.Heads.length c5], rfl, rfl, ⟨[.bool x.Gone], [.string x.Value, .slice A5 x.Heads.length c5], rfl, rfl, ⟨[.string x.Value], [.slice A5 x.Heads.length c5], rfl, rfl, ⟨_, _, rfl, l5, g5⟩⟩⟩⟩⟩⟩
theorem Record.opnT {w : World} {F : List Nat} {x : Record} {cs : List Go.Value} (h : kRecord.T w F x cs) : ∃ v5 F5, cs = [.int .i64 x.Time, .bool x.Keyed, .string x.Key, .bool x.Gone, .string x.Value, v5] ∧ F = F5 ∧ TS kHead 168 w F5 x.Heads v5 := by
  obtain ⟨_, _, _, _, rfl, rfl, ⟨rfl, rfl⟩, ⟨_, _, _, _, rfl, rfl, ⟨rfl, rfl⟩, ⟨_, _, _, _, rfl, rfl, ⟨rfl, rfl⟩, ⟨_, _, _, _, rfl, rfl, ⟨rfl, rfl⟩, ⟨_, _, _, _, rfl, rfl, ⟨rfl, rfl⟩, ⟨v5, rfl, g5⟩⟩⟩⟩⟩⟩ := h
  exact ⟨v5, _, rfl, by simp, g5⟩
theorem Record.mkT (w : World) (x : Record) {v5 : Go.Value} {F5 : List Nat} (g5 : TS kHead 168 w F5 x.Heads v5) : kRecord.T w (F5) x [.int .i64 x.Time, .bool x.Keyed, .string x.Key, .bool x.Gone, .string x.Value, v5] := by
  have h : kRecord.T w _ x [.int .i64 x.Time, .bool x.Keyed, .string x.Key, .bool x.Gone, .string x.Value, v5] := ⟨[.int .i64 x.Time], [.bool x.Keyed, .string x.Key, .bool x.Gone, .string x.Value, v5], _, _, rfl, rfl, ⟨rfl, rfl⟩, ⟨[.bool x.Keyed], [.string x.Key, .bool x.Gone, .string x.Value, v5], _, _, rfl, rfl, ⟨rfl, rfl⟩, ⟨[.string x.Key], [.bool x.Gone, .string x.Value, v5], _, _, rfl, rfl, ⟨rfl, rfl⟩, ⟨[.bool x.Gone], [.string x.Value, v5], _, _, rfl, rfl, ⟨rfl, rfl⟩, ⟨[.string x.Value], [v5], _, _, rfl, rfl, ⟨rfl, rfl⟩, ⟨_, rfl, g5⟩⟩⟩⟩⟩⟩
  simpa using h
theorem Record.at {w : World} {A : Option Addr} {xs : List Record} (h : Row kRecord w A xs) (i : Nat) (hi : i < xs.length) : ∃ ad x A5 c5, A = some ad ∧ xs[i]? = some x ∧ w.cell? (ad.add (i * 6)) = some (.int .i64 x.Time) ∧ w.cell? ⟨(ad.add (i * 6)).block, (ad.add (i * 6)).off + 1, none⟩ = some (.bool x.Keyed) ∧ w.cell? ⟨(ad.add (i * 6)).block, (ad.add (i * 6)).off + 2, none⟩ = some (.string x.Key) ∧ w.cell? ⟨(ad.add (i * 6)).block, (ad.add (i * 6)).off + 3, none⟩ = some (.bool x.Gone) ∧ w.cell? ⟨(ad.add (i * 6)).block, (ad.add (i * 6)).off + 4, none⟩ = some (.string x.Value) ∧ w.cell? ⟨(ad.add (i * 6)).block, (ad.add (i * 6)).off + 5, none⟩ = some (.slice A5 x.Heads.length c5) ∧ x.Heads.length ≤ c5 ∧ Row kHead w A5 x.Heads := by
  obtain ⟨ad, x, cs, e, hx, hK, hc0⟩ := Row_get h i hi
  have hc : ∀ j u, cs[j]? = some u → w.cell? (ad.add (i * 6 + j)) = some u := hc0
  obtain ⟨A5, c5, rfl, l5, g5⟩ := Record.opn hK
  exact ⟨ad, x, A5, c5, e, hx, hc 0 _ rfl, by rw [← add_field _ _ 1 (by omega)]; exact hc 1 _ rfl, by rw [← add_field _ _ 2 (by omega)]; exact hc 2 _ rfl, by rw [← add_field _ _ 3 (by omega)]; exact hc 3 _ rfl, by rw [← add_field _ _ 4 (by omega)]; exact hc 4 _ rfl, by rw [← add_field _ _ 5 (by omega)]; exact hc 5 _ rfl, l5, g5⟩

/-! ### Batch -/
structure Batch where
  Base : Int
  Epoch : Int
  Producer : Int
  Turn : Int
  Seq : Int
  Flags : Int
  Records : (List Record)
def zBatch : Batch := ⟨(0 : Int), (0 : Int), (0 : Int), (0 : Int), (0 : Int), (0 : Int), []⟩
def kBatch : Ki Batch := Ki.iso (Ki.pair (Ki.int .i64) (Ki.pair (Ki.int .i64) (Ki.pair (Ki.int .i64) (Ki.pair (Ki.int .i64) (Ki.pair (Ki.int .i64) (Ki.pair (Ki.int .i64) (Ki.slice 148 kRecord))))))) (fun x : Batch => (x.Base, x.Epoch, x.Producer, x.Turn, x.Seq, x.Flags, x.Records))
def Batch.wf (x : Batch) : Prop := (wfPair (wfInt .i64) (wfPair (wfInt .i64) (wfPair (wfInt .i64) (wfPair (wfInt .i64) (wfPair (wfInt .i64) (wfPair (wfInt .i64) (wfList Record.wf))))))) (x.Base, x.Epoch, x.Producer, x.Turn, x.Seq, x.Flags, x.Records)
def Batch.sm (x : Batch) : Prop := (x.Records.length ≤ 1048576 ∧ ∀ y ∈ x.Records, y.sm)
def Batch.sz (x : Batch) : Nat := szL Record.sz x.Records
theorem Batch.sm_of {x : Batch} (h : x.sz ≤ 1048576) : x.sm := by
  unfold Batch.sz at h
  have h0 : szL Record.sz x.Records ≤ 1048576 := by omega
  exact ⟨Nat.le_trans (szL_len _ _) h0, fun y0 hy0 => Record.sm_of (Nat.le_trans (szL_mem Record.sz hy0) h0)⟩
theorem Batch.opn {w : World} {x : Batch} {cs : List Go.Value} (h : kBatch.K w x cs) : ∃ A6 c6, cs = [.int .i64 x.Base, .int .i64 x.Epoch, .int .i64 x.Producer, .int .i64 x.Turn, .int .i64 x.Seq, .int .i64 x.Flags, .slice A6 x.Records.length c6] ∧ x.Records.length ≤ c6 ∧ Row kRecord w A6 x.Records := by
  obtain ⟨_, _, rfl, rfl, ⟨_, _, rfl, rfl, ⟨_, _, rfl, rfl, ⟨_, _, rfl, rfl, ⟨_, _, rfl, rfl, ⟨_, _, rfl, rfl, ⟨A6, c6, rfl, l6, g6⟩⟩⟩⟩⟩⟩⟩ := h
  exact ⟨A6, c6, rfl, l6, g6⟩
theorem Batch.mk_ (w : World) (x : Batch) {A6 : Option Addr} {c6 : Nat} (l6 : x.Records.length ≤ c6) (g6 : Row kRecord w A6 x.Records) : kBatch.K w x [.int .i64 x.Base, .int .i64 x.Epoch, .int .i64 x.Producer, .int .i64 x.Turn, .int .i64 x.Seq, .int .i64 x.Flags, .slice A6 x.Records.length c6] := ⟨[.int .i64 x.Base], [.int .i64 x.Epoch, .int .i64 x.Producer, .int .i64 x.Turn, .int .i64 x.Seq, .int .i64 x.Flags, .slice A6 x.Records.length c6], rfl, rfl, ⟨[.int .i64 x.Epoch], [.int .i64 x.Producer, .int .i64 x.Turn, .int .i64 x.Seq, .int .i64 x.Flags, .slice A6 x.Records.length c6], rfl, rfl, ⟨[.int .i64 x.Producer], [.int .i64 x.Turn, .int .i64 x.Seq, .int .i64 x.Flags, .slice A6 x.Records.length c6], rfl, rfl, ⟨[.int .i64 x.Turn], [.int .i64 x.Seq, .int .i64 x.Flags, .slice A6 x.Records.length c6], rfl, rfl, ⟨[.int .i64 x.Seq], [.int .i64 x.Flags, .slice A6 x.Records.length c6], rfl, rfl, ⟨[.int .i64 x.Flags], [.slice A6 x.Records.length c6], rfl, rfl, ⟨_, _, rfl, l6, g6⟩⟩⟩⟩⟩⟩⟩
theorem Batch.opnT {w : World} {F : List Nat} {x : Batch} {cs : List Go.Value} (h : kBatch.T w F x cs) : ∃ v6 F6, cs = [.int .i64 x.Base, .int .i64 x.Epoch, .int .i64 x.Producer, .int .i64 x.Turn, .int .i64 x.Seq, .int .i64 x.Flags, v6] ∧ F = F6 ∧ TS kRecord 148 w F6 x.Records v6 := by
  obtain ⟨_, _, _, _, rfl, rfl, ⟨rfl, rfl⟩, ⟨_, _, _, _, rfl, rfl, ⟨rfl, rfl⟩, ⟨_, _, _, _, rfl, rfl, ⟨rfl, rfl⟩, ⟨_, _, _, _, rfl, rfl, ⟨rfl, rfl⟩, ⟨_, _, _, _, rfl, rfl, ⟨rfl, rfl⟩, ⟨_, _, _, _, rfl, rfl, ⟨rfl, rfl⟩, ⟨v6, rfl, g6⟩⟩⟩⟩⟩⟩⟩ := h
  exact ⟨v6, _, rfl, by simp, g6⟩
theorem Batch.mkT (w : World) (x : Batch) {v6 : Go.Value} {F6 : List Nat} (g6 : TS kRecord 148 w F6 x.Records v6) : kBatch.T w (F6) x [.int .i64 x.Base, .int .i64 x.Epoch, .int .i64 x.Producer, .int .i64 x.Turn, .int .i64 x.Seq, .int .i64 x.Flags, v6] := by
  have h : kBatch.T w _ x [.int .i64 x.Base, .int .i64 x.Epoch, .int .i64 x.Producer, .int .i64 x.Turn, .int .i64 x.Seq, .int .i64 x.Flags, v6] := ⟨[.int .i64 x.Base], [.int .i64 x.Epoch, .int .i64 x.Producer, .int .i64 x.Turn, .int .i64 x.Seq, .int .i64 x.Flags, v6], _, _, rfl, rfl, ⟨rfl, rfl⟩, ⟨[.int .i64 x.Epoch], [.int .i64 x.Producer, .int .i64 x.Turn, .int .i64 x.Seq, .int .i64 x.Flags, v6], _, _, rfl, rfl, ⟨rfl, rfl⟩, ⟨[.int .i64 x.Producer], [.int .i64 x.Turn, .int .i64 x.Seq, .int .i64 x.Flags, v6], _, _, rfl, rfl, ⟨rfl, rfl⟩, ⟨[.int .i64 x.Turn], [.int .i64 x.Seq, .int .i64 x.Flags, v6], _, _, rfl, rfl, ⟨rfl, rfl⟩, ⟨[.int .i64 x.Seq], [.int .i64 x.Flags, v6], _, _, rfl, rfl, ⟨rfl, rfl⟩, ⟨[.int .i64 x.Flags], [v6], _, _, rfl, rfl, ⟨rfl, rfl⟩, ⟨_, rfl, g6⟩⟩⟩⟩⟩⟩⟩
  simpa using h
theorem Batch.at {w : World} {A : Option Addr} {xs : List Batch} (h : Row kBatch w A xs) (i : Nat) (hi : i < xs.length) : ∃ ad x A6 c6, A = some ad ∧ xs[i]? = some x ∧ w.cell? (ad.add (i * 7)) = some (.int .i64 x.Base) ∧ w.cell? ⟨(ad.add (i * 7)).block, (ad.add (i * 7)).off + 1, none⟩ = some (.int .i64 x.Epoch) ∧ w.cell? ⟨(ad.add (i * 7)).block, (ad.add (i * 7)).off + 2, none⟩ = some (.int .i64 x.Producer) ∧ w.cell? ⟨(ad.add (i * 7)).block, (ad.add (i * 7)).off + 3, none⟩ = some (.int .i64 x.Turn) ∧ w.cell? ⟨(ad.add (i * 7)).block, (ad.add (i * 7)).off + 4, none⟩ = some (.int .i64 x.Seq) ∧ w.cell? ⟨(ad.add (i * 7)).block, (ad.add (i * 7)).off + 5, none⟩ = some (.int .i64 x.Flags) ∧ w.cell? ⟨(ad.add (i * 7)).block, (ad.add (i * 7)).off + 6, none⟩ = some (.slice A6 x.Records.length c6) ∧ x.Records.length ≤ c6 ∧ Row kRecord w A6 x.Records := by
  obtain ⟨ad, x, cs, e, hx, hK, hc0⟩ := Row_get h i hi
  have hc : ∀ j u, cs[j]? = some u → w.cell? (ad.add (i * 7 + j)) = some u := hc0
  obtain ⟨A6, c6, rfl, l6, g6⟩ := Batch.opn hK
  exact ⟨ad, x, A6, c6, e, hx, hc 0 _ rfl, by rw [← add_field _ _ 1 (by omega)]; exact hc 1 _ rfl, by rw [← add_field _ _ 2 (by omega)]; exact hc 2 _ rfl, by rw [← add_field _ _ 3 (by omega)]; exact hc 3 _ rfl, by rw [← add_field _ _ 4 (by omega)]; exact hc 4 _ rfl, by rw [← add_field _ _ 5 (by omega)]; exact hc 5 _ rfl, by rw [← add_field _ _ 6 (by omega)]; exact hc 6 _ rfl, l6, g6⟩

/-! ### Segment -/
structure Segment where
  Base : Int
  Batches : (List Batch)
def zSegment : Segment := ⟨(0 : Int), []⟩
def kSegment : Ki Segment := Ki.iso (Ki.pair (Ki.int .i64) (Ki.slice 117 kBatch)) (fun x : Segment => (x.Base, x.Batches))
def Segment.wf (x : Segment) : Prop := (wfPair (wfInt .i64) (wfList Batch.wf)) (x.Base, x.Batches)
def Segment.sm (x : Segment) : Prop := (x.Batches.length ≤ 1048576 ∧ ∀ y ∈ x.Batches, y.sm)
def Segment.sz (x : Segment) : Nat := szL Batch.sz x.Batches
theorem Segment.sm_of {x : Segment} (h : x.sz ≤ 1048576) : x.sm := by
  unfold Segment.sz at h
  have h0 : szL Batch.sz x.Batches ≤ 1048576 := by omega
  exact ⟨Nat.le_trans (szL_len _ _) h0, fun y0 hy0 => Batch.sm_of (Nat.le_trans (szL_mem Batch.sz hy0) h0)⟩
theorem Segment.opn {w : World} {x : Segment} {cs : List Go.Value} (h : kSegment.K w x cs) : ∃ A1 c1, cs = [.int .i64 x.Base, .slice A1 x.Batches.length c1] ∧ x.Batches.length ≤ c1 ∧ Row kBatch w A1 x.Batches := by
  obtain ⟨_, _, rfl, rfl, ⟨A1, c1, rfl, l1, g1⟩⟩ := h
  exact ⟨A1, c1, rfl, l1, g1⟩
theorem Segment.mk_ (w : World) (x : Segment) {A1 : Option Addr} {c1 : Nat} (l1 : x.Batches.length ≤ c1) (g1 : Row kBatch w A1 x.Batches) : kSegment.K w x [.int .i64 x.Base, .slice A1 x.Batches.length c1] := ⟨[.int .i64 x.Base], [.slice A1 x.Batches.length c1], rfl, rfl, ⟨_, _, rfl, l1, g1⟩⟩
theorem Segment.opnT {w : World} {F : List Nat} {x : Segment} {cs : List Go.Value} (h : kSegment.T w F x cs) : ∃ v1 F1, cs = [.int .i64 x.Base, v1] ∧ F = F1 ∧ TS kBatch 117 w F1 x.Batches v1 := by
  obtain ⟨_, _, _, _, rfl, rfl, ⟨rfl, rfl⟩, ⟨v1, rfl, g1⟩⟩ := h
  exact ⟨v1, _, rfl, by simp, g1⟩
theorem Segment.mkT (w : World) (x : Segment) {v1 : Go.Value} {F1 : List Nat} (g1 : TS kBatch 117 w F1 x.Batches v1) : kSegment.T w (F1) x [.int .i64 x.Base, v1] := by
  have h : kSegment.T w _ x [.int .i64 x.Base, v1] := ⟨[.int .i64 x.Base], [v1], _, _, rfl, rfl, ⟨rfl, rfl⟩, ⟨_, rfl, g1⟩⟩
  simpa using h
theorem Segment.at {w : World} {A : Option Addr} {xs : List Segment} (h : Row kSegment w A xs) (i : Nat) (hi : i < xs.length) : ∃ ad x A1 c1, A = some ad ∧ xs[i]? = some x ∧ w.cell? (ad.add (i * 2)) = some (.int .i64 x.Base) ∧ w.cell? ⟨(ad.add (i * 2)).block, (ad.add (i * 2)).off + 1, none⟩ = some (.slice A1 x.Batches.length c1) ∧ x.Batches.length ≤ c1 ∧ Row kBatch w A1 x.Batches := by
  obtain ⟨ad, x, cs, e, hx, hK, hc0⟩ := Row_get h i hi
  have hc : ∀ j u, cs[j]? = some u → w.cell? (ad.add (i * 2 + j)) = some u := hc0
  obtain ⟨A1, c1, rfl, l1, g1⟩ := Segment.opn hK
  exact ⟨ad, x, A1, c1, e, hx, hc 0 _ rfl, by rw [← add_field _ _ 1 (by omega)]; exact hc 1 _ rfl, l1, g1⟩

/-! ### Log -/
structure Log where
  Start : Int
  Next : Int
  Roll : Int
  Segments : (List Segment)
def zLog : Log := ⟨(0 : Int), (0 : Int), (0 : Int), []⟩
def kLog : Ki Log := Ki.iso (Ki.pair (Ki.int .i64) (Ki.pair (Ki.int .i64) (Ki.pair (Ki.int .i64) (Ki.slice 143 kSegment)))) (fun x : Log => (x.Start, x.Next, x.Roll, x.Segments))
def Log.wf (x : Log) : Prop := (wfPair (wfInt .i64) (wfPair (wfInt .i64) (wfPair (wfInt .i64) (wfList Segment.wf)))) (x.Start, x.Next, x.Roll, x.Segments)
def Log.sm (x : Log) : Prop := (x.Segments.length ≤ 1048576 ∧ ∀ y ∈ x.Segments, y.sm)
def Log.sz (x : Log) : Nat := szL Segment.sz x.Segments
theorem Log.sm_of {x : Log} (h : x.sz ≤ 1048576) : x.sm := by
  unfold Log.sz at h
  have h0 : szL Segment.sz x.Segments ≤ 1048576 := by omega
  exact ⟨Nat.le_trans (szL_len _ _) h0, fun y0 hy0 => Segment.sm_of (Nat.le_trans (szL_mem Segment.sz hy0) h0)⟩
theorem Log.opn {w : World} {x : Log} {cs : List Go.Value} (h : kLog.K w x cs) : ∃ A3 c3, cs = [.int .i64 x.Start, .int .i64 x.Next, .int .i64 x.Roll, .slice A3 x.Segments.length c3] ∧ x.Segments.length ≤ c3 ∧ Row kSegment w A3 x.Segments := by
  obtain ⟨_, _, rfl, rfl, ⟨_, _, rfl, rfl, ⟨_, _, rfl, rfl, ⟨A3, c3, rfl, l3, g3⟩⟩⟩⟩ := h
  exact ⟨A3, c3, rfl, l3, g3⟩
theorem Log.mk_ (w : World) (x : Log) {A3 : Option Addr} {c3 : Nat} (l3 : x.Segments.length ≤ c3) (g3 : Row kSegment w A3 x.Segments) : kLog.K w x [.int .i64 x.Start, .int .i64 x.Next, .int .i64 x.Roll, .slice A3 x.Segments.length c3] := ⟨[.int .i64 x.Start], [.int .i64 x.Next, .int .i64 x.Roll, .slice A3 x.Segments.length c3], rfl, rfl, ⟨[.int .i64 x.Next], [.int .i64 x.Roll, .slice A3 x.Segments.length c3], rfl, rfl, ⟨[.int .i64 x.Roll], [.slice A3 x.Segments.length c3], rfl, rfl, ⟨_, _, rfl, l3, g3⟩⟩⟩⟩
theorem Log.opnT {w : World} {F : List Nat} {x : Log} {cs : List Go.Value} (h : kLog.T w F x cs) : ∃ v3 F3, cs = [.int .i64 x.Start, .int .i64 x.Next, .int .i64 x.Roll, v3] ∧ F = F3 ∧ TS kSegment 143 w F3 x.Segments v3 := by
  obtain ⟨_, _, _, _, rfl, rfl, ⟨rfl, rfl⟩, ⟨_, _, _, _, rfl, rfl, ⟨rfl, rfl⟩, ⟨_, _, _, _, rfl, rfl, ⟨rfl, rfl⟩, ⟨v3, rfl, g3⟩⟩⟩⟩ := h
  exact ⟨v3, _, rfl, by simp, g3⟩
theorem Log.mkT (w : World) (x : Log) {v3 : Go.Value} {F3 : List Nat} (g3 : TS kSegment 143 w F3 x.Segments v3) : kLog.T w (F3) x [.int .i64 x.Start, .int .i64 x.Next, .int .i64 x.Roll, v3] := by
  have h : kLog.T w _ x [.int .i64 x.Start, .int .i64 x.Next, .int .i64 x.Roll, v3] := ⟨[.int .i64 x.Start], [.int .i64 x.Next, .int .i64 x.Roll, v3], _, _, rfl, rfl, ⟨rfl, rfl⟩, ⟨[.int .i64 x.Next], [.int .i64 x.Roll, v3], _, _, rfl, rfl, ⟨rfl, rfl⟩, ⟨[.int .i64 x.Roll], [v3], _, _, rfl, rfl, ⟨rfl, rfl⟩, ⟨_, rfl, g3⟩⟩⟩⟩
  simpa using h
theorem Log.at {w : World} {A : Option Addr} {xs : List Log} (h : Row kLog w A xs) (i : Nat) (hi : i < xs.length) : ∃ ad x A3 c3, A = some ad ∧ xs[i]? = some x ∧ w.cell? (ad.add (i * 4)) = some (.int .i64 x.Start) ∧ w.cell? ⟨(ad.add (i * 4)).block, (ad.add (i * 4)).off + 1, none⟩ = some (.int .i64 x.Next) ∧ w.cell? ⟨(ad.add (i * 4)).block, (ad.add (i * 4)).off + 2, none⟩ = some (.int .i64 x.Roll) ∧ w.cell? ⟨(ad.add (i * 4)).block, (ad.add (i * 4)).off + 3, none⟩ = some (.slice A3 x.Segments.length c3) ∧ x.Segments.length ≤ c3 ∧ Row kSegment w A3 x.Segments := by
  obtain ⟨ad, x, cs, e, hx, hK, hc0⟩ := Row_get h i hi
  have hc : ∀ j u, cs[j]? = some u → w.cell? (ad.add (i * 4 + j)) = some u := hc0
  obtain ⟨A3, c3, rfl, l3, g3⟩ := Log.opn hK
  exact ⟨ad, x, A3, c3, e, hx, hc 0 _ rfl, by rw [← add_field _ _ 1 (by omega)]; exact hc 1 _ rfl, by rw [← add_field _ _ 2 (by omega)]; exact hc 2 _ rfl, by rw [← add_field _ _ 3 (by omega)]; exact hc 3 _ rfl, l3, g3⟩

/-! ### Replica -/
structure Replica where
  Log : Log
  Mark : Int
  Up : Bool
def zReplica : Replica := ⟨zLog, (0 : Int), false⟩
def kReplica : Ki Replica := Ki.iso (Ki.pair kLog (Ki.pair (Ki.int .i64) Ki.bool)) (fun x : Replica => (x.Log, x.Mark, x.Up))
def Replica.wf (x : Replica) : Prop := (wfPair Log.wf (wfPair (wfInt .i64) wfBool)) (x.Log, x.Mark, x.Up)
def Replica.sm (x : Replica) : Prop := x.Log.sm
def Replica.sz (x : Replica) : Nat := x.Log.sz
theorem Replica.sm_of {x : Replica} (h : x.sz ≤ 1048576) : x.sm := by
  unfold Replica.sz at h
  have h0 : x.Log.sz ≤ 1048576 := by omega
  exact Log.sm_of h0
theorem Replica.opn {w : World} {x : Replica} {cs : List Go.Value} (h : kReplica.K w x cs) : ∃ A3 c3, cs = [.int .i64 x.Log.Start, .int .i64 x.Log.Next, .int .i64 x.Log.Roll, .slice A3 x.Log.Segments.length c3, .int .i64 x.Mark, .bool x.Up] ∧ x.Log.Segments.length ≤ c3 ∧ Row kSegment w A3 x.Log.Segments := by
  obtain ⟨_, _, rfl, h0_, ⟨_, _, rfl, rfl, rfl⟩⟩ := h
  obtain ⟨A3, c3, rfl, l3, g3⟩ := Log.opn h0_
  exact ⟨A3, c3, rfl, l3, g3⟩
theorem Replica.mk_ (w : World) (x : Replica) {A3 : Option Addr} {c3 : Nat} (l3 : x.Log.Segments.length ≤ c3) (g3 : Row kSegment w A3 x.Log.Segments) : kReplica.K w x [.int .i64 x.Log.Start, .int .i64 x.Log.Next, .int .i64 x.Log.Roll, .slice A3 x.Log.Segments.length c3, .int .i64 x.Mark, .bool x.Up] := ⟨[.int .i64 x.Log.Start, .int .i64 x.Log.Next, .int .i64 x.Log.Roll, .slice A3 x.Log.Segments.length c3], [.int .i64 x.Mark, .bool x.Up], rfl, (Log.mk_ _ _ l3 g3), ⟨[.int .i64 x.Mark], [.bool x.Up], rfl, rfl, rfl⟩⟩
theorem Replica.opnT {w : World} {F : List Nat} {x : Replica} {cs : List Go.Value} (h : kReplica.T w F x cs) : ∃ v3 F3, cs = [.int .i64 x.Log.Start, .int .i64 x.Log.Next, .int .i64 x.Log.Roll, v3, .int .i64 x.Mark, .bool x.Up] ∧ F = F3 ∧ TS kSegment 143 w F3 x.Log.Segments v3 := by
  obtain ⟨_, _, _, _, rfl, rfl, h0_, ⟨_, _, _, _, rfl, rfl, ⟨rfl, rfl⟩, ⟨rfl, rfl⟩⟩⟩ := h
  obtain ⟨v3, F3, rfl, rfl, g3⟩ := Log.opnT h0_
  exact ⟨v3, _, rfl, by simp, g3⟩
theorem Replica.mkT (w : World) (x : Replica) {v3 : Go.Value} {F3 : List Nat} (g3 : TS kSegment 143 w F3 x.Log.Segments v3) : kReplica.T w (F3) x [.int .i64 x.Log.Start, .int .i64 x.Log.Next, .int .i64 x.Log.Roll, v3, .int .i64 x.Mark, .bool x.Up] := by
  have h : kReplica.T w _ x [.int .i64 x.Log.Start, .int .i64 x.Log.Next, .int .i64 x.Log.Roll, v3, .int .i64 x.Mark, .bool x.Up] := ⟨[.int .i64 x.Log.Start, .int .i64 x.Log.Next, .int .i64 x.Log.Roll, v3], [.int .i64 x.Mark, .bool x.Up], _, _, rfl, rfl, (Log.mkT _ _ g3), ⟨[.int .i64 x.Mark], [.bool x.Up], _, _, rfl, rfl, ⟨rfl, rfl⟩, ⟨rfl, rfl⟩⟩⟩
  simpa using h
theorem Replica.at {w : World} {A : Option Addr} {xs : List Replica} (h : Row kReplica w A xs) (i : Nat) (hi : i < xs.length) : ∃ ad x A3 c3, A = some ad ∧ xs[i]? = some x ∧ w.cell? (ad.add (i * 6)) = some (.int .i64 x.Log.Start) ∧ w.cell? ⟨(ad.add (i * 6)).block, (ad.add (i * 6)).off + 1, none⟩ = some (.int .i64 x.Log.Next) ∧ w.cell? ⟨(ad.add (i * 6)).block, (ad.add (i * 6)).off + 2, none⟩ = some (.int .i64 x.Log.Roll) ∧ w.cell? ⟨(ad.add (i * 6)).block, (ad.add (i * 6)).off + 3, none⟩ = some (.slice A3 x.Log.Segments.length c3) ∧ w.cell? ⟨(ad.add (i * 6)).block, (ad.add (i * 6)).off + 4, none⟩ = some (.int .i64 x.Mark) ∧ w.cell? ⟨(ad.add (i * 6)).block, (ad.add (i * 6)).off + 5, none⟩ = some (.bool x.Up) ∧ x.Log.Segments.length ≤ c3 ∧ Row kSegment w A3 x.Log.Segments := by
  obtain ⟨ad, x, cs, e, hx, hK, hc0⟩ := Row_get h i hi
  have hc : ∀ j u, cs[j]? = some u → w.cell? (ad.add (i * 6 + j)) = some u := hc0
  obtain ⟨A3, c3, rfl, l3, g3⟩ := Replica.opn hK
  exact ⟨ad, x, A3, c3, e, hx, hc 0 _ rfl, by rw [← add_field _ _ 1 (by omega)]; exact hc 1 _ rfl, by rw [← add_field _ _ 2 (by omega)]; exact hc 2 _ rfl, by rw [← add_field _ _ 3 (by omega)]; exact hc 3 _ rfl, by rw [← add_field _ _ 4 (by omega)]; exact hc 4 _ rfl, by rw [← add_field _ _ 5 (by omega)]; exact hc 5 _ rfl, l3, g3⟩

/-! ### Part -/
structure Part where
  Replicas : (List Replica)
  Leader : Int
  Epoch : Int
  Insync : (List Int)
  Known : (List Int)
  Least : Int
def zPart : Part := ⟨[], (0 : Int), (0 : Int), [], [], (0 : Int)⟩
def kPart : Ki Part := Ki.iso (Ki.pair (Ki.slice 90 kReplica) (Ki.pair (Ki.int .i64) (Ki.pair (Ki.int .i64) (Ki.pair (Ki.slice 3 (Ki.int .i64)) (Ki.pair (Ki.slice 3 (Ki.int .i64)) (Ki.int .i64)))))) (fun x : Part => (x.Replicas, x.Leader, x.Epoch, x.Insync, x.Known, x.Least))
def Part.wf (x : Part) : Prop := (wfPair (wfList Replica.wf) (wfPair (wfInt .i64) (wfPair (wfInt .i64) (wfPair (wfList (wfInt .i64)) (wfPair (wfList (wfInt .i64)) (wfInt .i64)))))) (x.Replicas, x.Leader, x.Epoch, x.Insync, x.Known, x.Least)
def Part.sm (x : Part) : Prop := (x.Replicas.length ≤ 1048576 ∧ ∀ y ∈ x.Replicas, y.sm) ∧ (x.Insync.length ≤ 1048576) ∧ (x.Known.length ≤ 1048576)
def Part.sz (x : Part) : Nat := szL Replica.sz x.Replicas + szL (fun _ => 0) x.Insync + szL (fun _ => 0) x.Known
theorem Part.sm_of {x : Part} (h : x.sz ≤ 1048576) : x.sm := by
  unfold Part.sz at h
  have h0 : szL Replica.sz x.Replicas ≤ 1048576 := by omega
  have h1 : szL (fun _ => 0) x.Insync ≤ 1048576 := by omega
  have h2 : szL (fun _ => 0) x.Known ≤ 1048576 := by omega
  exact ⟨⟨Nat.le_trans (szL_len _ _) h0, fun y0 hy0 => Replica.sm_of (Nat.le_trans (szL_mem Replica.sz hy0) h0)⟩, Nat.le_trans (szL_len _ _) h1, Nat.le_trans (szL_len _ _) h2⟩
theorem Part.opn {w : World} {x : Part} {cs : List Go.Value} (h : kPart.K w x cs) : ∃ A0 c0 A3 c3 A4 c4, cs = [.slice A0 x.Replicas.length c0, .int .i64 x.Leader, .int .i64 x.Epoch, .slice A3 x.Insync.length c3, .slice A4 x.Known.length c4, .int .i64 x.Least] ∧ x.Replicas.length ≤ c0 ∧ Row kReplica w A0 x.Replicas ∧ x.Insync.length ≤ c3 ∧ Row (Ki.int .i64) w A3 x.Insync ∧ x.Known.length ≤ c4 ∧ Row (Ki.int .i64) w A4 x.Known := by
  obtain ⟨_, _, rfl, ⟨A0, c0, rfl, l0, g0⟩, ⟨_, _, rfl, rfl, ⟨_, _, rfl, rfl, ⟨_, _, rfl, ⟨A3, c3, rfl, l3, g3⟩, ⟨_, _, rfl, ⟨A4, c4, rfl, l4, g4⟩, rfl⟩⟩⟩⟩⟩ := h
  exact ⟨A0, c0, A3, c3, A4, c4, rfl, l0, g0, l3, g3, l4, g4⟩
theorem Part.mk_ (w : World) (x : Part) {A0 : Option Addr} {c0 : Nat} (l0 : x.Replicas.length ≤ c0) (g0 : Row kReplica w A0 x.Replicas) {A3 : Option Addr} {c3 : Nat} (l3 : x.Insync.length ≤ c3) (g3 : Row (Ki.int .i64) w A3 x.Insync) {A4 : Option Addr} {c4 : Nat} (l4 : x.Known.length ≤ c4) (g4 : Row (Ki.int .i64) w A4 x.Known) : kPart.K w x [.slice A0 x.Replicas.length c0, .int .i64 x.Leader, .int .i64 x.Epoch, .slice A3 x.Insync.length c3, .slice A4 x.Known.length c4, .int .i64 x.Least] := ⟨[.slice A0 x.Replicas.length c0], [.int .i64 x.Leader, .int .i64 x.Epoch, .slice A3 x.Insync.length c3, .slice A4 x.Known.length c4, .int .i64 x.Least], rfl, ⟨_, _, rfl, l0, g0⟩, ⟨[.int .i64 x.Leader], [.int .i64 x.Epoch, .slice A3 x.Insync.length c3, .slice A4 x.Known.length c4, .int .i64 x.Least], rfl, rfl, ⟨[.int .i64 x.Epoch], [.slice A3 x.Insync.length c3, .slice A4 x.Known.length c4, .int .i64 x.Least], rfl, rfl, ⟨[.slice A3 x.Insync.length c3], [.slice A4 x.Known.length c4, .int .i64 x.Least], rfl, ⟨_, _, rfl, l3, g3⟩, ⟨[.slice A4 x.Known.length c4], [.int .i64 x.Least], rfl, ⟨_, _, rfl, l4, g4⟩, rfl⟩⟩⟩⟩⟩
theorem Part.opnT {w : World} {F : List Nat} {x : Part} {cs : List Go.Value} (h : kPart.T w F x cs) : ∃ v0 F0 v3 F3 v4 F4, cs = [v0, .int .i64 x.Leader, .int .i64 x.Epoch, v3, v4, .int .i64 x.Least] ∧ F = F0 ++ (F3 ++ (F4)) ∧ TS kReplica 90 w F0 x.Replicas v0 ∧ TS (Ki.int .i64) 3 w F3 x.Insync v3 ∧ TS (Ki.int .i64) 3 w F4 x.Known v4 := by
  obtain ⟨_, _, _, _, rfl, rfl, ⟨v0, rfl, g0⟩, ⟨_, _, _, _, rfl, rfl, ⟨rfl, rfl⟩, ⟨_, _, _, _, rfl, rfl, ⟨rfl, rfl⟩, ⟨_, _, _, _, rfl, rfl, ⟨v3, rfl, g3⟩, ⟨_, _, _, _, rfl, rfl, ⟨v4, rfl, g4⟩, ⟨rfl, rfl⟩⟩⟩⟩⟩⟩ := h
  exact ⟨v0, _, v3, _, v4, _, rfl, by simp, g0, g3, g4⟩
theorem Part.mkT (w : World) (x : Part) {v0 : Go.Value} {F0 : List Nat} (g0 : TS kReplica 90 w F0 x.Replicas v0) {v3 : Go.Value} {F3 : List Nat} (g3 : TS (Ki.int .i64) 3 w F3 x.Insync v3) {v4 : Go.Value} {F4 : List Nat} (g4 : TS (Ki.int .i64) 3 w F4 x.Known v4) : kPart.T w (F0 ++ (F3 ++ (F4))) x [v0, .int .i64 x.Leader, .int .i64 x.Epoch, v3, v4, .int .i64 x.Least] := by
  have h : kPart.T w _ x [v0, .int .i64 x.Leader, .int .i64 x.Epoch, v3, v4, .int .i64 x.Least] := ⟨[v0], [.int .i64 x.Leader, .int .i64 x.Epoch, v3, v4, .int .i64 x.Least], _, _, rfl, rfl, ⟨_, rfl, g0⟩, ⟨[.int .i64 x.Leader], [.int .i64 x.Epoch, v3, v4, .int .i64 x.Least], _, _, rfl, rfl, ⟨rfl, rfl⟩, ⟨[.int .i64 x.Epoch], [v3, v4, .int .i64 x.Least], _, _, rfl, rfl, ⟨rfl, rfl⟩, ⟨[v3], [v4, .int .i64 x.Least], _, _, rfl, rfl, ⟨_, rfl, g3⟩, ⟨[v4], [.int .i64 x.Least], _, _, rfl, rfl, ⟨_, rfl, g4⟩, ⟨rfl, rfl⟩⟩⟩⟩⟩⟩
  simpa using h
theorem Part.at {w : World} {A : Option Addr} {xs : List Part} (h : Row kPart w A xs) (i : Nat) (hi : i < xs.length) : ∃ ad x A0 c0 A3 c3 A4 c4, A = some ad ∧ xs[i]? = some x ∧ w.cell? (ad.add (i * 6)) = some (.slice A0 x.Replicas.length c0) ∧ w.cell? ⟨(ad.add (i * 6)).block, (ad.add (i * 6)).off + 1, none⟩ = some (.int .i64 x.Leader) ∧ w.cell? ⟨(ad.add (i * 6)).block, (ad.add (i * 6)).off + 2, none⟩ = some (.int .i64 x.Epoch) ∧ w.cell? ⟨(ad.add (i * 6)).block, (ad.add (i * 6)).off + 3, none⟩ = some (.slice A3 x.Insync.length c3) ∧ w.cell? ⟨(ad.add (i * 6)).block, (ad.add (i * 6)).off + 4, none⟩ = some (.slice A4 x.Known.length c4) ∧ w.cell? ⟨(ad.add (i * 6)).block, (ad.add (i * 6)).off + 5, none⟩ = some (.int .i64 x.Least) ∧ x.Replicas.length ≤ c0 ∧ Row kReplica w A0 x.Replicas ∧ x.Insync.length ≤ c3 ∧ Row (Ki.int .i64) w A3 x.Insync ∧ x.Known.length ≤ c4 ∧ Row (Ki.int .i64) w A4 x.Known := by
  obtain ⟨ad, x, cs, e, hx, hK, hc0⟩ := Row_get h i hi
  have hc : ∀ j u, cs[j]? = some u → w.cell? (ad.add (i * 6 + j)) = some u := hc0
  obtain ⟨A0, c0, A3, c3, A4, c4, rfl, l0, g0, l3, g3, l4, g4⟩ := Part.opn hK
  exact ⟨ad, x, A0, c0, A3, c3, A4, c4, e, hx, hc 0 _ rfl, by rw [← add_field _ _ 1 (by omega)]; exact hc 1 _ rfl, by rw [← add_field _ _ 2 (by omega)]; exact hc 2 _ rfl, by rw [← add_field _ _ 3 (by omega)]; exact hc 3 _ rfl, by rw [← add_field _ _ 4 (by omega)]; exact hc 4 _ rfl, by rw [← add_field _ _ 5 (by omega)]; exact hc 5 _ rfl, l0, g0, l3, g3, l4, g4⟩

/-! ### Txn -/
structure Txn where
  Name : ByteArray
  Producer : Int
  Turn : Int
  Open : Bool
  Parts : (List Int)
def zTxn : Txn := ⟨(⟨#[]⟩ : ByteArray), (0 : Int), (0 : Int), false, []⟩
def kTxn : Ki Txn := Ki.iso (Ki.pair Ki.str (Ki.pair (Ki.int .i64) (Ki.pair (Ki.int .i64) (Ki.pair Ki.bool (Ki.slice 3 (Ki.int .i64)))))) (fun x : Txn => (x.Name, x.Producer, x.Turn, x.Open, x.Parts))
def Txn.wf (x : Txn) : Prop := (wfPair wfStr (wfPair (wfInt .i64) (wfPair (wfInt .i64) (wfPair wfBool (wfList (wfInt .i64)))))) (x.Name, x.Producer, x.Turn, x.Open, x.Parts)
def Txn.sm (x : Txn) : Prop := x.Name.size ≤ 1048576 ∧ (x.Parts.length ≤ 1048576)
def Txn.sz (x : Txn) : Nat := x.Name.size + szL (fun _ => 0) x.Parts
theorem Txn.sm_of {x : Txn} (h : x.sz ≤ 1048576) : x.sm := by
  unfold Txn.sz at h
  have h0 : x.Name.size ≤ 1048576 := by omega
  have h1 : szL (fun _ => 0) x.Parts ≤ 1048576 := by omega
  exact ⟨h0, Nat.le_trans (szL_len _ _) h1⟩
theorem Txn.opn {w : World} {x : Txn} {cs : List Go.Value} (h : kTxn.K w x cs) : ∃ A4 c4, cs = [.string x.Name, .int .i64 x.Producer, .int .i64 x.Turn, .bool x.Open, .slice A4 x.Parts.length c4] ∧ x.Parts.length ≤ c4 ∧ Row (Ki.int .i64) w A4 x.Parts := by
  obtain ⟨_, _, rfl, rfl, ⟨_, _, rfl, rfl, ⟨_, _, rfl, rfl, ⟨_, _, rfl, rfl, ⟨A4, c4, rfl, l4, g4⟩⟩⟩⟩⟩ := h
  exact ⟨A4, c4, rfl, l4, g4⟩
theorem Txn.mk_ (w : World) (x : Txn) {A4 : Option Addr} {c4 : Nat} (l4 : x.Parts.length ≤ c4) (g4 : Row (Ki.int .i64) w A4 x.Parts) : kTxn.K w x [.string x.Name, .int .i64 x.Producer, .int .i64 x.Turn, .bool x.Open, .slice A4 x.Parts.length c4] := ⟨[.string x.Name], [.int .i64 x.Producer, .int .i64 x.Turn, .bool x.Open, .slice A4 x.Parts.length c4], rfl, rfl, ⟨[.int .i64 x.Producer], [.int .i64 x.Turn, .bool x.Open, .slice A4 x.Parts.length c4], rfl, rfl, ⟨[.int .i64 x.Turn], [.bool x.Open, .slice A4 x.Parts.length c4], rfl, rfl, ⟨[.bool x.Open], [.slice A4 x.Parts.length c4], rfl, rfl, ⟨_, _, rfl, l4, g4⟩⟩⟩⟩⟩
theorem Txn.opnT {w : World} {F : List Nat} {x : Txn} {cs : List Go.Value} (h : kTxn.T w F x cs) : ∃ v4 F4, cs = [.string x.Name, .int .i64 x.Producer, .int .i64 x.Turn, .bool x.Open, v4] ∧ F = F4 ∧ TS (Ki.int .i64) 3 w F4 x.Parts v4 := by
  obtain ⟨_, _, _, _, rfl, rfl, ⟨rfl, rfl⟩, ⟨_, _, _, _, rfl, rfl, ⟨rfl, rfl⟩, ⟨_, _, _, _, rfl, rfl, ⟨rfl, rfl⟩, ⟨_, _, _, _, rfl, rfl, ⟨rfl, rfl⟩, ⟨v4, rfl, g4⟩⟩⟩⟩⟩ := h
  exact ⟨v4, _, rfl, by simp, g4⟩
theorem Txn.mkT (w : World) (x : Txn) {v4 : Go.Value} {F4 : List Nat} (g4 : TS (Ki.int .i64) 3 w F4 x.Parts v4) : kTxn.T w (F4) x [.string x.Name, .int .i64 x.Producer, .int .i64 x.Turn, .bool x.Open, v4] := by
  have h : kTxn.T w _ x [.string x.Name, .int .i64 x.Producer, .int .i64 x.Turn, .bool x.Open, v4] := ⟨[.string x.Name], [.int .i64 x.Producer, .int .i64 x.Turn, .bool x.Open, v4], _, _, rfl, rfl, ⟨rfl, rfl⟩, ⟨[.int .i64 x.Producer], [.int .i64 x.Turn, .bool x.Open, v4], _, _, rfl, rfl, ⟨rfl, rfl⟩, ⟨[.int .i64 x.Turn], [.bool x.Open, v4], _, _, rfl, rfl, ⟨rfl, rfl⟩, ⟨[.bool x.Open], [v4], _, _, rfl, rfl, ⟨rfl, rfl⟩, ⟨_, rfl, g4⟩⟩⟩⟩⟩
  simpa using h
theorem Txn.at {w : World} {A : Option Addr} {xs : List Txn} (h : Row kTxn w A xs) (i : Nat) (hi : i < xs.length) : ∃ ad x A4 c4, A = some ad ∧ xs[i]? = some x ∧ w.cell? (ad.add (i * 5)) = some (.string x.Name) ∧ w.cell? ⟨(ad.add (i * 5)).block, (ad.add (i * 5)).off + 1, none⟩ = some (.int .i64 x.Producer) ∧ w.cell? ⟨(ad.add (i * 5)).block, (ad.add (i * 5)).off + 2, none⟩ = some (.int .i64 x.Turn) ∧ w.cell? ⟨(ad.add (i * 5)).block, (ad.add (i * 5)).off + 3, none⟩ = some (.bool x.Open) ∧ w.cell? ⟨(ad.add (i * 5)).block, (ad.add (i * 5)).off + 4, none⟩ = some (.slice A4 x.Parts.length c4) ∧ x.Parts.length ≤ c4 ∧ Row (Ki.int .i64) w A4 x.Parts := by
  obtain ⟨ad, x, cs, e, hx, hK, hc0⟩ := Row_get h i hi
  have hc : ∀ j u, cs[j]? = some u → w.cell? (ad.add (i * 5 + j)) = some u := hc0
  obtain ⟨A4, c4, rfl, l4, g4⟩ := Txn.opn hK
  exact ⟨ad, x, A4, c4, e, hx, hc 0 _ rfl, by rw [← add_field _ _ 1 (by omega)]; exact hc 1 _ rfl, by rw [← add_field _ _ 2 (by omega)]; exact hc 2 _ rfl, by rw [← add_field _ _ 3 (by omega)]; exact hc 3 _ rfl, by rw [← add_field _ _ 4 (by omega)]; exact hc 4 _ rfl, l4, g4⟩

/-! ### Store -/
structure Store where
  Logs : (List Log)
  Txns : (List Txn)
  Used : Int
def zStore : Store := ⟨[], [], (0 : Int)⟩
def kStore : Ki Store := Ki.iso (Ki.pair (Ki.slice 59 kLog) (Ki.pair (Ki.slice 136 kTxn) (Ki.int .i64))) (fun x : Store => (x.Logs, x.Txns, x.Used))
def Store.wf (x : Store) : Prop := (wfPair (wfList Log.wf) (wfPair (wfList Txn.wf) (wfInt .i64))) (x.Logs, x.Txns, x.Used)
def Store.sm (x : Store) : Prop := (x.Logs.length ≤ 1048576 ∧ ∀ y ∈ x.Logs, y.sm) ∧ (x.Txns.length ≤ 1048576 ∧ ∀ y ∈ x.Txns, y.sm)
def Store.sz (x : Store) : Nat := szL Log.sz x.Logs + szL Txn.sz x.Txns
theorem Store.sm_of {x : Store} (h : x.sz ≤ 1048576) : x.sm := by
  unfold Store.sz at h
  have h0 : szL Log.sz x.Logs ≤ 1048576 := by omega
  have h1 : szL Txn.sz x.Txns ≤ 1048576 := by omega
  exact ⟨⟨Nat.le_trans (szL_len _ _) h0, fun y0 hy0 => Log.sm_of (Nat.le_trans (szL_mem Log.sz hy0) h0)⟩, ⟨Nat.le_trans (szL_len _ _) h1, fun y0 hy0 => Txn.sm_of (Nat.le_trans (szL_mem Txn.sz hy0) h1)⟩⟩
theorem Store.opn {w : World} {x : Store} {cs : List Go.Value} (h : kStore.K w x cs) : ∃ A0 c0 A1 c1, cs = [.slice A0 x.Logs.length c0, .slice A1 x.Txns.length c1, .int .i64 x.Used] ∧ x.Logs.length ≤ c0 ∧ Row kLog w A0 x.Logs ∧ x.Txns.length ≤ c1 ∧ Row kTxn w A1 x.Txns := by
  obtain ⟨_, _, rfl, ⟨A0, c0, rfl, l0, g0⟩, ⟨_, _, rfl, ⟨A1, c1, rfl, l1, g1⟩, rfl⟩⟩ := h
  exact ⟨A0, c0, A1, c1, rfl, l0, g0, l1, g1⟩
theorem Store.mk_ (w : World) (x : Store) {A0 : Option Addr} {c0 : Nat} (l0 : x.Logs.length ≤ c0) (g0 : Row kLog w A0 x.Logs) {A1 : Option Addr} {c1 : Nat} (l1 : x.Txns.length ≤ c1) (g1 : Row kTxn w A1 x.Txns) : kStore.K w x [.slice A0 x.Logs.length c0, .slice A1 x.Txns.length c1, .int .i64 x.Used] := ⟨[.slice A0 x.Logs.length c0], [.slice A1 x.Txns.length c1, .int .i64 x.Used], rfl, ⟨_, _, rfl, l0, g0⟩, ⟨[.slice A1 x.Txns.length c1], [.int .i64 x.Used], rfl, ⟨_, _, rfl, l1, g1⟩, rfl⟩⟩
theorem Store.opnT {w : World} {F : List Nat} {x : Store} {cs : List Go.Value} (h : kStore.T w F x cs) : ∃ v0 F0 v1 F1, cs = [v0, v1, .int .i64 x.Used] ∧ F = F0 ++ (F1) ∧ TS kLog 59 w F0 x.Logs v0 ∧ TS kTxn 136 w F1 x.Txns v1 := by
  obtain ⟨_, _, _, _, rfl, rfl, ⟨v0, rfl, g0⟩, ⟨_, _, _, _, rfl, rfl, ⟨v1, rfl, g1⟩, ⟨rfl, rfl⟩⟩⟩ := h
  exact ⟨v0, _, v1, _, rfl, by simp, g0, g1⟩
theorem Store.mkT (w : World) (x : Store) {v0 : Go.Value} {F0 : List Nat} (g0 : TS kLog 59 w F0 x.Logs v0) {v1 : Go.Value} {F1 : List Nat} (g1 : TS kTxn 136 w F1 x.Txns v1) : kStore.T w (F0 ++ (F1)) x [v0, v1, .int .i64 x.Used] := by
  have h : kStore.T w _ x [v0, v1, .int .i64 x.Used] := ⟨[v0], [v1, .int .i64 x.Used], _, _, rfl, rfl, ⟨_, rfl, g0⟩, ⟨[v1], [.int .i64 x.Used], _, _, rfl, rfl, ⟨_, rfl, g1⟩, ⟨rfl, rfl⟩⟩⟩
  simpa using h
theorem Store.at {w : World} {A : Option Addr} {xs : List Store} (h : Row kStore w A xs) (i : Nat) (hi : i < xs.length) : ∃ ad x A0 c0 A1 c1, A = some ad ∧ xs[i]? = some x ∧ w.cell? (ad.add (i * 3)) = some (.slice A0 x.Logs.length c0) ∧ w.cell? ⟨(ad.add (i * 3)).block, (ad.add (i * 3)).off + 1, none⟩ = some (.slice A1 x.Txns.length c1) ∧ w.cell? ⟨(ad.add (i * 3)).block, (ad.add (i * 3)).off + 2, none⟩ = some (.int .i64 x.Used) ∧ x.Logs.length ≤ c0 ∧ Row kLog w A0 x.Logs ∧ x.Txns.length ≤ c1 ∧ Row kTxn w A1 x.Txns := by
  obtain ⟨ad, x, cs, e, hx, hK, hc0⟩ := Row_get h i hi
  have hc : ∀ j u, cs[j]? = some u → w.cell? (ad.add (i * 3 + j)) = some u := hc0
  obtain ⟨A0, c0, A1, c1, rfl, l0, g0, l1, g1⟩ := Store.opn hK
  exact ⟨ad, x, A0, c0, A1, c1, e, hx, hc 0 _ rfl, by rw [← add_field _ _ 1 (by omega)]; exact hc 1 _ rfl, by rw [← add_field _ _ 2 (by omega)]; exact hc 2 _ rfl, l0, g0, l1, g1⟩

/-! ### Slot -/
structure Slot where
  Topic : ByteArray
  Part : Int
def zSlot : Slot := ⟨(⟨#[]⟩ : ByteArray), (0 : Int)⟩
def kSlot : Ki Slot := Ki.iso (Ki.pair Ki.str (Ki.int .i64)) (fun x : Slot => (x.Topic, x.Part))
def Slot.wf (x : Slot) : Prop := (wfPair wfStr (wfInt .i64)) (x.Topic, x.Part)
def Slot.sm (x : Slot) : Prop := x.Topic.size ≤ 1048576
def Slot.sz (x : Slot) : Nat := x.Topic.size
theorem Slot.sm_of {x : Slot} (h : x.sz ≤ 1048576) : x.sm := by
  unfold Slot.sz at h
  have h0 : x.Topic.size ≤ 1048576 := by omega
  exact h0
theorem Slot.opn {w : World} {x : Slot} {cs : List Go.Value} (h : kSlot.K w x cs) : cs = [.string x.Topic, .int .i64 x.Part] := by
  obtain ⟨_, _, rfl, rfl, rfl⟩ := h
  exact rfl
theorem Slot.mk_ (w : World) (x : Slot) : kSlot.K w x [.string x.Topic, .int .i64 x.Part] := ⟨[.string x.Topic], [.int .i64 x.Part], rfl, rfl, rfl⟩
theorem Slot.opnT {w : World} {F : List Nat} {x : Slot} {cs : List Go.Value} (h : kSlot.T w F x cs) : cs = [.string x.Topic, .int .i64 x.Part] ∧ F = [] := by
  obtain ⟨_, _, _, _, rfl, rfl, ⟨rfl, rfl⟩, ⟨rfl, rfl⟩⟩ := h
  exact ⟨rfl, by simp⟩
theorem Slot.mkT (w : World) (x : Slot) : kSlot.T w ([]) x [.string x.Topic, .int .i64 x.Part] := by
  have h : kSlot.T w _ x [.string x.Topic, .int .i64 x.Part] := ⟨[.string x.Topic], [.int .i64 x.Part], _, _, rfl, rfl, ⟨rfl, rfl⟩, ⟨rfl, rfl⟩⟩
  simpa using h
theorem Slot.at {w : World} {A : Option Addr} {xs : List Slot} (h : Row kSlot w A xs) (i : Nat) (hi : i < xs.length) : ∃ ad x, A = some ad ∧ xs[i]? = some x ∧ w.cell? (ad.add (i * 2)) = some (.string x.Topic) ∧ w.cell? ⟨(ad.add (i * 2)).block, (ad.add (i * 2)).off + 1, none⟩ = some (.int .i64 x.Part) := by
  obtain ⟨ad, x, cs, e, hx, hK, hc0⟩ := Row_get h i hi
  have hc : ∀ j u, cs[j]? = some u → w.cell? (ad.add (i * 2 + j)) = some u := hc0
  obtain rfl := Slot.opn hK
  exact ⟨ad, x, e, hx, hc 0 _ rfl, by rw [← add_field _ _ 1 (by omega)]; exact hc 1 _ rfl⟩

/-! ### Want -/
structure Want where
  Name : ByteArray
  Wants : (List ByteArray)
  Has : (List Slot)
def zWant : Want := ⟨(⟨#[]⟩ : ByteArray), [], []⟩
def kWant : Ki Want := Ki.iso (Ki.pair Ki.str (Ki.pair (Ki.slice 9 Ki.str) (Ki.slice 79 kSlot))) (fun x : Want => (x.Name, x.Wants, x.Has))
def Want.wf (x : Want) : Prop := (wfPair wfStr (wfPair (wfList wfStr) (wfList Slot.wf))) (x.Name, x.Wants, x.Has)
def Want.sm (x : Want) : Prop := x.Name.size ≤ 1048576 ∧ (x.Wants.length ≤ 1048576 ∧ ∀ y ∈ x.Wants, y.size ≤ 1048576) ∧ (x.Has.length ≤ 1048576 ∧ ∀ y ∈ x.Has, y.sm)
def Want.sz (x : Want) : Nat := x.Name.size + szL ByteArray.size x.Wants + szL Slot.sz x.Has
theorem Want.sm_of {x : Want} (h : x.sz ≤ 1048576) : x.sm := by
  unfold Want.sz at h
  have h0 : x.Name.size ≤ 1048576 := by omega
  have h1 : szL ByteArray.size x.Wants ≤ 1048576 := by omega
  have h2 : szL Slot.sz x.Has ≤ 1048576 := by omega
  exact ⟨h0, ⟨Nat.le_trans (szL_len _ _) h1, fun y0 hy0 => (Nat.le_trans (szL_mem ByteArray.size hy0) h1)⟩, ⟨Nat.le_trans (szL_len _ _) h2, fun y0 hy0 => Slot.sm_of (Nat.le_trans (szL_mem Slot.sz hy0) h2)⟩⟩
theorem Want.opn {w : World} {x : Want} {cs : List Go.Value} (h : kWant.K w x cs) : ∃ A1 c1 A2 c2, cs = [.string x.Name, .slice A1 x.Wants.length c1, .slice A2 x.Has.length c2] ∧ x.Wants.length ≤ c1 ∧ Row Ki.str w A1 x.Wants ∧ x.Has.length ≤ c2 ∧ Row kSlot w A2 x.Has := by
  obtain ⟨_, _, rfl, rfl, ⟨_, _, rfl, ⟨A1, c1, rfl, l1, g1⟩, ⟨A2, c2, rfl, l2, g2⟩⟩⟩ := h
  exact ⟨A1, c1, A2, c2, rfl, l1, g1, l2, g2⟩
theorem Want.mk_ (w : World) (x : Want) {A1 : Option Addr} {c1 : Nat} (l1 : x.Wants.length ≤ c1) (g1 : Row Ki.str w A1 x.Wants) {A2 : Option Addr} {c2 : Nat} (l2 : x.Has.length ≤ c2) (g2 : Row kSlot w A2 x.Has) : kWant.K w x [.string x.Name, .slice A1 x.Wants.length c1, .slice A2 x.Has.length c2] := ⟨[.string x.Name], [.slice A1 x.Wants.length c1, .slice A2 x.Has.length c2], rfl, rfl, ⟨[.slice A1 x.Wants.length c1], [.slice A2 x.Has.length c2], rfl, ⟨_, _, rfl, l1, g1⟩, ⟨_, _, rfl, l2, g2⟩⟩⟩
theorem Want.opnT {w : World} {F : List Nat} {x : Want} {cs : List Go.Value} (h : kWant.T w F x cs) : ∃ v1 F1 v2 F2, cs = [.string x.Name, v1, v2] ∧ F = F1 ++ (F2) ∧ TS Ki.str 9 w F1 x.Wants v1 ∧ TS kSlot 79 w F2 x.Has v2 := by
  obtain ⟨_, _, _, _, rfl, rfl, ⟨rfl, rfl⟩, ⟨_, _, _, _, rfl, rfl, ⟨v1, rfl, g1⟩, ⟨v2, rfl, g2⟩⟩⟩ := h
  exact ⟨v1, _, v2, _, rfl, by simp, g1, g2⟩
theorem Want.mkT (w : World) (x : Want) {v1 : Go.Value} {F1 : List Nat} (g1 : TS Ki.str 9 w F1 x.Wants v1) {v2 : Go.Value} {F2 : List Nat} (g2 : TS kSlot 79 w F2 x.Has v2) : kWant.T w (F1 ++ (F2)) x [.string x.Name, v1, v2] := by
  have h : kWant.T w _ x [.string x.Name, v1, v2] := ⟨[.string x.Name], [v1, v2], _, _, rfl, rfl, ⟨rfl, rfl⟩, ⟨[v1], [v2], _, _, rfl, rfl, ⟨_, rfl, g1⟩, ⟨_, rfl, g2⟩⟩⟩
  simpa using h
theorem Want.at {w : World} {A : Option Addr} {xs : List Want} (h : Row kWant w A xs) (i : Nat) (hi : i < xs.length) : ∃ ad x A1 c1 A2 c2, A = some ad ∧ xs[i]? = some x ∧ w.cell? (ad.add (i * 3)) = some (.string x.Name) ∧ w.cell? ⟨(ad.add (i * 3)).block, (ad.add (i * 3)).off + 1, none⟩ = some (.slice A1 x.Wants.length c1) ∧ w.cell? ⟨(ad.add (i * 3)).block, (ad.add (i * 3)).off + 2, none⟩ = some (.slice A2 x.Has.length c2) ∧ x.Wants.length ≤ c1 ∧ Row Ki.str w A1 x.Wants ∧ x.Has.length ≤ c2 ∧ Row kSlot w A2 x.Has := by
  obtain ⟨ad, x, cs, e, hx, hK, hc0⟩ := Row_get h i hi
  have hc : ∀ j u, cs[j]? = some u → w.cell? (ad.add (i * 3 + j)) = some u := hc0
  obtain ⟨A1, c1, A2, c2, rfl, l1, g1, l2, g2⟩ := Want.opn hK
  exact ⟨ad, x, A1, c1, A2, c2, e, hx, hc 0 _ rfl, by rw [← add_field _ _ 1 (by omega)]; exact hc 1 _ rfl, by rw [← add_field _ _ 2 (by omega)]; exact hc 2 _ rfl, l1, g1, l2, g2⟩

/-! ### Gone -/
structure Gone where
  Producer : Int
  First : Int
  Last : Int
def zGone : Gone := ⟨(0 : Int), (0 : Int), (0 : Int)⟩
def kGone : Ki Gone := Ki.iso (Ki.pair (Ki.int .i64) (Ki.pair (Ki.int .i64) (Ki.int .i64))) (fun x : Gone => (x.Producer, x.First, x.Last))
def Gone.wf (x : Gone) : Prop := (wfPair (wfInt .i64) (wfPair (wfInt .i64) (wfInt .i64))) (x.Producer, x.First, x.Last)
theorem Gone.opn {w : World} {x : Gone} {cs : List Go.Value} (h : kGone.K w x cs) : cs = [.int .i64 x.Producer, .int .i64 x.First, .int .i64 x.Last] := by
  obtain ⟨_, _, rfl, rfl, ⟨_, _, rfl, rfl, rfl⟩⟩ := h
  exact rfl
theorem Gone.mk_ (w : World) (x : Gone) : kGone.K w x [.int .i64 x.Producer, .int .i64 x.First, .int .i64 x.Last] := ⟨[.int .i64 x.Producer], [.int .i64 x.First, .int .i64 x.Last], rfl, rfl, ⟨[.int .i64 x.First], [.int .i64 x.Last], rfl, rfl, rfl⟩⟩
theorem Gone.opnT {w : World} {F : List Nat} {x : Gone} {cs : List Go.Value} (h : kGone.T w F x cs) : cs = [.int .i64 x.Producer, .int .i64 x.First, .int .i64 x.Last] ∧ F = [] := by
  obtain ⟨_, _, _, _, rfl, rfl, ⟨rfl, rfl⟩, ⟨_, _, _, _, rfl, rfl, ⟨rfl, rfl⟩, ⟨rfl, rfl⟩⟩⟩ := h
  exact ⟨rfl, by simp⟩
theorem Gone.mkT (w : World) (x : Gone) : kGone.T w ([]) x [.int .i64 x.Producer, .int .i64 x.First, .int .i64 x.Last] := by
  have h : kGone.T w _ x [.int .i64 x.Producer, .int .i64 x.First, .int .i64 x.Last] := ⟨[.int .i64 x.Producer], [.int .i64 x.First, .int .i64 x.Last], _, _, rfl, rfl, ⟨rfl, rfl⟩, ⟨[.int .i64 x.First], [.int .i64 x.Last], _, _, rfl, rfl, ⟨rfl, rfl⟩, ⟨rfl, rfl⟩⟩⟩
  simpa using h
theorem Gone.at {w : World} {A : Option Addr} {xs : List Gone} (h : Row kGone w A xs) (i : Nat) (hi : i < xs.length) : ∃ ad x, A = some ad ∧ xs[i]? = some x ∧ w.cell? (ad.add (i * 3)) = some (.int .i64 x.Producer) ∧ w.cell? ⟨(ad.add (i * 3)).block, (ad.add (i * 3)).off + 1, none⟩ = some (.int .i64 x.First) ∧ w.cell? ⟨(ad.add (i * 3)).block, (ad.add (i * 3)).off + 2, none⟩ = some (.int .i64 x.Last) := by
  obtain ⟨ad, x, cs, e, hx, hK, hc0⟩ := Row_get h i hi
  have hc : ∀ j u, cs[j]? = some u → w.cell? (ad.add (i * 3 + j)) = some u := hc0
  obtain rfl := Gone.opn hK
  exact ⟨ad, x, e, hx, hc 0 _ rfl, by rw [← add_field _ _ 1 (by omega)]; exact hc 1 _ rfl, by rw [← add_field _ _ 2 (by omega)]; exact hc 2 _ rfl⟩

end Go.Proofs.Ytenldgbabcjjkaa.H
