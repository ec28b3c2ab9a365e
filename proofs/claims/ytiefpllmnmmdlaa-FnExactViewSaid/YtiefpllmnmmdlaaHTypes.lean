/-
The program's structs, as Lean's: what is read, what is owned, laid open and put together; printed by htypes.py (this session's own). Conditions: none.
-/
import Derived.Test.YtiefpllmnmmdlaaH0
import Derived.Test.YtiefpllmnmmdlaaHOpen
namespace Go.Proofs.Ytiefpllmnmmdlaa.H
open Go.RowKit
set_option linter.unusedVariables false
set_option linter.unusedSimpArgs false
/-! ### Head -/
structure Head where
  Key : ByteArray
  Value : ByteArray
def zHead : Head := ⟨(⟨#[]⟩ : ByteArray), (⟨#[]⟩ : ByteArray)⟩
def kHead : Ki Head := Ki.iso (Ki.pair Ki.str Ki.str) (fun x : Head => (x.Key, x.Value))
def Head.wf (x : Head) : Prop := (wfPair wfStr wfStr) (x.Key, x.Value)
def Head.sm (x : Head) : Prop := x.Key.size ≤ 1048576 ∧ x.Value.size ≤ 1048576
def Head.sz (x : Head) : Nat := x.Key.size + x.Value.size
theorem Head.sm_of {x : Head} (h : x.sz ≤ 1048576) : x.sm := by
  unfold Head.sz at h
  have h0 : x.Key.size ≤ 1048576 := by omega
  have h1 : x.Value.size ≤ 1048576 := by omega
  exact ⟨h0, h1⟩
theorem Head.opn {w : World} {x : Head} {cs : List Go.Value} (h : kHead.K w x cs) : cs = [.string x.Key, .string x.Value] := by
  obtain ⟨_, _, rfl, rfl, rfl⟩ := h
  exact rfl
theorem Head.mk_ (w : World) (x : Head) : kHead.K w x [.string x.Key, .string x.Value] := ⟨[.string x.Key], [.string x.Value], rfl, rfl, rfl⟩
theorem Head.opnT {w : World} {F : List Nat} {x : Head} {cs : List Go.Value} (h : kHead.T w F x cs) : cs = [.string x.Key, .string x.Value] ∧ F = [] := by
  obtain ⟨_, _, _, _, rfl, rfl, ⟨rfl, rfl⟩, ⟨rfl, rfl⟩⟩ := h
  exact ⟨rfl, by simp⟩
theorem Head.mkT (w : World) (x : Head) : kHead.T w ([]) x [.string x.Key, .string x.Value] := by
  have h : kHead.T w _ x [.string x.Key, .string x.Value] := ⟨[.string x.Key], [.string x.Value], _, _, rfl, rfl, ⟨rfl, rfl⟩, ⟨rfl, rfl⟩⟩
  simpa using h
theorem Head.at {w : World} {A : Option Addr} {xs : List Head} (h : Row kHead w A xs) (i : Nat) (hi : i < xs.length) : ∃ ad x, A = some ad ∧ xs[i]? = some x ∧ w.cell? (ad.add (i * 2)) = some (.string x.Key) ∧ w.cell? ⟨(ad.add (i * 2)).block, (ad.add (i * 2)).off + 1, none⟩ = some (.string x.Value) := by
  obtain ⟨ad, x, cs, e, hx, hK, hc0⟩ := Row_get h i hi
  have hc : ∀ j u, cs[j]? = some u → w.cell? (ad.add (i * 2 + j)) = some u := hc0
  obtain rfl := Head.opn hK
  exact ⟨ad, x, e, hx, hc 0 _ rfl, by rw [← add_field _ _ 1 (by omega)]; exact hc 1 _ rfl⟩

/-! ### Record -/
structure Record where
  Time : Int
  Keyed : Bool
  Key : ByteArray
  Gone : Bool
  Value : ByteArray
  Heads : (List Head)
def zRecord : Record := ⟨(0 : Int), false, (⟨#[]⟩ : ByteArray), false, (⟨#[]⟩ : ByteArray), []⟩
def kRecord : Ki Record := Ki.iso (Ki.pair (Ki.int .i64) (Ki.pair Ki.bool (Ki.pair Ki.str (Ki.pair Ki.bool (Ki.pair Ki.str (Ki.slice 127 kHead)))))) (fun x : Record => (x.Time, x.Keyed, x.Key, x.Gone, x.Value, x.Heads))
def Record.wf (x : Record) : Prop := (wfPair (wfInt .i64) (wfPair wfBool (wfPair wfStr (wfPair wfBool (wfPair wfStr (wfList Head.wf)))))) (x.Time, x.Keyed, x.Key, x.Gone, x.Value, x.Heads)
def Record.sm (x : Record) : Prop := x.Key.size ≤ 1048576 ∧ x.Value.size ≤ 1048576 ∧ (x.Heads.length ≤ 1048576 ∧ ∀ y ∈ x.Heads, y.sm)
def Record.sz (x : Record) : Nat := x.Key.size + x.Value.size + szL Head.sz x.Heads
theorem Record.sm_of {x : Record} (h : x.sz ≤ 1048576) : x.sm := by
  unfold Record.sz at h
  have h0 : x.Key.size ≤ 1048576 := by omega
  have h1 : x.Value.size ≤ 1048576 := by omega
  have h2 : szL Head.sz x.Heads ≤ 1048576 := by omega
  exact ⟨h0, h1, ⟨Nat.le_trans (szL_len _ _) h2, fun y0 hy0 => Head.sm_of (Nat.le_trans (szL_mem Head.sz hy0) h2)⟩⟩
theorem Record.opn {w : World} {x : Record} {cs : List Go.Value} (h : kRecord.K w x cs) : ∃ A5 c5, cs = [.int .i64 x.Time, .bool x.Keyed, .string x.Key, .bool x.Gone, .string x.Value, .slice A5 x.Heads.length c5] ∧ x.Heads.length ≤ c5 ∧ Row kHead w A5 x.Heads := by
  obtain ⟨_, _, rfl, rfl, ⟨_, _, rfl, rfl, ⟨_, _, rfl, rfl, ⟨_, _, rfl, rfl, ⟨_, _, rfl, rfl, ⟨A5, c5, rfl, l5, g5⟩⟩⟩⟩⟩⟩ := h
  exact ⟨A5, c5, rfl, l5, g5⟩
theorem Record.mk_ (w : World) (x : Record) {A5 : Option Addr} {c5 : Nat} (l5 : x.Heads.length ≤ c5) (g5 : Row kHead w A5 x.Heads) : kRecord.K w x [.int .i64 x.Time, .bool x.Keyed, .string x.Key, .bool x.Gone, .string x.Value, .slice A5 x.Heads.length c5] := ⟨[.int .i64 x.Time], [.bool x.Keyed, .string x.Key, .bool x.Gone, .string x.Value, .slice A5 x.Heads.length c5], rfl, rfl, ⟨[.bool x.Keyed], [.string x.Key, .bool x.Gone, .string x.Value, .slice A5 x.Heads.length c5], rfl, rfl, ⟨[.string x.Key], [.bool x.Gone, .string x.Value, .slice A5 x.Heads.length c5], rfl, rfl, ⟨[.bool x.Gone], [.string x.Value, .slice A5 x.Heads.length c5], rfl, rfl, ⟨[.string x.Value], [.slice A5 x.Heads.length c5], rfl, rfl, ⟨_, _, rfl, l5, g5⟩⟩⟩⟩⟩⟩
theorem Record.opnT {w : World} {F : List Nat} {x : Record} {cs : List Go.Value} (h : kRecord.T w F x cs) : ∃ v5 F5, cs = [.int .i64 x.Time, .bool x.Keyed, .string x.Key, .bool x.Gone, .string x.Value, v5] ∧ F = F5 ∧ TS kHead 127 w F5 x.Heads v5 := by
  obtain ⟨_, _, _, _, rfl, rfl, ⟨rfl, rfl⟩, ⟨_, _, _, _, rfl, rfl, ⟨rfl, rfl⟩, ⟨_, _, _, _, rfl, rfl, ⟨rfl, rfl⟩, ⟨_, _, _, _, rfl, rfl, ⟨rfl, rfl⟩, ⟨_, _, _, _, rfl, rfl, ⟨rfl, rfl⟩, ⟨v5, rfl, g5⟩⟩⟩⟩⟩⟩ := h
  exact ⟨v5, _, rfl, by simp, g5⟩
theorem Record.mkT (w : World) (x : Record) {v5 : Go.Value} {F5 : List Nat} (g5 : TS kHead 127 w F5 x.Heads v5) : kRecord.T w (F5) x [.int .i64 x.Time, .bool x.Keyed, .string x.Key, .bool x.Gone, .string x.Value, v5] := by
  have h : kRecord.T w _ x [.int .i64 x.Time, .bool x.Keyed, .string x.Key, .bool x.Gone, .string x.Value, v5] := ⟨[.int .i64 x.Time], [.bool x.Keyed, .string x.Key, .bool x.Gone, .string x.Value, v5], _, _, rfl, rfl, ⟨rfl, rfl⟩, ⟨[.bool x.Keyed], [.string x.Key, .bool x.Gone, .string x.Value, v5], _, _, rfl, rfl, ⟨rfl, rfl⟩, ⟨[.string x.Key], [.bool x.Gone, .string x.Value, v5], _, _, rfl, rfl, ⟨rfl, rfl⟩, ⟨[.bool x.Gone], [.string x.Value, v5], _, _, rfl, rfl, ⟨rfl, rfl⟩, ⟨[.string x.Value], [v5], _, _, rfl, rfl, ⟨rfl, rfl⟩, ⟨_, rfl, g5⟩⟩⟩⟩⟩⟩
  simpa using h
theorem Record.at {w : World} {A : Option Addr} {xs : List Record} (h : Row kRecord w A xs) (i : Nat) (hi : i < xs.length) : ∃ ad x A5 c5, A = some ad ∧ xs[i]? = some x ∧ w.cell? (ad.add (i * 6)) = some (.int .i64 x.Time) ∧ w.cell? ⟨(ad.add (i * 6)).block, (ad.add (i * 6)).off + 1, none⟩ = some (.bool x.Keyed) ∧ w.cell? ⟨(ad.add (i * 6)).block, (ad.add (i * 6)).off + 2, none⟩ = some (.string x.Key) ∧ w.cell? ⟨(ad.add (i * 6)).block, (ad.add (i * 6)).off + 3, none⟩ = some (.bool x.Gone) ∧ w.cell? ⟨(ad.add (i * 6)).block, (ad.add (i * 6)).off + 4, none⟩ = some (.string x.Value) ∧ w.cell? ⟨(ad.add (i * 6)).block, (ad.add (i * 6)).off + 5, none⟩ = some (.slice A5 x.Heads.length c5) ∧ x.Heads.length ≤ c5 ∧ Row kHead w A5 x.Heads := by
  obtain ⟨ad, x, cs, e, hx, hK, hc0⟩ := Row_get h i hi
  have hc : ∀ j u, cs[j]? = some u → w.cell? (ad.add (i * 6 + j)) = some u := hc0
  obtain ⟨A5, c5, rfl, l5, g5⟩ := Record.opn hK
  exact ⟨ad, x, A5, c5, e, hx, hc 0 _ rfl, by rw [← add_field _ _ 1 (by omega)]; exact hc 1 _ rfl, by rw [← add_field _ _ 2 (by omega)]; exact hc 2 _ rfl, by rw [← add_field _ _ 3 (by omega)]; exact hc 3 _ rfl, by rw [← add_field _ _ 4 (by omega)]; exact hc 4 _ rfl, by rw [← add_field _ _ 5 (by omega)]; exact hc 5 _ rfl, l5, g5⟩

/-! ### Batch -/
structure Batch where
  Base : Int
  Epoch : Int
  Producer : Int
  Turn : Int
  Seq : Int
  Flags : Int
  Records : (List Record)
def zBatch : Batch := ⟨(0 : Int), (0 : Int), (0 : Int), (0 : Int), (0 : Int), (0 : Int), []⟩
def kBatch : Ki Batch := Ki.iso (Ki.pair (Ki.int .i64) (Ki.pair (Ki.int .i64) (Ki.pair (Ki.int .i64) (Ki.pair (Ki.int .i64) (Ki.pair (Ki.int .i64) (Ki.pair (Ki.int .i64) (Ki.slice 53 kRecord))))))) (fun x : Batch => (x.Base, x.Epoch, x.Producer, x.Turn, x.Seq, x.Flags, x.Records))
def Batch.wf (x : Batch) : Prop := (wfPair (wfInt .i64) (wfPair (wfInt .i64) (wfPair (wfInt .i64) (wfPair (wfInt .i64) (wfPair (wfInt .i64) (wfPair (wfInt .i64) (wfList Record.wf))))))) (x.Base, x.Epoch, x.Producer, x.Turn, x.Seq, x.Flags, x.Records)
def Batch.sm (x : Batch) : Prop := (x.Records.length ≤ 1048576 ∧ ∀ y ∈ x.Records, y.sm)
def Batch.sz (x : Batch) : Nat := szL Record.sz x.Records
theorem Batch.sm_of {x : Batch} (h : x.sz ≤ 1048576) : x.sm := by
  unfold Batch.sz at h
  have h0 : szL Record.sz x.Records ≤ 1048576 := by omega
  exact ⟨Nat.le_trans (szL_len _ _) h0, fun y0 hy0 => Record.sm_of (Nat.le_trans (szL_mem Record.sz hy0) h0)⟩
theorem Batch.opn {w : World} {x : Batch} {cs : List Go.Value} (h : kBatch.K w x cs) : ∃ A6 c6, cs = [.int .i64 x.Base, .int .i64 x.Epoch, .int .i64 x.Producer, .int .i64 x.Turn, .int .i64 x.Seq, .int .i64 x.Flags, .slice A6 x.Records.length c6] ∧ x.Records.length ≤ c6 ∧ Row kRecord w A6 x.Records := by
  obtain ⟨_, _, rfl, rfl, ⟨_, _, rfl, rfl, ⟨_, _, rfl, rfl, ⟨_, _, rfl, rfl, ⟨_, _, rfl, rfl, ⟨_, _, rfl, rfl, ⟨A6, c6, rfl, l6, g6⟩⟩⟩⟩⟩⟩⟩ := h
  exact ⟨A6, c6, rfl, l6, g6⟩
theorem Batch.mk_ (w : World) (x : Batch) {A6 : Option Addr} {c6 : Nat} (l6 : x.Records.length ≤ c6) (g6 : Row kRecord w A6 x.Records) : kBatch.K w x [.int .i64 x.Base, .int .i64 x.Epoch, .int .i64 x.Producer, .int .i64 x.Turn, .int .i64 x.Seq, .int .i64 x.Flags, .slice A6 x.Records.length c6] := ⟨[.int .i64 x.Base], [.int .i64 x.Epoch, .int .i64 x.Producer, .int .i64 x.Turn, .int .i64 x.Seq, .int .i64 x.Flags, .slice A6 x.Records.length c6], rfl, rfl, ⟨[.int .i64 x.Epoch], [.int .i64 x.Producer, .int .i64 x.Turn, .int .i64 x.Seq, .int .i64 x.Flags, .slice A6 x.Records.length c6], rfl, rfl, ⟨[.int .i64 x.Producer], [.int .i64 x.Turn, .int .i64 x.Seq, .int .i64 x.Flags, .slice A6 x.Records.length c6], rfl, rfl, ⟨[.int .i64 x.Turn], [.int .i64 x.Seq, .int .i64 x.Flags, .slice A6 x.Records.length c6], rfl, rfl, ⟨[.int .i64 x.Seq], [.int .i64 x.Flags, .slice A6 x.Records.length c6], rfl, rfl, ⟨[.int .i64 x.Flags], [.slice A6 x.Records.length c6], rfl, rfl, ⟨_, _, rfl, l6, g6⟩⟩⟩⟩⟩⟩⟩
theorem Batch.opnT {w : World} {F : List Nat} {x : Batch} {cs : List Go.Value} (h : kBatch.T w F x cs) : ∃ v6 F6, cs = [.int .i64 x.Base, .int .i64 x.Epoch, .int .i64 x.Producer, .int .i64 x.Turn, .int .i64 x.Seq, .int .i64 x.Flags, v6] ∧ F = F6 ∧ TS kRecord 53 w F6 x.Records v6 := by
  obtain ⟨_, _, _, _, rfl, rfl, ⟨rfl, rfl⟩, ⟨_, _, _, _, rfl, rfl, ⟨rfl, rfl⟩, ⟨_, _, _, _, rfl, rfl, ⟨rfl, rfl⟩, ⟨_, _, _, _, rfl, rfl, ⟨rfl, rfl⟩, ⟨_, _, _, _, rfl, rfl, ⟨rfl, rfl⟩, ⟨_, _, _, _, rfl, rfl, ⟨rfl, rfl⟩, ⟨v6, rfl, g6⟩⟩⟩⟩⟩⟩⟩ := h
  exact ⟨v6, _, rfl, by simp, g6⟩
theorem Batch.mkT (w : World) (x : Batch) {v6 : Go.Value} {F6 : List Nat} (g6 : TS kRecord 53 w F6 x.Records v6) : kBatch.T w (F6) x [.int .i64 x.Base, .int .i64 x.Epoch, .int .i64 x.Producer, .int .i64 x.Turn, .int .i64 x.Seq, .int .i64 x.Flags, v6] := by
  have h : kBatch.T w _ x [.int .i64 x.Base, .int .i64 x.Epoch, .int .i64 x.Producer, .int .i64 x.Turn, .int .i64 x.Seq, .int .i64 x.Flags, v6] := ⟨[.int .i64 x.Base], [.int .i64 x.Epoch, .int .i64 x.Producer, .int .i64 x.Turn, .int .i64 x.Seq, .int .i64 x.Flags, v6], _, _, rfl, rfl, ⟨rfl, rfl⟩, ⟨[.int .i64 x.Epoch], [.int .i64 x.Producer, .int .i64 x.Turn, .int .i64 x.Seq, .int .i64 x.Flags, v6], _, _, rfl, rfl, ⟨rfl, rfl⟩, ⟨[.int .i64 x.Producer], [.int .i64 x.Turn, .int .i64 x.Seq, .int .i64 x.Flags, v6], _, _, rfl, rfl, ⟨rfl, rfl⟩, ⟨[.int .i64 x.Turn], [.int .i64 x.Seq, .int .i64 x.Flags, v6], _, _, rfl, rfl, ⟨rfl, rfl⟩, ⟨[.int .i64 x.Seq], [.int .i64 x.Flags, v6], _, _, rfl, rfl, ⟨rfl, rfl⟩, ⟨[.int .i64 x.Flags], [v6], _, _, rfl, rfl, ⟨rfl, rfl⟩, ⟨_, rfl, g6⟩⟩⟩⟩⟩⟩⟩
  simpa using h
theorem Batch.at {w : World} {A : Option Addr} {xs : List Batch} (h : Row kBatch w A xs) (i : Nat) (hi : i < xs.length) : ∃ ad x A6 c6, A = some ad ∧ xs[i]? = some x ∧ w.cell? (ad.add (i * 7)) = some (.int .i64 x.Base) ∧ w.cell? ⟨(ad.add (i * 7)).block, (ad.add (i * 7)).off + 1, none⟩ = some (.int .i64 x.Epoch) ∧ w.cell? ⟨(ad.add (i * 7)).block, (ad.add (i * 7)).off + 2, none⟩ = some (.int .i64 x.Producer) ∧ w.cell? ⟨(ad.add (i * 7)).block, (ad.add (i * 7)).off + 3, none⟩ = some (.int .i64 x.Turn) ∧ w.cell? ⟨(ad.add (i * 7)).block, (ad.add (i * 7)).off + 4, none⟩ = some (.int .i64 x.Seq) ∧ w.cell? ⟨(ad.add (i * 7)).block, (ad.add (i * 7)).off + 5, none⟩ = some (.int .i64 x.Flags) ∧ w.cell? ⟨(ad.add (i * 7)).block, (ad.add (i * 7)).off + 6, none⟩ = some (.slice A6 x.Records.length c6) ∧ x.Records.length ≤ c6 ∧ Row kRecord w A6 x.Records := by
  obtain ⟨ad, x, cs, e, hx, hK, hc0⟩ := Row_get h i hi
  have hc : ∀ j u, cs[j]? = some u → w.cell? (ad.add (i * 7 + j)) = some u := hc0
  obtain ⟨A6, c6, rfl, l6, g6⟩ := Batch.opn hK
  exact ⟨ad, x, A6, c6, e, hx, hc 0 _ rfl, by rw [← add_field _ _ 1 (by omega)]; exact hc 1 _ rfl, by rw [← add_field _ _ 2 (by omega)]; exact hc 2 _ rfl, by rw [← add_field _ _ 3 (by omega)]; exact hc 3 _ rfl, by rw [← add_field _ _ 4 (by omega)]; exact hc 4 _ rfl, by rw [← add_field _ _ 5 (by omega)]; exact hc 5 _ rfl, by rw [← add_field _ _ 6 (by omega)]; exact hc 6 _ rfl, l6, g6⟩

/-! ### Segment -/
structure Segment where
  Base : Int
  Batches : (List Batch)
def zSegment : Segment := ⟨(0 : Int), []⟩
def kSegment : Ki Segment := Ki.iso (Ki.pair (Ki.int .i64) (Ki.slice 48 kBatch)) (fun x : Segment => (x.Base, x.Batches))
def Segment.wf (x : Segment) : Prop := (wfPair (wfInt .i64) (wfList Batch.wf)) (x.Base, x.Batches)
def Segment.sm (x : Segment) : Prop := (x.Batches.length ≤ 1048576 ∧ ∀ y ∈ x.Batches, y.sm)
def Segment.sz (x : Segment) : Nat := szL Batch.sz x.Batches
theorem Segment.sm_of {x : Segment} (h : x.sz ≤ 1048576) : x.sm := by
  unfold Segment.sz at h
  have h0 : szL Batch.sz x.Batches ≤ 1048576 := by omega
  exact ⟨Nat.le_trans (szL_len _ _) h0, fun y0 hy0 => Batch.sm_of (Nat.le_trans (szL_mem Batch.sz hy0) h0)⟩
theorem Segment.opn {w : World} {x : Segment} {cs : List Go.Value} (h : kSegment.K w x cs) : ∃ A1 c1, cs = [.int .i64 x.Base, .slice A1 x.Batches.length c1] ∧ x.Batches.length ≤ c1 ∧ Row kBatch w A1 x.Batches := by
  obtain ⟨_, _, rfl, rfl, ⟨A1, c1, rfl, l1, g1⟩⟩ := h
  exact ⟨A1, c1, rfl, l1, g1⟩
theorem Segment.mk_ (w : World) (x : Segment) {A1 : Option Addr} {c1 : Nat} (l1 : x.Batches.length ≤ c1) (g1 : Row kBatch w A1 x.Batches) : kSegment.K w x [.int .i64 x.Base, .slice A1 x.Batches.length c1] := ⟨[.int .i64 x.Base], [.slice A1 x.Batches.length c1], rfl, rfl, ⟨_, _, rfl, l1, g1⟩⟩
theorem Segment.opnT {w : World} {F : List Nat} {x : Segment} {cs : List Go.Value} (h : kSegment.T w F x cs) : ∃ v1 F1, cs = [.int .i64 x.Base, v1] ∧ F = F1 ∧ TS kBatch 48 w F1 x.Batches v1 := by
  obtain ⟨_, _, _, _, rfl, rfl, ⟨rfl, rfl⟩, ⟨v1, rfl, g1⟩⟩ := h
  exact ⟨v1, _, rfl, by simp, g1⟩
theorem Segment.mkT (w : World) (x : Segment) {v1 : Go.Value} {F1 : List Nat} (g1 : TS kBatch 48 w F1 x.Batches v1) : kSegment.T w (F1) x [.int .i64 x.Base, v1] := by
  have h : kSegment.T w _ x [.int .i64 x.Base, v1] := ⟨[.int .i64 x.Base], [v1], _, _, rfl, rfl, ⟨rfl, rfl⟩, ⟨_, rfl, g1⟩⟩
  simpa using h
theorem Segment.at {w : World} {A : Option Addr} {xs : List Segment} (h : Row kSegment w A xs) (i : Nat) (hi : i < xs.length) : ∃ ad x A1 c1, A = some ad ∧ xs[i]? = some x ∧ w.cell? (ad.add (i * 2)) = some (.int .i64 x.Base) ∧ w.cell? ⟨(ad.add (i * 2)).block, (ad.add (i * 2)).off + 1, none⟩ = some (.slice A1 x.Batches.length c1) ∧ x.Batches.length ≤ c1 ∧ Row kBatch w A1 x.Batches := by
  obtain ⟨ad, x, cs, e, hx, hK, hc0⟩ := Row_get h i hi
  have hc : ∀ j u, cs[j]? = some u → w.cell? (ad.add (i * 2 + j)) = some u := hc0
  obtain ⟨A1, c1, rfl, l1, g1⟩ := Segment.opn hK
  exact ⟨ad, x, A1, c1, e, hx, hc 0 _ rfl, by rw [← add_field _ _ 1 (by omega)]; exact hc 1 _ rfl, l1, g1⟩

/-! ### Log -/
structure Log where
  Start : Int
  Next : Int
  Roll : Int
  Segments : (List Segment)
def zLog : Log := ⟨(0 : Int), (0 : Int), (0 : Int), []⟩
def kLog : Ki Log := Ki.iso (Ki.pair (Ki.int .i64) (Ki.pair (Ki.int .i64) (Ki.pair (Ki.int .i64) (Ki.slice 45 kSegment)))) (fun x : Log => (x.Start, x.Next, x.Roll, x.Segments))
def Log.wf (x : Log) : Prop := (wfPair (wfInt .i64) (wfPair (wfInt .i64) (wfPair (wfInt .i64) (wfList Segment.wf)))) (x.Start, x.Next, x.Roll, x.Segments)
def Log.sm (x : Log) : Prop := (x.Segments.length ≤ 1048576 ∧ ∀ y ∈ x.Segments, y.sm)
def Log.sz (x : Log) : Nat := szL Segment.sz x.Segments
theorem Log.sm_of {x : Log} (h : x.sz ≤ 1048576) : x.sm := by
  unfold Log.sz at h
  have h0 : szL Segment.sz x.Segments ≤ 1048576 := by omega
  exact ⟨Nat.le_trans (szL_len _ _) h0, fun y0 hy0 => Segment.sm_of (Nat.le_trans (szL_mem Segment.sz hy0) h0)⟩
theorem Log.opn {w : World} {x : Log} {cs : List Go.Value} (h : kLog.K w x cs) : ∃ A3 c3, cs = [.int .i64 x.Start, .int .i64 x.Next, .int .i64 x.Roll, .slice A3 x.Segments.length c3] ∧ x.Segments.length ≤ c3 ∧ Row kSegment w A3 x.Segments := by
  obtain ⟨_, _, rfl, rfl, ⟨_, _, rfl, rfl, ⟨_, _, rfl, rfl, ⟨A3, c3, rfl, l3, g3⟩⟩⟩⟩ := h
  exact ⟨A3, c3, rfl, l3, g3⟩
theorem Log.mk_ (w : World) (x : Log) {A3 : Option Addr} {c3 : Nat} (l3 : x.Segments.length ≤ c3) (g3 : Row kSegment w A3 x.Segments) : kLog.K w x [.int .i64 x.Start, .int .i64 x.Next, .int .i64 x.Roll, .slice A3 x.Segments.length c3] := ⟨[.int .i64 x.Start], [.int .i64 x.Next, .int .i64 x.Roll, .slice A3 x.Segments.length c3], rfl, rfl, ⟨[.int .i64 x.Next], [.int .i64 x.Roll, .slice A3 x.Segments.length c3], rfl, rfl, ⟨[.int .i64 x.Roll], [.slice A3 x.Segments.length c3], rfl, rfl, ⟨_, _, rfl, l3, g3⟩⟩⟩⟩
theorem Log.opnT {w : World} {F : List Nat} {x : Log} {cs : List Go.Value} (h : kLog.T w F x cs) : ∃ v3 F3, cs = [.int .i64 x.Start, .int .i64 x.Next, .int .i64 x.Roll, v3] ∧ F = F3 ∧ TS kSegment 45 w F3 x.Segments v3 := by
  obtain ⟨_, _, _, _, rfl, rfl, ⟨rfl, rfl⟩, ⟨_, _, _, _, rfl, rfl, ⟨rfl, rfl⟩, ⟨_, _, _, _, rfl, rfl, ⟨rfl, rfl⟩, ⟨v3, rfl, g3⟩⟩⟩⟩ := h
  exact ⟨v3, _, rfl, by simp, g3⟩
theorem Log.mkT (w : World) (x : Log) {v3 : Go.Value} {F3 : List Nat} (g3 : TS kSegment 45 w F3 x.Segments v3) : kLog.T w (F3) x [.int .i64 x.Start, .int .i64 x.Next, .int .i64 x.Roll, v3] := by
  have h : kLog.T w _ x [.int .i64 x.Start, .int .i64 x.Next, .int .i64 x.Roll, v3] := ⟨[.int .i64 x.Start], [.int .i64 x.Next, .int .i64 x.Roll, v3], _, _, rfl, rfl, ⟨rfl, rfl⟩, ⟨[.int .i64 x.Next], [.int .i64 x.Roll, v3], _, _, rfl, rfl, ⟨rfl, rfl⟩, ⟨[.int .i64 x.Roll], [v3], _, _, rfl, rfl, ⟨rfl, rfl⟩, ⟨_, rfl, g3⟩⟩⟩⟩
  simpa using h
theorem Log.at {w : World} {A : Option Addr} {xs : List Log} (h : Row kLog w A xs) (i : Nat) (hi : i < xs.length) : ∃ ad x A3 c3, A = some ad ∧ xs[i]? = some x ∧ w.cell? (ad.add (i * 4)) = some (.int .i64 x.Start) ∧ w.cell? ⟨(ad.add (i * 4)).block, (ad.add (i * 4)).off + 1, none⟩ = some (.int .i64 x.Next) ∧ w.cell? ⟨(ad.add (i * 4)).block, (ad.add (i * 4)).off + 2, none⟩ = some (.int .i64 x.Roll) ∧ w.cell? ⟨(ad.add (i * 4)).block, (ad.add (i * 4)).off + 3, none⟩ = some (.slice A3 x.Segments.length c3) ∧ x.Segments.length ≤ c3 ∧ Row kSegment w A3 x.Segments := by
  obtain ⟨ad, x, cs, e, hx, hK, hc0⟩ := Row_get h i hi
  have hc : ∀ j u, cs[j]? = some u → w.cell? (ad.add (i * 4 + j)) = some u := hc0
  obtain ⟨A3, c3, rfl, l3, g3⟩ := Log.opn hK
  exact ⟨ad, x, A3, c3, e, hx, hc 0 _ rfl, by rw [← add_field _ _ 1 (by omega)]; exact hc 1 _ rfl, by rw [← add_field _ _ 2 (by omega)]; exact hc 2 _ rfl, by rw [← add_field _ _ 3 (by omega)]; exact hc 3 _ rfl, l3, g3⟩

/-! ### Pair -/
structure Pair where
  Key : ByteArray
  Value : ByteArray
def zPair : Pair := ⟨(⟨#[]⟩ : ByteArray), (⟨#[]⟩ : ByteArray)⟩
def kPair : Ki Pair := Ki.iso (Ki.pair Ki.str Ki.str) (fun x : Pair => (x.Key, x.Value))
def Pair.wf (x : Pair) : Prop := (wfPair wfStr wfStr) (x.Key, x.Value)
def Pair.sm (x : Pair) : Prop := x.Key.size ≤ 1048576 ∧ x.Value.size ≤ 1048576
def Pair.sz (x : Pair) : Nat := x.Key.size + x.Value.size
theorem Pair.sm_of {x : Pair} (h : x.sz ≤ 1048576) : x.sm := by
  unfold Pair.sz at h
  have h0 : x.Key.size ≤ 1048576 := by omega
  have h1 : x.Value.size ≤ 1048576 := by omega
  exact ⟨h0, h1⟩
theorem Pair.opn {w : World} {x : Pair} {cs : List Go.Value} (h : kPair.K w x cs) : cs = [.string x.Key, .string x.Value] := by
  obtain ⟨_, _, rfl, rfl, rfl⟩ := h
  exact rfl
theorem Pair.mk_ (w : World) (x : Pair) : kPair.K w x [.string x.Key, .string x.Value] := ⟨[.string x.Key], [.string x.Value], rfl, rfl, rfl⟩
theorem Pair.opnT {w : World} {F : List Nat} {x : Pair} {cs : List Go.Value} (h : kPair.T w F x cs) : cs = [.string x.Key, .string x.Value] ∧ F = [] := by
  obtain ⟨_, _, _, _, rfl, rfl, ⟨rfl, rfl⟩, ⟨rfl, rfl⟩⟩ := h
  exact ⟨rfl, by simp⟩
theorem Pair.mkT (w : World) (x : Pair) : kPair.T w ([]) x [.string x.Key, .string x.Value] := by
  have h : kPair.T w _ x [.string x.Key, .string x.Value] := ⟨[.string x.Key], [.string x.Value], _, _, rfl, rfl, ⟨rfl, rfl⟩, ⟨rfl, rfl⟩⟩
  simpa using h
theorem Pair.at {w : World} {A : Option Addr} {xs : List Pair} (h : Row kPair w A xs) (i : Nat) (hi : i < xs.length) : ∃ ad x, A = some ad ∧ xs[i]? = some x ∧ w.cell? (ad.add (i * 2)) = some (.string x.Key) ∧ w.cell? ⟨(ad.add (i * 2)).block, (ad.add (i * 2)).off + 1, none⟩ = some (.string x.Value) := by
  obtain ⟨ad, x, cs, e, hx, hK, hc0⟩ := Row_get h i hi
  have hc : ∀ j u, cs[j]? = some u → w.cell? (ad.add (i * 2 + j)) = some u := hc0
  obtain rfl := Pair.opn hK
  exact ⟨ad, x, e, hx, hc 0 _ rfl, by rw [← add_field _ _ 1 (by omega)]; exact hc 1 _ rfl⟩

end Go.Proofs.Ytiefpllmnmmdlaa.H
