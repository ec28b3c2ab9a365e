/-
The laws' own functions eq..: a value is equal to itself. Printed by hlaws.py (this session's own). Conditions: each contract's own premises.
-/
import Derived.Test.YtjbcgflpeomkfaaHTypes
import Derived.Test.YtjbcgflpeomkfaaProg
namespace Go.Proofs.Ytjbcgflpeomkfaa.H
open Go.RowKit
set_option linter.unusedVariables false
set_option linter.unusedSimpArgs false
set_option maxRecDepth 100000
theorem eqHead_c (w : World) (x : Head) (hs : x.sm) :
    Calls Try.prog 67 #[.agg #[.string x.Key, .string x.Value], .agg #[.string x.Key, .string x.Value]] w fun e w' => e = .returned (.bool true) ∧ Below w.heap.size w w' := by
  obtain ⟨_, _⟩ := hs
  go_enter Try.func67, Try.ntmps67
  go_wp2
  go_ret
  exact ⟨rfl, ((Below.refl _ _).alloc (Nat.le_refl _) _).alloc (by simp) _⟩
theorem eqHeadS_c (w : World) (l : List Head) {A B : Option Addr} {c d : Nat} (hc : l.length ≤ c) (hA : Row kHead w A l) (hd : l.length ≤ d) (hB : Row kHead w B l) (hs : (l.length ≤ 1048576 ∧ ∀ y ∈ l, y.sm)) :
    Calls Try.prog 59 #[.slice A l.length c, .slice B l.length d] w fun e w' => e = .returned (.bool true) ∧ Below w.heap.size w w' := by
  have hl : l.length ≤ 1048576 := hs.1
  have HS := Lib.hid hs
  clear hs
  have hu := Try.underlying74
  have hu2 := Try.underlying54
  go_enter Try.func59, Try.ntmps59
  go_wp2
  go_loopw [5] (fun i wr => ∃ k : Nat, k ≤ l.length ∧ i = .int .i64 k ∧ Below w.heap.size w wr) (fun i _ => l.length - (intOf i).toNat)
  case atStart => exact ⟨0, Nat.zero_le _, rfl, Below.refl _ _⟩
  case round =>
    obtain ⟨k, hk, rfl, hb⟩ := hrel
    by_cases hlt : k < l.length
    · obtain ⟨ad, x, rfl, hx, p0, p1⟩ := Head.at (Row_below hA hb) k hlt
      obtain ⟨bd, y, rfl, hy, q0, q1⟩ := Head.at (Row_below hB hb) k hlt
      obtain rfl : x = y := by rw [hx] at hy; exact Option.some.inj hy
      clear hy
      have Sx := Lib.hid (HS.out.2 x (List.mem_of_getElem? hx))
      clear hx
      go_wp2
      refine tailW 8 (by kernel_rfl) (by kernel_rfl) ?_
      simp only [List.take_succ_cons, List.take_zero, List.drop_succ_cons, List.drop_zero]
      repeat still_step
      refine wpStill_nil ?_
      have hb1 : Below w.heap.size w wr.drew := hb.drew
      go_wp2_with (go_at_call 67; refine (eqHead_c _ x Sx.out).mono ?_; rintro e w' ⟨rfl, hb2⟩)
      go_roundw
      case rel => exact ⟨k + 1, by omega, by go_num, below_tr hb1 hb2⟩
      case measure => simp [intOf]; omega
    · go_wp2
      go_ret
      exact ⟨rfl, hb⟩
theorem eqRecord_c (w : World) (x : Record) {A5 : Option Addr} {a5 : Nat} (lA5 : x.Heads.length ≤ a5) (gA5 : Row kHead w A5 x.Heads) {B5 : Option Addr} {b5 : Nat} (lB5 : x.Heads.length ≤ b5) (gB5 : Row kHead w B5 x.Heads) (hs : x.sm) :
    Calls Try.prog 49 #[.agg #[.int .i64 x.Time, .bool x.Keyed, .string x.Key, .bool x.Gone, .string x.Value, .slice A5 x.Heads.length a5], .agg #[.int .i64 x.Time, .bool x.Keyed, .string x.Key, .bool x.Gone, .string x.Value, .slice B5 x.Heads.length b5]] w fun e w' => e = .returned (.bool true) ∧ Below w.heap.size w w' := by
  obtain ⟨_, _, s5⟩ := hs
  have S5 := Lib.hid s5
  clear s5
  go_enter Try.func49, Try.ntmps49
  go_wp2_with (first | (go_at_call 59; refine (eqHeadS_c _ x.Heads lA5 (Row_below gA5 (by repeat (first | with_reducible exact Below.refl _ _ | with_reducible assumption | ((with_reducible refine Below.setCell ?_ ?_ _); rotate_left; (simp <;> omega)) | ((with_reducible refine Below.alloc ?_ ?_ _); rotate_left; (simp <;> omega))))) lB5 (Row_below gB5 (by repeat (first | with_reducible exact Below.refl _ _ | with_reducible assumption | ((with_reducible refine Below.setCell ?_ ?_ _); rotate_left; (simp <;> omega)) | ((with_reducible refine Below.alloc ?_ ?_ _); rotate_left; (simp <;> omega))))) S5.out).mono ?_; rintro e w' ⟨rfl, hb5⟩; obtain ⟨hc5, hf5⟩ := bcell hb5; have hz5 := hb5.size; simp at hz5))
  go_ret
  exact ⟨rfl, below_tr (((Below.refl _ _).alloc (Nat.le_refl _) _).alloc (by simp) _) hb5⟩
theorem eqRecordS_c (w : World) (l : List Record) {A B : Option Addr} {c d : Nat} (hc : l.length ≤ c) (hA : Row kRecord w A l) (hd : l.length ≤ d) (hB : Row kRecord w B l) (hs : (l.length ≤ 1048576 ∧ ∀ y ∈ l, y.sm)) :
    Calls Try.prog 36 #[.slice A l.length c, .slice B l.length d] w fun e w' => e = .returned (.bool true) ∧ Below w.heap.size w w' := by
  have hl : l.length ≤ 1048576 := hs.1
  have HS := Lib.hid hs
  clear hs
  have hu := Try.underlying56
  have hu2 := Try.underlying27
  go_enter Try.func36, Try.ntmps36
  go_wp2
  go_loopw [5] (fun i wr => ∃ k : Nat, k ≤ l.length ∧ i = .int .i64 k ∧ Below w.heap.size w wr) (fun i _ => l.length - (intOf i).toNat)
  case atStart => exact ⟨0, Nat.zero_le _, rfl, Below.refl _ _⟩
  case round =>
    obtain ⟨k, hk, rfl, hb⟩ := hrel
    by_cases hlt : k < l.length
    · obtain ⟨ad, x, A5, a5, rfl, hx, p0, p1, p2, p3, p4, p5, lA5, gA5⟩ := Record.at (Row_below hA hb) k hlt
      obtain ⟨bd, y, B5, b5, rfl, hy, q0, q1, q2, q3, q4, q5, lB5, gB5⟩ := Record.at (Row_below hB hb) k hlt
      obtain rfl : x = y := by rw [hx] at hy; exact Option.some.inj hy
      clear hy
      have Sx := Lib.hid (HS.out.2 x (List.mem_of_getElem? hx))
      clear hx
      go_wp2
      refine tailW 8 (by kernel_rfl) (by kernel_rfl) ?_
      simp only [List.take_succ_cons, List.take_zero, List.drop_succ_cons, List.drop_zero]
      repeat still_step
      refine wpStill_nil ?_
      have hb1 : Below w.heap.size w wr.drew := hb.drew
      go_wp2_with (go_at_call 49; refine (eqRecord_c _ x lA5 (Row_below gA5 (Below.refl _ _).drew) lB5 (Row_below gB5 (Below.refl _ _).drew) Sx.out).mono ?_; rintro e w' ⟨rfl, hb2⟩)
      go_roundw
      case rel => exact ⟨k + 1, by omega, by go_num, below_tr hb1 hb2⟩
      case measure => simp [intOf]; omega
    · go_wp2
      go_ret
      exact ⟨rfl, hb⟩
theorem eqBatch_c (w : World) (x : Batch) {A6 : Option Addr} {a6 : Nat} (lA6 : x.Records.length ≤ a6) (gA6 : Row kRecord w A6 x.Records) {B6 : Option Addr} {b6 : Nat} (lB6 : x.Records.length ≤ b6) (gB6 : Row kRecord w B6 x.Records) (hs : x.sm) :
    Calls Try.prog 13 #[.agg #[.int .i64 x.Base, .int .i64 x.Epoch, .int .i64 x.Producer, .int .i64 x.Turn, .int .i64 x.Seq, .int .i64 x.Flags, .slice A6 x.Records.length a6], .agg #[.int .i64 x.Base, .int .i64 x.Epoch, .int .i64 x.Producer, .int .i64 x.Turn, .int .i64 x.Seq, .int .i64 x.Flags, .slice B6 x.Records.length b6]] w fun e w' => e = .returned (.bool true) ∧ Below w.heap.size w w' := by
  have s6 := hs
  have S6 := Lib.hid s6
  clear s6
  go_enter Try.func13, Try.ntmps13
  go_wp2_with (first | (go_at_call 36; refine (eqRecordS_c _ x.Records lA6 (Row_below gA6 (by repeat (first | with_reducible exact Below.refl _ _ | with_reducible assumption | ((with_reducible refine Below.setCell ?_ ?_ _); rotate_left; (simp <;> omega)) | ((with_reducible refine Below.alloc ?_ ?_ _); rotate_left; (simp <;> omega))))) lB6 (Row_below gB6 (by repeat (first | with_reducible exact Below.refl _ _ | with_reducible assumption | ((with_reducible refine Below.setCell ?_ ?_ _); rotate_left; (simp <;> omega)) | ((with_reducible refine Below.alloc ?_ ?_ _); rotate_left; (simp <;> omega))))) S6.out).mono ?_; rintro e w' ⟨rfl, hb6⟩; obtain ⟨hc6, hf6⟩ := bcell hb6; have hz6 := hb6.size; simp at hz6))
  go_ret
  exact ⟨rfl, below_tr (((Below.refl _ _).alloc (Nat.le_refl _) _).alloc (by simp) _) hb6⟩
theorem eqBatchS_c (w : World) (l : List Batch) {A B : Option Addr} {c d : Nat} (hc : l.length ≤ c) (hA : Row kBatch w A l) (hd : l.length ≤ d) (hB : Row kBatch w B l) (hs : (l.length ≤ 1048576 ∧ ∀ y ∈ l, y.sm)) :
    Calls Try.prog 62 #[.slice A l.length c, .slice B l.length d] w fun e w' => e = .returned (.bool true) ∧ Below w.heap.size w w' := by
  have hl : l.length ≤ 1048576 := hs.1
  have HS := Lib.hid hs
  clear hs
  have hu := Try.underlying29
  have hu2 := Try.underlying62
  go_enter Try.func62, Try.ntmps62
  go_wp2
  go_loopw [5] (fun i wr => ∃ k : Nat, k ≤ l.length ∧ i = .int .i64 k ∧ Below w.heap.size w wr) (fun i _ => l.length - (intOf i).toNat)
  case atStart => exact ⟨0, Nat.zero_le _, rfl, Below.refl _ _⟩
  case round =>
    obtain ⟨k, hk, rfl, hb⟩ := hrel
    by_cases hlt : k < l.length
    · obtain ⟨ad, x, A6, a6, rfl, hx, p0, p1, p2, p3, p4, p5, p6, lA6, gA6⟩ := Batch.at (Row_below hA hb) k hlt
      obtain ⟨bd, y, B6, b6, rfl, hy, q0, q1, q2, q3, q4, q5, q6, lB6, gB6⟩ := Batch.at (Row_below hB hb) k hlt
      obtain rfl : x = y := by rw [hx] at hy; exact Option.some.inj hy
      clear hy
      have Sx := Lib.hid (HS.out.2 x (List.mem_of_getElem? hx))
      clear hx
      go_wp2
      refine tailW 8 (by kernel_rfl) (by kernel_rfl) ?_
      simp only [List.take_succ_cons, List.take_zero, List.drop_succ_cons, List.drop_zero]
      repeat still_step
      refine wpStill_nil ?_
      have hb1 : Below w.heap.size w wr.drew := hb.drew
      go_wp2_with (go_at_call 13; refine (eqBatch_c _ x lA6 (Row_below gA6 (Below.refl _ _).drew) lB6 (Row_below gB6 (Below.refl _ _).drew) Sx.out).mono ?_; rintro e w' ⟨rfl, hb2⟩)
      go_roundw
      case rel => exact ⟨k + 1, by omega, by go_num, below_tr hb1 hb2⟩
      case measure => simp [intOf]; omega
    · go_wp2
      go_ret
      exact ⟨rfl, hb⟩
theorem eqSegment_c (w : World) (x : Segment) {A1 : Option Addr} {a1 : Nat} (lA1 : x.Batches.length ≤ a1) (gA1 : Row kBatch w A1 x.Batches) {B1 : Option Addr} {b1 : Nat} (lB1 : x.Batches.length ≤ b1) (gB1 : Row kBatch w B1 x.Batches) (hs : x.sm) :
    Calls Try.prog 52 #[.agg #[.int .i64 x.Base, .slice A1 x.Batches.length a1], .agg #[.int .i64 x.Base, .slice B1 x.Batches.length b1]] w fun e w' => e = .returned (.bool true) ∧ Below w.heap.size w w' := by
  have s1 := hs
  have S1 := Lib.hid s1
  clear s1
  go_enter Try.func52, Try.ntmps52
  go_wp2_with (first | (go_at_call 62; refine (eqBatchS_c _ x.Batches lA1 (Row_below gA1 (by repeat (first | with_reducible exact Below.refl _ _ | with_reducible assumption | ((with_reducible refine Below.setCell ?_ ?_ _); rotate_left; (simp <;> omega)) | ((with_reducible refine Below.alloc ?_ ?_ _); rotate_left; (simp <;> omega))))) lB1 (Row_below gB1 (by repeat (first | with_reducible exact Below.refl _ _ | with_reducible assumption | ((with_reducible refine Below.setCell ?_ ?_ _); rotate_left; (simp <;> omega)) | ((with_reducible refine Below.alloc ?_ ?_ _); rotate_left; (simp <;> omega))))) S1.out).mono ?_; rintro e w' ⟨rfl, hb1⟩; obtain ⟨hc1, hf1⟩ := bcell hb1; have hz1 := hb1.size; simp at hz1))
  go_ret
  exact ⟨rfl, below_tr (((Below.refl _ _).alloc (Nat.le_refl _) _).alloc (by simp) _) hb1⟩
theorem eqSegmentS_c (w : World) (l : List Segment) {A B : Option Addr} {c d : Nat} (hc : l.length ≤ c) (hA : Row kSegment w A l) (hd : l.length ≤ d) (hB : Row kSegment w B l) (hs : (l.length ≤ 1048576 ∧ ∀ y ∈ l, y.sm)) :
    Calls Try.prog 40 #[.slice A l.length c, .slice B l.length d] w fun e w' => e = .returned (.bool true) ∧ Below w.heap.size w w' := by
  have hl : l.length ≤ 1048576 := hs.1
  have HS := Lib.hid hs
  clear hs
  have hu := Try.underlying64
  have hu2 := Try.underlying39
  go_enter Try.func40, Try.ntmps40
  go_wp2
  go_loopw [5] (fun i wr => ∃ k : Nat, k ≤ l.length ∧ i = .int .i64 k ∧ Below w.heap.size w wr) (fun i _ => l.length - (intOf i).toNat)
  case atStart => exact ⟨0, Nat.zero_le _, rfl, Below.refl _ _⟩
  case round =>
    obtain ⟨k, hk, rfl, hb⟩ := hrel
    by_cases hlt : k < l.length
    · obtain ⟨ad, x, A1, a1, rfl, hx, p0, p1, lA1, gA1⟩ := Segment.at (Row_below hA hb) k hlt
      obtain ⟨bd, y, B1, b1, rfl, hy, q0, q1, lB1, gB1⟩ := Segment.at (Row_below hB hb) k hlt
      obtain rfl : x = y := by rw [hx] at hy; exact Option.some.inj hy
      clear hy
      have Sx := Lib.hid (HS.out.2 x (List.mem_of_getElem? hx))
      clear hx
      go_wp2
      refine tailW 8 (by kernel_rfl) (by kernel_rfl) ?_
      simp only [List.take_succ_cons, List.take_zero, List.drop_succ_cons, List.drop_zero]
      repeat still_step
      refine wpStill_nil ?_
      have hb1 : Below w.heap.size w wr.drew := hb.drew
      go_wp2_with (go_at_call 52; refine (eqSegment_c _ x lA1 (Row_below gA1 (Below.refl _ _).drew) lB1 (Row_below gB1 (Below.refl _ _).drew) Sx.out).mono ?_; rintro e w' ⟨rfl, hb2⟩)
      go_roundw
      case rel => exact ⟨k + 1, by omega, by go_num, below_tr hb1 hb2⟩
      case measure => simp [intOf]; omega
    · go_wp2
      go_ret
      exact ⟨rfl, hb⟩
theorem eqLog_c (w : World) (x : Log) {A3 : Option Addr} {a3 : Nat} (lA3 : x.Segments.length ≤ a3) (gA3 : Row kSegment w A3 x.Segments) {B3 : Option Addr} {b3 : Nat} (lB3 : x.Segments.length ≤ b3) (gB3 : Row kSegment w B3 x.Segments) (hs : x.sm) :
    Calls Try.prog 20 #[.agg #[.int .i64 x.Start, .int .i64 x.Next, .int .i64 x.Roll, .slice A3 x.Segments.length a3], .agg #[.int .i64 x.Start, .int .i64 x.Next, .int .i64 x.Roll, .slice B3 x.Segments.length b3]] w fun e w' => e = .returned (.bool true) ∧ Below w.heap.size w w' := by
  have s3 := hs
  have S3 := Lib.hid s3
  clear s3
  go_enter Try.func20, Try.ntmps20
  go_wp2_with (first | (go_at_call 40; refine (eqSegmentS_c _ x.Segments lA3 (Row_below gA3 (by repeat (first | with_reducible exact Below.refl _ _ | with_reducible assumption | ((with_reducible refine Below.setCell ?_ ?_ _); rotate_left; (simp <;> omega)) | ((with_reducible refine Below.alloc ?_ ?_ _); rotate_left; (simp <;> omega))))) lB3 (Row_below gB3 (by repeat (first | with_reducible exact Below.refl _ _ | with_reducible assumption | ((with_reducible refine Below.setCell ?_ ?_ _); rotate_left; (simp <;> omega)) | ((with_reducible refine Below.alloc ?_ ?_ _); rotate_left; (simp <;> omega))))) S3.out).mono ?_; rintro e w' ⟨rfl, hb3⟩; obtain ⟨hc3, hf3⟩ := bcell hb3; have hz3 := hb3.size; simp at hz3))
  go_ret
  exact ⟨rfl, below_tr (((Below.refl _ _).alloc (Nat.le_refl _) _).alloc (by simp) _) hb3⟩
end Go.Proofs.Ytjbcgflpeomkfaa.H
