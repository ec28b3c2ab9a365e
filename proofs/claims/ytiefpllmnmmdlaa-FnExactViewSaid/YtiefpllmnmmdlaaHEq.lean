/-
The laws' own functions eq..: a value is equal to itself. Printed by hlaws.py (this session's own). Conditions: each contract's own premises.
-/
import Derived.Test.YtiefpllmnmmdlaaHTypes
import Derived.Test.YtiefpllmnmmdlaaProg
namespace Go.Proofs.Ytiefpllmnmmdlaa.H
open Go.RowKit
set_option linter.unusedVariables false
set_option linter.unusedSimpArgs false
set_option maxRecDepth 100000
theorem eqHead_c (w : World) (x : Head) (hs : x.sm) :
    Calls Try.prog 107 #[.agg #[.string x.Key, .string x.Value], .agg #[.string x.Key, .string x.Value]] w fun e w' => e = .returned (.bool true) ∧ Below w.heap.size w w' := by
  obtain ⟨_, _⟩ := hs
  go_enter Try.func107, Try.ntmps107
  go_wp2
  go_ret
  exact ⟨rfl, by repeat (first | with_reducible exact Below.refl _ _ | with_reducible assumption | ((with_reducible refine Below.setCell ?_ ?_ _); rotate_left; (simp <;> omega)) | ((with_reducible refine Below.alloc ?_ ?_ _); rotate_left; (simp <;> omega)))⟩
theorem eqHeadS_c (w : World) (l : List Head) {A B : Option Addr} {c d : Nat} (hc : l.length ≤ c) (hA : Row kHead w A l) (hd : l.length ≤ d) (hB : Row kHead w B l) (hs : (l.length ≤ 1048576 ∧ ∀ y ∈ l, y.sm)) :
    Calls Try.prog 104 #[.slice A l.length c, .slice B l.length d] w fun e w' => e = .returned (.bool true) ∧ Below w.heap.size w w' := by
  have hl : l.length ≤ 1048576 := hs.1
  have HS := Lib.hid hs
  clear hs
  have hu := Try.underlying127
  have hu2 := Try.underlying51
  go_enter Try.func104, Try.ntmps104
  go_wp2
  go_loopw [5] (fun i wr => ∃ k : Nat, k ≤ l.length ∧ i = .int .i64 k ∧ Below w.heap.size w wr) (fun i _ => l.length - (intOf i).toNat)
  case atStart => exact ⟨0, Nat.zero_le _, rfl, Below.refl _ _⟩
  case round =>
    obtain ⟨k, hk, rfl, hb⟩ := hrel
    by_cases hlt : k < l.length
    · obtain ⟨ad, x, rfl, hx, p0, p1⟩ := Head.at (Row_below hA hb) k hlt
      obtain ⟨bd, y, rfl, hy, q0, q1⟩ := Head.at (Row_below hB hb) k hlt
      obtain rfl : x = y := by rw [hx] at hy; exact Option.some.inj hy
      clear hy
      have Sx := Lib.hid (HS.out.2 x (List.mem_of_getElem? hx))
      clear hx
      go_wp2
      refine tailW 8 (by kernel_rfl) (by kernel_rfl) ?_
      simp only [List.take_succ_cons, List.take_zero, List.drop_succ_cons, List.drop_zero]
      repeat still_step
      refine wpStill_nil ?_
      have hb1 : Below w.heap.size w wr.drew := hb.drew
      go_wp2_with (go_at_call 107; refine (eqHead_c _ x Sx.out).mono ?_; rintro e w' ⟨rfl, hb2⟩)
      go_roundw
      case rel => exact ⟨k + 1, by omega, by go_num, below_tr hb1 hb2⟩
      case measure => simp [intOf]; omega
    · go_wp2
      go_ret
      exact ⟨rfl, hb⟩
theorem eqRecord_c (w : World) (x : Record) {A5 : Option Addr} {a5 : Nat} (lA5 : x.Heads.length ≤ a5) (gA5 : Row kHead w A5 x.Heads) {B5 : Option Addr} {b5 : Nat} (lB5 : x.Heads.length ≤ b5) (gB5 : Row kHead w B5 x.Heads) (hs : x.sm) :
    Calls Try.prog 101 #[.agg #[.int .i64 x.Time, .bool x.Keyed, .string x.Key, .bool x.Gone, .string x.Value, .slice A5 x.Heads.length a5], .agg #[.int .i64 x.Time, .bool x.Keyed, .string x.Key, .bool x.Gone, .string x.Value, .slice B5 x.Heads.length b5]] w fun e w' => e = .returned (.bool true) ∧ Below w.heap.size w w' := by
  obtain ⟨_, _, s5⟩ := hs
  have S5 := Lib.hid s5
  clear s5
  go_enter Try.func101, Try.ntmps101
  have XA0 := (Box.new w #[.int .i64 x.Time, .bool x.Keyed, .string x.Key, .bool x.Gone, .string x.Value, .slice A5 x.Heads.length a5] 53).later (below_al _ (.cells #[.int .i64 x.Time, .bool x.Keyed, .string x.Key, .bool x.Gone, .string x.Value, .slice B5 x.Heads.length b5] 53))
  have XB0 := Box.new2 w (.cells #[.int .i64 x.Time, .bool x.Keyed, .string x.Key, .bool x.Gone, .string x.Value, .slice A5 x.Heads.length a5] 53) #[.int .i64 x.Time, .bool x.Keyed, .string x.Key, .bool x.Gone, .string x.Value, .slice B5 x.Heads.length b5] 53
  have BB : Below w.heap.size w ((w.alloc (.cells #[.int .i64 x.Time, .bool x.Keyed, .string x.Key, .bool x.Gone, .string x.Value, .slice A5 x.Heads.length a5] 53)).alloc (.cells #[.int .i64 x.Time, .bool x.Keyed, .string x.Key, .bool x.Gone, .string x.Value, .slice B5 x.Heads.length b5] 53)) := ((Below.refl _ _).alloc (Nat.le_refl _) _).alloc (by simp) _
  have HXA := Lib.hid XA0
  have HXB := Lib.hid XB0
  have HBB := Lib.hid BB
  clear XA0 XB0 BB
  go_upto_region 11 with fail
  go_wp2_with (go_at_call 104; refine (eqHeadS_c _ x.Heads lA5 (Row_below gA5 (HBB.out)) lB5 (Row_below gB5 (HBB.out)) S5.out).mono ?_; rintro e w5 ⟨rfl, hb5⟩; have E5 := below_tr (HBB.out) hb5; have XA5 := (HXA.out).later hb5; have gbA5 := XA5.lt rfl; have XB5 := (HXB.out).later hb5; have gbB5 := XB5.lt rfl)
  go_ret
  exact ⟨rfl, E5⟩
theorem eqRecordS_c (w : World) (l : List Record) {A B : Option Addr} {c d : Nat} (hc : l.length ≤ c) (hA : Row kRecord w A l) (hd : l.length ≤ d) (hB : Row kRecord w B l) (hs : (l.length ≤ 1048576 ∧ ∀ y ∈ l, y.sm)) :
    Calls Try.prog 96 #[.slice A l.length c, .slice B l.length d] w fun e w' => e = .returned (.bool true) ∧ Below w.heap.size w w' := by
  have hl : l.length ≤ 1048576 := hs.1
  have HS := Lib.hid hs
  clear hs
  have hu := Try.underlying53
  have hu2 := Try.underlying46
  go_enter Try.func96, Try.ntmps96
  go_wp2
  go_loopw [5] (fun i wr => ∃ k : Nat, k ≤ l.length ∧ i = .int .i64 k ∧ Below w.heap.size w wr) (fun i _ => l.length - (intOf i).toNat)
  case atStart => exact ⟨0, Nat.zero_le _, rfl, Below.refl _ _⟩
  case round =>
    obtain ⟨k, hk, rfl, hb⟩ := hrel
    by_cases hlt : k < l.length
    · obtain ⟨ad, x, A5, a5, rfl, hx, p0, p1, p2, p3, p4, p5, lA5, gA5⟩ := Record.at (Row_below hA hb) k hlt
      obtain ⟨bd, y, B5, b5, rfl, hy, q0, q1, q2, q3, q4, q5, lB5, gB5⟩ := Record.at (Row_below hB hb) k hlt
      obtain rfl : x = y := by rw [hx] at hy; exact Option.some.inj hy
      clear hy
      have Sx := Lib.hid (HS.out.2 x (List.mem_of_getElem? hx))
      clear hx
      go_wp2
      refine tailW 8 (by kernel_rfl) (by kernel_rfl) ?_
      simp only [List.take_succ_cons, List.take_zero, List.drop_succ_cons, List.drop_zero]
      repeat still_step
      refine wpStill_nil ?_
      have hb1 : Below w.heap.size w wr.drew := hb.drew
      go_wp2_with (go_at_call 101; refine (eqRecord_c _ x lA5 (Row_below gA5 (Below.refl _ _).drew) lB5 (Row_below gB5 (Below.refl _ _).drew) Sx.out).mono ?_; rintro e w' ⟨rfl, hb2⟩)
      go_roundw
      case rel => exact ⟨k + 1, by omega, by go_num, below_tr hb1 hb2⟩
      case measure => simp [intOf]; omega
    · go_wp2
      go_ret
      exact ⟨rfl, hb⟩
theorem eqBatch_c (w : World) (x : Batch) {A6 : Option Addr} {a6 : Nat} (lA6 : x.Records.length ≤ a6) (gA6 : Row kRecord w A6 x.Records) {B6 : Option Addr} {b6 : Nat} (lB6 : x.Records.length ≤ b6) (gB6 : Row kRecord w B6 x.Records) (hs : x.sm) :
    Calls Try.prog 85 #[.agg #[.int .i64 x.Base, .int .i64 x.Epoch, .int .i64 x.Producer, .int .i64 x.Turn, .int .i64 x.Seq, .int .i64 x.Flags, .slice A6 x.Records.length a6], .agg #[.int .i64 x.Base, .int .i64 x.Epoch, .int .i64 x.Producer, .int .i64 x.Turn, .int .i64 x.Seq, .int .i64 x.Flags, .slice B6 x.Records.length b6]] w fun e w' => e = .returned (.bool true) ∧ Below w.heap.size w w' := by
  have s6 := hs
  have S6 := Lib.hid s6
  clear s6
  go_enter Try.func85, Try.ntmps85
  have XA0 := (Box.new w #[.int .i64 x.Base, .int .i64 x.Epoch, .int .i64 x.Producer, .int .i64 x.Turn, .int .i64 x.Seq, .int .i64 x.Flags, .slice A6 x.Records.length a6] 48).later (below_al _ (.cells #[.int .i64 x.Base, .int .i64 x.Epoch, .int .i64 x.Producer, .int .i64 x.Turn, .int .i64 x.Seq, .int .i64 x.Flags, .slice B6 x.Records.length b6] 48))
  have XB0 := Box.new2 w (.cells #[.int .i64 x.Base, .int .i64 x.Epoch, .int .i64 x.Producer, .int .i64 x.Turn, .int .i64 x.Seq, .int .i64 x.Flags, .slice A6 x.Records.length a6] 48) #[.int .i64 x.Base, .int .i64 x.Epoch, .int .i64 x.Producer, .int .i64 x.Turn, .int .i64 x.Seq, .int .i64 x.Flags, .slice B6 x.Records.length b6] 48
  have BB : Below w.heap.size w ((w.alloc (.cells #[.int .i64 x.Base, .int .i64 x.Epoch, .int .i64 x.Producer, .int .i64 x.Turn, .int .i64 x.Seq, .int .i64 x.Flags, .slice A6 x.Records.length a6] 48)).alloc (.cells #[.int .i64 x.Base, .int .i64 x.Epoch, .int .i64 x.Producer, .int .i64 x.Turn, .int .i64 x.Seq, .int .i64 x.Flags, .slice B6 x.Records.length b6] 48)) := ((Below.refl _ _).alloc (Nat.le_refl _) _).alloc (by simp) _
  have HXA := Lib.hid XA0
  have HXB := Lib.hid XB0
  have HBB := Lib.hid BB
  clear XA0 XB0 BB
  go_upto_region 13 with fail
  go_wp2_with (go_at_call 96; refine (eqRecordS_c _ x.Records lA6 (Row_below gA6 (HBB.out)) lB6 (Row_below gB6 (HBB.out)) S6.out).mono ?_; rintro e w6 ⟨rfl, hb6⟩; have E6 := below_tr (HBB.out) hb6; have XA6 := (HXA.out).later hb6; have gbA6 := XA6.lt rfl; have XB6 := (HXB.out).later hb6; have gbB6 := XB6.lt rfl)
  go_ret
  exact ⟨rfl, E6⟩
theorem eqBatchS_c (w : World) (l : List Batch) {A B : Option Addr} {c d : Nat} (hc : l.length ≤ c) (hA : Row kBatch w A l) (hd : l.length ≤ d) (hB : Row kBatch w B l) (hs : (l.length ≤ 1048576 ∧ ∀ y ∈ l, y.sm)) :
    Calls Try.prog 59 #[.slice A l.length c, .slice B l.length d] w fun e w' => e = .returned (.bool true) ∧ Below w.heap.size w w' := by
  have hl : l.length ≤ 1048576 := hs.1
  have HS := Lib.hid hs
  clear hs
  have hu := Try.underlying48
  have hu2 := Try.underlying42
  go_enter Try.func59, Try.ntmps59
  go_wp2
  go_loopw [5] (fun i wr => ∃ k : Nat, k ≤ l.length ∧ i = .int .i64 k ∧ Below w.heap.size w wr) (fun i _ => l.length - (intOf i).toNat)
  case atStart => exact ⟨0, Nat.zero_le _, rfl, Below.refl _ _⟩
  case round =>
    obtain ⟨k, hk, rfl, hb⟩ := hrel
    by_cases hlt : k < l.length
    · obtain ⟨ad, x, A6, a6, rfl, hx, p0, p1, p2, p3, p4, p5, p6, lA6, gA6⟩ := Batch.at (Row_below hA hb) k hlt
      obtain ⟨bd, y, B6, b6, rfl, hy, q0, q1, q2, q3, q4, q5, q6, lB6, gB6⟩ := Batch.at (Row_below hB hb) k hlt
      obtain rfl : x = y := by rw [hx] at hy; exact Option.some.inj hy
      clear hy
      have Sx := Lib.hid (HS.out.2 x (List.mem_of_getElem? hx))
      clear hx
      go_wp2
      refine tailW 8 (by kernel_rfl) (by kernel_rfl) ?_
      simp only [List.take_succ_cons, List.take_zero, List.drop_succ_cons, List.drop_zero]
      repeat still_step
      refine wpStill_nil ?_
      have hb1 : Below w.heap.size w wr.drew := hb.drew
      go_wp2_with (go_at_call 85; refine (eqBatch_c _ x lA6 (Row_below gA6 (Below.refl _ _).drew) lB6 (Row_below gB6 (Below.refl _ _).drew) Sx.out).mono ?_; rintro e w' ⟨rfl, hb2⟩)
      go_roundw
      case rel => exact ⟨k + 1, by omega, by go_num, below_tr hb1 hb2⟩
      case measure => simp [intOf]; omega
    · go_wp2
      go_ret
      exact ⟨rfl, hb⟩
theorem eqSegment_c (w : World) (x : Segment) {A1 : Option Addr} {a1 : Nat} (lA1 : x.Batches.length ≤ a1) (gA1 : Row kBatch w A1 x.Batches) {B1 : Option Addr} {b1 : Nat} (lB1 : x.Batches.length ≤ b1) (gB1 : Row kBatch w B1 x.Batches) (hs : x.sm) :
    Calls Try.prog 42 #[.agg #[.int .i64 x.Base, .slice A1 x.Batches.length a1], .agg #[.int .i64 x.Base, .slice B1 x.Batches.length b1]] w fun e w' => e = .returned (.bool true) ∧ Below w.heap.size w w' := by
  have s1 := hs
  have S1 := Lib.hid s1
  clear s1
  go_enter Try.func42, Try.ntmps42
  have XA0 := (Box.new w #[.int .i64 x.Base, .slice A1 x.Batches.length a1] 45).later (below_al _ (.cells #[.int .i64 x.Base, .slice B1 x.Batches.length b1] 45))
  have XB0 := Box.new2 w (.cells #[.int .i64 x.Base, .slice A1 x.Batches.length a1] 45) #[.int .i64 x.Base, .slice B1 x.Batches.length b1] 45
  have BB : Below w.heap.size w ((w.alloc (.cells #[.int .i64 x.Base, .slice A1 x.Batches.length a1] 45)).alloc (.cells #[.int .i64 x.Base, .slice B1 x.Batches.length b1] 45)) := ((Below.refl _ _).alloc (Nat.le_refl _) _).alloc (by simp) _
  have HXA := Lib.hid XA0
  have HXB := Lib.hid XB0
  have HBB := Lib.hid BB
  clear XA0 XB0 BB
  go_upto_region 3 with fail
  go_wp2_with (go_at_call 59; refine (eqBatchS_c _ x.Batches lA1 (Row_below gA1 (HBB.out)) lB1 (Row_below gB1 (HBB.out)) S1.out).mono ?_; rintro e w1 ⟨rfl, hb1⟩; have E1 := below_tr (HBB.out) hb1; have XA1 := (HXA.out).later hb1; have gbA1 := XA1.lt rfl; have XB1 := (HXB.out).later hb1; have gbB1 := XB1.lt rfl)
  go_ret
  exact ⟨rfl, E1⟩
theorem eqSegmentS_c (w : World) (l : List Segment) {A B : Option Addr} {c d : Nat} (hc : l.length ≤ c) (hA : Row kSegment w A l) (hd : l.length ≤ d) (hB : Row kSegment w B l) (hs : (l.length ≤ 1048576 ∧ ∀ y ∈ l, y.sm)) :
    Calls Try.prog 27 #[.slice A l.length c, .slice B l.length d] w fun e w' => e = .returned (.bool true) ∧ Below w.heap.size w w' := by
  have hl : l.length ≤ 1048576 := hs.1
  have HS := Lib.hid hs
  clear hs
  have hu := Try.underlying45
  have hu2 := Try.underlying26
  go_enter Try.func27, Try.ntmps27
  go_wp2
  go_loopw [5] (fun i wr => ∃ k : Nat, k ≤ l.length ∧ i = .int .i64 k ∧ Below w.heap.size w wr) (fun i _ => l.length - (intOf i).toNat)
  case atStart => exact ⟨0, Nat.zero_le _, rfl, Below.refl _ _⟩
  case round =>
    obtain ⟨k, hk, rfl, hb⟩ := hrel
    by_cases hlt : k < l.length
    · obtain ⟨ad, x, A1, a1, rfl, hx, p0, p1, lA1, gA1⟩ := Segment.at (Row_below hA hb) k hlt
      obtain ⟨bd, y, B1, b1, rfl, hy, q0, q1, lB1, gB1⟩ := Segment.at (Row_below hB hb) k hlt
      obtain rfl : x = y := by rw [hx] at hy; exact Option.some.inj hy
      clear hy
      have Sx := Lib.hid (HS.out.2 x (List.mem_of_getElem? hx))
      clear hx
      go_wp2
      refine tailW 8 (by kernel_rfl) (by kernel_rfl) ?_
      simp only [List.take_succ_cons, List.take_zero, List.drop_succ_cons, List.drop_zero]
      repeat still_step
      refine wpStill_nil ?_
      have hb1 : Below w.heap.size w wr.drew := hb.drew
      go_wp2_with (go_at_call 42; refine (eqSegment_c _ x lA1 (Row_below gA1 (Below.refl _ _).drew) lB1 (Row_below gB1 (Below.refl _ _).drew) Sx.out).mono ?_; rintro e w' ⟨rfl, hb2⟩)
      go_roundw
      case rel => exact ⟨k + 1, by omega, by go_num, below_tr hb1 hb2⟩
      case measure => simp [intOf]; omega
    · go_wp2
      go_ret
      exact ⟨rfl, hb⟩
theorem eqLog_c (w : World) (x : Log) {A3 : Option Addr} {a3 : Nat} (lA3 : x.Segments.length ≤ a3) (gA3 : Row kSegment w A3 x.Segments) {B3 : Option Addr} {b3 : Nat} (lB3 : x.Segments.length ≤ b3) (gB3 : Row kSegment w B3 x.Segments) (hs : x.sm) :
    Calls Try.prog 9 #[.agg #[.int .i64 x.Start, .int .i64 x.Next, .int .i64 x.Roll, .slice A3 x.Segments.length a3], .agg #[.int .i64 x.Start, .int .i64 x.Next, .int .i64 x.Roll, .slice B3 x.Segments.length b3]] w fun e w' => e = .returned (.bool true) ∧ Below w.heap.size w w' := by
  have s3 := hs
  have S3 := Lib.hid s3
  clear s3
  go_enter Try.func9, Try.ntmps9
  have XA0 := (Box.new w #[.int .i64 x.Start, .int .i64 x.Next, .int .i64 x.Roll, .slice A3 x.Segments.length a3] 28).later (below_al _ (.cells #[.int .i64 x.Start, .int .i64 x.Next, .int .i64 x.Roll, .slice B3 x.Segments.length b3] 28))
  have XB0 := Box.new2 w (.cells #[.int .i64 x.Start, .int .i64 x.Next, .int .i64 x.Roll, .slice A3 x.Segments.length a3] 28) #[.int .i64 x.Start, .int .i64 x.Next, .int .i64 x.Roll, .slice B3 x.Segments.length b3] 28
  have BB : Below w.heap.size w ((w.alloc (.cells #[.int .i64 x.Start, .int .i64 x.Next, .int .i64 x.Roll, .slice A3 x.Segments.length a3] 28)).alloc (.cells #[.int .i64 x.Start, .int .i64 x.Next, .int .i64 x.Roll, .slice B3 x.Segments.length b3] 28)) := ((Below.refl _ _).alloc (Nat.le_refl _) _).alloc (by simp) _
  have HXA := Lib.hid XA0
  have HXB := Lib.hid XB0
  have HBB := Lib.hid BB
  clear XA0 XB0 BB
  go_upto_region 7 with fail
  go_wp2_with (go_at_call 27; refine (eqSegmentS_c _ x.Segments lA3 (Row_below gA3 (HBB.out)) lB3 (Row_below gB3 (HBB.out)) S3.out).mono ?_; rintro e w3 ⟨rfl, hb3⟩; have E3 := below_tr (HBB.out) hb3; have XA3 := (HXA.out).later hb3; have gbA3 := XA3.lt rfl; have XB3 := (HXB.out).later hb3; have gbB3 := XB3.lt rfl)
  go_ret
  exact ⟨rfl, E3⟩
theorem eqPair_c (w : World) (x : Pair) (hs : x.sm) :
    Calls Try.prog 34 #[.agg #[.string x.Key, .string x.Value], .agg #[.string x.Key, .string x.Value]] w fun e w' => e = .returned (.bool true) ∧ Below w.heap.size w w' := by
  obtain ⟨_, _⟩ := hs
  go_enter Try.func34, Try.ntmps34
  go_wp2
  go_ret
  exact ⟨rfl, by repeat (first | with_reducible exact Below.refl _ _ | with_reducible assumption | ((with_reducible refine Below.setCell ?_ ?_ _); rotate_left; (simp <;> omega)) | ((with_reducible refine Below.alloc ?_ ?_ _); rotate_left; (simp <;> omega)))⟩
theorem eqPairS_c (w : World) (l : List Pair) {A B : Option Addr} {c d : Nat} (hc : l.length ≤ c) (hA : Row kPair w A l) (hd : l.length ≤ d) (hB : Row kPair w B l) (hs : (l.length ≤ 1048576 ∧ ∀ y ∈ l, y.sm)) :
    Calls Try.prog 14 #[.slice A l.length c, .slice B l.length d] w fun e w' => e = .returned (.bool true) ∧ Below w.heap.size w w' := by
  have hl : l.length ≤ 1048576 := hs.1
  have HS := Lib.hid hs
  clear hs
  have hu := Try.underlying64
  have hu2 := Try.underlying35
  go_enter Try.func14, Try.ntmps14
  go_wp2
  go_loopw [5] (fun i wr => ∃ k : Nat, k ≤ l.length ∧ i = .int .i64 k ∧ Below w.heap.size w wr) (fun i _ => l.length - (intOf i).toNat)
  case atStart => exact ⟨0, Nat.zero_le _, rfl, Below.refl _ _⟩
  case round =>
    obtain ⟨k, hk, rfl, hb⟩ := hrel
    by_cases hlt : k < l.length
    · obtain ⟨ad, x, rfl, hx, p0, p1⟩ := Pair.at (Row_below hA hb) k hlt
      obtain ⟨bd, y, rfl, hy, q0, q1⟩ := Pair.at (Row_below hB hb) k hlt
      obtain rfl : x = y := by rw [hx] at hy; exact Option.some.inj hy
      clear hy
      have Sx := Lib.hid (HS.out.2 x (List.mem_of_getElem? hx))
      clear hx
      go_wp2
      refine tailW 8 (by kernel_rfl) (by kernel_rfl) ?_
      simp only [List.take_succ_cons, List.take_zero, List.drop_succ_cons, List.drop_zero]
      repeat still_step
      refine wpStill_nil ?_
      have hb1 : Below w.heap.size w wr.drew := hb.drew
      go_wp2_with (go_at_call 34; refine (eqPair_c _ x Sx.out).mono ?_; rintro e w' ⟨rfl, hb2⟩)
      go_roundw
      case rel => exact ⟨k + 1, by omega, by go_num, below_tr hb1 hb2⟩
      case measure => simp [intOf]; omega
    · go_wp2
      go_ret
      exact ⟨rfl, hb⟩
end Go.Proofs.Ytiefpllmnmmdlaa.H
