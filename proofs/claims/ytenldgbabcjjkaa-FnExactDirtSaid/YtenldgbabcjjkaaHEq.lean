/-
The laws' own functions eq..: a value is equal to itself. Printed by hlaws.py (this session's own). Conditions: each contract's own premises.
-/
import Derived.Test.YtenldgbabcjjkaaHTypes
import Derived.Test.YtenldgbabcjjkaaProg
namespace Go.Proofs.Ytenldgbabcjjkaa.H
open Go.RowKit
set_option linter.unusedVariables false
set_option linter.unusedSimpArgs false
set_option maxRecDepth 100000
theorem eqHead_c (w : World) (x : Head) (hs : x.sm) :
    Calls Try.prog 136 #[.agg #[.string x.Key, .string x.Value], .agg #[.string x.Key, .string x.Value]] w fun e w' => e = .returned (.bool true) ∧ Below w.heap.size w w' := by
  obtain ⟨_, _⟩ := hs
  go_enter Try.func136, Try.ntmps136
  go_wp2
  go_ret
  exact ⟨rfl, by repeat (first | with_reducible exact Below.refl _ _ | with_reducible assumption | ((with_reducible refine Below.setCell ?_ ?_ _); rotate_left; (simp <;> omega)) | ((with_reducible refine Below.alloc ?_ ?_ _); rotate_left; (simp <;> omega)))⟩
theorem eqHeadS_c (w : World) (l : List Head) {A B : Option Addr} {c d : Nat} (hc : l.length ≤ c) (hA : Row kHead w A l) (hd : l.length ≤ d) (hB : Row kHead w B l) (hs : (l.length ≤ 1048576 ∧ ∀ y ∈ l, y.sm)) :
    Calls Try.prog 133 #[.slice A l.length c, .slice B l.length d] w fun e w' => e = .returned (.bool true) ∧ Below w.heap.size w w' := by
  have hl : l.length ≤ 1048576 := hs.1
  have HS := Lib.hid hs
  clear hs
  have hu := Try.underlying168
  have hu2 := Try.underlying146
  go_enter Try.func133, Try.ntmps133
  go_wp2
  go_loopw [5] (fun i wr => ∃ k : Nat, k ≤ l.length ∧ i = .int .i64 k ∧ Below w.heap.size w wr) (fun i _ => l.length - (intOf i).toNat)
  case atStart => exact ⟨0, Nat.zero_le _, rfl, Below.refl _ _⟩
  case round =>
    obtain ⟨k, hk, rfl, hb⟩ := hrel
    by_cases hlt : k < l.length
    · obtain ⟨ad, x, rfl, hx, p0, p1⟩ := Head.at (Row_below hA hb) k hlt
      obtain ⟨bd, y, rfl, hy, q0, q1⟩ := Head.at (Row_below hB hb) k hlt
      obtain rfl : x = y := by rw [hx] at hy; exact Option.some.inj hy
      clear hy
      have Sx := Lib.hid (HS.out.2 x (List.mem_of_getElem? hx))
      clear hx
      go_wp2
      refine tailW 8 (by kernel_rfl) (by kernel_rfl) ?_
      simp only [List.take_succ_cons, List.take_zero, List.drop_succ_cons, List.drop_zero]
      repeat still_step
      refine wpStill_nil ?_
      have hb1 : Below w.heap.size w wr.drew := hb.drew
      go_wp2_with (go_at_call 136; refine (eqHead_c _ x Sx.out).mono ?_; rintro e w' ⟨rfl, hb2⟩)
      go_roundw
      case rel => exact ⟨k + 1, by omega, by go_num, below_tr hb1 hb2⟩
      case measure => simp [intOf]; omega
    · go_wp2
      go_ret
      exact ⟨rfl, hb⟩
theorem eqRecord_c (w : World) (x : Record) {A5 : Option Addr} {a5 : Nat} (lA5 : x.Heads.length ≤ a5) (gA5 : Row kHead w A5 x.Heads) {B5 : Option Addr} {b5 : Nat} (lB5 : x.Heads.length ≤ b5) (gB5 : Row kHead w B5 x.Heads) (hs : x.sm) :
    Calls Try.prog 130 #[.agg #[.int .i64 x.Time, .bool x.Keyed, .string x.Key, .bool x.Gone, .string x.Value, .slice A5 x.Heads.length a5], .agg #[.int .i64 x.Time, .bool x.Keyed, .string x.Key, .bool x.Gone, .string x.Value, .slice B5 x.Heads.length b5]] w fun e w' => e = .returned (.bool true) ∧ Below w.heap.size w w' := by
  obtain ⟨_, _, s5⟩ := hs
  have S5 := Lib.hid s5
  clear s5
  go_enter Try.func130, Try.ntmps130
  have XA0 := (Box.new w #[.int .i64 x.Time, .bool x.Keyed, .string x.Key, .bool x.Gone, .string x.Value, .slice A5 x.Heads.length a5] 148).later (below_al _ (.cells #[.int .i64 x.Time, .bool x.Keyed, .string x.Key, .bool x.Gone, .string x.Value, .slice B5 x.Heads.length b5] 148))
  have XB0 := Box.new2 w (.cells #[.int .i64 x.Time, .bool x.Keyed, .string x.Key, .bool x.Gone, .string x.Value, .slice A5 x.Heads.length a5] 148) #[.int .i64 x.Time, .bool x.Keyed, .string x.Key, .bool x.Gone, .string x.Value, .slice B5 x.Heads.length b5] 148
  have BB : Below w.heap.size w ((w.alloc (.cells #[.int .i64 x.Time, .bool x.Keyed, .string x.Key, .bool x.Gone, .string x.Value, .slice A5 x.Heads.length a5] 148)).alloc (.cells #[.int .i64 x.Time, .bool x.Keyed, .string x.Key, .bool x.Gone, .string x.Value, .slice B5 x.Heads.length b5] 148)) := ((Below.refl _ _).alloc (Nat.le_refl _) _).alloc (by simp) _
  have HXA := Lib.hid XA0
  have HXB := Lib.hid XB0
  have HBB := Lib.hid BB
  clear XA0 XB0 BB
  go_upto_region 11 with fail
  go_wp2_with (go_at_call 133; refine (eqHeadS_c _ x.Heads lA5 (Row_below gA5 (HBB.out)) lB5 (Row_below gB5 (HBB.out)) S5.out).mono ?_; rintro e w5 ⟨rfl, hb5⟩; have E5 := below_tr (HBB.out) hb5; have XA5 := (HXA.out).later hb5; have gbA5 := XA5.lt rfl; have XB5 := (HXB.out).later hb5; have gbB5 := XB5.lt rfl)
  go_ret
  exact ⟨rfl, E5⟩
theorem eqRecordS_c (w : World) (l : List Record) {A B : Option Addr} {c d : Nat} (hc : l.length ≤ c) (hA : Row kRecord w A l) (hd : l.length ≤ d) (hB : Row kRecord w B l) (hs : (l.length ≤ 1048576 ∧ ∀ y ∈ l, y.sm)) :
    Calls Try.prog 127 #[.slice A l.length c, .slice B l.length d] w fun e w' => e = .returned (.bool true) ∧ Below w.heap.size w w' := by
  have hl : l.length ≤ 1048576 := hs.1
  have HS := Lib.hid hs
  clear hs
  have hu := Try.underlying148
  have hu2 := Try.underlying115
  go_enter Try.func127, Try.ntmps127
  go_wp2
  go_loopw [5] (fun i wr => ∃ k : Nat, k ≤ l.length ∧ i = .int .i64 k ∧ Below w.heap.size w wr) (fun i _ => l.length - (intOf i).toNat)
  case atStart => exact ⟨0, Nat.zero_le _, rfl, Below.refl _ _⟩
  case round =>
    obtain ⟨k, hk, rfl, hb⟩ := hrel
    by_cases hlt : k < l.length
    · obtain ⟨ad, x, A5, a5, rfl, hx, p0, p1, p2, p3, p4, p5, lA5, gA5⟩ := Record.at (Row_below hA hb) k hlt
      obtain ⟨bd, y, B5, b5, rfl, hy, q0, q1, q2, q3, q4, q5, lB5, gB5⟩ := Record.at (Row_below hB hb) k hlt
      obtain rfl : x = y := by rw [hx] at hy; exact Option.some.inj hy
      clear hy
      have Sx := Lib.hid (HS.out.2 x (List.mem_of_getElem? hx))
      clear hx
      go_wp2
      refine tailW 8 (by kernel_rfl) (by kernel_rfl) ?_
      simp only [List.take_succ_cons, List.take_zero, List.drop_succ_cons, List.drop_zero]
      repeat still_step
      refine wpStill_nil ?_
      have hb1 : Below w.heap.size w wr.drew := hb.drew
      go_wp2_with (go_at_call 130; refine (eqRecord_c _ x lA5 (Row_below gA5 (Below.refl _ _).drew) lB5 (Row_below gB5 (Below.refl _ _).drew) Sx.out).mono ?_; rintro e w' ⟨rfl, hb2⟩)
      go_roundw
      case rel => exact ⟨k + 1, by omega, by go_num, below_tr hb1 hb2⟩
      case measure => simp [intOf]; omega
    · go_wp2
      go_ret
      exact ⟨rfl, hb⟩
theorem eqBatch_c (w : World) (x : Batch) {A6 : Option Addr} {a6 : Nat} (lA6 : x.Records.length ≤ a6) (gA6 : Row kRecord w A6 x.Records) {B6 : Option Addr} {b6 : Nat} (lB6 : x.Records.length ≤ b6) (gB6 : Row kRecord w B6 x.Records) (hs : x.sm) :
    Calls Try.prog 120 #[.agg #[.int .i64 x.Base, .int .i64 x.Epoch, .int .i64 x.Producer, .int .i64 x.Turn, .int .i64 x.Seq, .int .i64 x.Flags, .slice A6 x.Records.length a6], .agg #[.int .i64 x.Base, .int .i64 x.Epoch, .int .i64 x.Producer, .int .i64 x.Turn, .int .i64 x.Seq, .int .i64 x.Flags, .slice B6 x.Records.length b6]] w fun e w' => e = .returned (.bool true) ∧ Below w.heap.size w w' := by
  have s6 := hs
  have S6 := Lib.hid s6
  clear s6
  go_enter Try.func120, Try.ntmps120
  have XA0 := (Box.new w #[.int .i64 x.Base, .int .i64 x.Epoch, .int .i64 x.Producer, .int .i64 x.Turn, .int .i64 x.Seq, .int .i64 x.Flags, .slice A6 x.Records.length a6] 117).later (below_al _ (.cells #[.int .i64 x.Base, .int .i64 x.Epoch, .int .i64 x.Producer, .int .i64 x.Turn, .int .i64 x.Seq, .int .i64 x.Flags, .slice B6 x.Records.length b6] 117))
  have XB0 := Box.new2 w (.cells #[.int .i64 x.Base, .int .i64 x.Epoch, .int .i64 x.Producer, .int .i64 x.Turn, .int .i64 x.Seq, .int .i64 x.Flags, .slice A6 x.Records.length a6] 117) #[.int .i64 x.Base, .int .i64 x.Epoch, .int .i64 x.Producer, .int .i64 x.Turn, .int .i64 x.Seq, .int .i64 x.Flags, .slice B6 x.Records.length b6] 117
  have BB : Below w.heap.size w ((w.alloc (.cells #[.int .i64 x.Base, .int .i64 x.Epoch, .int .i64 x.Producer, .int .i64 x.Turn, .int .i64 x.Seq, .int .i64 x.Flags, .slice A6 x.Records.length a6] 117)).alloc (.cells #[.int .i64 x.Base, .int .i64 x.Epoch, .int .i64 x.Producer, .int .i64 x.Turn, .int .i64 x.Seq, .int .i64 x.Flags, .slice B6 x.Records.length b6] 117)) := ((Below.refl _ _).alloc (Nat.le_refl _) _).alloc (by simp) _
  have HXA := Lib.hid XA0
  have HXB := Lib.hid XB0
  have HBB := Lib.hid BB
  clear XA0 XB0 BB
  go_upto_region 13 with fail
  go_wp2_with (go_at_call 127; refine (eqRecordS_c _ x.Records lA6 (Row_below gA6 (HBB.out)) lB6 (Row_below gB6 (HBB.out)) S6.out).mono ?_; rintro e w6 ⟨rfl, hb6⟩; have E6 := below_tr (HBB.out) hb6; have XA6 := (HXA.out).later hb6; have gbA6 := XA6.lt rfl; have XB6 := (HXB.out).later hb6; have gbB6 := XB6.lt rfl)
  go_ret
  exact ⟨rfl, E6⟩
theorem eqBatchS_c (w : World) (l : List Batch) {A B : Option Addr} {c d : Nat} (hc : l.length ≤ c) (hA : Row kBatch w A l) (hd : l.length ≤ d) (hB : Row kBatch w B l) (hs : (l.length ≤ 1048576 ∧ ∀ y ∈ l, y.sm)) :
    Calls Try.prog 113 #[.slice A l.length c, .slice B l.length d] w fun e w' => e = .returned (.bool true) ∧ Below w.heap.size w w' := by
  have hl : l.length ≤ 1048576 := hs.1
  have HS := Lib.hid hs
  clear hs
  have hu := Try.underlying117
  have hu2 := Try.underlying104
  go_enter Try.func113, Try.ntmps113
  go_wp2
  go_loopw [5] (fun i wr => ∃ k : Nat, k ≤ l.length ∧ i = .int .i64 k ∧ Below w.heap.size w wr) (fun i _ => l.length - (intOf i).toNat)
  case atStart => exact ⟨0, Nat.zero_le _, rfl, Below.refl _ _⟩
  case round =>
    obtain ⟨k, hk, rfl, hb⟩ := hrel
    by_cases hlt : k < l.length
    · obtain ⟨ad, x, A6, a6, rfl, hx, p0, p1, p2, p3, p4, p5, p6, lA6, gA6⟩ := Batch.at (Row_below hA hb) k hlt
      obtain ⟨bd, y, B6, b6, rfl, hy, q0, q1, q2, q3, q4, q5, q6, lB6, gB6⟩ := Batch.at (Row_below hB hb) k hlt
      obtain rfl : x = y := by rw [hx] at hy; exact Option.some.inj hy
      clear hy
      have Sx := Lib.hid (HS.out.2 x (List.mem_of_getElem? hx))
      clear hx
      go_wp2
      refine tailW 8 (by kernel_rfl) (by kernel_rfl) ?_
      simp only [List.take_succ_cons, List.take_zero, List.drop_succ_cons, List.drop_zero]
      repeat still_step
      refine wpStill_nil ?_
      have hb1 : Below w.heap.size w wr.drew := hb.drew
      go_wp2_with (go_at_call 120; refine (eqBatch_c _ x lA6 (Row_below gA6 (Below.refl _ _).drew) lB6 (Row_below gB6 (Below.refl _ _).drew) Sx.out).mono ?_; rintro e w' ⟨rfl, hb2⟩)
      go_roundw
      case rel => exact ⟨k + 1, by omega, by go_num, below_tr hb1 hb2⟩
      case measure => simp [intOf]; omega
    · go_wp2
      go_ret
      exact ⟨rfl, hb⟩
theorem eqSegment_c (w : World) (x : Segment) {A1 : Option Addr} {a1 : Nat} (lA1 : x.Batches.length ≤ a1) (gA1 : Row kBatch w A1 x.Batches) {B1 : Option Addr} {b1 : Nat} (lB1 : x.Batches.length ≤ b1) (gB1 : Row kBatch w B1 x.Batches) (hs : x.sm) :
    Calls Try.prog 103 #[.agg #[.int .i64 x.Base, .slice A1 x.Batches.length a1], .agg #[.int .i64 x.Base, .slice B1 x.Batches.length b1]] w fun e w' => e = .returned (.bool true) ∧ Below w.heap.size w w' := by
  have s1 := hs
  have S1 := Lib.hid s1
  clear s1
  go_enter Try.func103, Try.ntmps103
  have XA0 := (Box.new w #[.int .i64 x.Base, .slice A1 x.Batches.length a1] 143).later (below_al _ (.cells #[.int .i64 x.Base, .slice B1 x.Batches.length b1] 143))
  have XB0 := Box.new2 w (.cells #[.int .i64 x.Base, .slice A1 x.Batches.length a1] 143) #[.int .i64 x.Base, .slice B1 x.Batches.length b1] 143
  have BB : Below w.heap.size w ((w.alloc (.cells #[.int .i64 x.Base, .slice A1 x.Batches.length a1] 143)).alloc (.cells #[.int .i64 x.Base, .slice B1 x.Batches.length b1] 143)) := ((Below.refl _ _).alloc (Nat.le_refl _) _).alloc (by simp) _
  have HXA := Lib.hid XA0
  have HXB := Lib.hid XB0
  have HBB := Lib.hid BB
  clear XA0 XB0 BB
  go_upto_region 3 with fail
  go_wp2_with (go_at_call 113; refine (eqBatchS_c _ x.Batches lA1 (Row_below gA1 (HBB.out)) lB1 (Row_below gB1 (HBB.out)) S1.out).mono ?_; rintro e w1 ⟨rfl, hb1⟩; have E1 := below_tr (HBB.out) hb1; have XA1 := (HXA.out).later hb1; have gbA1 := XA1.lt rfl; have XB1 := (HXB.out).later hb1; have gbB1 := XB1.lt rfl)
  go_ret
  exact ⟨rfl, E1⟩
theorem eqSegmentS_c (w : World) (l : List Segment) {A B : Option Addr} {c d : Nat} (hc : l.length ≤ c) (hA : Row kSegment w A l) (hd : l.length ≤ d) (hB : Row kSegment w B l) (hs : (l.length ≤ 1048576 ∧ ∀ y ∈ l, y.sm)) :
    Calls Try.prog 74 #[.slice A l.length c, .slice B l.length d] w fun e w' => e = .returned (.bool true) ∧ Below w.heap.size w w' := by
  have hl : l.length ≤ 1048576 := hs.1
  have HS := Lib.hid hs
  clear hs
  have hu := Try.underlying143
  have hu2 := Try.underlying57
  go_enter Try.func74, Try.ntmps74
  go_wp2
  go_loopw [5] (fun i wr => ∃ k : Nat, k ≤ l.length ∧ i = .int .i64 k ∧ Below w.heap.size w wr) (fun i _ => l.length - (intOf i).toNat)
  case atStart => exact ⟨0, Nat.zero_le _, rfl, Below.refl _ _⟩
  case round =>
    obtain ⟨k, hk, rfl, hb⟩ := hrel
    by_cases hlt : k < l.length
    · obtain ⟨ad, x, A1, a1, rfl, hx, p0, p1, lA1, gA1⟩ := Segment.at (Row_below hA hb) k hlt
      obtain ⟨bd, y, B1, b1, rfl, hy, q0, q1, lB1, gB1⟩ := Segment.at (Row_below hB hb) k hlt
      obtain rfl : x = y := by rw [hx] at hy; exact Option.some.inj hy
      clear hy
      have Sx := Lib.hid (HS.out.2 x (List.mem_of_getElem? hx))
      clear hx
      go_wp2
      refine tailW 8 (by kernel_rfl) (by kernel_rfl) ?_
      simp only [List.take_succ_cons, List.take_zero, List.drop_succ_cons, List.drop_zero]
      repeat still_step
      refine wpStill_nil ?_
      have hb1 : Below w.heap.size w wr.drew := hb.drew
      go_wp2_with (go_at_call 103; refine (eqSegment_c _ x lA1 (Row_below gA1 (Below.refl _ _).drew) lB1 (Row_below gB1 (Below.refl _ _).drew) Sx.out).mono ?_; rintro e w' ⟨rfl, hb2⟩)
      go_roundw
      case rel => exact ⟨k + 1, by omega, by go_num, below_tr hb1 hb2⟩
      case measure => simp [intOf]; omega
    · go_wp2
      go_ret
      exact ⟨rfl, hb⟩
theorem eqLog_c (w : World) (x : Log) {A3 : Option Addr} {a3 : Nat} (lA3 : x.Segments.length ≤ a3) (gA3 : Row kSegment w A3 x.Segments) {B3 : Option Addr} {b3 : Nat} (lB3 : x.Segments.length ≤ b3) (gB3 : Row kSegment w B3 x.Segments) (hs : x.sm) :
    Calls Try.prog 33 #[.agg #[.int .i64 x.Start, .int .i64 x.Next, .int .i64 x.Roll, .slice A3 x.Segments.length a3], .agg #[.int .i64 x.Start, .int .i64 x.Next, .int .i64 x.Roll, .slice B3 x.Segments.length b3]] w fun e w' => e = .returned (.bool true) ∧ Below w.heap.size w w' := by
  have s3 := hs
  have S3 := Lib.hid s3
  clear s3
  go_enter Try.func33, Try.ntmps33
  have XA0 := (Box.new w #[.int .i64 x.Start, .int .i64 x.Next, .int .i64 x.Roll, .slice A3 x.Segments.length a3] 59).later (below_al _ (.cells #[.int .i64 x.Start, .int .i64 x.Next, .int .i64 x.Roll, .slice B3 x.Segments.length b3] 59))
  have XB0 := Box.new2 w (.cells #[.int .i64 x.Start, .int .i64 x.Next, .int .i64 x.Roll, .slice A3 x.Segments.length a3] 59) #[.int .i64 x.Start, .int .i64 x.Next, .int .i64 x.Roll, .slice B3 x.Segments.length b3] 59
  have BB : Below w.heap.size w ((w.alloc (.cells #[.int .i64 x.Start, .int .i64 x.Next, .int .i64 x.Roll, .slice A3 x.Segments.length a3] 59)).alloc (.cells #[.int .i64 x.Start, .int .i64 x.Next, .int .i64 x.Roll, .slice B3 x.Segments.length b3] 59)) := ((Below.refl _ _).alloc (Nat.le_refl _) _).alloc (by simp) _
  have HXA := Lib.hid XA0
  have HXB := Lib.hid XB0
  have HBB := Lib.hid BB
  clear XA0 XB0 BB
  go_upto_region 7 with fail
  go_wp2_with (go_at_call 74; refine (eqSegmentS_c _ x.Segments lA3 (Row_below gA3 (HBB.out)) lB3 (Row_below gB3 (HBB.out)) S3.out).mono ?_; rintro e w3 ⟨rfl, hb3⟩; have E3 := below_tr (HBB.out) hb3; have XA3 := (HXA.out).later hb3; have gbA3 := XA3.lt rfl; have XB3 := (HXB.out).later hb3; have gbB3 := XB3.lt rfl)
  go_ret
  exact ⟨rfl, E3⟩
theorem eqReplica_c (w : World) (x : Replica) {A3 : Option Addr} {a3 : Nat} (lA3 : x.Log.Segments.length ≤ a3) (gA3 : Row kSegment w A3 x.Log.Segments) {B3 : Option Addr} {b3 : Nat} (lB3 : x.Log.Segments.length ≤ b3) (gB3 : Row kSegment w B3 x.Log.Segments) (hs : x.sm) :
    Calls Try.prog 92 #[.agg #[.int .i64 x.Log.Start, .int .i64 x.Log.Next, .int .i64 x.Log.Roll, .slice A3 x.Log.Segments.length a3, .int .i64 x.Mark, .bool x.Up], .agg #[.int .i64 x.Log.Start, .int .i64 x.Log.Next, .int .i64 x.Log.Roll, .slice B3 x.Log.Segments.length b3, .int .i64 x.Mark, .bool x.Up]] w fun e w' => e = .returned (.bool true) ∧ Below w.heap.size w w' := by
  have s0 := hs
  have S0 := Lib.hid s0
  clear s0
  go_enter Try.func92, Try.ntmps92
  have XA0 := (Box.new w #[.int .i64 x.Log.Start, .int .i64 x.Log.Next, .int .i64 x.Log.Roll, .slice A3 x.Log.Segments.length a3, .int .i64 x.Mark, .bool x.Up] 90).later (below_al _ (.cells #[.int .i64 x.Log.Start, .int .i64 x.Log.Next, .int .i64 x.Log.Roll, .slice B3 x.Log.Segments.length b3, .int .i64 x.Mark, .bool x.Up] 90))
  have XB0 := Box.new2 w (.cells #[.int .i64 x.Log.Start, .int .i64 x.Log.Next, .int .i64 x.Log.Roll, .slice A3 x.Log.Segments.length a3, .int .i64 x.Mark, .bool x.Up] 90) #[.int .i64 x.Log.Start, .int .i64 x.Log.Next, .int .i64 x.Log.Roll, .slice B3 x.Log.Segments.length b3, .int .i64 x.Mark, .bool x.Up] 90
  have BB : Below w.heap.size w ((w.alloc (.cells #[.int .i64 x.Log.Start, .int .i64 x.Log.Next, .int .i64 x.Log.Roll, .slice A3 x.Log.Segments.length a3, .int .i64 x.Mark, .bool x.Up] 90)).alloc (.cells #[.int .i64 x.Log.Start, .int .i64 x.Log.Next, .int .i64 x.Log.Roll, .slice B3 x.Log.Segments.length b3, .int .i64 x.Mark, .bool x.Up] 90)) := ((Below.refl _ _).alloc (Nat.le_refl _) _).alloc (by simp) _
  have HXA := Lib.hid XA0
  have HXB := Lib.hid XB0
  have HBB := Lib.hid BB
  clear XA0 XB0 BB
  go_upto_region 1 with fail
  go_wp2_with (go_at_call 33; refine (eqLog_c _ x.Log lA3 (Row_below gA3 (HBB.out)) lB3 (Row_below gB3 (HBB.out)) S0.out).mono ?_; rintro e w0 ⟨rfl, hb0⟩; have E0 := below_tr (HBB.out) hb0; have XA0 := (HXA.out).later hb0; have uA0_4 := XA0 4 _ rfl; have uA0_5 := XA0 5 _ rfl; have gbA0 := XA0.lt rfl; have XB0 := (HXB.out).later hb0; have uB0_4 := XB0 4 _ rfl; have uB0_5 := XB0 5 _ rfl; have gbB0 := XB0.lt rfl)
  go_ret
  exact ⟨rfl, E0⟩
theorem eqReplicaS_c (w : World) (l : List Replica) {A B : Option Addr} {c d : Nat} (hc : l.length ≤ c) (hA : Row kReplica w A l) (hd : l.length ≤ d) (hB : Row kReplica w B l) (hs : (l.length ≤ 1048576 ∧ ∀ y ∈ l, y.sm)) :
    Calls Try.prog 54 #[.slice A l.length c, .slice B l.length d] w fun e w' => e = .returned (.bool true) ∧ Below w.heap.size w w' := by
  have hl : l.length ≤ 1048576 := hs.1
  have HS := Lib.hid hs
  clear hs
  have hu := Try.underlying90
  have hu2 := Try.underlying36
  go_enter Try.func54, Try.ntmps54
  go_wp2
  go_loopw [5] (fun i wr => ∃ k : Nat, k ≤ l.length ∧ i = .int .i64 k ∧ Below w.heap.size w wr) (fun i _ => l.length - (intOf i).toNat)
  case atStart => exact ⟨0, Nat.zero_le _, rfl, Below.refl _ _⟩
  case round =>
    obtain ⟨k, hk, rfl, hb⟩ := hrel
    by_cases hlt : k < l.length
    · obtain ⟨ad, x, A3, a3, rfl, hx, p0, p1, p2, p3, p4, p5, lA3, gA3⟩ := Replica.at (Row_below hA hb) k hlt
      obtain ⟨bd, y, B3, b3, rfl, hy, q0, q1, q2, q3, q4, q5, lB3, gB3⟩ := Replica.at (Row_below hB hb) k hlt
      obtain rfl : x = y := by rw [hx] at hy; exact Option.some.inj hy
      clear hy
      have Sx := Lib.hid (HS.out.2 x (List.mem_of_getElem? hx))
      clear hx
      go_wp2
      refine tailW 8 (by kernel_rfl) (by kernel_rfl) ?_
      simp only [List.take_succ_cons, List.take_zero, List.drop_succ_cons, List.drop_zero]
      repeat still_step
      refine wpStill_nil ?_
      have hb1 : Below w.heap.size w wr.drew := hb.drew
      go_wp2_with (go_at_call 92; refine (eqReplica_c _ x lA3 (Row_below gA3 (Below.refl _ _).drew) lB3 (Row_below gB3 (Below.refl _ _).drew) Sx.out).mono ?_; rintro e w' ⟨rfl, hb2⟩)
      go_roundw
      case rel => exact ⟨k + 1, by omega, by go_num, below_tr hb1 hb2⟩
      case measure => simp [intOf]; omega
    · go_wp2
      go_ret
      exact ⟨rfl, hb⟩
theorem eqIntS_c (w : World) (l : List Int) {A B : Option Addr} {c d : Nat} (hc : l.length ≤ c) (hA : Row (Ki.int .i64) w A l) (hd : l.length ≤ d) (hB : Row (Ki.int .i64) w B l) (hs : (l.length ≤ 1048576)) :
    Calls Try.prog 55 #[.slice A l.length c, .slice B l.length d] w fun e w' => e = .returned (.bool true) ∧ Below w.heap.size w w' := by
  have hl : l.length ≤ 1048576 := hs
  have HS := Lib.hid hs
  clear hs
  have hu := Try.underlying3
  have hu2 := Try.underlying37
  go_enter Try.func55, Try.ntmps55
  go_wp2
  go_loopw [5] (fun i wr => ∃ k : Nat, k ≤ l.length ∧ i = .int .i64 k ∧ Below w.heap.size w wr) (fun i _ => l.length - (intOf i).toNat)
  case atStart => exact ⟨0, Nat.zero_le _, rfl, Below.refl _ _⟩
  case round =>
    obtain ⟨k, hk, rfl, hb⟩ := hrel
    by_cases hlt : k < l.length
    · obtain ⟨ad, x, cs, rfl, hx, hK, hca⟩ := Row_get (Row_below hA hb) k hlt
      obtain ⟨bd, y, ds, rfl, hy, hJ, hcb⟩ := Row_get (Row_below hB hb) k hlt
      obtain rfl : x = y := by rw [hx] at hy; exact Option.some.inj hy
      clear hy
      obtain rfl := hK
      obtain rfl := hJ
      have p0 : wr.cell? (ad.add k) = some (.int .i64 x) := by simpa [Ki.int, Ki.scalar] using hca 0 _ rfl
      have q0 : wr.cell? (bd.add k) = some (.int .i64 x) := by simpa [Ki.int, Ki.scalar] using hcb 0 _ rfl
      clear hca hcb hx
      go_wp2
      try (go_quiet (fail); go_wp2)
      go_roundw
      case rel => exact ⟨k + 1, by omega, by go_num, by repeat (first | with_reducible exact Below.refl _ _ | with_reducible assumption | with_reducible apply Below.drew | with_reducible refine below_dn ?_ _ | ((with_reducible refine Below.setCell ?_ ?_ _); rotate_left; (simp <;> omega)) | ((with_reducible refine Below.alloc ?_ ?_ _); rotate_left; (simp <;> omega)))⟩
      case measure => simp [intOf]; omega
    · go_wp2
      go_ret
      exact ⟨rfl, hb⟩
set_option maxHeartbeats 4000000 in
theorem eqPart_c (w : World) (x : Part) {A0 : Option Addr} {a0 : Nat} (lA0 : x.Replicas.length ≤ a0) (gA0 : Row kReplica w A0 x.Replicas) {A3 : Option Addr} {a3 : Nat} (lA3 : x.Insync.length ≤ a3) (gA3 : Row (Ki.int .i64) w A3 x.Insync) {A4 : Option Addr} {a4 : Nat} (lA4 : x.Known.length ≤ a4) (gA4 : Row (Ki.int .i64) w A4 x.Known) {B0 : Option Addr} {b0 : Nat} (lB0 : x.Replicas.length ≤ b0) (gB0 : Row kReplica w B0 x.Replicas) {B3 : Option Addr} {b3 : Nat} (lB3 : x.Insync.length ≤ b3) (gB3 : Row (Ki.int .i64) w B3 x.Insync) {B4 : Option Addr} {b4 : Nat} (lB4 : x.Known.length ≤ b4) (gB4 : Row (Ki.int .i64) w B4 x.Known) (hs : x.sm) :
    Calls Try.prog 21 #[.agg #[.slice A0 x.Replicas.length a0, .int .i64 x.Leader, .int .i64 x.Epoch, .slice A3 x.Insync.length a3, .slice A4 x.Known.length a4, .int .i64 x.Least], .agg #[.slice B0 x.Replicas.length b0, .int .i64 x.Leader, .int .i64 x.Epoch, .slice B3 x.Insync.length b3, .slice B4 x.Known.length b4, .int .i64 x.Least]] w fun e w' => e = .returned (.bool true) ∧ Below w.heap.size w w' := by
  obtain ⟨s0, s3, s4⟩ := hs
  have S0 := Lib.hid s0
  clear s0
  have S3 := Lib.hid s3
  clear s3
  have S4 := Lib.hid s4
  clear s4
  go_enter Try.func21, Try.ntmps21
  have XA0 := (Box.new w #[.slice A0 x.Replicas.length a0, .int .i64 x.Leader, .int .i64 x.Epoch, .slice A3 x.Insync.length a3, .slice A4 x.Known.length a4, .int .i64 x.Least] 39).later (below_al _ (.cells #[.slice B0 x.Replicas.length b0, .int .i64 x.Leader, .int .i64 x.Epoch, .slice B3 x.Insync.length b3, .slice B4 x.Known.length b4, .int .i64 x.Least] 39))
  have XB0 := Box.new2 w (.cells #[.slice A0 x.Replicas.length a0, .int .i64 x.Leader, .int .i64 x.Epoch, .slice A3 x.Insync.length a3, .slice A4 x.Known.length a4, .int .i64 x.Least] 39) #[.slice B0 x.Replicas.length b0, .int .i64 x.Leader, .int .i64 x.Epoch, .slice B3 x.Insync.length b3, .slice B4 x.Known.length b4, .int .i64 x.Least] 39
  have BB : Below w.heap.size w ((w.alloc (.cells #[.slice A0 x.Replicas.length a0, .int .i64 x.Leader, .int .i64 x.Epoch, .slice A3 x.Insync.length a3, .slice A4 x.Known.length a4, .int .i64 x.Least] 39)).alloc (.cells #[.slice B0 x.Replicas.length b0, .int .i64 x.Leader, .int .i64 x.Epoch, .slice B3 x.Insync.length b3, .slice B4 x.Known.length b4, .int .i64 x.Least] 39)) := ((Below.refl _ _).alloc (Nat.le_refl _) _).alloc (by simp) _
  have HXA := Lib.hid XA0
  have HXB := Lib.hid XB0
  have HBB := Lib.hid BB
  clear XA0 XB0 BB
  go_upto_region 1 with fail
  go_upto_region 7 with (go_at_call 54; refine (eqReplicaS_c _ x.Replicas lA0 (Row_below gA0 (HBB.out)) lB0 (Row_below gB0 (HBB.out)) S0.out).mono ?_; rintro e w0 ⟨rfl, hb0⟩; have E0 := below_tr (HBB.out) hb0; have XA0 := (HXA.out).later hb0; have uA0_1 := XA0 1 _ rfl; have uA0_2 := XA0 2 _ rfl; have uA0_3 := XA0 3 _ rfl; have uA0_4 := XA0 4 _ rfl; have uA0_5 := XA0 5 _ rfl; have gbA0 := XA0.lt rfl; have XB0 := (HXB.out).later hb0; have uB0_1 := XB0 1 _ rfl; have uB0_2 := XB0 2 _ rfl; have uB0_3 := XB0 3 _ rfl; have uB0_4 := XB0 4 _ rfl; have uB0_5 := XB0 5 _ rfl; have gbB0 := XB0.lt rfl)
  go_upto_region 9 with (go_at_call 55; refine (eqIntS_c _ x.Insync lA3 (Row_below gA3 (E0)) lB3 (Row_below gB3 (E0)) S3.out).mono ?_; rintro e w3 ⟨rfl, hb3⟩; have E3 := below_tr (E0) hb3; have XA3 := (XA0).later hb3; clear XA0; have uA3_4 := XA3 4 _ rfl; have uA3_5 := XA3 5 _ rfl; have gbA3 := XA3.lt rfl; have XB3 := (XB0).later hb3; clear XB0; have uB3_4 := XB3 4 _ rfl; have uB3_5 := XB3 5 _ rfl; have gbB3 := XB3.lt rfl)
  go_wp2_with (go_at_call 55; refine (eqIntS_c _ x.Known lA4 (Row_below gA4 (E3)) lB4 (Row_below gB4 (E3)) S4.out).mono ?_; rintro e w4 ⟨rfl, hb4⟩; have E4 := below_tr (E3) hb4; have XA4 := (XA3).later hb4; clear XA3; have uA4_5 := XA4 5 _ rfl; have gbA4 := XA4.lt rfl; have XB4 := (XB3).later hb4; clear XB3; have uB4_5 := XB4 5 _ rfl; have gbB4 := XB4.lt rfl)
  go_ret
  exact ⟨rfl, E4⟩
theorem eqTxn_c (w : World) (x : Txn) {A4 : Option Addr} {a4 : Nat} (lA4 : x.Parts.length ≤ a4) (gA4 : Row (Ki.int .i64) w A4 x.Parts) {B4 : Option Addr} {b4 : Nat} (lB4 : x.Parts.length ≤ b4) (gB4 : Row (Ki.int .i64) w B4 x.Parts) (hs : x.sm) :
    Calls Try.prog 95 #[.agg #[.string x.Name, .int .i64 x.Producer, .int .i64 x.Turn, .bool x.Open, .slice A4 x.Parts.length a4], .agg #[.string x.Name, .int .i64 x.Producer, .int .i64 x.Turn, .bool x.Open, .slice B4 x.Parts.length b4]] w fun e w' => e = .returned (.bool true) ∧ Below w.heap.size w w' := by
  obtain ⟨_, s4⟩ := hs
  have S4 := Lib.hid s4
  clear s4
  go_enter Try.func95, Try.ntmps95
  have XA0 := (Box.new w #[.string x.Name, .int .i64 x.Producer, .int .i64 x.Turn, .bool x.Open, .slice A4 x.Parts.length a4] 136).later (below_al _ (.cells #[.string x.Name, .int .i64 x.Producer, .int .i64 x.Turn, .bool x.Open, .slice B4 x.Parts.length b4] 136))
  have XB0 := Box.new2 w (.cells #[.string x.Name, .int .i64 x.Producer, .int .i64 x.Turn, .bool x.Open, .slice A4 x.Parts.length a4] 136) #[.string x.Name, .int .i64 x.Producer, .int .i64 x.Turn, .bool x.Open, .slice B4 x.Parts.length b4] 136
  have BB : Below w.heap.size w ((w.alloc (.cells #[.string x.Name, .int .i64 x.Producer, .int .i64 x.Turn, .bool x.Open, .slice A4 x.Parts.length a4] 136)).alloc (.cells #[.string x.Name, .int .i64 x.Producer, .int .i64 x.Turn, .bool x.Open, .slice B4 x.Parts.length b4] 136)) := ((Below.refl _ _).alloc (Nat.le_refl _) _).alloc (by simp) _
  have HXA := Lib.hid XA0
  have HXB := Lib.hid XB0
  have HBB := Lib.hid BB
  clear XA0 XB0 BB
  go_upto_region 9 with fail
  go_wp2_with (go_at_call 55; refine (eqIntS_c _ x.Parts lA4 (Row_below gA4 (HBB.out)) lB4 (Row_below gB4 (HBB.out)) S4.out).mono ?_; rintro e w4 ⟨rfl, hb4⟩; have E4 := below_tr (HBB.out) hb4; have XA4 := (HXA.out).later hb4; have gbA4 := XA4.lt rfl; have XB4 := (HXB.out).later hb4; have gbB4 := XB4.lt rfl)
  go_ret
  exact ⟨rfl, E4⟩
theorem eqLogS_c (w : World) (l : List Log) {A B : Option Addr} {c d : Nat} (hc : l.length ≤ c) (hA : Row kLog w A l) (hd : l.length ≤ d) (hB : Row kLog w B l) (hs : (l.length ≤ 1048576 ∧ ∀ y ∈ l, y.sm)) :
    Calls Try.prog 60 #[.slice A l.length c, .slice B l.length d] w fun e w' => e = .returned (.bool true) ∧ Below w.heap.size w w' := by
  have hl : l.length ≤ 1048576 := hs.1
  have HS := Lib.hid hs
  clear hs
  have hu := Try.underlying59
  have hu2 := Try.underlying44
  go_enter Try.func60, Try.ntmps60
  go_wp2
  go_loopw [5] (fun i wr => ∃ k : Nat, k ≤ l.length ∧ i = .int .i64 k ∧ Below w.heap.size w wr) (fun i _ => l.length - (intOf i).toNat)
  case atStart => exact ⟨0, Nat.zero_le _, rfl, Below.refl _ _⟩
  case round =>
    obtain ⟨k, hk, rfl, hb⟩ := hrel
    by_cases hlt : k < l.length
    · obtain ⟨ad, x, A3, a3, rfl, hx, p0, p1, p2, p3, lA3, gA3⟩ := Log.at (Row_below hA hb) k hlt
      obtain ⟨bd, y, B3, b3, rfl, hy, q0, q1, q2, q3, lB3, gB3⟩ := Log.at (Row_below hB hb) k hlt
      obtain rfl : x = y := by rw [hx] at hy; exact Option.some.inj hy
      clear hy
      have Sx := Lib.hid (HS.out.2 x (List.mem_of_getElem? hx))
      clear hx
      go_wp2
      refine tailW 8 (by kernel_rfl) (by kernel_rfl) ?_
      simp only [List.take_succ_cons, List.take_zero, List.drop_succ_cons, List.drop_zero]
      repeat still_step
      refine wpStill_nil ?_
      have hb1 : Below w.heap.size w wr.drew := hb.drew
      go_wp2_with (go_at_call 33; refine (eqLog_c _ x lA3 (Row_below gA3 (Below.refl _ _).drew) lB3 (Row_below gB3 (Below.refl _ _).drew) Sx.out).mono ?_; rintro e w' ⟨rfl, hb2⟩)
      go_roundw
      case rel => exact ⟨k + 1, by omega, by go_num, below_tr hb1 hb2⟩
      case measure => simp [intOf]; omega
    · go_wp2
      go_ret
      exact ⟨rfl, hb⟩
theorem eqTxnS_c (w : World) (l : List Txn) {A B : Option Addr} {c d : Nat} (hc : l.length ≤ c) (hA : Row kTxn w A l) (hd : l.length ≤ d) (hB : Row kTxn w B l) (hs : (l.length ≤ 1048576 ∧ ∀ y ∈ l, y.sm)) :
    Calls Try.prog 61 #[.slice A l.length c, .slice B l.length d] w fun e w' => e = .returned (.bool true) ∧ Below w.heap.size w w' := by
  have hl : l.length ≤ 1048576 := hs.1
  have HS := Lib.hid hs
  clear hs
  have hu := Try.underlying136
  have hu2 := Try.underlying45
  go_enter Try.func61, Try.ntmps61
  go_wp2
  go_loopw [5] (fun i wr => ∃ k : Nat, k ≤ l.length ∧ i = .int .i64 k ∧ Below w.heap.size w wr) (fun i _ => l.length - (intOf i).toNat)
  case atStart => exact ⟨0, Nat.zero_le _, rfl, Below.refl _ _⟩
  case round =>
    obtain ⟨k, hk, rfl, hb⟩ := hrel
    by_cases hlt : k < l.length
    · obtain ⟨ad, x, A4, a4, rfl, hx, p0, p1, p2, p3, p4, lA4, gA4⟩ := Txn.at (Row_below hA hb) k hlt
      obtain ⟨bd, y, B4, b4, rfl, hy, q0, q1, q2, q3, q4, lB4, gB4⟩ := Txn.at (Row_below hB hb) k hlt
      obtain rfl : x = y := by rw [hx] at hy; exact Option.some.inj hy
      clear hy
      have Sx := Lib.hid (HS.out.2 x (List.mem_of_getElem? hx))
      clear hx
      go_wp2
      refine tailW 8 (by kernel_rfl) (by kernel_rfl) ?_
      simp only [List.take_succ_cons, List.take_zero, List.drop_succ_cons, List.drop_zero]
      repeat still_step
      refine wpStill_nil ?_
      have hb1 : Below w.heap.size w wr.drew := hb.drew
      go_wp2_with (go_at_call 95; refine (eqTxn_c _ x lA4 (Row_below gA4 (Below.refl _ _).drew) lB4 (Row_below gB4 (Below.refl _ _).drew) Sx.out).mono ?_; rintro e w' ⟨rfl, hb2⟩)
      go_roundw
      case rel => exact ⟨k + 1, by omega, by go_num, below_tr hb1 hb2⟩
      case measure => simp [intOf]; omega
    · go_wp2
      go_ret
      exact ⟨rfl, hb⟩
set_option maxHeartbeats 4000000 in
theorem eqStore_c (w : World) (x : Store) {A0 : Option Addr} {a0 : Nat} (lA0 : x.Logs.length ≤ a0) (gA0 : Row kLog w A0 x.Logs) {A1 : Option Addr} {a1 : Nat} (lA1 : x.Txns.length ≤ a1) (gA1 : Row kTxn w A1 x.Txns) {B0 : Option Addr} {b0 : Nat} (lB0 : x.Logs.length ≤ b0) (gB0 : Row kLog w B0 x.Logs) {B1 : Option Addr} {b1 : Nat} (lB1 : x.Txns.length ≤ b1) (gB1 : Row kTxn w B1 x.Txns) (hs : x.sm) :
    Calls Try.prog 26 #[.agg #[.slice A0 x.Logs.length a0, .slice A1 x.Txns.length a1, .int .i64 x.Used], .agg #[.slice B0 x.Logs.length b0, .slice B1 x.Txns.length b1, .int .i64 x.Used]] w fun e w' => e = .returned (.bool true) ∧ Below w.heap.size w w' := by
  obtain ⟨s0, s1⟩ := hs
  have S0 := Lib.hid s0
  clear s0
  have S1 := Lib.hid s1
  clear s1
  go_enter Try.func26, Try.ntmps26
  have XA0 := (Box.new w #[.slice A0 x.Logs.length a0, .slice A1 x.Txns.length a1, .int .i64 x.Used] 47).later (below_al _ (.cells #[.slice B0 x.Logs.length b0, .slice B1 x.Txns.length b1, .int .i64 x.Used] 47))
  have XB0 := Box.new2 w (.cells #[.slice A0 x.Logs.length a0, .slice A1 x.Txns.length a1, .int .i64 x.Used] 47) #[.slice B0 x.Logs.length b0, .slice B1 x.Txns.length b1, .int .i64 x.Used] 47
  have BB : Below w.heap.size w ((w.alloc (.cells #[.slice A0 x.Logs.length a0, .slice A1 x.Txns.length a1, .int .i64 x.Used] 47)).alloc (.cells #[.slice B0 x.Logs.length b0, .slice B1 x.Txns.length b1, .int .i64 x.Used] 47)) := ((Below.refl _ _).alloc (Nat.le_refl _) _).alloc (by simp) _
  have HXA := Lib.hid XA0
  have HXB := Lib.hid XB0
  have HBB := Lib.hid BB
  clear XA0 XB0 BB
  go_upto_region 1 with fail
  go_upto_region 3 with (go_at_call 60; refine (eqLogS_c _ x.Logs lA0 (Row_below gA0 (HBB.out)) lB0 (Row_below gB0 (HBB.out)) S0.out).mono ?_; rintro e w0 ⟨rfl, hb0⟩; have E0 := below_tr (HBB.out) hb0; have XA0 := (HXA.out).later hb0; have uA0_1 := XA0 1 _ rfl; have uA0_2 := XA0 2 _ rfl; have gbA0 := XA0.lt rfl; have XB0 := (HXB.out).later hb0; have uB0_1 := XB0 1 _ rfl; have uB0_2 := XB0 2 _ rfl; have gbB0 := XB0.lt rfl)
  go_wp2_with (go_at_call 61; refine (eqTxnS_c _ x.Txns lA1 (Row_below gA1 (E0)) lB1 (Row_below gB1 (E0)) S1.out).mono ?_; rintro e w1 ⟨rfl, hb1⟩; have E1 := below_tr (E0) hb1; have XA1 := (XA0).later hb1; clear XA0; have uA1_2 := XA1 2 _ rfl; have gbA1 := XA1.lt rfl; have XB1 := (XB0).later hb1; clear XB0; have uB1_2 := XB1 2 _ rfl; have gbB1 := XB1.lt rfl)
  go_ret
  exact ⟨rfl, E1⟩
theorem eqSlot_c (w : World) (x : Slot) (hs : x.sm) :
    Calls Try.prog 90 #[.agg #[.string x.Topic, .int .i64 x.Part], .agg #[.string x.Topic, .int .i64 x.Part]] w fun e w' => e = .returned (.bool true) ∧ Below w.heap.size w w' := by
  have s_ := hs
  go_enter Try.func90, Try.ntmps90
  go_wp2
  go_ret
  exact ⟨rfl, by repeat (first | with_reducible exact Below.refl _ _ | with_reducible assumption | ((with_reducible refine Below.setCell ?_ ?_ _); rotate_left; (simp <;> omega)) | ((with_reducible refine Below.alloc ?_ ?_ _); rotate_left; (simp <;> omega)))⟩
theorem eqStringS_c (w : World) (l : List ByteArray) {A B : Option Addr} {c d : Nat} (hc : l.length ≤ c) (hA : Row Ki.str w A l) (hd : l.length ≤ d) (hB : Row Ki.str w B l) (hs : (l.length ≤ 1048576 ∧ ∀ y ∈ l, y.size ≤ 1048576)) :
    Calls Try.prog 87 #[.slice A l.length c, .slice B l.length d] w fun e w' => e = .returned (.bool true) ∧ Below w.heap.size w w' := by
  have hl : l.length ≤ 1048576 := hs.1
  have HS := Lib.hid hs
  clear hs
  have hu := Try.underlying9
  have hu2 := Try.underlying67
  go_enter Try.func87, Try.ntmps87
  go_wp2
  go_loopw [5] (fun i wr => ∃ k : Nat, k ≤ l.length ∧ i = .int .i64 k ∧ Below w.heap.size w wr) (fun i _ => l.length - (intOf i).toNat)
  case atStart => exact ⟨0, Nat.zero_le _, rfl, Below.refl _ _⟩
  case round =>
    obtain ⟨k, hk, rfl, hb⟩ := hrel
    by_cases hlt : k < l.length
    · obtain ⟨ad, x, cs, rfl, hx, hK, hca⟩ := Row_get (Row_below hA hb) k hlt
      obtain ⟨bd, y, ds, rfl, hy, hJ, hcb⟩ := Row_get (Row_below hB hb) k hlt
      obtain rfl : x = y := by rw [hx] at hy; exact Option.some.inj hy
      clear hy
      obtain rfl := hK
      obtain rfl := hJ
      have p0 : wr.cell? (ad.add k) = some (.string x) := by simpa [Ki.str, Ki.scalar] using hca 0 _ rfl
      have q0 : wr.cell? (bd.add k) = some (.string x) := by simpa [Ki.str, Ki.scalar] using hcb 0 _ rfl
      clear hca hcb hx
      go_wp2
      try (go_quiet (fail); go_wp2)
      go_roundw
      case rel => exact ⟨k + 1, by omega, by go_num, by repeat (first | with_reducible exact Below.refl _ _ | with_reducible assumption | with_reducible apply Below.drew | with_reducible refine below_dn ?_ _ | ((with_reducible refine Below.setCell ?_ ?_ _); rotate_left; (simp <;> omega)) | ((with_reducible refine Below.alloc ?_ ?_ _); rotate_left; (simp <;> omega)))⟩
      case measure => simp [intOf]; omega
    · go_wp2
      go_ret
      exact ⟨rfl, hb⟩
theorem eqSlotS_c (w : World) (l : List Slot) {A B : Option Addr} {c d : Nat} (hc : l.length ≤ c) (hA : Row kSlot w A l) (hd : l.length ≤ d) (hB : Row kSlot w B l) (hs : (l.length ≤ 1048576 ∧ ∀ y ∈ l, y.sm)) :
    Calls Try.prog 49 #[.slice A l.length c, .slice B l.length d] w fun e w' => e = .returned (.bool true) ∧ Below w.heap.size w w' := by
  have hl : l.length ≤ 1048576 := hs.1
  have HS := Lib.hid hs
  clear hs
  have hu := Try.underlying79
  have hu2 := Try.underlying71
  go_enter Try.func49, Try.ntmps49
  go_wp2
  go_loopw [5] (fun i wr => ∃ k : Nat, k ≤ l.length ∧ i = .int .i64 k ∧ Below w.heap.size w wr) (fun i _ => l.length - (intOf i).toNat)
  case atStart => exact ⟨0, Nat.zero_le _, rfl, Below.refl _ _⟩
  case round =>
    obtain ⟨k, hk, rfl, hb⟩ := hrel
    by_cases hlt : k < l.length
    · obtain ⟨ad, x, rfl, hx, p0, p1⟩ := Slot.at (Row_below hA hb) k hlt
      obtain ⟨bd, y, rfl, hy, q0, q1⟩ := Slot.at (Row_below hB hb) k hlt
      obtain rfl : x = y := by rw [hx] at hy; exact Option.some.inj hy
      clear hy
      have Sx := Lib.hid (HS.out.2 x (List.mem_of_getElem? hx))
      clear hx
      go_wp2
      refine tailW 8 (by kernel_rfl) (by kernel_rfl) ?_
      simp only [List.take_succ_cons, List.take_zero, List.drop_succ_cons, List.drop_zero]
      repeat still_step
      refine wpStill_nil ?_
      have hb1 : Below w.heap.size w wr.drew := hb.drew
      go_wp2_with (go_at_call 90; refine (eqSlot_c _ x Sx.out).mono ?_; rintro e w' ⟨rfl, hb2⟩)
      go_roundw
      case rel => exact ⟨k + 1, by omega, by go_num, below_tr hb1 hb2⟩
      case measure => simp [intOf]; omega
    · go_wp2
      go_ret
      exact ⟨rfl, hb⟩
set_option maxHeartbeats 4000000 in
theorem eqWant_c (w : World) (x : Want) {A1 : Option Addr} {a1 : Nat} (lA1 : x.Wants.length ≤ a1) (gA1 : Row Ki.str w A1 x.Wants) {A2 : Option Addr} {a2 : Nat} (lA2 : x.Has.length ≤ a2) (gA2 : Row kSlot w A2 x.Has) {B1 : Option Addr} {b1 : Nat} (lB1 : x.Wants.length ≤ b1) (gB1 : Row Ki.str w B1 x.Wants) {B2 : Option Addr} {b2 : Nat} (lB2 : x.Has.length ≤ b2) (gB2 : Row kSlot w B2 x.Has) (hs : x.sm) :
    Calls Try.prog 46 #[.agg #[.string x.Name, .slice A1 x.Wants.length a1, .slice A2 x.Has.length a2], .agg #[.string x.Name, .slice B1 x.Wants.length b1, .slice B2 x.Has.length b2]] w fun e w' => e = .returned (.bool true) ∧ Below w.heap.size w w' := by
  obtain ⟨_, s1, s2⟩ := hs
  have S1 := Lib.hid s1
  clear s1
  have S2 := Lib.hid s2
  clear s2
  go_enter Try.func46, Try.ntmps46
  have XA0 := (Box.new w #[.string x.Name, .slice A1 x.Wants.length a1, .slice A2 x.Has.length a2] 73).later (below_al _ (.cells #[.string x.Name, .slice B1 x.Wants.length b1, .slice B2 x.Has.length b2] 73))
  have XB0 := Box.new2 w (.cells #[.string x.Name, .slice A1 x.Wants.length a1, .slice A2 x.Has.length a2] 73) #[.string x.Name, .slice B1 x.Wants.length b1, .slice B2 x.Has.length b2] 73
  have BB : Below w.heap.size w ((w.alloc (.cells #[.string x.Name, .slice A1 x.Wants.length a1, .slice A2 x.Has.length a2] 73)).alloc (.cells #[.string x.Name, .slice B1 x.Wants.length b1, .slice B2 x.Has.length b2] 73)) := ((Below.refl _ _).alloc (Nat.le_refl _) _).alloc (by simp) _
  have HXA := Lib.hid XA0
  have HXB := Lib.hid XB0
  have HBB := Lib.hid BB
  clear XA0 XB0 BB
  go_upto_region 3 with fail
  go_upto_region 5 with (go_at_call 87; refine (eqStringS_c _ x.Wants lA1 (Row_below gA1 (HBB.out)) lB1 (Row_below gB1 (HBB.out)) S1.out).mono ?_; rintro e w1 ⟨rfl, hb1⟩; have E1 := below_tr (HBB.out) hb1; have XA1 := (HXA.out).later hb1; have uA1_2 := XA1 2 _ rfl; have gbA1 := XA1.lt rfl; have XB1 := (HXB.out).later hb1; have uB1_2 := XB1 2 _ rfl; have gbB1 := XB1.lt rfl)
  go_wp2_with (go_at_call 49; refine (eqSlotS_c _ x.Has lA2 (Row_below gA2 (E1)) lB2 (Row_below gB2 (E1)) S2.out).mono ?_; rintro e w2 ⟨rfl, hb2⟩; have E2 := below_tr (E1) hb2; have XA2 := (XA1).later hb2; clear XA1; have gbA2 := XA2.lt rfl; have XB2 := (XB1).later hb2; clear XB1; have gbB2 := XB2.lt rfl)
  go_ret
  exact ⟨rfl, E2⟩
theorem eqWantS_c (w : World) (l : List Want) {A B : Option Addr} {c d : Nat} (hc : l.length ≤ c) (hA : Row kWant w A l) (hd : l.length ≤ d) (hB : Row kWant w B l) (hs : (l.length ≤ 1048576 ∧ ∀ y ∈ l, y.sm)) :
    Calls Try.prog 13 #[.slice A l.length c, .slice B l.length d] w fun e w' => e = .returned (.bool true) ∧ Below w.heap.size w w' := by
  have hl : l.length ≤ 1048576 := hs.1
  have HS := Lib.hid hs
  clear hs
  have hu := Try.underlying73
  have hu2 := Try.underlying25
  go_enter Try.func13, Try.ntmps13
  go_wp2
  go_loopw [5] (fun i wr => ∃ k : Nat, k ≤ l.length ∧ i = .int .i64 k ∧ Below w.heap.size w wr) (fun i _ => l.length - (intOf i).toNat)
  case atStart => exact ⟨0, Nat.zero_le _, rfl, Below.refl _ _⟩
  case round =>
    obtain ⟨k, hk, rfl, hb⟩ := hrel
    by_cases hlt : k < l.length
    · obtain ⟨ad, x, A1, a1, A2, a2, rfl, hx, p0, p1, p2, lA1, gA1, lA2, gA2⟩ := Want.at (Row_below hA hb) k hlt
      obtain ⟨bd, y, B1, b1, B2, b2, rfl, hy, q0, q1, q2, lB1, gB1, lB2, gB2⟩ := Want.at (Row_below hB hb) k hlt
      obtain rfl : x = y := by rw [hx] at hy; exact Option.some.inj hy
      clear hy
      have Sx := Lib.hid (HS.out.2 x (List.mem_of_getElem? hx))
      clear hx
      go_wp2
      refine tailW 8 (by kernel_rfl) (by kernel_rfl) ?_
      simp only [List.take_succ_cons, List.take_zero, List.drop_succ_cons, List.drop_zero]
      repeat still_step
      refine wpStill_nil ?_
      have hb1 : Below w.heap.size w wr.drew := hb.drew
      go_wp2_with (go_at_call 46; refine (eqWant_c _ x lA1 (Row_below gA1 (Below.refl _ _).drew) lA2 (Row_below gA2 (Below.refl _ _).drew) lB1 (Row_below gB1 (Below.refl _ _).drew) lB2 (Row_below gB2 (Below.refl _ _).drew) Sx.out).mono ?_; rintro e w' ⟨rfl, hb2⟩)
      go_roundw
      case rel => exact ⟨k + 1, by omega, by go_num, below_tr hb1 hb2⟩
      case measure => simp [intOf]; omega
    · go_wp2
      go_ret
      exact ⟨rfl, hb⟩
theorem eqSlotSS_c (w : World) (l : List (List Slot)) {A B : Option Addr} {c d : Nat} (hc : l.length ≤ c) (hA : Row (Ki.slice 79 kSlot) w A l) (hd : l.length ≤ d) (hB : Row (Ki.slice 79 kSlot) w B l) (hs : (l.length ≤ 1048576 ∧ ∀ y ∈ l, (y.length ≤ 1048576 ∧ ∀ yy ∈ y, yy.sm))) :
    Calls Try.prog 18 #[.slice A l.length c, .slice B l.length d] w fun e w' => e = .returned (.bool true) ∧ Below w.heap.size w w' := by
  have hl : l.length ≤ 1048576 := hs.1
  have HS := Lib.hid hs
  clear hs
  have hu := Try.underlying71
  have hu2 := Try.underlying32
  go_enter Try.func18, Try.ntmps18
  go_wp2
  go_loopw [5] (fun i wr => ∃ k : Nat, k ≤ l.length ∧ i = .int .i64 k ∧ Below w.heap.size w wr) (fun i _ => l.length - (intOf i).toNat)
  case atStart => exact ⟨0, Nat.zero_le _, rfl, Below.refl _ _⟩
  case round =>
    obtain ⟨k, hk, rfl, hb⟩ := hrel
    by_cases hlt : k < l.length
    · obtain ⟨ad, x, cs, rfl, hx, hK, hca⟩ := Row_get (Row_below hA hb) k hlt
      obtain ⟨bd, y, ds, rfl, hy, hJ, hcb⟩ := Row_get (Row_below hB hb) k hlt
      obtain rfl : x = y := by rw [hx] at hy; exact Option.some.inj hy
      clear hy
      obtain ⟨A1, c1, rfl, lA1, gA1⟩ := hK
      obtain ⟨B1, d1, rfl, lB1, gB1⟩ := hJ
      have p0 : wr.cell? (ad.add k) = some (.slice A1 x.length c1) := by simpa [Ki.slice] using hca 0 _ rfl
      have q0 : wr.cell? (bd.add k) = some (.slice B1 x.length d1) := by simpa [Ki.slice] using hcb 0 _ rfl
      have Sx := Lib.hid (HS.out.2 x (List.mem_of_getElem? hx))
      clear hca hcb hx
      go_wp2
      refine tailW 8 (by kernel_rfl) (by kernel_rfl) ?_
      simp only [List.take_succ_cons, List.take_zero, List.drop_succ_cons, List.drop_zero]
      repeat still_step
      refine wpStill_nil ?_
      have hb1 : Below w.heap.size w wr.drew := hb.drew
      go_wp2_with (go_at_call 49; refine (eqSlotS_c _ x lA1 (Row_below gA1 (Below.refl _ _).drew) lB1 (Row_below gB1 (Below.refl _ _).drew) Sx.out).mono ?_; rintro e w' ⟨rfl, hb2⟩)
      go_roundw
      case rel => exact ⟨k + 1, by omega, by go_num, below_tr hb1 hb2⟩
      case measure => simp [intOf]; omega
    · go_wp2
      go_ret
      exact ⟨rfl, hb⟩
end Go.Proofs.Ytenldgbabcjjkaa.H
