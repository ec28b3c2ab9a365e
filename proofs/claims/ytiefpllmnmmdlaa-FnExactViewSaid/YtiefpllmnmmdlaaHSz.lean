/-
The laws' own functions sz..: a bound of what a value holds. Printed by hlaws.py (this session's own). Conditions: each contract's own premises.
-/
import Derived.Test.YtiefpllmnmmdlaaHTypes
import Derived.Test.YtiefpllmnmmdlaaProg
namespace Go.Proofs.Ytiefpllmnmmdlaa.H
open Go.RowKit
set_option linter.unusedVariables false
set_option linter.unusedSimpArgs false
set_option maxRecDepth 100000
def SzPost (left : Int) (n : Nat) (w : World) (e : Ending) (w' : World) : Prop := ∃ r : Int, e = .returned (.int .i64 r) ∧ -1 ≤ r ∧ r ≤ left ∧ (0 ≤ r → r + n ≤ left) ∧ Below w.heap.size w w'
theorem wfStr_lim {s : ByteArray} (h : wfStr s) : s.size ≤ 9223372036854775807 := by simp only [wfStr, maxLen] at h; omega
theorem szL_eq {α : Type} (f : α → Nat) (l : List α) : szL f l = l.length + sumF f l := rfl
theorem wfList_lim {α : Type} {W : α → Prop} {xs : List α} (h : wfList W xs) : xs.length ≤ 9223372036854775807 := by have := h.1; simp only [maxLen] at this; omega
theorem szHead_c (w : World) (x : Head) (hw : x.wf) (left : Int) (h0 : 0 ≤ left) (h1 : left ≤ 1048576) :
    Calls Try.prog 105 #[.agg #[.string x.Key, .string x.Value], .int .i64 left] w (SzPost left x.sz w) := by
  obtain ⟨q0, q1⟩ := hw
  replace q0 := wfStr_lim q0
  dsimp only at q0
  replace q1 := wfStr_lim q1
  dsimp only at q1
  go_enter Try.func105, Try.ntmps105
  go_wp2
  all_goals (go_ret; first | exact ⟨_, rfl, by omega, by omega, by intro h; unfold Head.sz; omega, below_al _ _⟩ | exact ⟨_, rfl, by omega, by omega, fun h => absurd h (by omega), below_al _ _⟩)
theorem szHeadS_c (w : World) (A : Option Addr) (c : Nat) (l : List Head) (left : Int) (hr : Row kHead w A l) (hc : l.length ≤ c) (hw : wfList Head.wf l) (h0 : 0 ≤ left) (h1 : left ≤ 1048576) :
    Calls Try.prog 102 #[.slice A l.length c, .int .i64 left] w (SzPost left (szL Head.sz l) w) := by
  have hl := wfList_lim hw
  have hu := Try.underlying151
  have hu2 := Try.underlying142
  by_cases h2 : left - (l.length : Int) < 0
  · go_enter Try.func102, Try.ntmps102
    go_wp2
    go_ret
    exact ⟨_, rfl, by omega, by omega, fun h => absurd h (by omega), Below.refl _ _⟩
  go_enter Try.func102, Try.ntmps102
  go_wp2
  go_loopw [1, 5] (fun t i wr => ∃ (k : Nat) (m : Int), k ≤ l.length ∧ i = .int .i64 k ∧ t = .int .i64 m ∧ 0 ≤ m ∧ m ≤ left ∧ Hid (m + sumF Head.sz (l.take k) ≤ left - l.length) ∧ Below w.heap.size w wr) (fun _ i _ => l.length - (intOf i).toNat)
  case atStart => exact ⟨0, _, Nat.zero_le _, rfl, rfl, by omega, by omega, Lib.hid (by simp [sumF]), Below.refl _ _⟩
  case round =>
    obtain ⟨k, m, hk, rfl, rfl, hm0, hm1, Hsm, hb⟩ := hrel
    by_cases hlt : k < l.length
    · obtain ⟨ad, x, rfl, hx, p0, p1⟩ := Head.at (Row_below hr hb) k hlt
      have Hx := Lib.hid (sumF_take (f := Head.sz) hx)
      have hwx := hw.2 x (List.mem_of_getElem? hx)
      clear hx
      have HW := Lib.hid hwx
      clear hwx
      go_wp2_with (go_at_call 105; refine (szHead_c _ x HW.out m hm0 (by omega)).mono ?_; rintro e w' ⟨r, rfl, ra, rb, rs, hb2⟩; have hs := Lib.hid rs; clear rs)
      · go_ret
        exact ⟨_, rfl, by omega, by omega, fun h => absurd h (by omega), hb.trans (hb2.mono hb.size)⟩
      · go_roundw
        case rel => exact ⟨k + 1, r, by omega, by go_num, rfl, by omega, by omega, Lib.hid (by rw [Hx.out]; have := Hsm.out; have := hs.out (by omega); omega), hb.trans (hb2.mono hb.size)⟩
        case measure => simp [intOf]; omega
    · go_wp2
      go_ret
      obtain rfl : k = l.length := by omega
      exact ⟨_, rfl, by omega, hm1, fun _ => by have h := Hsm.out; rw [List.take_length] at h; rw [szL_eq Head.sz l]; omega, hb⟩
theorem szRecord_c (w : World) (x : Record) {A5 : Option Addr} {c5 : Nat} (l5 : x.Heads.length ≤ c5) (g5 : Row kHead w A5 x.Heads) (hw : x.wf) (left : Int) (h0 : 0 ≤ left) (h1 : left ≤ 1048576) :
    Calls Try.prog 99 #[.agg #[.int .i64 x.Time, .bool x.Keyed, .string x.Key, .bool x.Gone, .string x.Value, .slice A5 x.Heads.length c5], .int .i64 left] w (SzPost left x.sz w) := by
  obtain ⟨_, _, q2, _, q4, q5⟩ := hw
  replace q2 := wfStr_lim q2
  dsimp only at q2
  replace q4 := wfStr_lim q4
  dsimp only at q4
  have Q5 := Lib.hid q5
  clear q5
  dsimp only at Q5
  go_enter Try.func99, Try.ntmps99
  go_upto_region 7 with fail
  all_goals first | (go_ret; exact ⟨_, rfl, by omega, by omega, fun h => absurd h (by omega), below_al _ _⟩) | skip
  go_wp2_with (go_at_call 102; refine (szHeadS_c _ _ _ x.Heads _ (Row_below g5 (below_al _ _)) l5 Q5.out (by omega) (by omega)).mono ?_; rintro e w5 ⟨r5, rfl, ra5, rb5, rs5, hb5⟩; have E5 := below_tr (below_al _ _) hb5; have S5 := Lib.hid rs5; clear rs5)
  all_goals (go_ret; first | exact ⟨_, rfl, by omega, by omega, fun h => absurd h (by omega), E5⟩ | exact ⟨_, rfl, by omega, by omega, by intro h; unfold Record.sz; have t5 := S5.out (by omega); omega, E5⟩)
theorem szRecordS_c (w : World) (A : Option Addr) (c : Nat) (l : List Record) (left : Int) (hr : Row kRecord w A l) (hc : l.length ≤ c) (hw : wfList Record.wf l) (h0 : 0 ≤ left) (h1 : left ≤ 1048576) :
    Calls Try.prog 94 #[.slice A l.length c, .int .i64 left] w (SzPost left (szL Record.sz l) w) := by
  have hl := wfList_lim hw
  have hu := Try.underlying144
  have hu2 := Try.underlying121
  by_cases h2 : left - (l.length : Int) < 0
  · go_enter Try.func94, Try.ntmps94
    go_wp2
    go_ret
    exact ⟨_, rfl, by omega, by omega, fun h => absurd h (by omega), Below.refl _ _⟩
  go_enter Try.func94, Try.ntmps94
  go_wp2
  go_loopw [1, 5] (fun t i wr => ∃ (k : Nat) (m : Int), k ≤ l.length ∧ i = .int .i64 k ∧ t = .int .i64 m ∧ 0 ≤ m ∧ m ≤ left ∧ Hid (m + sumF Record.sz (l.take k) ≤ left - l.length) ∧ Below w.heap.size w wr) (fun _ i _ => l.length - (intOf i).toNat)
  case atStart => exact ⟨0, _, Nat.zero_le _, rfl, rfl, by omega, by omega, Lib.hid (by simp [sumF]), Below.refl _ _⟩
  case round =>
    obtain ⟨k, m, hk, rfl, rfl, hm0, hm1, Hsm, hb⟩ := hrel
    by_cases hlt : k < l.length
    · obtain ⟨ad, x, A5, c5, rfl, hx, p0, p1, p2, p3, p4, p5, l5, g5⟩ := Record.at (Row_below hr hb) k hlt
      have Hx := Lib.hid (sumF_take (f := Record.sz) hx)
      have hwx := hw.2 x (List.mem_of_getElem? hx)
      clear hx
      have HW := Lib.hid hwx
      clear hwx
      go_wp2_with (go_at_call 99; refine (szRecord_c _ x l5 g5 HW.out m hm0 (by omega)).mono ?_; rintro e w' ⟨r, rfl, ra, rb, rs, hb2⟩; have hs := Lib.hid rs; clear rs)
      · go_ret
        exact ⟨_, rfl, by omega, by omega, fun h => absurd h (by omega), hb.trans (hb2.mono hb.size)⟩
      · go_roundw
        case rel => exact ⟨k + 1, r, by omega, by go_num, rfl, by omega, by omega, Lib.hid (by rw [Hx.out]; have := Hsm.out; have := hs.out (by omega); omega), hb.trans (hb2.mono hb.size)⟩
        case measure => simp [intOf]; omega
    · go_wp2
      go_ret
      obtain rfl : k = l.length := by omega
      exact ⟨_, rfl, by omega, hm1, fun _ => by have h := Hsm.out; rw [List.take_length] at h; rw [szL_eq Record.sz l]; omega, hb⟩
theorem szBatch_c (w : World) (x : Batch) {A6 : Option Addr} {c6 : Nat} (l6 : x.Records.length ≤ c6) (g6 : Row kRecord w A6 x.Records) (hw : x.wf) (left : Int) (h0 : 0 ≤ left) (h1 : left ≤ 1048576) :
    Calls Try.prog 83 #[.agg #[.int .i64 x.Base, .int .i64 x.Epoch, .int .i64 x.Producer, .int .i64 x.Turn, .int .i64 x.Seq, .int .i64 x.Flags, .slice A6 x.Records.length c6], .int .i64 left] w (SzPost left x.sz w) := by
  obtain ⟨_, _, _, _, _, _, q6⟩ := hw
  have Q6 := Lib.hid q6
  clear q6
  dsimp only at Q6
  go_enter Try.func83, Try.ntmps83
  go_upto_region 1 with fail
  go_wp2_with (go_at_call 94; refine (szRecordS_c _ _ _ x.Records _ (Row_below g6 (below_al _ _)) l6 Q6.out (by omega) (by omega)).mono ?_; rintro e w6 ⟨r6, rfl, ra6, rb6, rs6, hb6⟩; have E6 := below_tr (below_al _ _) hb6; have S6 := Lib.hid rs6; clear rs6)
  all_goals (go_ret; first | exact ⟨_, rfl, by omega, by omega, fun h => absurd h (by omega), E6⟩ | exact ⟨_, rfl, by omega, by omega, by intro h; unfold Batch.sz; have t6 := S6.out (by omega); omega, E6⟩)
theorem szBatchS_c (w : World) (A : Option Addr) (c : Nat) (l : List Batch) (left : Int) (hr : Row kBatch w A l) (hc : l.length ≤ c) (hw : wfList Batch.wf l) (h0 : 0 ≤ left) (h1 : left ≤ 1048576) :
    Calls Try.prog 56 #[.slice A l.length c, .int .i64 left] w (SzPost left (szL Batch.sz l) w) := by
  have hl := wfList_lim hw
  have hu := Try.underlying123
  have hu2 := Try.underlying71
  by_cases h2 : left - (l.length : Int) < 0
  · go_enter Try.func56, Try.ntmps56
    go_wp2
    go_ret
    exact ⟨_, rfl, by omega, by omega, fun h => absurd h (by omega), Below.refl _ _⟩
  go_enter Try.func56, Try.ntmps56
  go_wp2
  go_loopw [1, 5] (fun t i wr => ∃ (k : Nat) (m : Int), k ≤ l.length ∧ i = .int .i64 k ∧ t = .int .i64 m ∧ 0 ≤ m ∧ m ≤ left ∧ Hid (m + sumF Batch.sz (l.take k) ≤ left - l.length) ∧ Below w.heap.size w wr) (fun _ i _ => l.length - (intOf i).toNat)
  case atStart => exact ⟨0, _, Nat.zero_le _, rfl, rfl, by omega, by omega, Lib.hid (by simp [sumF]), Below.refl _ _⟩
  case round =>
    obtain ⟨k, m, hk, rfl, rfl, hm0, hm1, Hsm, hb⟩ := hrel
    by_cases hlt : k < l.length
    · obtain ⟨ad, x, A6, c6, rfl, hx, p0, p1, p2, p3, p4, p5, p6, l6, g6⟩ := Batch.at (Row_below hr hb) k hlt
      have Hx := Lib.hid (sumF_take (f := Batch.sz) hx)
      have hwx := hw.2 x (List.mem_of_getElem? hx)
      clear hx
      have HW := Lib.hid hwx
      clear hwx
      go_wp2_with (go_at_call 83; refine (szBatch_c _ x l6 g6 HW.out m hm0 (by omega)).mono ?_; rintro e w' ⟨r, rfl, ra, rb, rs, hb2⟩; have hs := Lib.hid rs; clear rs)
      · go_ret
        exact ⟨_, rfl, by omega, by omega, fun h => absurd h (by omega), hb.trans (hb2.mono hb.size)⟩
      · go_roundw
        case rel => exact ⟨k + 1, r, by omega, by go_num, rfl, by omega, by omega, Lib.hid (by rw [Hx.out]; have := Hsm.out; have := hs.out (by omega); omega), hb.trans (hb2.mono hb.size)⟩
        case measure => simp [intOf]; omega
    · go_wp2
      go_ret
      obtain rfl : k = l.length := by omega
      exact ⟨_, rfl, by omega, hm1, fun _ => by have h := Hsm.out; rw [List.take_length] at h; rw [szL_eq Batch.sz l]; omega, hb⟩
theorem szSegment_c (w : World) (x : Segment) {A1 : Option Addr} {c1 : Nat} (l1 : x.Batches.length ≤ c1) (g1 : Row kBatch w A1 x.Batches) (hw : x.wf) (left : Int) (h0 : 0 ≤ left) (h1 : left ≤ 1048576) :
    Calls Try.prog 36 #[.agg #[.int .i64 x.Base, .slice A1 x.Batches.length c1], .int .i64 left] w (SzPost left x.sz w) := by
  obtain ⟨_, q1⟩ := hw
  have Q1 := Lib.hid q1
  clear q1
  dsimp only at Q1
  go_enter Try.func36, Try.ntmps36
  go_upto_region 1 with fail
  go_wp2_with (go_at_call 56; refine (szBatchS_c _ _ _ x.Batches _ (Row_below g1 (below_al _ _)) l1 Q1.out (by omega) (by omega)).mono ?_; rintro e w1 ⟨r1, rfl, ra1, rb1, rs1, hb1⟩; have E1 := below_tr (below_al _ _) hb1; have S1 := Lib.hid rs1; clear rs1)
  all_goals (go_ret; first | exact ⟨_, rfl, by omega, by omega, fun h => absurd h (by omega), E1⟩ | exact ⟨_, rfl, by omega, by omega, by intro h; unfold Segment.sz; have t1 := S1.out (by omega); omega, E1⟩)
theorem szSegmentS_c (w : World) (A : Option Addr) (c : Nat) (l : List Segment) (left : Int) (hr : Row kSegment w A l) (hc : l.length ≤ c) (hw : wfList Segment.wf l) (h0 : 0 ≤ left) (h1 : left ≤ 1048576) :
    Calls Try.prog 17 #[.slice A l.length c, .int .i64 left] w (SzPost left (szL Segment.sz l) w) := by
  have hl := wfList_lim hw
  have hu := Try.underlying73
  have hu2 := Try.underlying22
  by_cases h2 : left - (l.length : Int) < 0
  · go_enter Try.func17, Try.ntmps17
    go_wp2
    go_ret
    exact ⟨_, rfl, by omega, by omega, fun h => absurd h (by omega), Below.refl _ _⟩
  go_enter Try.func17, Try.ntmps17
  go_wp2
  go_loopw [1, 5] (fun t i wr => ∃ (k : Nat) (m : Int), k ≤ l.length ∧ i = .int .i64 k ∧ t = .int .i64 m ∧ 0 ≤ m ∧ m ≤ left ∧ Hid (m + sumF Segment.sz (l.take k) ≤ left - l.length) ∧ Below w.heap.size w wr) (fun _ i _ => l.length - (intOf i).toNat)
  case atStart => exact ⟨0, _, Nat.zero_le _, rfl, rfl, by omega, by omega, Lib.hid (by simp [sumF]), Below.refl _ _⟩
  case round =>
    obtain ⟨k, m, hk, rfl, rfl, hm0, hm1, Hsm, hb⟩ := hrel
    by_cases hlt : k < l.length
    · obtain ⟨ad, x, A1, c1, rfl, hx, p0, p1, l1, g1⟩ := Segment.at (Row_below hr hb) k hlt
      have Hx := Lib.hid (sumF_take (f := Segment.sz) hx)
      have hwx := hw.2 x (List.mem_of_getElem? hx)
      clear hx
      have HW := Lib.hid hwx
      clear hwx
      go_wp2_with (go_at_call 36; refine (szSegment_c _ x l1 g1 HW.out m hm0 (by omega)).mono ?_; rintro e w' ⟨r, rfl, ra, rb, rs, hb2⟩; have hs := Lib.hid rs; clear rs)
      · go_ret
        exact ⟨_, rfl, by omega, by omega, fun h => absurd h (by omega), hb.trans (hb2.mono hb.size)⟩
      · go_roundw
        case rel => exact ⟨k + 1, r, by omega, by go_num, rfl, by omega, by omega, Lib.hid (by rw [Hx.out]; have := Hsm.out; have := hs.out (by omega); omega), hb.trans (hb2.mono hb.size)⟩
        case measure => simp [intOf]; omega
    · go_wp2
      go_ret
      obtain rfl : k = l.length := by omega
      exact ⟨_, rfl, by omega, hm1, fun _ => by have h := Hsm.out; rw [List.take_length] at h; rw [szL_eq Segment.sz l]; omega, hb⟩
theorem szLog_c (w : World) (x : Log) {A3 : Option Addr} {c3 : Nat} (l3 : x.Segments.length ≤ c3) (g3 : Row kSegment w A3 x.Segments) (hw : x.wf) (left : Int) (h0 : 0 ≤ left) (h1 : left ≤ 1048576) :
    Calls Try.prog 5 #[.agg #[.int .i64 x.Start, .int .i64 x.Next, .int .i64 x.Roll, .slice A3 x.Segments.length c3], .int .i64 left] w (SzPost left x.sz w) := by
  obtain ⟨_, _, _, q3⟩ := hw
  have Q3 := Lib.hid q3
  clear q3
  dsimp only at Q3
  go_enter Try.func5, Try.ntmps5
  go_upto_region 1 with fail
  go_wp2_with (go_at_call 17; refine (szSegmentS_c _ _ _ x.Segments _ (Row_below g3 (below_al _ _)) l3 Q3.out (by omega) (by omega)).mono ?_; rintro e w3 ⟨r3, rfl, ra3, rb3, rs3, hb3⟩; have E3 := below_tr (below_al _ _) hb3; have S3 := Lib.hid rs3; clear rs3)
  all_goals (go_ret; first | exact ⟨_, rfl, by omega, by omega, fun h => absurd h (by omega), E3⟩ | exact ⟨_, rfl, by omega, by omega, by intro h; unfold Log.sz; have t3 := S3.out (by omega); omega, E3⟩)
end Go.Proofs.Ytiefpllmnmmdlaa.H
