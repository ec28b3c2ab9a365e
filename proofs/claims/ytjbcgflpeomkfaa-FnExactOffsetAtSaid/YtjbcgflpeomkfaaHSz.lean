/-
The laws' own functions sz..: a bound of what a value holds. Printed by hlaws.py (this session's own). Conditions: each contract's own premises.
-/
import Derived.Test.YtjbcgflpeomkfaaHTypes
import Derived.Test.YtjbcgflpeomkfaaProg
namespace Go.Proofs.Ytjbcgflpeomkfaa.H
open Go.RowKit
set_option linter.unusedVariables false
set_option linter.unusedSimpArgs false
set_option maxRecDepth 100000
def SzPost (left : Int) (P : Prop) (w : World) (e : Ending) (w' : World) : Prop := ∃ r : Int, e = .returned (.int .i64 r) ∧ -1 ≤ r ∧ r ≤ left ∧ (0 ≤ r → P) ∧ Below w.heap.size w w'
theorem wfStr_lim {s : ByteArray} (h : wfStr s) : s.size ≤ 9223372036854775807 := by simp only [wfStr, maxLen] at h; omega
theorem wfList_lim {α : Type} {W : α → Prop} {xs : List α} (h : wfList W xs) : xs.length ≤ 9223372036854775807 := by have := h.1; simp only [maxLen] at this; omega
theorem szHead_c (w : World) (x : Head) (hw : x.wf) (left : Int) (h0 : 0 ≤ left) (h1 : left ≤ 1048576) :
    Calls Try.prog 65 #[.agg #[.string x.Key, .string x.Value], .int .i64 left] w (SzPost left (x.sm) w) := by
  obtain ⟨q0, q1⟩ := hw
  replace q0 := wfStr_lim q0
  dsimp only at q0
  replace q1 := wfStr_lim q1
  dsimp only at q1
  go_enter Try.func65, Try.ntmps65
  go_wp2
  all_goals (go_ret; first | exact ⟨_, rfl, by omega, by omega, fun h => absurd h (by omega), (Below.refl _ _).alloc (Nat.le_refl _) _⟩ | exact ⟨_, rfl, by omega, by omega, fun _ => ⟨by omega, by omega⟩, (Below.refl _ _).alloc (Nat.le_refl _) _⟩)
theorem szHeadS_c (w : World) (A : Option Addr) (c : Nat) (l : List Head) (left : Int) (hr : Row kHead w A l) (hc : l.length ≤ c) (hw : wfList Head.wf l) (h0 : 0 ≤ left) (h1 : left ≤ 1048576) :
    Calls Try.prog 55 #[.slice A l.length c, .int .i64 left] w (SzPost left (l.length ≤ 1048576 ∧ ∀ y ∈ l, y.sm) w) := by
  have hl := wfList_lim hw
  have hu := Try.underlying93
  have hu2 := Try.underlying70
  by_cases h2 : left - (l.length : Int) < 0
  · go_enter Try.func55, Try.ntmps55
    go_wp2
    go_ret
    exact ⟨_, rfl, by omega, by omega, fun h => absurd h (by omega), Below.refl _ _⟩
  go_enter Try.func55, Try.ntmps55
  go_wp2
  go_loopw [1, 5] (fun t i wr => ∃ (k : Nat) (m : Int), k ≤ l.length ∧ i = .int .i64 k ∧ t = .int .i64 m ∧ 0 ≤ m ∧ m ≤ left ∧ (∀ j y, j < k → l[j]? = some y → y.sm) ∧ Below w.heap.size w wr) (fun _ i _ => l.length - (intOf i).toNat)
  case atStart => exact ⟨0, _, Nat.zero_le _, rfl, rfl, by omega, by omega, fun j y h => absurd h (by omega), Below.refl _ _⟩
  case round =>
    obtain ⟨k, m, hk, rfl, rfl, hm0, hm1, hsm, hb⟩ := hrel
    have Hsm := Lib.hid hsm
    clear hsm
    by_cases hlt : k < l.length
    · obtain ⟨ad, x, rfl, hx, p0, p1⟩ := Head.at (Row_below hr hb) k hlt
      have Hx := Lib.hid hx
      have hwx := hw.2 x (List.mem_of_getElem? hx)
      clear hx
      have HW := Lib.hid hwx
      clear hwx
      go_wp2_with (go_at_call 65; refine (szHead_c _ x HW.out m hm0 (by omega)).mono ?_; rintro e w' ⟨r, rfl, ra, rb, rs, hb2⟩; have hs := Lib.hid rs; clear rs)
      · go_ret
        exact ⟨_, rfl, by omega, by omega, fun h => absurd h (by omega), hb.trans (hb2.mono hb.size)⟩
      · go_roundw
        case rel => exact ⟨k + 1, r, by omega, by go_num, rfl, by omega, by omega, fun j y h1 h2 => by
          by_cases e : j = k
          · subst e; rw [Hx.out] at h2; cases h2; exact hs.out (by omega)
          · exact Hsm.out j y (by omega) h2, hb.trans (hb2.mono hb.size)⟩
        case measure => simp [intOf]; omega
    · go_wp2
      go_ret
      obtain rfl : k = l.length := by omega
      refine ⟨_, rfl, by omega, hm1, fun _ => ⟨by omega, fun y hy => ?_⟩, hb⟩
      obtain ⟨j, hj, rfl⟩ := List.getElem_of_mem hy
      exact Hsm.out j _ hj (List.getElem?_eq_getElem hj)
theorem szRecord_c (w : World) (x : Record) {A5 : Option Addr} {c5 : Nat} (l5 : x.Heads.length ≤ c5) (g5 : Row kHead w A5 x.Heads) (hw : x.wf) (left : Int) (h0 : 0 ≤ left) (h1 : left ≤ 1048576) :
    Calls Try.prog 46 #[.agg #[.int .i64 x.Time, .bool x.Keyed, .string x.Key, .bool x.Gone, .string x.Value, .slice A5 x.Heads.length c5], .int .i64 left] w (SzPost left (x.sm) w) := by
  obtain ⟨_, _, q2, _, q4, q5⟩ := hw
  replace q2 := wfStr_lim q2
  dsimp only at q2
  replace q4 := wfStr_lim q4
  dsimp only at q4
  have Q5 := Lib.hid q5
  clear q5
  dsimp only at Q5
  go_enter Try.func46, Try.ntmps46
  go_wp2_with (first | (go_at_call 55; refine (szHeadS_c _ _ _ _ _ (Row_below g5 (by repeat (first | with_reducible exact Below.refl _ _ | with_reducible assumption | ((with_reducible refine Below.setCell ?_ ?_ _); rotate_left; (simp <;> omega)) | ((with_reducible refine Below.alloc ?_ ?_ _); rotate_left; (simp <;> omega))))) l5 Q5.out (by omega) (by omega)).mono ?_; rintro e w' ⟨r5, rfl, ra5, rb5, rs5, hb5⟩; obtain ⟨hc5, hf5⟩ := bcell hb5; have hz5 := hb5.size; simp at hz5; have hs5 := Lib.hid rs5; clear rs5))
  all_goals (go_ret; first | exact ⟨_, rfl, by omega, by omega, fun h => absurd h (by omega), (Below.refl _ _).alloc (Nat.le_refl _) _⟩ | exact ⟨_, rfl, by omega, by omega, fun h => absurd h (by omega), below_tr ((Below.refl _ _).alloc (Nat.le_refl _) _) hb5⟩ | exact ⟨_, rfl, by omega, by omega, fun _ => ⟨by omega, by omega, hs5.out (by omega)⟩, below_tr ((Below.refl _ _).alloc (Nat.le_refl _) _) hb5⟩)
theorem szRecordS_c (w : World) (A : Option Addr) (c : Nat) (l : List Record) (left : Int) (hr : Row kRecord w A l) (hc : l.length ≤ c) (hw : wfList Record.wf l) (h0 : 0 ≤ left) (h1 : left ≤ 1048576) :
    Calls Try.prog 29 #[.slice A l.length c, .int .i64 left] w (SzPost left (l.length ≤ 1048576 ∧ ∀ y ∈ l, y.sm) w) := by
  have hl := wfList_lim hw
  have hu := Try.underlying72
  have hu2 := Try.underlying22
  by_cases h2 : left - (l.length : Int) < 0
  · go_enter Try.func29, Try.ntmps29
    go_wp2
    go_ret
    exact ⟨_, rfl, by omega, by omega, fun h => absurd h (by omega), Below.refl _ _⟩
  go_enter Try.func29, Try.ntmps29
  go_wp2
  go_loopw [1, 5] (fun t i wr => ∃ (k : Nat) (m : Int), k ≤ l.length ∧ i = .int .i64 k ∧ t = .int .i64 m ∧ 0 ≤ m ∧ m ≤ left ∧ (∀ j y, j < k → l[j]? = some y → y.sm) ∧ Below w.heap.size w wr) (fun _ i _ => l.length - (intOf i).toNat)
  case atStart => exact ⟨0, _, Nat.zero_le _, rfl, rfl, by omega, by omega, fun j y h => absurd h (by omega), Below.refl _ _⟩
  case round =>
    obtain ⟨k, m, hk, rfl, rfl, hm0, hm1, hsm, hb⟩ := hrel
    have Hsm := Lib.hid hsm
    clear hsm
    by_cases hlt : k < l.length
    · obtain ⟨ad, x, A5, c5, rfl, hx, p0, p1, p2, p3, p4, p5, l5, g5⟩ := Record.at (Row_below hr hb) k hlt
      have Hx := Lib.hid hx
      have hwx := hw.2 x (List.mem_of_getElem? hx)
      clear hx
      have HW := Lib.hid hwx
      clear hwx
      go_wp2_with (go_at_call 46; refine (szRecord_c _ x l5 g5 HW.out m hm0 (by omega)).mono ?_; rintro e w' ⟨r, rfl, ra, rb, rs, hb2⟩; have hs := Lib.hid rs; clear rs)
      · go_ret
        exact ⟨_, rfl, by omega, by omega, fun h => absurd h (by omega), hb.trans (hb2.mono hb.size)⟩
      · go_roundw
        case rel => exact ⟨k + 1, r, by omega, by go_num, rfl, by omega, by omega, fun j y h1 h2 => by
          by_cases e : j = k
          · subst e; rw [Hx.out] at h2; cases h2; exact hs.out (by omega)
          · exact Hsm.out j y (by omega) h2, hb.trans (hb2.mono hb.size)⟩
        case measure => simp [intOf]; omega
    · go_wp2
      go_ret
      obtain rfl : k = l.length := by omega
      refine ⟨_, rfl, by omega, hm1, fun _ => ⟨by omega, fun y hy => ?_⟩, hb⟩
      obtain ⟨j, hj, rfl⟩ := List.getElem_of_mem hy
      exact Hsm.out j _ hj (List.getElem?_eq_getElem hj)
theorem szBatch_c (w : World) (x : Batch) {A6 : Option Addr} {c6 : Nat} (l6 : x.Records.length ≤ c6) (g6 : Row kRecord w A6 x.Records) (hw : x.wf) (left : Int) (h0 : 0 ≤ left) (h1 : left ≤ 1048576) :
    Calls Try.prog 9 #[.agg #[.int .i64 x.Base, .int .i64 x.Epoch, .int .i64 x.Producer, .int .i64 x.Turn, .int .i64 x.Seq, .int .i64 x.Flags, .slice A6 x.Records.length c6], .int .i64 left] w (SzPost left (x.sm) w) := by
  obtain ⟨_, _, _, _, _, _, q6⟩ := hw
  have Q6 := Lib.hid q6
  clear q6
  dsimp only at Q6
  go_enter Try.func9, Try.ntmps9
  go_wp2_with (first | (go_at_call 29; refine (szRecordS_c _ _ _ _ _ (Row_below g6 (by repeat (first | with_reducible exact Below.refl _ _ | with_reducible assumption | ((with_reducible refine Below.setCell ?_ ?_ _); rotate_left; (simp <;> omega)) | ((with_reducible refine Below.alloc ?_ ?_ _); rotate_left; (simp <;> omega))))) l6 Q6.out (by omega) (by omega)).mono ?_; rintro e w' ⟨r6, rfl, ra6, rb6, rs6, hb6⟩; obtain ⟨hc6, hf6⟩ := bcell hb6; have hz6 := hb6.size; simp at hz6; have hs6 := Lib.hid rs6; clear rs6))
  all_goals (go_ret; first | exact ⟨_, rfl, by omega, by omega, fun h => absurd h (by omega), (Below.refl _ _).alloc (Nat.le_refl _) _⟩ | exact ⟨_, rfl, by omega, by omega, fun h => absurd h (by omega), below_tr ((Below.refl _ _).alloc (Nat.le_refl _) _) hb6⟩ | exact ⟨_, rfl, by omega, by omega, fun _ => (hs6.out (by omega)), below_tr ((Below.refl _ _).alloc (Nat.le_refl _) _) hb6⟩)
theorem szBatchS_c (w : World) (A : Option Addr) (c : Nat) (l : List Batch) (left : Int) (hr : Row kBatch w A l) (hc : l.length ≤ c) (hw : wfList Batch.wf l) (h0 : 0 ≤ left) (h1 : left ≤ 1048576) :
    Calls Try.prog 60 #[.slice A l.length c, .int .i64 left] w (SzPost left (l.length ≤ 1048576 ∧ ∀ y ∈ l, y.sm) w) := by
  have hl := wfList_lim hw
  have hu := Try.underlying24
  have hu2 := Try.underlying78
  by_cases h2 : left - (l.length : Int) < 0
  · go_enter Try.func60, Try.ntmps60
    go_wp2
    go_ret
    exact ⟨_, rfl, by omega, by omega, fun h => absurd h (by omega), Below.refl _ _⟩
  go_enter Try.func60, Try.ntmps60
  go_wp2
  go_loopw [1, 5] (fun t i wr => ∃ (k : Nat) (m : Int), k ≤ l.length ∧ i = .int .i64 k ∧ t = .int .i64 m ∧ 0 ≤ m ∧ m ≤ left ∧ (∀ j y, j < k → l[j]? = some y → y.sm) ∧ Below w.heap.size w wr) (fun _ i _ => l.length - (intOf i).toNat)
  case atStart => exact ⟨0, _, Nat.zero_le _, rfl, rfl, by omega, by omega, fun j y h => absurd h (by omega), Below.refl _ _⟩
  case round =>
    obtain ⟨k, m, hk, rfl, rfl, hm0, hm1, hsm, hb⟩ := hrel
    have Hsm := Lib.hid hsm
    clear hsm
    by_cases hlt : k < l.length
    · obtain ⟨ad, x, A6, c6, rfl, hx, p0, p1, p2, p3, p4, p5, p6, l6, g6⟩ := Batch.at (Row_below hr hb) k hlt
      have Hx := Lib.hid hx
      have hwx := hw.2 x (List.mem_of_getElem? hx)
      clear hx
      have HW := Lib.hid hwx
      clear hwx
      go_wp2_with (go_at_call 9; refine (szBatch_c _ x l6 g6 HW.out m hm0 (by omega)).mono ?_; rintro e w' ⟨r, rfl, ra, rb, rs, hb2⟩; have hs := Lib.hid rs; clear rs)
      · go_ret
        exact ⟨_, rfl, by omega, by omega, fun h => absurd h (by omega), hb.trans (hb2.mono hb.size)⟩
      · go_roundw
        case rel => exact ⟨k + 1, r, by omega, by go_num, rfl, by omega, by omega, fun j y h1 h2 => by
          by_cases e : j = k
          · subst e; rw [Hx.out] at h2; cases h2; exact hs.out (by omega)
          · exact Hsm.out j y (by omega) h2, hb.trans (hb2.mono hb.size)⟩
        case measure => simp [intOf]; omega
    · go_wp2
      go_ret
      obtain rfl : k = l.length := by omega
      refine ⟨_, rfl, by omega, hm1, fun _ => ⟨by omega, fun y hy => ?_⟩, hb⟩
      obtain ⟨j, hj, rfl⟩ := List.getElem_of_mem hy
      exact Hsm.out j _ hj (List.getElem?_eq_getElem hj)
theorem szSegment_c (w : World) (x : Segment) {A1 : Option Addr} {c1 : Nat} (l1 : x.Batches.length ≤ c1) (g1 : Row kBatch w A1 x.Batches) (hw : x.wf) (left : Int) (h0 : 0 ≤ left) (h1 : left ≤ 1048576) :
    Calls Try.prog 50 #[.agg #[.int .i64 x.Base, .slice A1 x.Batches.length c1], .int .i64 left] w (SzPost left (x.sm) w) := by
  obtain ⟨_, q1⟩ := hw
  have Q1 := Lib.hid q1
  clear q1
  dsimp only at Q1
  go_enter Try.func50, Try.ntmps50
  go_wp2_with (first | (go_at_call 60; refine (szBatchS_c _ _ _ _ _ (Row_below g1 (by repeat (first | with_reducible exact Below.refl _ _ | with_reducible assumption | ((with_reducible refine Below.setCell ?_ ?_ _); rotate_left; (simp <;> omega)) | ((with_reducible refine Below.alloc ?_ ?_ _); rotate_left; (simp <;> omega))))) l1 Q1.out (by omega) (by omega)).mono ?_; rintro e w' ⟨r1, rfl, ra1, rb1, rs1, hb1⟩; obtain ⟨hc1, hf1⟩ := bcell hb1; have hz1 := hb1.size; simp at hz1; have hs1 := Lib.hid rs1; clear rs1))
  all_goals (go_ret; first | exact ⟨_, rfl, by omega, by omega, fun h => absurd h (by omega), (Below.refl _ _).alloc (Nat.le_refl _) _⟩ | exact ⟨_, rfl, by omega, by omega, fun h => absurd h (by omega), below_tr ((Below.refl _ _).alloc (Nat.le_refl _) _) hb1⟩ | exact ⟨_, rfl, by omega, by omega, fun _ => (hs1.out (by omega)), below_tr ((Below.refl _ _).alloc (Nat.le_refl _) _) hb1⟩)
theorem szSegmentS_c (w : World) (A : Option Addr) (c : Nat) (l : List Segment) (left : Int) (hr : Row kSegment w A l) (hc : l.length ≤ c) (hw : wfList Segment.wf l) (h0 : 0 ≤ left) (h1 : left ≤ 1048576) :
    Calls Try.prog 38 #[.slice A l.length c, .int .i64 left] w (SzPost left (l.length ≤ 1048576 ∧ ∀ y ∈ l, y.sm) w) := by
  have hl := wfList_lim hw
  have hu := Try.underlying80
  have hu2 := Try.underlying34
  by_cases h2 : left - (l.length : Int) < 0
  · go_enter Try.func38, Try.ntmps38
    go_wp2
    go_ret
    exact ⟨_, rfl, by omega, by omega, fun h => absurd h (by omega), Below.refl _ _⟩
  go_enter Try.func38, Try.ntmps38
  go_wp2
  go_loopw [1, 5] (fun t i wr => ∃ (k : Nat) (m : Int), k ≤ l.length ∧ i = .int .i64 k ∧ t = .int .i64 m ∧ 0 ≤ m ∧ m ≤ left ∧ (∀ j y, j < k → l[j]? = some y → y.sm) ∧ Below w.heap.size w wr) (fun _ i _ => l.length - (intOf i).toNat)
  case atStart => exact ⟨0, _, Nat.zero_le _, rfl, rfl, by omega, by omega, fun j y h => absurd h (by omega), Below.refl _ _⟩
  case round =>
    obtain ⟨k, m, hk, rfl, rfl, hm0, hm1, hsm, hb⟩ := hrel
    have Hsm := Lib.hid hsm
    clear hsm
    by_cases hlt : k < l.length
    · obtain ⟨ad, x, A1, c1, rfl, hx, p0, p1, l1, g1⟩ := Segment.at (Row_below hr hb) k hlt
      have Hx := Lib.hid hx
      have hwx := hw.2 x (List.mem_of_getElem? hx)
      clear hx
      have HW := Lib.hid hwx
      clear hwx
      go_wp2_with (go_at_call 50; refine (szSegment_c _ x l1 g1 HW.out m hm0 (by omega)).mono ?_; rintro e w' ⟨r, rfl, ra, rb, rs, hb2⟩; have hs := Lib.hid rs; clear rs)
      · go_ret
        exact ⟨_, rfl, by omega, by omega, fun h => absurd h (by omega), hb.trans (hb2.mono hb.size)⟩
      · go_roundw
        case rel => exact ⟨k + 1, r, by omega, by go_num, rfl, by omega, by omega, fun j y h1 h2 => by
          by_cases e : j = k
          · subst e; rw [Hx.out] at h2; cases h2; exact hs.out (by omega)
          · exact Hsm.out j y (by omega) h2, hb.trans (hb2.mono hb.size)⟩
        case measure => simp [intOf]; omega
    · go_wp2
      go_ret
      obtain rfl : k = l.length := by omega
      refine ⟨_, rfl, by omega, hm1, fun _ => ⟨by omega, fun y hy => ?_⟩, hb⟩
      obtain ⟨j, hj, rfl⟩ := List.getElem_of_mem hy
      exact Hsm.out j _ hj (List.getElem?_eq_getElem hj)
theorem szLog_c (w : World) (x : Log) {A3 : Option Addr} {c3 : Nat} (l3 : x.Segments.length ≤ c3) (g3 : Row kSegment w A3 x.Segments) (hw : x.wf) (left : Int) (h0 : 0 ≤ left) (h1 : left ≤ 1048576) :
    Calls Try.prog 16 #[.agg #[.int .i64 x.Start, .int .i64 x.Next, .int .i64 x.Roll, .slice A3 x.Segments.length c3], .int .i64 left] w (SzPost left (x.sm) w) := by
  obtain ⟨_, _, _, q3⟩ := hw
  have Q3 := Lib.hid q3
  clear q3
  dsimp only at Q3
  go_enter Try.func16, Try.ntmps16
  go_wp2_with (first | (go_at_call 38; refine (szSegmentS_c _ _ _ _ _ (Row_below g3 (by repeat (first | with_reducible exact Below.refl _ _ | with_reducible assumption | ((with_reducible refine Below.setCell ?_ ?_ _); rotate_left; (simp <;> omega)) | ((with_reducible refine Below.alloc ?_ ?_ _); rotate_left; (simp <;> omega))))) l3 Q3.out (by omega) (by omega)).mono ?_; rintro e w' ⟨r3, rfl, ra3, rb3, rs3, hb3⟩; obtain ⟨hc3, hf3⟩ := bcell hb3; have hz3 := hb3.size; simp at hz3; have hs3 := Lib.hid rs3; clear rs3))
  all_goals (go_ret; first | exact ⟨_, rfl, by omega, by omega, fun h => absurd h (by omega), (Below.refl _ _).alloc (Nat.le_refl _) _⟩ | exact ⟨_, rfl, by omega, by omega, fun h => absurd h (by omega), below_tr ((Below.refl _ _).alloc (Nat.le_refl _) _) hb3⟩ | exact ⟨_, rfl, by omega, by omega, fun _ => (hs3.out (by omega)), below_tr ((Below.refl _ _).alloc (Nat.le_refl _) _) hb3⟩)
end Go.Proofs.Ytjbcgflpeomkfaa.H
