/-
The laws' own functions to..: a copy of the value, in memory of its own. Printed by hlaws.py (this session's own). Conditions: each contract's own premises.
-/
import Derived.Test.YtipemgjgimpmbaaHTypes
import Derived.Test.YtipemgjgimpmbaaProg
namespace Go.Proofs.Ytipemgjgimpmbaa.H
open Go.RowKit
set_option linter.unusedVariables false
set_option linter.unusedSimpArgs false
set_option maxRecDepth 100000
theorem toHead_c (w : World) (x : Head) :
    Calls Try.prog 125 #[.agg #[.string x.Key, .string x.Value]] w fun e w' => e = .returned (.agg #[.string x.Key, .string x.Value]) ∧ Below w.heap.size w w' := by
  go_enter Try.func125, Try.ntmps125
  go_wp2
  refine bodyPost_ret (v := .agg #[.string x.Key, .string x.Value]) (by simp [results, Try.results125, go_sem]) rfl ?_
  exact ⟨rfl, by repeat (first | with_reducible exact Below.refl _ _ | with_reducible assumption | ((with_reducible refine Below.setCell ?_ ?_ _); rotate_left; (simp <;> omega)) | ((with_reducible refine Below.alloc ?_ ?_ _); rotate_left; (simp <;> omega)))⟩
theorem info_152 : (Try.prog.info? 152).map (fun i => (i.zero, i.size, i.bytes)) = some (some (.agg #[.string ⟨#[]⟩, .string ⟨#[]⟩]), 2, 32) := by kernel_rfl
theorem toHeadS_c (w : World) (l : List Head) {A : Option Addr} {c : Nat} (hc : l.length ≤ c) (hr : Row kHead w A l) (hs : (l.length ≤ 1048576 ∧ ∀ y ∈ l, y.sm)) :
    Calls Try.prog 119 #[.slice A l.length c] w (MadeS kHead 152 l w) := by
  have hl : l.length ≤ 1048576 := hs.1
  have HS := Lib.hid hs
  clear hs
  have hu164 := Try.underlying164
  have hu152 := Try.underlying152
  have hu136 := Try.underlying136
  have hu114 := Try.underlying114
  obtain ⟨i0, hi, hz0, hz1, hz2⟩ := info_parts info_152
  go_enter Try.func119, Try.ntmps119
  go_wp2_with (refine wpList_make_full _ rfl _ _ _ rfl 0 152 i0 _ 2 hu114 hi hz0 hz1 .i64 .i64 _ _ l.length rfl rfl rfl rfl (by rw [hz2]; omega) (by simp only [maxLen]; omega) (Nat.zero_le _) ?_; intro w1 hown hgr)
  have H := Lib.hid (Fill.start (d := kHead) hown hgr)
  clear hown hgr
  go_loopw [4] (fun i wr => ∃ k : Nat, k ≤ l.length ∧ i = .int .i64 k ∧ Fill kHead 152 w wr w.heap.size l.length (l.take k)) (fun i _ => l.length - (intOf i).toNat)
  case atStart => exact ⟨0, Nat.zero_le _, rfl, H.out⟩
  case round =>
    clear H
    obtain ⟨k, hk, rfl, hT⟩ := hrel
    by_cases hlt : k < l.length
    · obtain ⟨ad, x, rfl, hx, p0, p1⟩ := Head.at (Row_below hr hT.bel) k hlt
      have Hx := Lib.hid (take_snoc hx)
      have Sx := Lib.hid (HS.out.2 x (List.mem_of_getElem? hx))
      clear hx
      go_wp2_with (go_at_call 125; refine (toHead_c _ x).mono ?_; rintro e w' ⟨rfl, hb2⟩; obtain ⟨⟨u0_, s0_⟩, f0_, hg0_⟩ := hT.cells hb2 (k * 2) (by show _ < _ * 2; omega); obtain ⟨⟨u1_, s1_⟩, f1_, hg1_⟩ := hT.cells hb2 (k * 2 + 1) (by show _ < _ * 2; omega))
      go_roundw
      case rel => exact ⟨k + 1, by omega, by go_num, by rw [Hx.out]; have hp := hT.put k 2 rfl (by simp; omega) hlt hb2 (Head.mkT _ x) (Fresh.nil _); exact hp⟩
      case measure => simp [intOf]; omega
    · go_wp2
      go_ret
      obtain rfl : k = l.length := by omega
      rw [List.take_length] at hT
      exact hT.done rfl
def Record.Made (x : Record) (w : World) (en : Ending) (w' : World) : Prop := ∃ v5 F, en = .returned (.agg #[.int .i64 x.Time, .bool x.Keyed, .string x.Key, .bool x.Gone, .string x.Value, v5]) ∧ kRecord.T w' F x [.int .i64 x.Time, .bool x.Keyed, .string x.Key, .bool x.Gone, .string x.Value, v5] ∧ Fresh w F ∧ Below w.heap.size w w'
theorem toRecord_c (w : World) (x : Record) {A5 : Option Addr} {c5 : Nat} (l5 : x.Heads.length ≤ c5) (g5 : Row kHead w A5 x.Heads) (hs : x.sm) :
    Calls Try.prog 102 #[.agg #[.int .i64 x.Time, .bool x.Keyed, .string x.Key, .bool x.Gone, .string x.Value, .slice A5 x.Heads.length c5]] w (x.Made w) := by
  obtain ⟨_, _, s5⟩ := hs
  have S5 := Lib.hid s5
  clear s5
  go_enter Try.func102, Try.ntmps102
  go_upto_region 7 with fail
  go_wp2_with (go_at_call 119; refine (toHeadS_c _ x.Heads l5 (Row_below g5 (by repeat (first | with_reducible exact Below.refl _ _ | with_reducible assumption | ((with_reducible refine Below.setCell ?_ ?_ _); rotate_left; (simp <;> omega)) | ((with_reducible refine Below.alloc ?_ ?_ _); rotate_left; (simp <;> omega))))) S5.out).mono ?_; rintro e w5_ ⟨v5, F5, rfl, hT5, hF5, hb5⟩; obtain ⟨B5, d5, rfl, _⟩ := TS_read hT5; have hB5 : Below w.heap.size w w5_ := (by refine Below.trans ?_ (hb5.mono (by simp <;> omega)); repeat (first | with_reducible exact Below.refl _ _ | with_reducible assumption | ((with_reducible refine Below.setCell ?_ ?_ _); rotate_left; (simp <;> omega)) | ((with_reducible refine Below.alloc ?_ ?_ _); rotate_left; (simp <;> omega)))); have hl5 := Lib.hid (TS_lt hT5); have hG5 := Lib.hid (hF5.2); obtain ⟨hc5, hf5⟩ := bcell hb5; have hz5 := hb5.size; simp at hz5; have hg5_0 : w.heap.size < w5_.heap.size := (by omega); have hg5_1 : w.heap.size + 1 < w5_.heap.size := (by omega); have hg5_2 : w.heap.size + 1 + 1 < w5_.heap.size := (by omega))
  refine bodyPost_ret (v := .agg #[.int .i64 x.Time, .bool x.Keyed, .string x.Key, .bool x.Gone, .string x.Value, .slice B5 x.Heads.length d5]) (by simp [results, Try.results102, go_sem, hc5, hz5, hg5_0, hg5_1, hg5_2]) rfl ?_
  refine ⟨_, _, rfl, Record.mkT _ x (F5 := F5) (by repeat (first | with_reducible exact hT5 | ((with_reducible refine TS_setc ?_ hG5.out ?_); rotate_left; (simp <;> omega)))), ?_, by repeat (first | with_reducible exact Below.refl _ _ | with_reducible assumption | ((with_reducible refine Below.setCell ?_ ?_ _); rotate_left; (simp <;> omega)) | ((with_reducible refine Below.alloc ?_ ?_ _); rotate_left; (simp <;> omega)))⟩
  exact hF5.mono (by simp <;> omega)
theorem info_116 : (Try.prog.info? 116).map (fun i => (i.zero, i.size, i.bytes)) = some (some (.agg #[.int .i64 0, .bool false, .string ⟨#[]⟩, .bool false, .string ⟨#[]⟩, .slice none 0 0]), 6, 80) := by kernel_rfl
theorem toRecordS_c (w : World) (l : List Record) {A : Option Addr} {c : Nat} (hc : l.length ≤ c) (hr : Row kRecord w A l) (hs : (l.length ≤ 1048576 ∧ ∀ y ∈ l, y.sm)) :
    Calls Try.prog 66 #[.slice A l.length c] w (MadeS kRecord 116 l w) := by
  have hl : l.length ≤ 1048576 := hs.1
  have HS := Lib.hid hs
  clear hs
  have hu138 := Try.underlying138
  have hu116 := Try.underlying116
  have hu41 := Try.underlying41
  have hu50 := Try.underlying50
  obtain ⟨i0, hi, hz0, hz1, hz2⟩ := info_parts info_116
  go_enter Try.func66, Try.ntmps66
  go_wp2_with (refine wpList_make_full _ rfl _ _ _ rfl 0 116 i0 _ 6 hu50 hi hz0 hz1 .i64 .i64 _ _ l.length rfl rfl rfl rfl (by rw [hz2]; omega) (by simp only [maxLen]; omega) (Nat.zero_le _) ?_; intro w1 hown hgr)
  have H := Lib.hid (Fill.start (d := kRecord) hown hgr)
  clear hown hgr
  go_loopw [4] (fun i wr => ∃ k : Nat, k ≤ l.length ∧ i = .int .i64 k ∧ Fill kRecord 116 w wr w.heap.size l.length (l.take k)) (fun i _ => l.length - (intOf i).toNat)
  case atStart => exact ⟨0, Nat.zero_le _, rfl, H.out⟩
  case round =>
    clear H
    obtain ⟨k, hk, rfl, hT⟩ := hrel
    by_cases hlt : k < l.length
    · obtain ⟨ad, x, A5, c5, rfl, hx, p0, p1, p2, p3, p4, p5, l5, g5⟩ := Record.at (Row_below hr hT.bel) k hlt
      have Hx := Lib.hid (take_snoc hx)
      have Sx := Lib.hid (HS.out.2 x (List.mem_of_getElem? hx))
      clear hx
      go_wp2_with (go_at_call 102; refine (toRecord_c _ x l5 g5 Sx.out).mono ?_; rintro e w' ⟨v5, Fx, rfl, hTx, hFx, hb2⟩; have HT := Lib.hid hTx; have HF := Lib.hid hFx; obtain ⟨v5', G5, he, rfl, hU5⟩ := Record.opnT hTx; obtain ⟨B5, d5, rfl, _⟩ := TS_read hU5; simp at he; obtain rfl := he; obtain ⟨⟨u0_, s0_⟩, f0_, hg0_⟩ := hT.cells hb2 (k * 6) (by show _ < _ * 6; omega); obtain ⟨⟨u1_, s1_⟩, f1_, hg1_⟩ := hT.cells hb2 (k * 6 + 1) (by show _ < _ * 6; omega); obtain ⟨⟨u2_, s2_⟩, f2_, hg2_⟩ := hT.cells hb2 (k * 6 + 2) (by show _ < _ * 6; omega); obtain ⟨⟨u3_, s3_⟩, f3_, hg3_⟩ := hT.cells hb2 (k * 6 + 3) (by show _ < _ * 6; omega); obtain ⟨⟨u4_, s4_⟩, f4_, hg4_⟩ := hT.cells hb2 (k * 6 + 4) (by show _ < _ * 6; omega); obtain ⟨⟨u5_, s5_⟩, f5_, hg5_⟩ := hT.cells hb2 (k * 6 + 5) (by show _ < _ * 6; omega))
      go_roundw
      case rel => exact ⟨k + 1, by omega, by go_num, by rw [Hx.out]; have hp := hT.put k 6 rfl (by simp; omega) hlt hb2 HT.out HF.out; exact hp⟩
      case measure => simp [intOf]; omega
    · go_wp2
      go_ret
      obtain rfl : k = l.length := by omega
      rw [List.take_length] at hT
      exact hT.done rfl
def Batch.Made (x : Batch) (w : World) (en : Ending) (w' : World) : Prop := ∃ v6 F, en = .returned (.agg #[.int .i64 x.Base, .int .i64 x.Epoch, .int .i64 x.Producer, .int .i64 x.Turn, .int .i64 x.Seq, .int .i64 x.Flags, v6]) ∧ kBatch.T w' F x [.int .i64 x.Base, .int .i64 x.Epoch, .int .i64 x.Producer, .int .i64 x.Turn, .int .i64 x.Seq, .int .i64 x.Flags, v6] ∧ Fresh w F ∧ Below w.heap.size w w'
theorem toBatch_c (w : World) (x : Batch) {A6 : Option Addr} {c6 : Nat} (l6 : x.Records.length ≤ c6) (g6 : Row kRecord w A6 x.Records) (hs : x.sm) :
    Calls Try.prog 27 #[.agg #[.int .i64 x.Base, .int .i64 x.Epoch, .int .i64 x.Producer, .int .i64 x.Turn, .int .i64 x.Seq, .int .i64 x.Flags, .slice A6 x.Records.length c6]] w (x.Made w) := by
  have s6 := hs
  have S6 := Lib.hid s6
  clear s6
  go_enter Try.func27, Try.ntmps27
  go_upto_region 8 with fail
  go_wp2_with (go_at_call 66; refine (toRecordS_c _ x.Records l6 (Row_below g6 (by repeat (first | with_reducible exact Below.refl _ _ | with_reducible assumption | ((with_reducible refine Below.setCell ?_ ?_ _); rotate_left; (simp <;> omega)) | ((with_reducible refine Below.alloc ?_ ?_ _); rotate_left; (simp <;> omega))))) S6.out).mono ?_; rintro e w6_ ⟨v6, F6, rfl, hT6, hF6, hb6⟩; obtain ⟨B6, d6, rfl, _⟩ := TS_read hT6; have hB6 : Below w.heap.size w w6_ := (by refine Below.trans ?_ (hb6.mono (by simp <;> omega)); repeat (first | with_reducible exact Below.refl _ _ | with_reducible assumption | ((with_reducible refine Below.setCell ?_ ?_ _); rotate_left; (simp <;> omega)) | ((with_reducible refine Below.alloc ?_ ?_ _); rotate_left; (simp <;> omega)))); have hl6 := Lib.hid (TS_lt hT6); have hG6 := Lib.hid (hF6.2); obtain ⟨hc6, hf6⟩ := bcell hb6; have hz6 := hb6.size; simp at hz6; have hg6_0 : w.heap.size < w6_.heap.size := (by omega); have hg6_1 : w.heap.size + 1 < w6_.heap.size := (by omega); have hg6_2 : w.heap.size + 1 + 1 < w6_.heap.size := (by omega))
  refine bodyPost_ret (v := .agg #[.int .i64 x.Base, .int .i64 x.Epoch, .int .i64 x.Producer, .int .i64 x.Turn, .int .i64 x.Seq, .int .i64 x.Flags, .slice B6 x.Records.length d6]) (by simp [results, Try.results27, go_sem, hc6, hz6, hg6_0, hg6_1, hg6_2]) rfl ?_
  refine ⟨_, _, rfl, Batch.mkT _ x (F6 := F6) (by repeat (first | with_reducible exact hT6 | ((with_reducible refine TS_setc ?_ hG6.out ?_); rotate_left; (simp <;> omega)))), ?_, by repeat (first | with_reducible exact Below.refl _ _ | with_reducible assumption | ((with_reducible refine Below.setCell ?_ ?_ _); rotate_left; (simp <;> omega)) | ((with_reducible refine Below.alloc ?_ ?_ _); rotate_left; (simp <;> omega)))⟩
  exact hF6.mono (by simp <;> omega)
theorem info_52 : (Try.prog.info? 52).map (fun i => (i.zero, i.size, i.bytes)) = some (some (.agg #[.int .i64 0, .int .i64 0, .int .i64 0, .int .i64 0, .int .i64 0, .int .i64 0, .slice none 0 0]), 7, 72) := by kernel_rfl
theorem toBatchS_c (w : World) (l : List Batch) {A : Option Addr} {c : Nat} (hc : l.length ≤ c) (hr : Row kBatch w A l) (hs : (l.length ≤ 1048576 ∧ ∀ y ∈ l, y.sm)) :
    Calls Try.prog 113 #[.slice A l.length c] w (MadeS kBatch 52 l w) := by
  have hl : l.length ≤ 1048576 := hs.1
  have HS := Lib.hid hs
  clear hs
  have hu43 := Try.underlying43
  have hu52 := Try.underlying52
  have hu126 := Try.underlying126
  have hu70 := Try.underlying70
  obtain ⟨i0, hi, hz0, hz1, hz2⟩ := info_parts info_52
  go_enter Try.func113, Try.ntmps113
  go_wp2_with (refine wpList_make_full _ rfl _ _ _ rfl 0 52 i0 _ 7 hu70 hi hz0 hz1 .i64 .i64 _ _ l.length rfl rfl rfl rfl (by rw [hz2]; omega) (by simp only [maxLen]; omega) (Nat.zero_le _) ?_; intro w1 hown hgr)
  have H := Lib.hid (Fill.start (d := kBatch) hown hgr)
  clear hown hgr
  go_loopw [4] (fun i wr => ∃ k : Nat, k ≤ l.length ∧ i = .int .i64 k ∧ Fill kBatch 52 w wr w.heap.size l.length (l.take k)) (fun i _ => l.length - (intOf i).toNat)
  case atStart => exact ⟨0, Nat.zero_le _, rfl, H.out⟩
  case round =>
    clear H
    obtain ⟨k, hk, rfl, hT⟩ := hrel
    by_cases hlt : k < l.length
    · obtain ⟨ad, x, A6, c6, rfl, hx, p0, p1, p2, p3, p4, p5, p6, l6, g6⟩ := Batch.at (Row_below hr hT.bel) k hlt
      have Hx := Lib.hid (take_snoc hx)
      have Sx := Lib.hid (HS.out.2 x (List.mem_of_getElem? hx))
      clear hx
      go_wp2_with (go_at_call 27; refine (toBatch_c _ x l6 g6 Sx.out).mono ?_; rintro e w' ⟨v6, Fx, rfl, hTx, hFx, hb2⟩; have HT := Lib.hid hTx; have HF := Lib.hid hFx; obtain ⟨v6', G6, he, rfl, hU6⟩ := Batch.opnT hTx; obtain ⟨B6, d6, rfl, _⟩ := TS_read hU6; simp at he; obtain rfl := he; obtain ⟨⟨u0_, s0_⟩, f0_, hg0_⟩ := hT.cells hb2 (k * 7) (by show _ < _ * 7; omega); obtain ⟨⟨u1_, s1_⟩, f1_, hg1_⟩ := hT.cells hb2 (k * 7 + 1) (by show _ < _ * 7; omega); obtain ⟨⟨u2_, s2_⟩, f2_, hg2_⟩ := hT.cells hb2 (k * 7 + 2) (by show _ < _ * 7; omega); obtain ⟨⟨u3_, s3_⟩, f3_, hg3_⟩ := hT.cells hb2 (k * 7 + 3) (by show _ < _ * 7; omega); obtain ⟨⟨u4_, s4_⟩, f4_, hg4_⟩ := hT.cells hb2 (k * 7 + 4) (by show _ < _ * 7; omega); obtain ⟨⟨u5_, s5_⟩, f5_, hg5_⟩ := hT.cells hb2 (k * 7 + 5) (by show _ < _ * 7; omega); obtain ⟨⟨u6_, s6_⟩, f6_, hg6_⟩ := hT.cells hb2 (k * 7 + 6) (by show _ < _ * 7; omega))
      go_roundw
      case rel => exact ⟨k + 1, by omega, by go_num, by rw [Hx.out]; have hp := hT.put k 7 rfl (by simp; omega) hlt hb2 HT.out HF.out; exact hp⟩
      case measure => simp [intOf]; omega
    · go_wp2
      go_ret
      obtain rfl : k = l.length := by omega
      rw [List.take_length] at hT
      exact hT.done rfl
def Segment.Made (x : Segment) (w : World) (en : Ending) (w' : World) : Prop := ∃ v1 F, en = .returned (.agg #[.int .i64 x.Base, v1]) ∧ kSegment.T w' F x [.int .i64 x.Base, v1] ∧ Fresh w F ∧ Below w.heap.size w w'
theorem toSegment_c (w : World) (x : Segment) {A1 : Option Addr} {c1 : Nat} (l1 : x.Batches.length ≤ c1) (g1 : Row kBatch w A1 x.Batches) (hs : x.sm) :
    Calls Try.prog 90 #[.agg #[.int .i64 x.Base, .slice A1 x.Batches.length c1]] w (x.Made w) := by
  have s1 := hs
  have S1 := Lib.hid s1
  clear s1
  go_enter Try.func90, Try.ntmps90
  go_upto_region 3 with fail
  go_wp2_with (go_at_call 113; refine (toBatchS_c _ x.Batches l1 (Row_below g1 (by repeat (first | with_reducible exact Below.refl _ _ | with_reducible assumption | ((with_reducible refine Below.setCell ?_ ?_ _); rotate_left; (simp <;> omega)) | ((with_reducible refine Below.alloc ?_ ?_ _); rotate_left; (simp <;> omega))))) S1.out).mono ?_; rintro e w1_ ⟨v1, F1, rfl, hT1, hF1, hb1⟩; obtain ⟨B1, d1, rfl, _⟩ := TS_read hT1; have hB1 : Below w.heap.size w w1_ := (by refine Below.trans ?_ (hb1.mono (by simp <;> omega)); repeat (first | with_reducible exact Below.refl _ _ | with_reducible assumption | ((with_reducible refine Below.setCell ?_ ?_ _); rotate_left; (simp <;> omega)) | ((with_reducible refine Below.alloc ?_ ?_ _); rotate_left; (simp <;> omega)))); have hl1 := Lib.hid (TS_lt hT1); have hG1 := Lib.hid (hF1.2); obtain ⟨hc1, hf1⟩ := bcell hb1; have hz1 := hb1.size; simp at hz1; have hg1_0 : w.heap.size < w1_.heap.size := (by omega); have hg1_1 : w.heap.size + 1 < w1_.heap.size := (by omega); have hg1_2 : w.heap.size + 1 + 1 < w1_.heap.size := (by omega))
  refine bodyPost_ret (v := .agg #[.int .i64 x.Base, .slice B1 x.Batches.length d1]) (by simp [results, Try.results90, go_sem, hc1, hz1, hg1_0, hg1_1, hg1_2]) rfl ?_
  refine ⟨_, _, rfl, Segment.mkT _ x (F1 := F1) (by repeat (first | with_reducible exact hT1 | ((with_reducible refine TS_setc ?_ hG1.out ?_); rotate_left; (simp <;> omega)))), ?_, by repeat (first | with_reducible exact Below.refl _ _ | with_reducible assumption | ((with_reducible refine Below.setCell ?_ ?_ _); rotate_left; (simp <;> omega)) | ((with_reducible refine Below.alloc ?_ ?_ _); rotate_left; (simp <;> omega)))⟩
  exact hF1.mono (by simp <;> omega)
theorem info_83 : (Try.prog.info? 83).map (fun i => (i.zero, i.size, i.bytes)) = some (some (.agg #[.int .i64 0, .slice none 0 0]), 2, 32) := by kernel_rfl
theorem toSegmentS_c (w : World) (l : List Segment) {A : Option Addr} {c : Nat} (hc : l.length ≤ c) (hr : Row kSegment w A l) (hs : (l.length ≤ 1048576 ∧ ∀ y ∈ l, y.sm)) :
    Calls Try.prog 45 #[.slice A l.length c] w (MadeS kSegment 83 l w) := by
  have hl : l.length ≤ 1048576 := hs.1
  have HS := Lib.hid hs
  clear hs
  have hu128 := Try.underlying128
  have hu83 := Try.underlying83
  have hu22 := Try.underlying22
  have hu28 := Try.underlying28
  obtain ⟨i0, hi, hz0, hz1, hz2⟩ := info_parts info_83
  go_enter Try.func45, Try.ntmps45
  go_wp2_with (refine wpList_make_full _ rfl _ _ _ rfl 0 83 i0 _ 2 hu28 hi hz0 hz1 .i64 .i64 _ _ l.length rfl rfl rfl rfl (by rw [hz2]; omega) (by simp only [maxLen]; omega) (Nat.zero_le _) ?_; intro w1 hown hgr)
  have H := Lib.hid (Fill.start (d := kSegment) hown hgr)
  clear hown hgr
  go_loopw [4] (fun i wr => ∃ k : Nat, k ≤ l.length ∧ i = .int .i64 k ∧ Fill kSegment 83 w wr w.heap.size l.length (l.take k)) (fun i _ => l.length - (intOf i).toNat)
  case atStart => exact ⟨0, Nat.zero_le _, rfl, H.out⟩
  case round =>
    clear H
    obtain ⟨k, hk, rfl, hT⟩ := hrel
    by_cases hlt : k < l.length
    · obtain ⟨ad, x, A1, c1, rfl, hx, p0, p1, l1, g1⟩ := Segment.at (Row_below hr hT.bel) k hlt
      have Hx := Lib.hid (take_snoc hx)
      have Sx := Lib.hid (HS.out.2 x (List.mem_of_getElem? hx))
      clear hx
      go_wp2_with (go_at_call 90; refine (toSegment_c _ x l1 g1 Sx.out).mono ?_; rintro e w' ⟨v1, Fx, rfl, hTx, hFx, hb2⟩; have HT := Lib.hid hTx; have HF := Lib.hid hFx; obtain ⟨v1', G1, he, rfl, hU1⟩ := Segment.opnT hTx; obtain ⟨B1, d1, rfl, _⟩ := TS_read hU1; simp at he; obtain rfl := he; obtain ⟨⟨u0_, s0_⟩, f0_, hg0_⟩ := hT.cells hb2 (k * 2) (by show _ < _ * 2; omega); obtain ⟨⟨u1_, s1_⟩, f1_, hg1_⟩ := hT.cells hb2 (k * 2 + 1) (by show _ < _ * 2; omega))
      go_roundw
      case rel => exact ⟨k + 1, by omega, by go_num, by rw [Hx.out]; have hp := hT.put k 2 rfl (by simp; omega) hlt hb2 HT.out HF.out; exact hp⟩
      case measure => simp [intOf]; omega
    · go_wp2
      go_ret
      obtain rfl : k = l.length := by omega
      rw [List.take_length] at hT
      exact hT.done rfl
def Log.Made (x : Log) (w : World) (en : Ending) (w' : World) : Prop := ∃ v3 F, en = .returned (.agg #[.int .i64 x.Start, .int .i64 x.Next, .int .i64 x.Roll, v3]) ∧ kLog.T w' F x [.int .i64 x.Start, .int .i64 x.Next, .int .i64 x.Roll, v3] ∧ Fresh w F ∧ Below w.heap.size w w'
theorem toLog_c (w : World) (x : Log) {A3 : Option Addr} {c3 : Nat} (l3 : x.Segments.length ≤ c3) (g3 : Row kSegment w A3 x.Segments) (hs : x.sm) :
    Calls Try.prog 11 #[.agg #[.int .i64 x.Start, .int .i64 x.Next, .int .i64 x.Roll, .slice A3 x.Segments.length c3]] w (x.Made w) := by
  have s3 := hs
  have S3 := Lib.hid s3
  clear s3
  go_enter Try.func11, Try.ntmps11
  go_upto_region 5 with fail
  go_wp2_with (go_at_call 45; refine (toSegmentS_c _ x.Segments l3 (Row_below g3 (by repeat (first | with_reducible exact Below.refl _ _ | with_reducible assumption | ((with_reducible refine Below.setCell ?_ ?_ _); rotate_left; (simp <;> omega)) | ((with_reducible refine Below.alloc ?_ ?_ _); rotate_left; (simp <;> omega))))) S3.out).mono ?_; rintro e w3_ ⟨v3, F3, rfl, hT3, hF3, hb3⟩; obtain ⟨B3, d3, rfl, _⟩ := TS_read hT3; have hB3 : Below w.heap.size w w3_ := (by refine Below.trans ?_ (hb3.mono (by simp <;> omega)); repeat (first | with_reducible exact Below.refl _ _ | with_reducible assumption | ((with_reducible refine Below.setCell ?_ ?_ _); rotate_left; (simp <;> omega)) | ((with_reducible refine Below.alloc ?_ ?_ _); rotate_left; (simp <;> omega)))); have hl3 := Lib.hid (TS_lt hT3); have hG3 := Lib.hid (hF3.2); obtain ⟨hc3, hf3⟩ := bcell hb3; have hz3 := hb3.size; simp at hz3; have hg3_0 : w.heap.size < w3_.heap.size := (by omega); have hg3_1 : w.heap.size + 1 < w3_.heap.size := (by omega); have hg3_2 : w.heap.size + 1 + 1 < w3_.heap.size := (by omega))
  refine bodyPost_ret (v := .agg #[.int .i64 x.Start, .int .i64 x.Next, .int .i64 x.Roll, .slice B3 x.Segments.length d3]) (by simp [results, Try.results11, go_sem, hc3, hz3, hg3_0, hg3_1, hg3_2]) rfl ?_
  refine ⟨_, _, rfl, Log.mkT _ x (F3 := F3) (by repeat (first | with_reducible exact hT3 | ((with_reducible refine TS_setc ?_ hG3.out ?_); rotate_left; (simp <;> omega)))), ?_, by repeat (first | with_reducible exact Below.refl _ _ | with_reducible assumption | ((with_reducible refine Below.setCell ?_ ?_ _); rotate_left; (simp <;> omega)) | ((with_reducible refine Below.alloc ?_ ?_ _); rotate_left; (simp <;> omega)))⟩
  exact hF3.mono (by simp <;> omega)
theorem toRecent_c (w : World) (x : Recent) :
    Calls Try.prog 118 #[.agg #[.int .i64 x.Seq, .int .i64 x.Many, .int .i64 x.Offset]] w fun e w' => e = .returned (.agg #[.int .i64 x.Seq, .int .i64 x.Many, .int .i64 x.Offset]) ∧ Below w.heap.size w w' := by
  go_enter Try.func118, Try.ntmps118
  go_wp2
  refine bodyPost_ret (v := .agg #[.int .i64 x.Seq, .int .i64 x.Many, .int .i64 x.Offset]) (by simp [results, Try.results118, go_sem]) rfl ?_
  exact ⟨rfl, by repeat (first | with_reducible exact Below.refl _ _ | with_reducible assumption | ((with_reducible refine Below.setCell ?_ ?_ _); rotate_left; (simp <;> omega)) | ((with_reducible refine Below.alloc ?_ ?_ _); rotate_left; (simp <;> omega)))⟩
theorem info_103 : (Try.prog.info? 103).map (fun i => (i.zero, i.size, i.bytes)) = some (some (.agg #[.int .i64 0, .int .i64 0, .int .i64 0]), 3, 24) := by kernel_rfl
theorem toRecentS_c (w : World) (l : List Recent) {A : Option Addr} {c : Nat} (hc : l.length ≤ c) (hr : Row kRecent w A l) (hs : (l.length ≤ 1048576)) :
    Calls Try.prog 101 #[.slice A l.length c] w (MadeS kRecent 103 l w) := by
  have hl : l.length ≤ 1048576 := hs
  have HS := Lib.hid hs
  clear hs
  have hu158 := Try.underlying158
  have hu103 := Try.underlying103
  have hu90 := Try.underlying90
  have hu99 := Try.underlying99
  obtain ⟨i0, hi, hz0, hz1, hz2⟩ := info_parts info_103
  go_enter Try.func101, Try.ntmps101
  go_wp2_with (refine wpList_make_full _ rfl _ _ _ rfl 0 103 i0 _ 3 hu99 hi hz0 hz1 .i64 .i64 _ _ l.length rfl rfl rfl rfl (by rw [hz2]; omega) (by simp only [maxLen]; omega) (Nat.zero_le _) ?_; intro w1 hown hgr)
  have H := Lib.hid (Fill.start (d := kRecent) hown hgr)
  clear hown hgr
  go_loopw [4] (fun i wr => ∃ k : Nat, k ≤ l.length ∧ i = .int .i64 k ∧ Fill kRecent 103 w wr w.heap.size l.length (l.take k)) (fun i _ => l.length - (intOf i).toNat)
  case atStart => exact ⟨0, Nat.zero_le _, rfl, H.out⟩
  case round =>
    clear H
    obtain ⟨k, hk, rfl, hT⟩ := hrel
    by_cases hlt : k < l.length
    · obtain ⟨ad, x, rfl, hx, p0, p1, p2⟩ := Recent.at (Row_below hr hT.bel) k hlt
      have Hx := Lib.hid (take_snoc hx)
      clear hx
      go_wp2_with (go_at_call 118; refine (toRecent_c _ x).mono ?_; rintro e w' ⟨rfl, hb2⟩; obtain ⟨⟨u0_, s0_⟩, f0_, hg0_⟩ := hT.cells hb2 (k * 3) (by show _ < _ * 3; omega); obtain ⟨⟨u1_, s1_⟩, f1_, hg1_⟩ := hT.cells hb2 (k * 3 + 1) (by show _ < _ * 3; omega); obtain ⟨⟨u2_, s2_⟩, f2_, hg2_⟩ := hT.cells hb2 (k * 3 + 2) (by show _ < _ * 3; omega))
      go_roundw
      case rel => exact ⟨k + 1, by omega, by go_num, by rw [Hx.out]; have hp := hT.put k 3 rfl (by simp; omega) hlt hb2 (Recent.mkT _ x) (Fresh.nil _); exact hp⟩
      case measure => simp [intOf]; omega
    · go_wp2
      go_ret
      obtain rfl : k = l.length := by omega
      rw [List.take_length] at hT
      exact hT.done rfl
def Seen.Made (x : Seen) (w : World) (en : Ending) (w' : World) : Prop := ∃ v3 F, en = .returned (.agg #[.int .i64 x.Producer, .int .i64 x.Turn, .int .i64 x.Next, v3]) ∧ kSeen.T w' F x [.int .i64 x.Producer, .int .i64 x.Turn, .int .i64 x.Next, v3] ∧ Fresh w F ∧ Below w.heap.size w w'
theorem toSeen_c (w : World) (x : Seen) {A3 : Option Addr} {c3 : Nat} (l3 : x.Recent.length ≤ c3) (g3 : Row kRecent w A3 x.Recent) (hs : x.sm) :
    Calls Try.prog 65 #[.agg #[.int .i64 x.Producer, .int .i64 x.Turn, .int .i64 x.Next, .slice A3 x.Recent.length c3]] w (x.Made w) := by
  have s3 := hs
  have S3 := Lib.hid s3
  clear s3
  go_enter Try.func65, Try.ntmps65
  go_upto_region 5 with fail
  go_wp2_with (go_at_call 101; refine (toRecentS_c _ x.Recent l3 (Row_below g3 (by repeat (first | with_reducible exact Below.refl _ _ | with_reducible assumption | ((with_reducible refine Below.setCell ?_ ?_ _); rotate_left; (simp <;> omega)) | ((with_reducible refine Below.alloc ?_ ?_ _); rotate_left; (simp <;> omega))))) S3.out).mono ?_; rintro e w3_ ⟨v3, F3, rfl, hT3, hF3, hb3⟩; obtain ⟨B3, d3, rfl, _⟩ := TS_read hT3; have hB3 : Below w.heap.size w w3_ := (by refine Below.trans ?_ (hb3.mono (by simp <;> omega)); repeat (first | with_reducible exact Below.refl _ _ | with_reducible assumption | ((with_reducible refine Below.setCell ?_ ?_ _); rotate_left; (simp <;> omega)) | ((with_reducible refine Below.alloc ?_ ?_ _); rotate_left; (simp <;> omega)))); have hl3 := Lib.hid (TS_lt hT3); have hG3 := Lib.hid (hF3.2); obtain ⟨hc3, hf3⟩ := bcell hb3; have hz3 := hb3.size; simp at hz3; have hg3_0 : w.heap.size < w3_.heap.size := (by omega); have hg3_1 : w.heap.size + 1 < w3_.heap.size := (by omega); have hg3_2 : w.heap.size + 1 + 1 < w3_.heap.size := (by omega))
  refine bodyPost_ret (v := .agg #[.int .i64 x.Producer, .int .i64 x.Turn, .int .i64 x.Next, .slice B3 x.Recent.length d3]) (by simp [results, Try.results65, go_sem, hc3, hz3, hg3_0, hg3_1, hg3_2]) rfl ?_
  refine ⟨_, _, rfl, Seen.mkT _ x (F3 := F3) (by repeat (first | with_reducible exact hT3 | ((with_reducible refine TS_setc ?_ hG3.out ?_); rotate_left; (simp <;> omega)))), ?_, by repeat (first | with_reducible exact Below.refl _ _ | with_reducible assumption | ((with_reducible refine Below.setCell ?_ ?_ _); rotate_left; (simp <;> omega)) | ((with_reducible refine Below.alloc ?_ ?_ _); rotate_left; (simp <;> omega)))⟩
  exact hF3.mono (by simp <;> omega)
def Read.Made (x : Read) (w : World) (en : Ending) (w' : World) : Prop := ∃ v6 F, en = .returned (.agg #[.int .i64 x.Offset, .int .i64 x.Record.Time, .bool x.Record.Keyed, .string x.Record.Key, .bool x.Record.Gone, .string x.Record.Value, v6]) ∧ kRead.T w' F x [.int .i64 x.Offset, .int .i64 x.Record.Time, .bool x.Record.Keyed, .string x.Record.Key, .bool x.Record.Gone, .string x.Record.Value, v6] ∧ Fresh w F ∧ Below w.heap.size w w'
theorem info_101 : (Try.prog.info? 101).map (fun i => (i.zero, i.size, i.bytes)) = some (some (.agg #[.int .i64 0, .int .i64 0, .int .i64 0, .slice none 0 0]), 4, 48) := by kernel_rfl
theorem toSeenS_c (w : World) (l : List Seen) {A : Option Addr} {c : Nat} (hc : l.length ≤ c) (hr : Row kSeen w A l) (hs : (l.length ≤ 1048576 ∧ ∀ y ∈ l, y.sm)) :
    Calls Try.prog 26 #[.slice A l.length c] w (MadeS kSeen 101 l w) := by
  have hl : l.length ≤ 1048576 := hs.1
  have HS := Lib.hid hs
  clear hs
  have hu92 := Try.underlying92
  have hu101 := Try.underlying101
  have hu40 := Try.underlying40
  have hu46 := Try.underlying46
  obtain ⟨i0, hi, hz0, hz1, hz2⟩ := info_parts info_101
  go_enter Try.func26, Try.ntmps26
  go_wp2_with (refine wpList_make_full _ rfl _ _ _ rfl 0 101 i0 _ 4 hu46 hi hz0 hz1 .i64 .i64 _ _ l.length rfl rfl rfl rfl (by rw [hz2]; omega) (by simp only [maxLen]; omega) (Nat.zero_le _) ?_; intro w1 hown hgr)
  have H := Lib.hid (Fill.start (d := kSeen) hown hgr)
  clear hown hgr
  go_loopw [4] (fun i wr => ∃ k : Nat, k ≤ l.length ∧ i = .int .i64 k ∧ Fill kSeen 101 w wr w.heap.size l.length (l.take k)) (fun i _ => l.length - (intOf i).toNat)
  case atStart => exact ⟨0, Nat.zero_le _, rfl, H.out⟩
  case round =>
    clear H
    obtain ⟨k, hk, rfl, hT⟩ := hrel
    by_cases hlt : k < l.length
    · obtain ⟨ad, x, A3, c3, rfl, hx, p0, p1, p2, p3, l3, g3⟩ := Seen.at (Row_below hr hT.bel) k hlt
      have Hx := Lib.hid (take_snoc hx)
      have Sx := Lib.hid (HS.out.2 x (List.mem_of_getElem? hx))
      clear hx
      go_wp2_with (go_at_call 65; refine (toSeen_c _ x l3 g3 Sx.out).mono ?_; rintro e w' ⟨v3, Fx, rfl, hTx, hFx, hb2⟩; have HT := Lib.hid hTx; have HF := Lib.hid hFx; obtain ⟨v3', G3, he, rfl, hU3⟩ := Seen.opnT hTx; obtain ⟨B3, d3, rfl, _⟩ := TS_read hU3; simp at he; obtain rfl := he; obtain ⟨⟨u0_, s0_⟩, f0_, hg0_⟩ := hT.cells hb2 (k * 4) (by show _ < _ * 4; omega); obtain ⟨⟨u1_, s1_⟩, f1_, hg1_⟩ := hT.cells hb2 (k * 4 + 1) (by show _ < _ * 4; omega); obtain ⟨⟨u2_, s2_⟩, f2_, hg2_⟩ := hT.cells hb2 (k * 4 + 2) (by show _ < _ * 4; omega); obtain ⟨⟨u3_, s3_⟩, f3_, hg3_⟩ := hT.cells hb2 (k * 4 + 3) (by show _ < _ * 4; omega))
      go_roundw
      case rel => exact ⟨k + 1, by omega, by go_num, by rw [Hx.out]; have hp := hT.put k 4 rfl (by simp; omega) hlt hb2 HT.out HF.out; exact hp⟩
      case measure => simp [intOf]; omega
    · go_wp2
      go_ret
      obtain rfl : k = l.length := by omega
      rw [List.take_length] at hT
      exact hT.done rfl
end Go.Proofs.Ytipemgjgimpmbaa.H
