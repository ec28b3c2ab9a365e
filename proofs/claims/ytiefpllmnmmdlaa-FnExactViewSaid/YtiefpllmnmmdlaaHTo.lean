/-
The laws' own functions to..: a copy of the value, in memory of its own. Printed by hlaws.py (this session's own). Conditions: each contract's own premises.
-/
import Derived.Test.YtiefpllmnmmdlaaHTypes
import Derived.Test.YtiefpllmnmmdlaaProg
namespace Go.Proofs.Ytiefpllmnmmdlaa.H
open Go.RowKit
set_option linter.unusedVariables false
set_option linter.unusedSimpArgs false
set_option maxRecDepth 100000
theorem toHead_c (w : World) (x : Head) :
    Calls Try.prog 106 #[.agg #[.string x.Key, .string x.Value]] w fun e w' => e = .returned (.agg #[.string x.Key, .string x.Value]) ∧ Below w.heap.size w w' := by
  go_enter Try.func106, Try.ntmps106
  go_wp2
  refine bodyPost_ret (v := .agg #[.string x.Key, .string x.Value]) (by simp [results, Try.results106, go_sem]) rfl ?_
  exact ⟨rfl, by repeat (first | with_reducible exact Below.refl _ _ | with_reducible assumption | ((with_reducible refine Below.setCell ?_ ?_ _); rotate_left; (simp <;> omega)) | ((with_reducible refine Below.alloc ?_ ?_ _); rotate_left; (simp <;> omega)))⟩
theorem info_127 : (Try.prog.info? 127).map (fun i => (i.zero, i.size, i.bytes)) = some (some (.agg #[.string ⟨#[]⟩, .string ⟨#[]⟩]), 2, 32) := by kernel_rfl
theorem toHeadS_c (w : World) (l : List Head) {A : Option Addr} {c : Nat} (hc : l.length ≤ c) (hr : Row kHead w A l) (hs : (l.length ≤ 1048576 ∧ ∀ y ∈ l, y.sm)) :
    Calls Try.prog 103 #[.slice A l.length c] w (MadeS kHead 127 l w) := by
  have hl : l.length ≤ 1048576 := hs.1
  have HS := Lib.hid hs
  clear hs
  have hu151 := Try.underlying151
  have hu127 := Try.underlying127
  have hu142 := Try.underlying142
  have hu51 := Try.underlying51
  obtain ⟨i0, hi, hz0, hz1, hz2⟩ := info_parts info_127
  go_enter Try.func103, Try.ntmps103
  go_wp2_with (refine wpList_make_full _ rfl _ _ _ rfl 0 127 i0 _ 2 hu51 hi hz0 hz1 .i64 .i64 _ _ l.length rfl rfl rfl rfl (by rw [hz2]; omega) (by simp only [maxLen]; omega) (Nat.zero_le _) ?_; intro w1 hown hgr)
  have H := Lib.hid (Fill.start (d := kHead) hown hgr)
  clear hown hgr
  go_loopw [4] (fun i wr => ∃ k : Nat, k ≤ l.length ∧ i = .int .i64 k ∧ Fill kHead 127 w wr w.heap.size l.length (l.take k)) (fun i _ => l.length - (intOf i).toNat)
  case atStart => exact ⟨0, Nat.zero_le _, rfl, H.out⟩
  case round =>
    clear H
    obtain ⟨k, hk, rfl, hT⟩ := hrel
    by_cases hlt : k < l.length
    · obtain ⟨ad, x, rfl, hx, p0, p1⟩ := Head.at (Row_below hr hT.bel) k hlt
      have Hx := Lib.hid (take_snoc hx)
      have Sx := Lib.hid (HS.out.2 x (List.mem_of_getElem? hx))
      clear hx
      go_wp2_with (go_at_call 106; refine (toHead_c _ x).mono ?_; rintro e w' ⟨rfl, hb2⟩; obtain ⟨⟨u0_, s0_⟩, f0_, hg0_⟩ := hT.cells hb2 (k * 2) (by show _ < _ * 2; omega); obtain ⟨⟨u1_, s1_⟩, f1_, hg1_⟩ := hT.cells hb2 (k * 2 + 1) (by show _ < _ * 2; omega))
      go_roundw
      case rel => exact ⟨k + 1, by omega, by go_num, by rw [Hx.out]; have hp := hT.put k 2 rfl (by simp; omega) hlt hb2 (Head.mkT _ x) (Fresh.nil _); exact hp⟩
      case measure => simp [intOf]; omega
    · go_wp2
      go_ret
      obtain rfl : k = l.length := by omega
      rw [List.take_length] at hT
      exact hT.done rfl
def Record.Made (x : Record) (w : World) (en : Ending) (w' : World) : Prop := ∃ v5 F, en = .returned (.agg #[.int .i64 x.Time, .bool x.Keyed, .string x.Key, .bool x.Gone, .string x.Value, v5]) ∧ kRecord.T w' F x [.int .i64 x.Time, .bool x.Keyed, .string x.Key, .bool x.Gone, .string x.Value, v5] ∧ Fresh w F ∧ Below w.heap.size w w'
theorem toRecord_c (w : World) (x : Record) {A5 : Option Addr} {c5 : Nat} (l5 : x.Heads.length ≤ c5) (g5 : Row kHead w A5 x.Heads) (hs : x.sm) :
    Calls Try.prog 100 #[.agg #[.int .i64 x.Time, .bool x.Keyed, .string x.Key, .bool x.Gone, .string x.Value, .slice A5 x.Heads.length c5]] w (x.Made w) := by
  obtain ⟨_, _, s5⟩ := hs
  have S5 := Lib.hid s5
  clear s5
  go_enter Try.func100, Try.ntmps100
  go_upto_region 7 with fail
  go_wp2_with (go_at_call 103; refine (toHeadS_c _ x.Heads l5 (Row_below g5 (by repeat (first | with_reducible exact Below.refl _ _ | with_reducible assumption | ((with_reducible refine Below.setCell ?_ ?_ _); rotate_left; (simp <;> omega)) | ((with_reducible refine Below.alloc ?_ ?_ _); rotate_left; (simp <;> omega))))) S5.out).mono ?_; rintro e w5_ ⟨v5, F5, rfl, hT5, hF5, hb5⟩; obtain ⟨B5, d5, rfl, _⟩ := TS_read hT5; have hB5 : Below w.heap.size w w5_ := (by refine Below.trans ?_ (hb5.mono (by simp <;> omega)); repeat (first | with_reducible exact Below.refl _ _ | with_reducible assumption | ((with_reducible refine Below.setCell ?_ ?_ _); rotate_left; (simp <;> omega)) | ((with_reducible refine Below.alloc ?_ ?_ _); rotate_left; (simp <;> omega)))); have hl5 := Lib.hid (TS_lt hT5); have hG5 := Lib.hid (hF5.2); obtain ⟨hc5, hf5⟩ := bcell hb5; have hz5 := hb5.size; simp at hz5; have hg5_0 : w.heap.size < w5_.heap.size := (by omega); have hg5_1 : w.heap.size + 1 < w5_.heap.size := (by omega); have hg5_2 : w.heap.size + 1 + 1 < w5_.heap.size := (by omega))
  refine bodyPost_ret (v := .agg #[.int .i64 x.Time, .bool x.Keyed, .string x.Key, .bool x.Gone, .string x.Value, .slice B5 x.Heads.length d5]) (by simp [results, Try.results100, go_sem, hc5, hz5, hg5_0, hg5_1, hg5_2]) rfl ?_
  refine ⟨_, _, rfl, Record.mkT _ x (F5 := F5) (by repeat (first | with_reducible exact hT5 | ((with_reducible refine TS_setc ?_ hG5.out ?_); rotate_left; (simp <;> omega)))), ?_, by repeat (first | with_reducible exact Below.refl _ _ | with_reducible assumption | ((with_reducible refine Below.setCell ?_ ?_ _); rotate_left; (simp <;> omega)) | ((with_reducible refine Below.alloc ?_ ?_ _); rotate_left; (simp <;> omega)))⟩
  exact hF5.mono (by simp <;> omega)
theorem info_53 : (Try.prog.info? 53).map (fun i => (i.zero, i.size, i.bytes)) = some (some (.agg #[.int .i64 0, .bool false, .string ⟨#[]⟩, .bool false, .string ⟨#[]⟩, .slice none 0 0]), 6, 80) := by kernel_rfl
theorem toRecordS_c (w : World) (l : List Record) {A : Option Addr} {c : Nat} (hc : l.length ≤ c) (hr : Row kRecord w A l) (hs : (l.length ≤ 1048576 ∧ ∀ y ∈ l, y.sm)) :
    Calls Try.prog 95 #[.slice A l.length c] w (MadeS kRecord 53 l w) := by
  have hl : l.length ≤ 1048576 := hs.1
  have HS := Lib.hid hs
  clear hs
  have hu144 := Try.underlying144
  have hu53 := Try.underlying53
  have hu121 := Try.underlying121
  have hu46 := Try.underlying46
  obtain ⟨i0, hi, hz0, hz1, hz2⟩ := info_parts info_53
  go_enter Try.func95, Try.ntmps95
  go_wp2_with (refine wpList_make_full _ rfl _ _ _ rfl 0 53 i0 _ 6 hu46 hi hz0 hz1 .i64 .i64 _ _ l.length rfl rfl rfl rfl (by rw [hz2]; omega) (by simp only [maxLen]; omega) (Nat.zero_le _) ?_; intro w1 hown hgr)
  have H := Lib.hid (Fill.start (d := kRecord) hown hgr)
  clear hown hgr
  go_loopw [4] (fun i wr => ∃ k : Nat, k ≤ l.length ∧ i = .int .i64 k ∧ Fill kRecord 53 w wr w.heap.size l.length (l.take k)) (fun i _ => l.length - (intOf i).toNat)
  case atStart => exact ⟨0, Nat.zero_le _, rfl, H.out⟩
  case round =>
    clear H
    obtain ⟨k, hk, rfl, hT⟩ := hrel
    by_cases hlt : k < l.length
    · obtain ⟨ad, x, A5, c5, rfl, hx, p0, p1, p2, p3, p4, p5, l5, g5⟩ := Record.at (Row_below hr hT.bel) k hlt
      have Hx := Lib.hid (take_snoc hx)
      have Sx := Lib.hid (HS.out.2 x (List.mem_of_getElem? hx))
      clear hx
      go_wp2_with (go_at_call 100; refine (toRecord_c _ x l5 g5 Sx.out).mono ?_; rintro e w' ⟨v5, Fx, rfl, hTx, hFx, hb2⟩; have HT := Lib.hid hTx; have HF := Lib.hid hFx; obtain ⟨v5', G5, he, rfl, hU5⟩ := Record.opnT hTx; obtain ⟨B5, d5, rfl, _⟩ := TS_read hU5; simp at he; obtain rfl := he; obtain ⟨⟨u0_, s0_⟩, f0_, hg0_⟩ := hT.cells hb2 (k * 6) (by show _ < _ * 6; omega); obtain ⟨⟨u1_, s1_⟩, f1_, hg1_⟩ := hT.cells hb2 (k * 6 + 1) (by show _ < _ * 6; omega); obtain ⟨⟨u2_, s2_⟩, f2_, hg2_⟩ := hT.cells hb2 (k * 6 + 2) (by show _ < _ * 6; omega); obtain ⟨⟨u3_, s3_⟩, f3_, hg3_⟩ := hT.cells hb2 (k * 6 + 3) (by show _ < _ * 6; omega); obtain ⟨⟨u4_, s4_⟩, f4_, hg4_⟩ := hT.cells hb2 (k * 6 + 4) (by show _ < _ * 6; omega); obtain ⟨⟨u5_, s5_⟩, f5_, hg5_⟩ := hT.cells hb2 (k * 6 + 5) (by show _ < _ * 6; omega))
      go_roundw
      case rel => exact ⟨k + 1, by omega, by go_num, by rw [Hx.out]; have hp := hT.put k 6 rfl (by simp; omega) hlt hb2 HT.out HF.out; exact hp⟩
      case measure => simp [intOf]; omega
    · go_wp2
      go_ret
      obtain rfl : k = l.length := by omega
      rw [List.take_length] at hT
      exact hT.done rfl
def Batch.Made (x : Batch) (w : World) (en : Ending) (w' : World) : Prop := ∃ v6 F, en = .returned (.agg #[.int .i64 x.Base, .int .i64 x.Epoch, .int .i64 x.Producer, .int .i64 x.Turn, .int .i64 x.Seq, .int .i64 x.Flags, v6]) ∧ kBatch.T w' F x [.int .i64 x.Base, .int .i64 x.Epoch, .int .i64 x.Producer, .int .i64 x.Turn, .int .i64 x.Seq, .int .i64 x.Flags, v6] ∧ Fresh w F ∧ Below w.heap.size w w'
theorem toBatch_c (w : World) (x : Batch) {A6 : Option Addr} {c6 : Nat} (l6 : x.Records.length ≤ c6) (g6 : Row kRecord w A6 x.Records) (hs : x.sm) :
    Calls Try.prog 84 #[.agg #[.int .i64 x.Base, .int .i64 x.Epoch, .int .i64 x.Producer, .int .i64 x.Turn, .int .i64 x.Seq, .int .i64 x.Flags, .slice A6 x.Records.length c6]] w (x.Made w) := by
  have s6 := hs
  have S6 := Lib.hid s6
  clear s6
  go_enter Try.func84, Try.ntmps84
  go_upto_region 8 with fail
  go_wp2_with (go_at_call 95; refine (toRecordS_c _ x.Records l6 (Row_below g6 (by repeat (first | with_reducible exact Below.refl _ _ | with_reducible assumption | ((with_reducible refine Below.setCell ?_ ?_ _); rotate_left; (simp <;> omega)) | ((with_reducible refine Below.alloc ?_ ?_ _); rotate_left; (simp <;> omega))))) S6.out).mono ?_; rintro e w6_ ⟨v6, F6, rfl, hT6, hF6, hb6⟩; obtain ⟨B6, d6, rfl, _⟩ := TS_read hT6; have hB6 : Below w.heap.size w w6_ := (by refine Below.trans ?_ (hb6.mono (by simp <;> omega)); repeat (first | with_reducible exact Below.refl _ _ | with_reducible assumption | ((with_reducible refine Below.setCell ?_ ?_ _); rotate_left; (simp <;> omega)) | ((with_reducible refine Below.alloc ?_ ?_ _); rotate_left; (simp <;> omega)))); have hl6 := Lib.hid (TS_lt hT6); have hG6 := Lib.hid (hF6.2); obtain ⟨hc6, hf6⟩ := bcell hb6; have hz6 := hb6.size; simp at hz6; have hg6_0 : w.heap.size < w6_.heap.size := (by omega); have hg6_1 : w.heap.size + 1 < w6_.heap.size := (by omega); have hg6_2 : w.heap.size + 1 + 1 < w6_.heap.size := (by omega))
  refine bodyPost_ret (v := .agg #[.int .i64 x.Base, .int .i64 x.Epoch, .int .i64 x.Producer, .int .i64 x.Turn, .int .i64 x.Seq, .int .i64 x.Flags, .slice B6 x.Records.length d6]) (by simp [results, Try.results84, go_sem, hc6, hz6, hg6_0, hg6_1, hg6_2]) rfl ?_
  refine ⟨_, _, rfl, Batch.mkT _ x (F6 := F6) (by repeat (first | with_reducible exact hT6 | ((with_reducible refine TS_setc ?_ hG6.out ?_); rotate_left; (simp <;> omega)))), ?_, by repeat (first | with_reducible exact Below.refl _ _ | with_reducible assumption | ((with_reducible refine Below.setCell ?_ ?_ _); rotate_left; (simp <;> omega)) | ((with_reducible refine Below.alloc ?_ ?_ _); rotate_left; (simp <;> omega)))⟩
  exact hF6.mono (by simp <;> omega)
theorem info_48 : (Try.prog.info? 48).map (fun i => (i.zero, i.size, i.bytes)) = some (some (.agg #[.int .i64 0, .int .i64 0, .int .i64 0, .int .i64 0, .int .i64 0, .int .i64 0, .slice none 0 0]), 7, 72) := by kernel_rfl
theorem toBatchS_c (w : World) (l : List Batch) {A : Option Addr} {c : Nat} (hc : l.length ≤ c) (hr : Row kBatch w A l) (hs : (l.length ≤ 1048576 ∧ ∀ y ∈ l, y.sm)) :
    Calls Try.prog 57 #[.slice A l.length c] w (MadeS kBatch 48 l w) := by
  have hl : l.length ≤ 1048576 := hs.1
  have HS := Lib.hid hs
  clear hs
  have hu123 := Try.underlying123
  have hu48 := Try.underlying48
  have hu71 := Try.underlying71
  have hu42 := Try.underlying42
  obtain ⟨i0, hi, hz0, hz1, hz2⟩ := info_parts info_48
  go_enter Try.func57, Try.ntmps57
  go_wp2_with (refine wpList_make_full _ rfl _ _ _ rfl 0 48 i0 _ 7 hu42 hi hz0 hz1 .i64 .i64 _ _ l.length rfl rfl rfl rfl (by rw [hz2]; omega) (by simp only [maxLen]; omega) (Nat.zero_le _) ?_; intro w1 hown hgr)
  have H := Lib.hid (Fill.start (d := kBatch) hown hgr)
  clear hown hgr
  go_loopw [4] (fun i wr => ∃ k : Nat, k ≤ l.length ∧ i = .int .i64 k ∧ Fill kBatch 48 w wr w.heap.size l.length (l.take k)) (fun i _ => l.length - (intOf i).toNat)
  case atStart => exact ⟨0, Nat.zero_le _, rfl, H.out⟩
  case round =>
    clear H
    obtain ⟨k, hk, rfl, hT⟩ := hrel
    by_cases hlt : k < l.length
    · obtain ⟨ad, x, A6, c6, rfl, hx, p0, p1, p2, p3, p4, p5, p6, l6, g6⟩ := Batch.at (Row_below hr hT.bel) k hlt
      have Hx := Lib.hid (take_snoc hx)
      have Sx := Lib.hid (HS.out.2 x (List.mem_of_getElem? hx))
      clear hx
      go_wp2_with (go_at_call 84; refine (toBatch_c _ x l6 g6 Sx.out).mono ?_; rintro e w' ⟨v6, Fx, rfl, hTx, hFx, hb2⟩; have HT := Lib.hid hTx; have HF := Lib.hid hFx; obtain ⟨v6', G6, he, rfl, hU6⟩ := Batch.opnT hTx; obtain ⟨B6, d6, rfl, _⟩ := TS_read hU6; simp at he; obtain rfl := he; obtain ⟨⟨u0_, s0_⟩, f0_, hg0_⟩ := hT.cells hb2 (k * 7) (by show _ < _ * 7; omega); obtain ⟨⟨u1_, s1_⟩, f1_, hg1_⟩ := hT.cells hb2 (k * 7 + 1) (by show _ < _ * 7; omega); obtain ⟨⟨u2_, s2_⟩, f2_, hg2_⟩ := hT.cells hb2 (k * 7 + 2) (by show _ < _ * 7; omega); obtain ⟨⟨u3_, s3_⟩, f3_, hg3_⟩ := hT.cells hb2 (k * 7 + 3) (by show _ < _ * 7; omega); obtain ⟨⟨u4_, s4_⟩, f4_, hg4_⟩ := hT.cells hb2 (k * 7 + 4) (by show _ < _ * 7; omega); obtain ⟨⟨u5_, s5_⟩, f5_, hg5_⟩ := hT.cells hb2 (k * 7 + 5) (by show _ < _ * 7; omega); obtain ⟨⟨u6_, s6_⟩, f6_, hg6_⟩ := hT.cells hb2 (k * 7 + 6) (by show _ < _ * 7; omega))
      go_roundw
      case rel => exact ⟨k + 1, by omega, by go_num, by rw [Hx.out]; have hp := hT.put k 7 rfl (by simp; omega) hlt hb2 HT.out HF.out; exact hp⟩
      case measure => simp [intOf]; omega
    · go_wp2
      go_ret
      obtain rfl : k = l.length := by omega
      rw [List.take_length] at hT
      exact hT.done rfl
def Segment.Made (x : Segment) (w : World) (en : Ending) (w' : World) : Prop := ∃ v1 F, en = .returned (.agg #[.int .i64 x.Base, v1]) ∧ kSegment.T w' F x [.int .i64 x.Base, v1] ∧ Fresh w F ∧ Below w.heap.size w w'
theorem toSegment_c (w : World) (x : Segment) {A1 : Option Addr} {c1 : Nat} (l1 : x.Batches.length ≤ c1) (g1 : Row kBatch w A1 x.Batches) (hs : x.sm) :
    Calls Try.prog 38 #[.agg #[.int .i64 x.Base, .slice A1 x.Batches.length c1]] w (x.Made w) := by
  have s1 := hs
  have S1 := Lib.hid s1
  clear s1
  go_enter Try.func38, Try.ntmps38
  go_upto_region 3 with fail
  go_wp2_with (go_at_call 57; refine (toBatchS_c _ x.Batches l1 (Row_below g1 (by repeat (first | with_reducible exact Below.refl _ _ | with_reducible assumption | ((with_reducible refine Below.setCell ?_ ?_ _); rotate_left; (simp <;> omega)) | ((with_reducible refine Below.alloc ?_ ?_ _); rotate_left; (simp <;> omega))))) S1.out).mono ?_; rintro e w1_ ⟨v1, F1, rfl, hT1, hF1, hb1⟩; obtain ⟨B1, d1, rfl, _⟩ := TS_read hT1; have hB1 : Below w.heap.size w w1_ := (by refine Below.trans ?_ (hb1.mono (by simp <;> omega)); repeat (first | with_reducible exact Below.refl _ _ | with_reducible assumption | ((with_reducible refine Below.setCell ?_ ?_ _); rotate_left; (simp <;> omega)) | ((with_reducible refine Below.alloc ?_ ?_ _); rotate_left; (simp <;> omega)))); have hl1 := Lib.hid (TS_lt hT1); have hG1 := Lib.hid (hF1.2); obtain ⟨hc1, hf1⟩ := bcell hb1; have hz1 := hb1.size; simp at hz1; have hg1_0 : w.heap.size < w1_.heap.size := (by omega); have hg1_1 : w.heap.size + 1 < w1_.heap.size := (by omega); have hg1_2 : w.heap.size + 1 + 1 < w1_.heap.size := (by omega))
  refine bodyPost_ret (v := .agg #[.int .i64 x.Base, .slice B1 x.Batches.length d1]) (by simp [results, Try.results38, go_sem, hc1, hz1, hg1_0, hg1_1, hg1_2]) rfl ?_
  refine ⟨_, _, rfl, Segment.mkT _ x (F1 := F1) (by repeat (first | with_reducible exact hT1 | ((with_reducible refine TS_setc ?_ hG1.out ?_); rotate_left; (simp <;> omega)))), ?_, by repeat (first | with_reducible exact Below.refl _ _ | with_reducible assumption | ((with_reducible refine Below.setCell ?_ ?_ _); rotate_left; (simp <;> omega)) | ((with_reducible refine Below.alloc ?_ ?_ _); rotate_left; (simp <;> omega)))⟩
  exact hF1.mono (by simp <;> omega)
theorem info_45 : (Try.prog.info? 45).map (fun i => (i.zero, i.size, i.bytes)) = some (some (.agg #[.int .i64 0, .slice none 0 0]), 2, 32) := by kernel_rfl
theorem toSegmentS_c (w : World) (l : List Segment) {A : Option Addr} {c : Nat} (hc : l.length ≤ c) (hr : Row kSegment w A l) (hs : (l.length ≤ 1048576 ∧ ∀ y ∈ l, y.sm)) :
    Calls Try.prog 21 #[.slice A l.length c] w (MadeS kSegment 45 l w) := by
  have hl : l.length ≤ 1048576 := hs.1
  have HS := Lib.hid hs
  clear hs
  have hu73 := Try.underlying73
  have hu45 := Try.underlying45
  have hu22 := Try.underlying22
  have hu26 := Try.underlying26
  obtain ⟨i0, hi, hz0, hz1, hz2⟩ := info_parts info_45
  go_enter Try.func21, Try.ntmps21
  go_wp2_with (refine wpList_make_full _ rfl _ _ _ rfl 0 45 i0 _ 2 hu26 hi hz0 hz1 .i64 .i64 _ _ l.length rfl rfl rfl rfl (by rw [hz2]; omega) (by simp only [maxLen]; omega) (Nat.zero_le _) ?_; intro w1 hown hgr)
  have H := Lib.hid (Fill.start (d := kSegment) hown hgr)
  clear hown hgr
  go_loopw [4] (fun i wr => ∃ k : Nat, k ≤ l.length ∧ i = .int .i64 k ∧ Fill kSegment 45 w wr w.heap.size l.length (l.take k)) (fun i _ => l.length - (intOf i).toNat)
  case atStart => exact ⟨0, Nat.zero_le _, rfl, H.out⟩
  case round =>
    clear H
    obtain ⟨k, hk, rfl, hT⟩ := hrel
    by_cases hlt : k < l.length
    · obtain ⟨ad, x, A1, c1, rfl, hx, p0, p1, l1, g1⟩ := Segment.at (Row_below hr hT.bel) k hlt
      have Hx := Lib.hid (take_snoc hx)
      have Sx := Lib.hid (HS.out.2 x (List.mem_of_getElem? hx))
      clear hx
      go_wp2_with (go_at_call 38; refine (toSegment_c _ x l1 g1 Sx.out).mono ?_; rintro e w' ⟨v1, Fx, rfl, hTx, hFx, hb2⟩; have HT := Lib.hid hTx; have HF := Lib.hid hFx; obtain ⟨v1', G1, he, rfl, hU1⟩ := Segment.opnT hTx; obtain ⟨B1, d1, rfl, _⟩ := TS_read hU1; simp at he; obtain rfl := he; obtain ⟨⟨u0_, s0_⟩, f0_, hg0_⟩ := hT.cells hb2 (k * 2) (by show _ < _ * 2; omega); obtain ⟨⟨u1_, s1_⟩, f1_, hg1_⟩ := hT.cells hb2 (k * 2 + 1) (by show _ < _ * 2; omega))
      go_roundw
      case rel => exact ⟨k + 1, by omega, by go_num, by rw [Hx.out]; have hp := hT.put k 2 rfl (by simp; omega) hlt hb2 HT.out HF.out; exact hp⟩
      case measure => simp [intOf]; omega
    · go_wp2
      go_ret
      obtain rfl : k = l.length := by omega
      rw [List.take_length] at hT
      exact hT.done rfl
def Log.Made (x : Log) (w : World) (en : Ending) (w' : World) : Prop := ∃ v3 F, en = .returned (.agg #[.int .i64 x.Start, .int .i64 x.Next, .int .i64 x.Roll, v3]) ∧ kLog.T w' F x [.int .i64 x.Start, .int .i64 x.Next, .int .i64 x.Roll, v3] ∧ Fresh w F ∧ Below w.heap.size w w'
theorem toLog_c (w : World) (x : Log) {A3 : Option Addr} {c3 : Nat} (l3 : x.Segments.length ≤ c3) (g3 : Row kSegment w A3 x.Segments) (hs : x.sm) :
    Calls Try.prog 7 #[.agg #[.int .i64 x.Start, .int .i64 x.Next, .int .i64 x.Roll, .slice A3 x.Segments.length c3]] w (x.Made w) := by
  have s3 := hs
  have S3 := Lib.hid s3
  clear s3
  go_enter Try.func7, Try.ntmps7
  go_upto_region 5 with fail
  go_wp2_with (go_at_call 21; refine (toSegmentS_c _ x.Segments l3 (Row_below g3 (by repeat (first | with_reducible exact Below.refl _ _ | with_reducible assumption | ((with_reducible refine Below.setCell ?_ ?_ _); rotate_left; (simp <;> omega)) | ((with_reducible refine Below.alloc ?_ ?_ _); rotate_left; (simp <;> omega))))) S3.out).mono ?_; rintro e w3_ ⟨v3, F3, rfl, hT3, hF3, hb3⟩; obtain ⟨B3, d3, rfl, _⟩ := TS_read hT3; have hB3 : Below w.heap.size w w3_ := (by refine Below.trans ?_ (hb3.mono (by simp <;> omega)); repeat (first | with_reducible exact Below.refl _ _ | with_reducible assumption | ((with_reducible refine Below.setCell ?_ ?_ _); rotate_left; (simp <;> omega)) | ((with_reducible refine Below.alloc ?_ ?_ _); rotate_left; (simp <;> omega)))); have hl3 := Lib.hid (TS_lt hT3); have hG3 := Lib.hid (hF3.2); obtain ⟨hc3, hf3⟩ := bcell hb3; have hz3 := hb3.size; simp at hz3; have hg3_0 : w.heap.size < w3_.heap.size := (by omega); have hg3_1 : w.heap.size + 1 < w3_.heap.size := (by omega); have hg3_2 : w.heap.size + 1 + 1 < w3_.heap.size := (by omega))
  refine bodyPost_ret (v := .agg #[.int .i64 x.Start, .int .i64 x.Next, .int .i64 x.Roll, .slice B3 x.Segments.length d3]) (by simp [results, Try.results7, go_sem, hc3, hz3, hg3_0, hg3_1, hg3_2]) rfl ?_
  refine ⟨_, _, rfl, Log.mkT _ x (F3 := F3) (by repeat (first | with_reducible exact hT3 | ((with_reducible refine TS_setc ?_ hG3.out ?_); rotate_left; (simp <;> omega)))), ?_, by repeat (first | with_reducible exact Below.refl _ _ | with_reducible assumption | ((with_reducible refine Below.setCell ?_ ?_ _); rotate_left; (simp <;> omega)) | ((with_reducible refine Below.alloc ?_ ?_ _); rotate_left; (simp <;> omega)))⟩
  exact hF3.mono (by simp <;> omega)
end Go.Proofs.Ytiefpllmnmmdlaa.H
