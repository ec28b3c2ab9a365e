/-
The laws' own functions to..: a copy of the value, in memory of its own. Printed by hlaws.py (this session's own). Conditions: each contract's own premises.
-/
import Derived.Test.YtpnjgmgnhkhapaaHTypes
import Derived.Test.YtpnjgmgnhkhapaaProg
namespace Go.Proofs.Ytpnjgmgnhkhapaa.H
open Go.RowKit
set_option linter.unusedVariables false
set_option linter.unusedSimpArgs false
set_option maxRecDepth 100000
theorem toCommand_c (w : World) (x : Command) :
    Calls Try.prog 106 #[.agg #[.int .i64 x.Term, .string x.Text]] w fun e w' => e = .returned (.agg #[.int .i64 x.Term, .string x.Text]) ∧ Below w.heap.size w w' := by
  go_enter Try.func106, Try.ntmps106
  go_wp2
  refine bodyPost_ret (v := .agg #[.int .i64 x.Term, .string x.Text]) (by simp [results, Try.results106, go_sem]) rfl ?_
  exact ⟨rfl, by repeat (first | with_reducible exact Below.refl _ _ | with_reducible assumption | ((with_reducible refine Below.setCell ?_ ?_ _); rotate_left; (simp <;> omega)) | ((with_reducible refine Below.alloc ?_ ?_ _); rotate_left; (simp <;> omega)))⟩
theorem info_3 : (Try.prog.info? 3).map (fun i => (i.zero, i.size, i.bytes)) = some (some (.int .i64 0), 1, 8) := by kernel_rfl
theorem toIntS_c (w : World) (l : List Int) {A : Option Addr} {c : Nat} (hc : l.length ≤ c) (hr : Row (Ki.int .i64) w A l) (hs : (l.length ≤ 1048576)) :
    Calls Try.prog 54 #[.slice A l.length c] w (MadeS (Ki.int .i64) 3 l w) := by
  have hl : l.length ≤ 1048576 := hs
  have HS := Lib.hid hs
  clear hs
  have hu3 := Try.underlying3
  have hu41 := Try.underlying41
  obtain ⟨i0, hi, hz0, hz1, hz2⟩ := info_parts info_3
  go_enter Try.func54, Try.ntmps54
  go_wp2_with (refine wpList_make_full _ rfl _ _ _ rfl 0 3 i0 _ 1 hu41 hi hz0 hz1 .i64 .i64 _ _ l.length rfl rfl rfl rfl (by rw [hz2]; omega) (by simp only [maxLen]; omega) (Nat.zero_le _) ?_; intro w1 hown hgr)
  have H := Lib.hid (Fill.start (d := (Ki.int .i64)) hown hgr)
  clear hown hgr
  go_loopw [4] (fun i wr => ∃ k : Nat, k ≤ l.length ∧ i = .int .i64 k ∧ Fill (Ki.int .i64) 3 w wr w.heap.size l.length (l.take k)) (fun i _ => l.length - (intOf i).toNat)
  case atStart => exact ⟨0, Nat.zero_le _, rfl, H.out⟩
  case round =>
    clear H
    obtain ⟨k, hk, rfl, hT⟩ := hrel
    by_cases hlt : k < l.length
    · obtain ⟨ad, x, cs, rfl, hx, hK, hca⟩ := Row_get (Row_below hr hT.bel) k hlt
      obtain rfl := hK
      have p0 : wr.cell? (ad.add k) = some (.int .i64 x) := by simpa [Ki.int, Ki.scalar] using hca 0 _ rfl
      have Hx := Lib.hid (take_snoc hx)
      clear hca hx
      have hb2 := Below.refl wr.heap.size wr
      obtain ⟨⟨u0_, s0_⟩, f0_, hg0_⟩ := hT.cells hb2 k (by show _ < _ * 1; omega)
      go_wp2
      try (go_quiet (fail); go_wp2)
      go_roundw
      case rel => exact ⟨k + 1, by omega, by go_num, by rw [Hx.out]; have hp := hT.put k 1 rfl (by simp; omega) hlt hb2 (x := x) ⟨rfl, rfl⟩ (Fresh.nil _); simp only [Nat.mul_one, putCells] at hp; exact hp⟩
      case measure => simp [intOf]; omega
    · go_wp2
      go_ret
      obtain rfl : k = l.length := by omega
      rw [List.take_length] at hT
      exact hT.done rfl
theorem info_76 : (Try.prog.info? 76).map (fun i => (i.zero, i.size, i.bytes)) = some (some (.agg #[.int .i64 0, .string ⟨#[]⟩]), 2, 24) := by kernel_rfl
theorem toCommandS_c (w : World) (l : List Command) {A : Option Addr} {c : Nat} (hc : l.length ≤ c) (hr : Row kCommand w A l) (hs : (l.length ≤ 1048576 ∧ ∀ y ∈ l, y.sm)) :
    Calls Try.prog 97 #[.slice A l.length c] w (MadeS kCommand 76 l w) := by
  have hl : l.length ≤ 1048576 := hs.1
  have HS := Lib.hid hs
  clear hs
  have hu157 := Try.underlying157
  have hu76 := Try.underlying76
  have hu113 := Try.underlying113
  have hu68 := Try.underlying68
  obtain ⟨i0, hi, hz0, hz1, hz2⟩ := info_parts info_76
  go_enter Try.func97, Try.ntmps97
  go_wp2_with (refine wpList_make_full _ rfl _ _ _ rfl 0 76 i0 _ 2 hu68 hi hz0 hz1 .i64 .i64 _ _ l.length rfl rfl rfl rfl (by rw [hz2]; omega) (by simp only [maxLen]; omega) (Nat.zero_le _) ?_; intro w1 hown hgr)
  have H := Lib.hid (Fill.start (d := kCommand) hown hgr)
  clear hown hgr
  go_loopw [4] (fun i wr => ∃ k : Nat, k ≤ l.length ∧ i = .int .i64 k ∧ Fill kCommand 76 w wr w.heap.size l.length (l.take k)) (fun i _ => l.length - (intOf i).toNat)
  case atStart => exact ⟨0, Nat.zero_le _, rfl, H.out⟩
  case round =>
    clear H
    obtain ⟨k, hk, rfl, hT⟩ := hrel
    by_cases hlt : k < l.length
    · obtain ⟨ad, x, rfl, hx, p0, p1⟩ := Command.at (Row_below hr hT.bel) k hlt
      have Hx := Lib.hid (take_snoc hx)
      have Sx := Lib.hid (HS.out.2 x (List.mem_of_getElem? hx))
      clear hx
      go_wp2_with (go_at_call 106; refine (toCommand_c _ x).mono ?_; rintro e w' ⟨rfl, hb2⟩; obtain ⟨⟨u0_, s0_⟩, f0_, hg0_⟩ := hT.cells hb2 (k * 2) (by show _ < _ * 2; omega); obtain ⟨⟨u1_, s1_⟩, f1_, hg1_⟩ := hT.cells hb2 (k * 2 + 1) (by show _ < _ * 2; omega))
      go_roundw
      case rel => exact ⟨k + 1, by omega, by go_num, by rw [Hx.out]; have hp := hT.put k 2 rfl (by simp; omega) hlt hb2 (Command.mkT _ x) (Fresh.nil _); exact hp⟩
      case measure => simp [intOf]; omega
    · go_wp2
      go_ret
      obtain rfl : k = l.length := by omega
      rw [List.take_length] at hT
      exact hT.done rfl
def Voter.Made (x : Voter) (w : World) (en : Ending) (w' : World) : Prop := ∃ v3 v4 v5 v6 F, en = .returned (.agg #[.int .i64 x.Term, .int .i64 x.Vote, .int .i64 x.Role, v3, v4, v5, v6, .int .i64 x.Sealed]) ∧ kVoter.T w' F x [.int .i64 x.Term, .int .i64 x.Vote, .int .i64 x.Role, v3, v4, v5, v6, .int .i64 x.Sealed] ∧ Fresh w F ∧ Below w.heap.size w w'
set_option maxHeartbeats 4000000 in
theorem toVoter_c (w : World) (x : Voter) {A3 : Option Addr} {c3 : Nat} (l3 : x.Votes.length ≤ c3) (g3 : Row (Ki.int .i64) w A3 x.Votes) {A4 : Option Addr} {c4 : Nat} (l4 : x.Log.length ≤ c4) (g4 : Row kCommand w A4 x.Log) {A5 : Option Addr} {c5 : Nat} (l5 : x.Next.length ≤ c5) (g5 : Row (Ki.int .i64) w A5 x.Next) {A6 : Option Addr} {c6 : Nat} (l6 : x.Match.length ≤ c6) (g6 : Row (Ki.int .i64) w A6 x.Match) (hs : x.sm) :
    Calls Try.prog 71 #[.agg #[.int .i64 x.Term, .int .i64 x.Vote, .int .i64 x.Role, .slice A3 x.Votes.length c3, .slice A4 x.Log.length c4, .slice A5 x.Next.length c5, .slice A6 x.Match.length c6, .int .i64 x.Sealed]] w (x.Made w) := by
  obtain ⟨s3, s4, s5, s6⟩ := hs
  have S3 := Lib.hid s3
  clear s3
  have S4 := Lib.hid s4
  clear s4
  have S5 := Lib.hid s5
  clear s5
  have S6 := Lib.hid s6
  clear s6
  go_enter Try.func71, Try.ntmps71
  go_upto_region 5 with fail
  go_upto_region 6 with (go_at_call 54; refine (toIntS_c _ x.Votes l3 (Row_below g3 (by repeat (first | with_reducible exact Below.refl _ _ | with_reducible assumption | ((with_reducible refine Below.setCell ?_ ?_ _); rotate_left; (simp <;> omega)) | ((with_reducible refine Below.alloc ?_ ?_ _); rotate_left; (simp <;> omega))))) S3.out).mono ?_; rintro e w3_ ⟨v3, F3, rfl, hT3, hF3, hb3⟩; obtain ⟨B3, d3, rfl, _⟩ := TS_read hT3; have hB3 : Below w.heap.size w w3_ := (by refine Below.trans ?_ (hb3.mono (by simp <;> omega)); repeat (first | with_reducible exact Below.refl _ _ | with_reducible assumption | ((with_reducible refine Below.setCell ?_ ?_ _); rotate_left; (simp <;> omega)) | ((with_reducible refine Below.alloc ?_ ?_ _); rotate_left; (simp <;> omega)))); have hl3 := Lib.hid (TS_lt hT3); have hG3 := Lib.hid (hF3.2); obtain ⟨hc3, hf3⟩ := bcell hb3; have hz3 := hb3.size; simp at hz3; have hg3_0 : w.heap.size < w3_.heap.size := (by omega); have hg3_1 : w.heap.size + 1 < w3_.heap.size := (by omega); have hg3_2 : w.heap.size + 1 + 1 < w3_.heap.size := (by omega))
  go_upto_region 7 with (go_at_call 97; refine (toCommandS_c _ x.Log l4 (Row_below g4 (by repeat (first | with_reducible exact Below.refl _ _ | with_reducible assumption | ((with_reducible refine Below.setCell ?_ ?_ _); rotate_left; (simp <;> omega)) | ((with_reducible refine Below.alloc ?_ ?_ _); rotate_left; (simp <;> omega))))) S4.out).mono ?_; rintro e w4_ ⟨v4, F4, rfl, hT4, hF4, hb4⟩; obtain ⟨B4, d4, rfl, _⟩ := TS_read hT4; have hB4 : Below w.heap.size w w4_ := (by refine Below.trans ?_ (hb4.mono (by simp <;> omega)); repeat (first | with_reducible exact Below.refl _ _ | with_reducible assumption | ((with_reducible refine Below.setCell ?_ ?_ _); rotate_left; (simp <;> omega)) | ((with_reducible refine Below.alloc ?_ ?_ _); rotate_left; (simp <;> omega)))); replace hT3 : TS (Ki.int .i64) 3 w4_ F3 x.Votes (.slice B3 x.Votes.length d3) := TS_below (by repeat (first | with_reducible exact hT3 | ((with_reducible refine TS_setc ?_ hG3.out ?_); rotate_left; (simp <;> omega)))) hb4; have hl4 := Lib.hid (TS_lt hT4); have hG4 := Lib.hid (hF4.2); obtain ⟨hc4, hf4⟩ := bcell hb4; have hz4 := hb4.size; simp at hz4; have hg4_0 : w.heap.size < w4_.heap.size := (by omega); have hg4_1 : w.heap.size + 1 < w4_.heap.size := (by omega); have hg4_2 : w.heap.size + 1 + 1 < w4_.heap.size := (by omega))
  go_upto_region 8 with (go_at_call 54; refine (toIntS_c _ x.Next l5 (Row_below g5 (by repeat (first | with_reducible exact Below.refl _ _ | with_reducible assumption | ((with_reducible refine Below.setCell ?_ ?_ _); rotate_left; (simp <;> omega)) | ((with_reducible refine Below.alloc ?_ ?_ _); rotate_left; (simp <;> omega))))) S5.out).mono ?_; rintro e w5_ ⟨v5, F5, rfl, hT5, hF5, hb5⟩; obtain ⟨B5, d5, rfl, _⟩ := TS_read hT5; have hB5 : Below w.heap.size w w5_ := (by refine Below.trans ?_ (hb5.mono (by simp <;> omega)); repeat (first | with_reducible exact Below.refl _ _ | with_reducible assumption | ((with_reducible refine Below.setCell ?_ ?_ _); rotate_left; (simp <;> omega)) | ((with_reducible refine Below.alloc ?_ ?_ _); rotate_left; (simp <;> omega)))); replace hT3 : TS (Ki.int .i64) 3 w5_ F3 x.Votes (.slice B3 x.Votes.length d3) := TS_below (by repeat (first | with_reducible exact hT3 | ((with_reducible refine TS_setc ?_ hG3.out ?_); rotate_left; (simp <;> omega)))) hb5; replace hT4 : TS kCommand 76 w5_ F4 x.Log (.slice B4 x.Log.length d4) := TS_below (by repeat (first | with_reducible exact hT4 | ((with_reducible refine TS_setc ?_ hG4.out ?_); rotate_left; (simp <;> omega)))) hb5; have hl5 := Lib.hid (TS_lt hT5); have hG5 := Lib.hid (hF5.2); obtain ⟨hc5, hf5⟩ := bcell hb5; have hz5 := hb5.size; simp at hz5; have hg5_0 : w.heap.size < w5_.heap.size := (by omega); have hg5_1 : w.heap.size + 1 < w5_.heap.size := (by omega); have hg5_2 : w.heap.size + 1 + 1 < w5_.heap.size := (by omega))
  go_wp2_with (go_at_call 54; refine (toIntS_c _ x.Match l6 (Row_below g6 (by repeat (first | with_reducible exact Below.refl _ _ | with_reducible assumption | ((with_reducible refine Below.setCell ?_ ?_ _); rotate_left; (simp <;> omega)) | ((with_reducible refine Below.alloc ?_ ?_ _); rotate_left; (simp <;> omega))))) S6.out).mono ?_; rintro e w6_ ⟨v6, F6, rfl, hT6, hF6, hb6⟩; obtain ⟨B6, d6, rfl, _⟩ := TS_read hT6; have hB6 : Below w.heap.size w w6_ := (by refine Below.trans ?_ (hb6.mono (by simp <;> omega)); repeat (first | with_reducible exact Below.refl _ _ | with_reducible assumption | ((with_reducible refine Below.setCell ?_ ?_ _); rotate_left; (simp <;> omega)) | ((with_reducible refine Below.alloc ?_ ?_ _); rotate_left; (simp <;> omega)))); replace hT3 : TS (Ki.int .i64) 3 w6_ F3 x.Votes (.slice B3 x.Votes.length d3) := TS_below (by repeat (first | with_reducible exact hT3 | ((with_reducible refine TS_setc ?_ hG3.out ?_); rotate_left; (simp <;> omega)))) hb6; replace hT4 : TS kCommand 76 w6_ F4 x.Log (.slice B4 x.Log.length d4) := TS_below (by repeat (first | with_reducible exact hT4 | ((with_reducible refine TS_setc ?_ hG4.out ?_); rotate_left; (simp <;> omega)))) hb6; replace hT5 : TS (Ki.int .i64) 3 w6_ F5 x.Next (.slice B5 x.Next.length d5) := TS_below (by repeat (first | with_reducible exact hT5 | ((with_reducible refine TS_setc ?_ hG5.out ?_); rotate_left; (simp <;> omega)))) hb6; have hl6 := Lib.hid (TS_lt hT6); have hG6 := Lib.hid (hF6.2); obtain ⟨hc6, hf6⟩ := bcell hb6; have hz6 := hb6.size; simp at hz6; have hg6_0 : w.heap.size < w6_.heap.size := (by omega); have hg6_1 : w.heap.size + 1 < w6_.heap.size := (by omega); have hg6_2 : w.heap.size + 1 + 1 < w6_.heap.size := (by omega))
  refine bodyPost_ret (v := .agg #[.int .i64 x.Term, .int .i64 x.Vote, .int .i64 x.Role, .slice B3 x.Votes.length d3, .slice B4 x.Log.length d4, .slice B5 x.Next.length d5, .slice B6 x.Match.length d6, .int .i64 x.Sealed]) (by simp [results, Try.results71, go_sem, hc3, hz3, hg3_0, hg3_1, hg3_2, hc4, hz4, hg4_0, hg4_1, hg4_2, hc5, hz5, hg5_0, hg5_1, hg5_2, hc6, hz6, hg6_0, hg6_1, hg6_2]) rfl ?_
  refine ⟨_, _, _, _, _, rfl, Voter.mkT _ x (F3 := F3) (by repeat (first | with_reducible exact hT3 | ((with_reducible refine TS_setc ?_ hG3.out ?_); rotate_left; (simp <;> omega)))) (F4 := F4) (by repeat (first | with_reducible exact hT4 | ((with_reducible refine TS_setc ?_ hG4.out ?_); rotate_left; (simp <;> omega)))) (F5 := F5) (by repeat (first | with_reducible exact hT5 | ((with_reducible refine TS_setc ?_ hG5.out ?_); rotate_left; (simp <;> omega)))) (F6 := F6) (by repeat (first | with_reducible exact hT6 | ((with_reducible refine TS_setc ?_ hG6.out ?_); rotate_left; (simp <;> omega)))), ?_, by repeat (first | with_reducible exact Below.refl _ _ | with_reducible assumption | ((with_reducible refine Below.setCell ?_ ?_ _); rotate_left; (simp <;> omega)) | ((with_reducible refine Below.alloc ?_ ?_ _); rotate_left; (simp <;> omega)))⟩
  have R5 := Fresh.cat hF5 hF6 (fun b hb => by have := hl5.out b hb; simp <;> omega) (by simp <;> omega)
  have R4 := Fresh.cat hF4 R5 (fun b hb => by have := hl4.out b hb; simp <;> omega) (by simp <;> omega)
  have R3 := Fresh.cat hF3 R4 (fun b hb => by have := hl3.out b hb; simp <;> omega) (by simp <;> omega)
  exact R3.mono (by simp <;> omega)
def Message.Made (x : Message) (w : World) (en : Ending) (w' : World) : Prop := ∃ v6 F, en = .returned (.agg #[.int .i64 x.Kind, .int .i64 x.From, .int .i64 x.To, .int .i64 x.Term, .int .i64 x.At, .int .i64 x.AtTerm, v6, .int .i64 x.Sealed, .bool x.Yes]) ∧ kMessage.T w' F x [.int .i64 x.Kind, .int .i64 x.From, .int .i64 x.To, .int .i64 x.Term, .int .i64 x.At, .int .i64 x.AtTerm, v6, .int .i64 x.Sealed, .bool x.Yes] ∧ Fresh w F ∧ Below w.heap.size w w'
theorem toMessage_c (w : World) (x : Message) {A6 : Option Addr} {c6 : Nat} (l6 : x.Commands.length ≤ c6) (g6 : Row kCommand w A6 x.Commands) (hs : x.sm) :
    Calls Try.prog 72 #[.agg #[.int .i64 x.Kind, .int .i64 x.From, .int .i64 x.To, .int .i64 x.Term, .int .i64 x.At, .int .i64 x.AtTerm, .slice A6 x.Commands.length c6, .int .i64 x.Sealed, .bool x.Yes]] w (x.Made w) := by
  have s6 := hs
  have S6 := Lib.hid s6
  clear s6
  go_enter Try.func72, Try.ntmps72
  go_upto_region 8 with fail
  go_wp2_with (go_at_call 97; refine (toCommandS_c _ x.Commands l6 (Row_below g6 (by repeat (first | with_reducible exact Below.refl _ _ | with_reducible assumption | ((with_reducible refine Below.setCell ?_ ?_ _); rotate_left; (simp <;> omega)) | ((with_reducible refine Below.alloc ?_ ?_ _); rotate_left; (simp <;> omega))))) S6.out).mono ?_; rintro e w6_ ⟨v6, F6, rfl, hT6, hF6, hb6⟩; obtain ⟨B6, d6, rfl, _⟩ := TS_read hT6; have hB6 : Below w.heap.size w w6_ := (by refine Below.trans ?_ (hb6.mono (by simp <;> omega)); repeat (first | with_reducible exact Below.refl _ _ | with_reducible assumption | ((with_reducible refine Below.setCell ?_ ?_ _); rotate_left; (simp <;> omega)) | ((with_reducible refine Below.alloc ?_ ?_ _); rotate_left; (simp <;> omega)))); have hl6 := Lib.hid (TS_lt hT6); have hG6 := Lib.hid (hF6.2); obtain ⟨hc6, hf6⟩ := bcell hb6; have hz6 := hb6.size; simp at hz6; have hg6_0 : w.heap.size < w6_.heap.size := (by omega); have hg6_1 : w.heap.size + 1 < w6_.heap.size := (by omega); have hg6_2 : w.heap.size + 1 + 1 < w6_.heap.size := (by omega))
  refine bodyPost_ret (v := .agg #[.int .i64 x.Kind, .int .i64 x.From, .int .i64 x.To, .int .i64 x.Term, .int .i64 x.At, .int .i64 x.AtTerm, .slice B6 x.Commands.length d6, .int .i64 x.Sealed, .bool x.Yes]) (by simp [results, Try.results72, go_sem, hc6, hz6, hg6_0, hg6_1, hg6_2]) rfl ?_
  refine ⟨_, _, rfl, Message.mkT _ x (F6 := F6) (by repeat (first | with_reducible exact hT6 | ((with_reducible refine TS_setc ?_ hG6.out ?_); rotate_left; (simp <;> omega)))), ?_, by repeat (first | with_reducible exact Below.refl _ _ | with_reducible assumption | ((with_reducible refine Below.setCell ?_ ?_ _); rotate_left; (simp <;> omega)) | ((with_reducible refine Below.alloc ?_ ?_ _); rotate_left; (simp <;> omega)))⟩
  exact hF6.mono (by simp <;> omega)
theorem info_70 : (Try.prog.info? 70).map (fun i => (i.zero, i.size, i.bytes)) = some (some (.agg #[.int .i64 0, .int .i64 0, .int .i64 0, .slice none 0 0, .slice none 0 0, .slice none 0 0, .slice none 0 0, .int .i64 0]), 8, 128) := by kernel_rfl
theorem toVoterS_c (w : World) (l : List Voter) {A : Option Addr} {c : Nat} (hc : l.length ≤ c) (hr : Row kVoter w A l) (hs : (l.length ≤ 1048576 ∧ ∀ y ∈ l, y.sm)) :
    Calls Try.prog 35 #[.slice A l.length c] w (MadeS kVoter 70 l w) := by
  have hl : l.length ≤ 1048576 := hs.1
  have HS := Lib.hid hs
  clear hs
  have hu115 := Try.underlying115
  have hu70 := Try.underlying70
  have hu23 := Try.underlying23
  have hu29 := Try.underlying29
  obtain ⟨i0, hi, hz0, hz1, hz2⟩ := info_parts info_70
  go_enter Try.func35, Try.ntmps35
  go_wp2_with (refine wpList_make_full _ rfl _ _ _ rfl 0 70 i0 _ 8 hu29 hi hz0 hz1 .i64 .i64 _ _ l.length rfl rfl rfl rfl (by rw [hz2]; omega) (by simp only [maxLen]; omega) (Nat.zero_le _) ?_; intro w1 hown hgr)
  have H := Lib.hid (Fill.start (d := kVoter) hown hgr)
  clear hown hgr
  go_loopw [4] (fun i wr => ∃ k : Nat, k ≤ l.length ∧ i = .int .i64 k ∧ Fill kVoter 70 w wr w.heap.size l.length (l.take k)) (fun i _ => l.length - (intOf i).toNat)
  case atStart => exact ⟨0, Nat.zero_le _, rfl, H.out⟩
  case round =>
    clear H
    obtain ⟨k, hk, rfl, hT⟩ := hrel
    by_cases hlt : k < l.length
    · obtain ⟨ad, x, A3, c3, A4, c4, A5, c5, A6, c6, rfl, hx, p0, p1, p2, p3, p4, p5, p6, p7, l3, g3, l4, g4, l5, g5, l6, g6⟩ := Voter.at (Row_below hr hT.bel) k hlt
      have Hx := Lib.hid (take_snoc hx)
      have Sx := Lib.hid (HS.out.2 x (List.mem_of_getElem? hx))
      clear hx
      go_wp2_with (go_at_call 71; refine (toVoter_c _ x l3 g3 l4 g4 l5 g5 l6 g6 Sx.out).mono ?_; rintro e w' ⟨v3, v4, v5, v6, Fx, rfl, hTx, hFx, hb2⟩; have HT := Lib.hid hTx; have HF := Lib.hid hFx; obtain ⟨v3', G3, v4', G4, v5', G5, v6', G6, he, rfl, hU3, hU4, hU5, hU6⟩ := Voter.opnT hTx; obtain ⟨B3, d3, rfl, _⟩ := TS_read hU3; obtain ⟨B4, d4, rfl, _⟩ := TS_read hU4; obtain ⟨B5, d5, rfl, _⟩ := TS_read hU5; obtain ⟨B6, d6, rfl, _⟩ := TS_read hU6; simp at he; obtain ⟨rfl, rfl, rfl, rfl⟩ := he; obtain ⟨⟨u0_, s0_⟩, f0_, hg0_⟩ := hT.cells hb2 (k * 8) (by show _ < _ * 8; omega); obtain ⟨⟨u1_, s1_⟩, f1_, hg1_⟩ := hT.cells hb2 (k * 8 + 1) (by show _ < _ * 8; omega); obtain ⟨⟨u2_, s2_⟩, f2_, hg2_⟩ := hT.cells hb2 (k * 8 + 2) (by show _ < _ * 8; omega); obtain ⟨⟨u3_, s3_⟩, f3_, hg3_⟩ := hT.cells hb2 (k * 8 + 3) (by show _ < _ * 8; omega); obtain ⟨⟨u4_, s4_⟩, f4_, hg4_⟩ := hT.cells hb2 (k * 8 + 4) (by show _ < _ * 8; omega); obtain ⟨⟨u5_, s5_⟩, f5_, hg5_⟩ := hT.cells hb2 (k * 8 + 5) (by show _ < _ * 8; omega); obtain ⟨⟨u6_, s6_⟩, f6_, hg6_⟩ := hT.cells hb2 (k * 8 + 6) (by show _ < _ * 8; omega); obtain ⟨⟨u7_, s7_⟩, f7_, hg7_⟩ := hT.cells hb2 (k * 8 + 7) (by show _ < _ * 8; omega))
      go_roundw
      case rel => exact ⟨k + 1, by omega, by go_num, by rw [Hx.out]; have hp := hT.put k 8 rfl (by simp; omega) hlt hb2 HT.out HF.out; exact hp⟩
      case measure => simp [intOf]; omega
    · go_wp2
      go_ret
      obtain rfl : k = l.length := by omega
      rw [List.take_length] at hT
      exact hT.done rfl
theorem info_74 : (Try.prog.info? 74).map (fun i => (i.zero, i.size, i.bytes)) = some (some (.agg #[.int .i64 0, .int .i64 0, .int .i64 0, .int .i64 0, .int .i64 0, .int .i64 0, .slice none 0 0, .int .i64 0, .bool false]), 9, 88) := by kernel_rfl
theorem toMessageS_c (w : World) (l : List Message) {A : Option Addr} {c : Nat} (hc : l.length ≤ c) (hr : Row kMessage w A l) (hs : (l.length ≤ 1048576 ∧ ∀ y ∈ l, y.sm)) :
    Calls Try.prog 36 #[.slice A l.length c] w (MadeS kMessage 74 l w) := by
  have hl : l.length ≤ 1048576 := hs.1
  have HS := Lib.hid hs
  clear hs
  have hu118 := Try.underlying118
  have hu74 := Try.underlying74
  have hu24 := Try.underlying24
  have hu30 := Try.underlying30
  obtain ⟨i0, hi, hz0, hz1, hz2⟩ := info_parts info_74
  go_enter Try.func36, Try.ntmps36
  go_wp2_with (refine wpList_make_full _ rfl _ _ _ rfl 0 74 i0 _ 9 hu30 hi hz0 hz1 .i64 .i64 _ _ l.length rfl rfl rfl rfl (by rw [hz2]; omega) (by simp only [maxLen]; omega) (Nat.zero_le _) ?_; intro w1 hown hgr)
  have H := Lib.hid (Fill.start (d := kMessage) hown hgr)
  clear hown hgr
  go_loopw [4] (fun i wr => ∃ k : Nat, k ≤ l.length ∧ i = .int .i64 k ∧ Fill kMessage 74 w wr w.heap.size l.length (l.take k)) (fun i _ => l.length - (intOf i).toNat)
  case atStart => exact ⟨0, Nat.zero_le _, rfl, H.out⟩
  case round =>
    clear H
    obtain ⟨k, hk, rfl, hT⟩ := hrel
    by_cases hlt : k < l.length
    · obtain ⟨ad, x, A6, c6, rfl, hx, p0, p1, p2, p3, p4, p5, p6, p7, p8, l6, g6⟩ := Message.at (Row_below hr hT.bel) k hlt
      have Hx := Lib.hid (take_snoc hx)
      have Sx := Lib.hid (HS.out.2 x (List.mem_of_getElem? hx))
      clear hx
      go_wp2_with (go_at_call 72; refine (toMessage_c _ x l6 g6 Sx.out).mono ?_; rintro e w' ⟨v6, Fx, rfl, hTx, hFx, hb2⟩; have HT := Lib.hid hTx; have HF := Lib.hid hFx; obtain ⟨v6', G6, he, rfl, hU6⟩ := Message.opnT hTx; obtain ⟨B6, d6, rfl, _⟩ := TS_read hU6; simp at he; obtain rfl := he; obtain ⟨⟨u0_, s0_⟩, f0_, hg0_⟩ := hT.cells hb2 (k * 9) (by show _ < _ * 9; omega); obtain ⟨⟨u1_, s1_⟩, f1_, hg1_⟩ := hT.cells hb2 (k * 9 + 1) (by show _ < _ * 9; omega); obtain ⟨⟨u2_, s2_⟩, f2_, hg2_⟩ := hT.cells hb2 (k * 9 + 2) (by show _ < _ * 9; omega); obtain ⟨⟨u3_, s3_⟩, f3_, hg3_⟩ := hT.cells hb2 (k * 9 + 3) (by show _ < _ * 9; omega); obtain ⟨⟨u4_, s4_⟩, f4_, hg4_⟩ := hT.cells hb2 (k * 9 + 4) (by show _ < _ * 9; omega); obtain ⟨⟨u5_, s5_⟩, f5_, hg5_⟩ := hT.cells hb2 (k * 9 + 5) (by show _ < _ * 9; omega); obtain ⟨⟨u6_, s6_⟩, f6_, hg6_⟩ := hT.cells hb2 (k * 9 + 6) (by show _ < _ * 9; omega); obtain ⟨⟨u7_, s7_⟩, f7_, hg7_⟩ := hT.cells hb2 (k * 9 + 7) (by show _ < _ * 9; omega); obtain ⟨⟨u8_, s8_⟩, f8_, hg8_⟩ := hT.cells hb2 (k * 9 + 8) (by show _ < _ * 9; omega))
      go_roundw
      case rel => exact ⟨k + 1, by omega, by go_num, by rw [Hx.out]; have hp := hT.put k 9 rfl (by simp; omega) hlt hb2 HT.out HF.out; exact hp⟩
      case measure => simp [intOf]; omega
    · go_wp2
      go_ret
      obtain rfl : k = l.length := by omega
      rw [List.take_length] at hT
      exact hT.done rfl
def Quorum.Made (x : Quorum) (w : World) (en : Ending) (w' : World) : Prop := ∃ v0 v1 F, en = .returned (.agg #[v0, v1]) ∧ kQuorum.T w' F x [v0, v1] ∧ Fresh w F ∧ Below w.heap.size w w'
set_option maxHeartbeats 4000000 in
theorem toQuorum_c (w : World) (x : Quorum) {A0 : Option Addr} {c0 : Nat} (l0 : x.Voters.length ≤ c0) (g0 : Row kVoter w A0 x.Voters) {A1 : Option Addr} {c1 : Nat} (l1 : x.Net.length ≤ c1) (g1 : Row kMessage w A1 x.Net) (hs : x.sm) :
    Calls Try.prog 11 #[.agg #[.slice A0 x.Voters.length c0, .slice A1 x.Net.length c1]] w (x.Made w) := by
  obtain ⟨s0, s1⟩ := hs
  have S0 := Lib.hid s0
  clear s0
  have S1 := Lib.hid s1
  clear s1
  go_enter Try.func11, Try.ntmps11
  go_upto_region 2 with fail
  go_upto_region 3 with (go_at_call 35; refine (toVoterS_c _ x.Voters l0 (Row_below g0 (by repeat (first | with_reducible exact Below.refl _ _ | with_reducible assumption | ((with_reducible refine Below.setCell ?_ ?_ _); rotate_left; (simp <;> omega)) | ((with_reducible refine Below.alloc ?_ ?_ _); rotate_left; (simp <;> omega))))) S0.out).mono ?_; rintro e w0_ ⟨v0, F0, rfl, hT0, hF0, hb0⟩; obtain ⟨B0, d0, rfl, _⟩ := TS_read hT0; have hB0 : Below w.heap.size w w0_ := (by refine Below.trans ?_ (hb0.mono (by simp <;> omega)); repeat (first | with_reducible exact Below.refl _ _ | with_reducible assumption | ((with_reducible refine Below.setCell ?_ ?_ _); rotate_left; (simp <;> omega)) | ((with_reducible refine Below.alloc ?_ ?_ _); rotate_left; (simp <;> omega)))); have hl0 := Lib.hid (TS_lt hT0); have hG0 := Lib.hid (hF0.2); obtain ⟨hc0, hf0⟩ := bcell hb0; have hz0 := hb0.size; simp at hz0; have hg0_0 : w.heap.size < w0_.heap.size := (by omega); have hg0_1 : w.heap.size + 1 < w0_.heap.size := (by omega); have hg0_2 : w.heap.size + 1 + 1 < w0_.heap.size := (by omega))
  go_wp2_with (go_at_call 36; refine (toMessageS_c _ x.Net l1 (Row_below g1 (by repeat (first | with_reducible exact Below.refl _ _ | with_reducible assumption | ((with_reducible refine Below.setCell ?_ ?_ _); rotate_left; (simp <;> omega)) | ((with_reducible refine Below.alloc ?_ ?_ _); rotate_left; (simp <;> omega))))) S1.out).mono ?_; rintro e w1_ ⟨v1, F1, rfl, hT1, hF1, hb1⟩; obtain ⟨B1, d1, rfl, _⟩ := TS_read hT1; have hB1 : Below w.heap.size w w1_ := (by refine Below.trans ?_ (hb1.mono (by simp <;> omega)); repeat (first | with_reducible exact Below.refl _ _ | with_reducible assumption | ((with_reducible refine Below.setCell ?_ ?_ _); rotate_left; (simp <;> omega)) | ((with_reducible refine Below.alloc ?_ ?_ _); rotate_left; (simp <;> omega)))); replace hT0 : TS kVoter 70 w1_ F0 x.Voters (.slice B0 x.Voters.length d0) := TS_below (by repeat (first | with_reducible exact hT0 | ((with_reducible refine TS_setc ?_ hG0.out ?_); rotate_left; (simp <;> omega)))) hb1; have hl1 := Lib.hid (TS_lt hT1); have hG1 := Lib.hid (hF1.2); obtain ⟨hc1, hf1⟩ := bcell hb1; have hz1 := hb1.size; simp at hz1; have hg1_0 : w.heap.size < w1_.heap.size := (by omega); have hg1_1 : w.heap.size + 1 < w1_.heap.size := (by omega); have hg1_2 : w.heap.size + 1 + 1 < w1_.heap.size := (by omega))
  refine bodyPost_ret (v := .agg #[.slice B0 x.Voters.length d0, .slice B1 x.Net.length d1]) (by simp [results, Try.results11, go_sem, hc0, hz0, hg0_0, hg0_1, hg0_2, hc1, hz1, hg1_0, hg1_1, hg1_2]) rfl ?_
  refine ⟨_, _, _, rfl, Quorum.mkT _ x (F0 := F0) (by repeat (first | with_reducible exact hT0 | ((with_reducible refine TS_setc ?_ hG0.out ?_); rotate_left; (simp <;> omega)))) (F1 := F1) (by repeat (first | with_reducible exact hT1 | ((with_reducible refine TS_setc ?_ hG1.out ?_); rotate_left; (simp <;> omega)))), ?_, by repeat (first | with_reducible exact Below.refl _ _ | with_reducible assumption | ((with_reducible refine Below.setCell ?_ ?_ _); rotate_left; (simp <;> omega)) | ((with_reducible refine Below.alloc ?_ ?_ _); rotate_left; (simp <;> omega)))⟩
  have R0 := Fresh.cat hF0 hF1 (fun b hb => by have := hl0.out b hb; simp <;> omega) (by simp <;> omega)
  exact R0.mono (by simp <;> omega)
theorem toHead_c (w : World) (x : Head) :
    Calls Try.prog 128 #[.agg #[.string x.Key, .string x.Value]] w fun e w' => e = .returned (.agg #[.string x.Key, .string x.Value]) ∧ Below w.heap.size w w' := by
  go_enter Try.func128, Try.ntmps128
  go_wp2
  refine bodyPost_ret (v := .agg #[.string x.Key, .string x.Value]) (by simp [results, Try.results128, go_sem]) rfl ?_
  exact ⟨rfl, by repeat (first | with_reducible exact Below.refl _ _ | with_reducible assumption | ((with_reducible refine Below.setCell ?_ ?_ _); rotate_left; (simp <;> omega)) | ((with_reducible refine Below.alloc ?_ ?_ _); rotate_left; (simp <;> omega)))⟩
theorem info_162 : (Try.prog.info? 162).map (fun i => (i.zero, i.size, i.bytes)) = some (some (.agg #[.string ⟨#[]⟩, .string ⟨#[]⟩]), 2, 32) := by kernel_rfl
theorem toHeadS_c (w : World) (l : List Head) {A : Option Addr} {c : Nat} (hc : l.length ≤ c) (hr : Row kHead w A l) (hs : (l.length ≤ 1048576 ∧ ∀ y ∈ l, y.sm)) :
    Calls Try.prog 125 #[.slice A l.length c] w (MadeS kHead 162 l w) := by
  have hl : l.length ≤ 1048576 := hs.1
  have HS := Lib.hid hs
  clear hs
  have hu191 := Try.underlying191
  have hu162 := Try.underlying162
  have hu182 := Try.underlying182
  have hu149 := Try.underlying149
  obtain ⟨i0, hi, hz0, hz1, hz2⟩ := info_parts info_162
  go_enter Try.func125, Try.ntmps125
  go_wp2_with (refine wpList_make_full _ rfl _ _ _ rfl 0 162 i0 _ 2 hu149 hi hz0 hz1 .i64 .i64 _ _ l.length rfl rfl rfl rfl (by rw [hz2]; omega) (by simp only [maxLen]; omega) (Nat.zero_le _) ?_; intro w1 hown hgr)
  have H := Lib.hid (Fill.start (d := kHead) hown hgr)
  clear hown hgr
  go_loopw [4] (fun i wr => ∃ k : Nat, k ≤ l.length ∧ i = .int .i64 k ∧ Fill kHead 162 w wr w.heap.size l.length (l.take k)) (fun i _ => l.length - (intOf i).toNat)
  case atStart => exact ⟨0, Nat.zero_le _, rfl, H.out⟩
  case round =>
    clear H
    obtain ⟨k, hk, rfl, hT⟩ := hrel
    by_cases hlt : k < l.length
    · obtain ⟨ad, x, rfl, hx, p0, p1⟩ := Head.at (Row_below hr hT.bel) k hlt
      have Hx := Lib.hid (take_snoc hx)
      have Sx := Lib.hid (HS.out.2 x (List.mem_of_getElem? hx))
      clear hx
      go_wp2_with (go_at_call 128; refine (toHead_c _ x).mono ?_; rintro e w' ⟨rfl, hb2⟩; obtain ⟨⟨u0_, s0_⟩, f0_, hg0_⟩ := hT.cells hb2 (k * 2) (by show _ < _ * 2; omega); obtain ⟨⟨u1_, s1_⟩, f1_, hg1_⟩ := hT.cells hb2 (k * 2 + 1) (by show _ < _ * 2; omega))
      go_roundw
      case rel => exact ⟨k + 1, by omega, by go_num, by rw [Hx.out]; have hp := hT.put k 2 rfl (by simp; omega) hlt hb2 (Head.mkT _ x) (Fresh.nil _); exact hp⟩
      case measure => simp [intOf]; omega
    · go_wp2
      go_ret
      obtain rfl : k = l.length := by omega
      rw [List.take_length] at hT
      exact hT.done rfl
def Record.Made (x : Record) (w : World) (en : Ending) (w' : World) : Prop := ∃ v5 F, en = .returned (.agg #[.int .i64 x.Time, .bool x.Keyed, .string x.Key, .bool x.Gone, .string x.Value, v5]) ∧ kRecord.T w' F x [.int .i64 x.Time, .bool x.Keyed, .string x.Key, .bool x.Gone, .string x.Value, v5] ∧ Fresh w F ∧ Below w.heap.size w w'
theorem toRecord_c (w : World) (x : Record) {A5 : Option Addr} {c5 : Nat} (l5 : x.Heads.length ≤ c5) (g5 : Row kHead w A5 x.Heads) (hs : x.sm) :
    Calls Try.prog 122 #[.agg #[.int .i64 x.Time, .bool x.Keyed, .string x.Key, .bool x.Gone, .string x.Value, .slice A5 x.Heads.length c5]] w (x.Made w) := by
  obtain ⟨_, _, s5⟩ := hs
  have S5 := Lib.hid s5
  clear s5
  go_enter Try.func122, Try.ntmps122
  go_upto_region 7 with fail
  go_wp2_with (go_at_call 125; refine (toHeadS_c _ x.Heads l5 (Row_below g5 (by repeat (first | with_reducible exact Below.refl _ _ | with_reducible assumption | ((with_reducible refine Below.setCell ?_ ?_ _); rotate_left; (simp <;> omega)) | ((with_reducible refine Below.alloc ?_ ?_ _); rotate_left; (simp <;> omega))))) S5.out).mono ?_; rintro e w5_ ⟨v5, F5, rfl, hT5, hF5, hb5⟩; obtain ⟨B5, d5, rfl, _⟩ := TS_read hT5; have hB5 : Below w.heap.size w w5_ := (by refine Below.trans ?_ (hb5.mono (by simp <;> omega)); repeat (first | with_reducible exact Below.refl _ _ | with_reducible assumption | ((with_reducible refine Below.setCell ?_ ?_ _); rotate_left; (simp <;> omega)) | ((with_reducible refine Below.alloc ?_ ?_ _); rotate_left; (simp <;> omega)))); have hl5 := Lib.hid (TS_lt hT5); have hG5 := Lib.hid (hF5.2); obtain ⟨hc5, hf5⟩ := bcell hb5; have hz5 := hb5.size; simp at hz5; have hg5_0 : w.heap.size < w5_.heap.size := (by omega); have hg5_1 : w.heap.size + 1 < w5_.heap.size := (by omega); have hg5_2 : w.heap.size + 1 + 1 < w5_.heap.size := (by omega))
  refine bodyPost_ret (v := .agg #[.int .i64 x.Time, .bool x.Keyed, .string x.Key, .bool x.Gone, .string x.Value, .slice B5 x.Heads.length d5]) (by simp [results, Try.results122, go_sem, hc5, hz5, hg5_0, hg5_1, hg5_2]) rfl ?_
  refine ⟨_, _, rfl, Record.mkT _ x (F5 := F5) (by repeat (first | with_reducible exact hT5 | ((with_reducible refine TS_setc ?_ hG5.out ?_); rotate_left; (simp <;> omega)))), ?_, by repeat (first | with_reducible exact Below.refl _ _ | with_reducible assumption | ((with_reducible refine Below.setCell ?_ ?_ _); rotate_left; (simp <;> omega)) | ((with_reducible refine Below.alloc ?_ ?_ _); rotate_left; (simp <;> omega)))⟩
  exact hF5.mono (by simp <;> omega)
theorem info_151 : (Try.prog.info? 151).map (fun i => (i.zero, i.size, i.bytes)) = some (some (.agg #[.int .i64 0, .bool false, .string ⟨#[]⟩, .bool false, .string ⟨#[]⟩, .slice none 0 0]), 6, 80) := by kernel_rfl
theorem toRecordS_c (w : World) (l : List Record) {A : Option Addr} {c : Nat} (hc : l.length ≤ c) (hr : Row kRecord w A l) (hs : (l.length ≤ 1048576 ∧ ∀ y ∈ l, y.sm)) :
    Calls Try.prog 119 #[.slice A l.length c] w (MadeS kRecord 151 l w) := by
  have hl : l.length ≤ 1048576 := hs.1
  have HS := Lib.hid hs
  clear hs
  have hu184 := Try.underlying184
  have hu151 := Try.underlying151
  have hu173 := Try.underlying173
  have hu99 := Try.underlying99
  obtain ⟨i0, hi, hz0, hz1, hz2⟩ := info_parts info_151
  go_enter Try.func119, Try.ntmps119
  go_wp2_with (refine wpList_make_full _ rfl _ _ _ rfl 0 151 i0 _ 6 hu99 hi hz0 hz1 .i64 .i64 _ _ l.length rfl rfl rfl rfl (by rw [hz2]; omega) (by simp only [maxLen]; omega) (Nat.zero_le _) ?_; intro w1 hown hgr)
  have H := Lib.hid (Fill.start (d := kRecord) hown hgr)
  clear hown hgr
  go_loopw [4] (fun i wr => ∃ k : Nat, k ≤ l.length ∧ i = .int .i64 k ∧ Fill kRecord 151 w wr w.heap.size l.length (l.take k)) (fun i _ => l.length - (intOf i).toNat)
  case atStart => exact ⟨0, Nat.zero_le _, rfl, H.out⟩
  case round =>
    clear H
    obtain ⟨k, hk, rfl, hT⟩ := hrel
    by_cases hlt : k < l.length
    · obtain ⟨ad, x, A5, c5, rfl, hx, p0, p1, p2, p3, p4, p5, l5, g5⟩ := Record.at (Row_below hr hT.bel) k hlt
      have Hx := Lib.hid (take_snoc hx)
      have Sx := Lib.hid (HS.out.2 x (List.mem_of_getElem? hx))
      clear hx
      go_wp2_with (go_at_call 122; refine (toRecord_c _ x l5 g5 Sx.out).mono ?_; rintro e w' ⟨v5, Fx, rfl, hTx, hFx, hb2⟩; have HT := Lib.hid hTx; have HF := Lib.hid hFx; obtain ⟨v5', G5, he, rfl, hU5⟩ := Record.opnT hTx; obtain ⟨B5, d5, rfl, _⟩ := TS_read hU5; simp at he; obtain rfl := he; obtain ⟨⟨u0_, s0_⟩, f0_, hg0_⟩ := hT.cells hb2 (k * 6) (by show _ < _ * 6; omega); obtain ⟨⟨u1_, s1_⟩, f1_, hg1_⟩ := hT.cells hb2 (k * 6 + 1) (by show _ < _ * 6; omega); obtain ⟨⟨u2_, s2_⟩, f2_, hg2_⟩ := hT.cells hb2 (k * 6 + 2) (by show _ < _ * 6; omega); obtain ⟨⟨u3_, s3_⟩, f3_, hg3_⟩ := hT.cells hb2 (k * 6 + 3) (by show _ < _ * 6; omega); obtain ⟨⟨u4_, s4_⟩, f4_, hg4_⟩ := hT.cells hb2 (k * 6 + 4) (by show _ < _ * 6; omega); obtain ⟨⟨u5_, s5_⟩, f5_, hg5_⟩ := hT.cells hb2 (k * 6 + 5) (by show _ < _ * 6; omega))
      go_roundw
      case rel => exact ⟨k + 1, by omega, by go_num, by rw [Hx.out]; have hp := hT.put k 6 rfl (by simp; omega) hlt hb2 HT.out HF.out; exact hp⟩
      case measure => simp [intOf]; omega
    · go_wp2
      go_ret
      obtain rfl : k = l.length := by omega
      rw [List.take_length] at hT
      exact hT.done rfl
def Batch.Made (x : Batch) (w : World) (en : Ending) (w' : World) : Prop := ∃ v6 F, en = .returned (.agg #[.int .i64 x.Base, .int .i64 x.Epoch, .int .i64 x.Producer, .int .i64 x.Turn, .int .i64 x.Seq, .int .i64 x.Flags, v6]) ∧ kBatch.T w' F x [.int .i64 x.Base, .int .i64 x.Epoch, .int .i64 x.Producer, .int .i64 x.Turn, .int .i64 x.Seq, .int .i64 x.Flags, v6] ∧ Fresh w F ∧ Below w.heap.size w w'
theorem toBatch_c (w : World) (x : Batch) {A6 : Option Addr} {c6 : Nat} (l6 : x.Records.length ≤ c6) (g6 : Row kRecord w A6 x.Records) (hs : x.sm) :
    Calls Try.prog 116 #[.agg #[.int .i64 x.Base, .int .i64 x.Epoch, .int .i64 x.Producer, .int .i64 x.Turn, .int .i64 x.Seq, .int .i64 x.Flags, .slice A6 x.Records.length c6]] w (x.Made w) := by
  have s6 := hs
  have S6 := Lib.hid s6
  clear s6
  go_enter Try.func116, Try.ntmps116
  go_upto_region 8 with fail
  go_wp2_with (go_at_call 119; refine (toRecordS_c _ x.Records l6 (Row_below g6 (by repeat (first | with_reducible exact Below.refl _ _ | with_reducible assumption | ((with_reducible refine Below.setCell ?_ ?_ _); rotate_left; (simp <;> omega)) | ((with_reducible refine Below.alloc ?_ ?_ _); rotate_left; (simp <;> omega))))) S6.out).mono ?_; rintro e w6_ ⟨v6, F6, rfl, hT6, hF6, hb6⟩; obtain ⟨B6, d6, rfl, _⟩ := TS_read hT6; have hB6 : Below w.heap.size w w6_ := (by refine Below.trans ?_ (hb6.mono (by simp <;> omega)); repeat (first | with_reducible exact Below.refl _ _ | with_reducible assumption | ((with_reducible refine Below.setCell ?_ ?_ _); rotate_left; (simp <;> omega)) | ((with_reducible refine Below.alloc ?_ ?_ _); rotate_left; (simp <;> omega)))); have hl6 := Lib.hid (TS_lt hT6); have hG6 := Lib.hid (hF6.2); obtain ⟨hc6, hf6⟩ := bcell hb6; have hz6 := hb6.size; simp at hz6; have hg6_0 : w.heap.size < w6_.heap.size := (by omega); have hg6_1 : w.heap.size + 1 < w6_.heap.size := (by omega); have hg6_2 : w.heap.size + 1 + 1 < w6_.heap.size := (by omega))
  refine bodyPost_ret (v := .agg #[.int .i64 x.Base, .int .i64 x.Epoch, .int .i64 x.Producer, .int .i64 x.Turn, .int .i64 x.Seq, .int .i64 x.Flags, .slice B6 x.Records.length d6]) (by simp [results, Try.results116, go_sem, hc6, hz6, hg6_0, hg6_1, hg6_2]) rfl ?_
  refine ⟨_, _, rfl, Batch.mkT _ x (F6 := F6) (by repeat (first | with_reducible exact hT6 | ((with_reducible refine TS_setc ?_ hG6.out ?_); rotate_left; (simp <;> omega)))), ?_, by repeat (first | with_reducible exact Below.refl _ _ | with_reducible assumption | ((with_reducible refine Below.setCell ?_ ?_ _); rotate_left; (simp <;> omega)) | ((with_reducible refine Below.alloc ?_ ?_ _); rotate_left; (simp <;> omega)))⟩
  exact hF6.mono (by simp <;> omega)
theorem info_101 : (Try.prog.info? 101).map (fun i => (i.zero, i.size, i.bytes)) = some (some (.agg #[.int .i64 0, .int .i64 0, .int .i64 0, .int .i64 0, .int .i64 0, .int .i64 0, .slice none 0 0]), 7, 72) := by kernel_rfl
theorem toBatchS_c (w : World) (l : List Batch) {A : Option Addr} {c : Nat} (hc : l.length ≤ c) (hr : Row kBatch w A l) (hs : (l.length ≤ 1048576 ∧ ∀ y ∈ l, y.sm)) :
    Calls Try.prog 113 #[.slice A l.length c] w (MadeS kBatch 101 l w) := by
  have hl : l.length ≤ 1048576 := hs.1
  have HS := Lib.hid hs
  clear hs
  have hu175 := Try.underlying175
  have hu101 := Try.underlying101
  have hu164 := Try.underlying164
  have hu97 := Try.underlying97
  obtain ⟨i0, hi, hz0, hz1, hz2⟩ := info_parts info_101
  go_enter Try.func113, Try.ntmps113
  go_wp2_with (refine wpList_make_full _ rfl _ _ _ rfl 0 101 i0 _ 7 hu97 hi hz0 hz1 .i64 .i64 _ _ l.length rfl rfl rfl rfl (by rw [hz2]; omega) (by simp only [maxLen]; omega) (Nat.zero_le _) ?_; intro w1 hown hgr)
  have H := Lib.hid (Fill.start (d := kBatch) hown hgr)
  clear hown hgr
  go_loopw [4] (fun i wr => ∃ k : Nat, k ≤ l.length ∧ i = .int .i64 k ∧ Fill kBatch 101 w wr w.heap.size l.length (l.take k)) (fun i _ => l.length - (intOf i).toNat)
  case atStart => exact ⟨0, Nat.zero_le _, rfl, H.out⟩
  case round =>
    clear H
    obtain ⟨k, hk, rfl, hT⟩ := hrel
    by_cases hlt : k < l.length
    · obtain ⟨ad, x, A6, c6, rfl, hx, p0, p1, p2, p3, p4, p5, p6, l6, g6⟩ := Batch.at (Row_below hr hT.bel) k hlt
      have Hx := Lib.hid (take_snoc hx)
      have Sx := Lib.hid (HS.out.2 x (List.mem_of_getElem? hx))
      clear hx
      go_wp2_with (go_at_call 116; refine (toBatch_c _ x l6 g6 Sx.out).mono ?_; rintro e w' ⟨v6, Fx, rfl, hTx, hFx, hb2⟩; have HT := Lib.hid hTx; have HF := Lib.hid hFx; obtain ⟨v6', G6, he, rfl, hU6⟩ := Batch.opnT hTx; obtain ⟨B6, d6, rfl, _⟩ := TS_read hU6; simp at he; obtain rfl := he; obtain ⟨⟨u0_, s0_⟩, f0_, hg0_⟩ := hT.cells hb2 (k * 7) (by show _ < _ * 7; omega); obtain ⟨⟨u1_, s1_⟩, f1_, hg1_⟩ := hT.cells hb2 (k * 7 + 1) (by show _ < _ * 7; omega); obtain ⟨⟨u2_, s2_⟩, f2_, hg2_⟩ := hT.cells hb2 (k * 7 + 2) (by show _ < _ * 7; omega); obtain ⟨⟨u3_, s3_⟩, f3_, hg3_⟩ := hT.cells hb2 (k * 7 + 3) (by show _ < _ * 7; omega); obtain ⟨⟨u4_, s4_⟩, f4_, hg4_⟩ := hT.cells hb2 (k * 7 + 4) (by show _ < _ * 7; omega); obtain ⟨⟨u5_, s5_⟩, f5_, hg5_⟩ := hT.cells hb2 (k * 7 + 5) (by show _ < _ * 7; omega); obtain ⟨⟨u6_, s6_⟩, f6_, hg6_⟩ := hT.cells hb2 (k * 7 + 6) (by show _ < _ * 7; omega))
      go_roundw
      case rel => exact ⟨k + 1, by omega, by go_num, by rw [Hx.out]; have hp := hT.put k 7 rfl (by simp; omega) hlt hb2 HT.out HF.out; exact hp⟩
      case measure => simp [intOf]; omega
    · go_wp2
      go_ret
      obtain rfl : k = l.length := by omega
      rw [List.take_length] at hT
      exact hT.done rfl
def Segment.Made (x : Segment) (w : World) (en : Ending) (w' : World) : Prop := ∃ v1 F, en = .returned (.agg #[.int .i64 x.Base, v1]) ∧ kSegment.T w' F x [.int .i64 x.Base, v1] ∧ Fresh w F ∧ Below w.heap.size w w'
theorem toSegment_c (w : World) (x : Segment) {A1 : Option Addr} {c1 : Nat} (l1 : x.Batches.length ≤ c1) (g1 : Row kBatch w A1 x.Batches) (hs : x.sm) :
    Calls Try.prog 110 #[.agg #[.int .i64 x.Base, .slice A1 x.Batches.length c1]] w (x.Made w) := by
  have s1 := hs
  have S1 := Lib.hid s1
  clear s1
  go_enter Try.func110, Try.ntmps110
  go_upto_region 3 with fail
  go_wp2_with (go_at_call 113; refine (toBatchS_c _ x.Batches l1 (Row_below g1 (by repeat (first | with_reducible exact Below.refl _ _ | with_reducible assumption | ((with_reducible refine Below.setCell ?_ ?_ _); rotate_left; (simp <;> omega)) | ((with_reducible refine Below.alloc ?_ ?_ _); rotate_left; (simp <;> omega))))) S1.out).mono ?_; rintro e w1_ ⟨v1, F1, rfl, hT1, hF1, hb1⟩; obtain ⟨B1, d1, rfl, _⟩ := TS_read hT1; have hB1 : Below w.heap.size w w1_ := (by refine Below.trans ?_ (hb1.mono (by simp <;> omega)); repeat (first | with_reducible exact Below.refl _ _ | with_reducible assumption | ((with_reducible refine Below.setCell ?_ ?_ _); rotate_left; (simp <;> omega)) | ((with_reducible refine Below.alloc ?_ ?_ _); rotate_left; (simp <;> omega)))); have hl1 := Lib.hid (TS_lt hT1); have hG1 := Lib.hid (hF1.2); obtain ⟨hc1, hf1⟩ := bcell hb1; have hz1 := hb1.size; simp at hz1; have hg1_0 : w.heap.size < w1_.heap.size := (by omega); have hg1_1 : w.heap.size + 1 < w1_.heap.size := (by omega); have hg1_2 : w.heap.size + 1 + 1 < w1_.heap.size := (by omega))
  refine bodyPost_ret (v := .agg #[.int .i64 x.Base, .slice B1 x.Batches.length d1]) (by simp [results, Try.results110, go_sem, hc1, hz1, hg1_0, hg1_1, hg1_2]) rfl ?_
  refine ⟨_, _, rfl, Segment.mkT _ x (F1 := F1) (by repeat (first | with_reducible exact hT1 | ((with_reducible refine TS_setc ?_ hG1.out ?_); rotate_left; (simp <;> omega)))), ?_, by repeat (first | with_reducible exact Below.refl _ _ | with_reducible assumption | ((with_reducible refine Below.setCell ?_ ?_ _); rotate_left; (simp <;> omega)) | ((with_reducible refine Below.alloc ?_ ?_ _); rotate_left; (simp <;> omega)))⟩
  exact hF1.mono (by simp <;> omega)
theorem info_131 : (Try.prog.info? 131).map (fun i => (i.zero, i.size, i.bytes)) = some (some (.agg #[.int .i64 0, .slice none 0 0]), 2, 32) := by kernel_rfl
theorem toSegmentS_c (w : World) (l : List Segment) {A : Option Addr} {c : Nat} (hc : l.length ≤ c) (hr : Row kSegment w A l) (hs : (l.length ≤ 1048576 ∧ ∀ y ∈ l, y.sm)) :
    Calls Try.prog 103 #[.slice A l.length c] w (MadeS kSegment 131 l w) := by
  have hl : l.length ≤ 1048576 := hs.1
  have HS := Lib.hid hs
  clear hs
  have hu166 := Try.underlying166
  have hu131 := Try.underlying131
  have hu125 := Try.underlying125
  have hu88 := Try.underlying88
  obtain ⟨i0, hi, hz0, hz1, hz2⟩ := info_parts info_131
  go_enter Try.func103, Try.ntmps103
  go_wp2_with (refine wpList_make_full _ rfl _ _ _ rfl 0 131 i0 _ 2 hu88 hi hz0 hz1 .i64 .i64 _ _ l.length rfl rfl rfl rfl (by rw [hz2]; omega) (by simp only [maxLen]; omega) (Nat.zero_le _) ?_; intro w1 hown hgr)
  have H := Lib.hid (Fill.start (d := kSegment) hown hgr)
  clear hown hgr
  go_loopw [4] (fun i wr => ∃ k : Nat, k ≤ l.length ∧ i = .int .i64 k ∧ Fill kSegment 131 w wr w.heap.size l.length (l.take k)) (fun i _ => l.length - (intOf i).toNat)
  case atStart => exact ⟨0, Nat.zero_le _, rfl, H.out⟩
  case round =>
    clear H
    obtain ⟨k, hk, rfl, hT⟩ := hrel
    by_cases hlt : k < l.length
    · obtain ⟨ad, x, A1, c1, rfl, hx, p0, p1, l1, g1⟩ := Segment.at (Row_below hr hT.bel) k hlt
      have Hx := Lib.hid (take_snoc hx)
      have Sx := Lib.hid (HS.out.2 x (List.mem_of_getElem? hx))
      clear hx
      go_wp2_with (go_at_call 110; refine (toSegment_c _ x l1 g1 Sx.out).mono ?_; rintro e w' ⟨v1, Fx, rfl, hTx, hFx, hb2⟩; have HT := Lib.hid hTx; have HF := Lib.hid hFx; obtain ⟨v1', G1, he, rfl, hU1⟩ := Segment.opnT hTx; obtain ⟨B1, d1, rfl, _⟩ := TS_read hU1; simp at he; obtain rfl := he; obtain ⟨⟨u0_, s0_⟩, f0_, hg0_⟩ := hT.cells hb2 (k * 2) (by show _ < _ * 2; omega); obtain ⟨⟨u1_, s1_⟩, f1_, hg1_⟩ := hT.cells hb2 (k * 2 + 1) (by show _ < _ * 2; omega))
      go_roundw
      case rel => exact ⟨k + 1, by omega, by go_num, by rw [Hx.out]; have hp := hT.put k 2 rfl (by simp; omega) hlt hb2 HT.out HF.out; exact hp⟩
      case measure => simp [intOf]; omega
    · go_wp2
      go_ret
      obtain rfl : k = l.length := by omega
      rw [List.take_length] at hT
      exact hT.done rfl
def Log.Made (x : Log) (w : World) (en : Ending) (w' : World) : Prop := ∃ v3 F, en = .returned (.agg #[.int .i64 x.Start, .int .i64 x.Next, .int .i64 x.Roll, v3]) ∧ kLog.T w' F x [.int .i64 x.Start, .int .i64 x.Next, .int .i64 x.Roll, v3] ∧ Fresh w F ∧ Below w.heap.size w w'
theorem toLog_c (w : World) (x : Log) {A3 : Option Addr} {c3 : Nat} (l3 : x.Segments.length ≤ c3) (g3 : Row kSegment w A3 x.Segments) (hs : x.sm) :
    Calls Try.prog 90 #[.agg #[.int .i64 x.Start, .int .i64 x.Next, .int .i64 x.Roll, .slice A3 x.Segments.length c3]] w (x.Made w) := by
  have s3 := hs
  have S3 := Lib.hid s3
  clear s3
  go_enter Try.func90, Try.ntmps90
  go_upto_region 5 with fail
  go_wp2_with (go_at_call 103; refine (toSegmentS_c _ x.Segments l3 (Row_below g3 (by repeat (first | with_reducible exact Below.refl _ _ | with_reducible assumption | ((with_reducible refine Below.setCell ?_ ?_ _); rotate_left; (simp <;> omega)) | ((with_reducible refine Below.alloc ?_ ?_ _); rotate_left; (simp <;> omega))))) S3.out).mono ?_; rintro e w3_ ⟨v3, F3, rfl, hT3, hF3, hb3⟩; obtain ⟨B3, d3, rfl, _⟩ := TS_read hT3; have hB3 : Below w.heap.size w w3_ := (by refine Below.trans ?_ (hb3.mono (by simp <;> omega)); repeat (first | with_reducible exact Below.refl _ _ | with_reducible assumption | ((with_reducible refine Below.setCell ?_ ?_ _); rotate_left; (simp <;> omega)) | ((with_reducible refine Below.alloc ?_ ?_ _); rotate_left; (simp <;> omega)))); have hl3 := Lib.hid (TS_lt hT3); have hG3 := Lib.hid (hF3.2); obtain ⟨hc3, hf3⟩ := bcell hb3; have hz3 := hb3.size; simp at hz3; have hg3_0 : w.heap.size < w3_.heap.size := (by omega); have hg3_1 : w.heap.size + 1 < w3_.heap.size := (by omega); have hg3_2 : w.heap.size + 1 + 1 < w3_.heap.size := (by omega))
  refine bodyPost_ret (v := .agg #[.int .i64 x.Start, .int .i64 x.Next, .int .i64 x.Roll, .slice B3 x.Segments.length d3]) (by simp [results, Try.results90, go_sem, hc3, hz3, hg3_0, hg3_1, hg3_2]) rfl ?_
  refine ⟨_, _, rfl, Log.mkT _ x (F3 := F3) (by repeat (first | with_reducible exact hT3 | ((with_reducible refine TS_setc ?_ hG3.out ?_); rotate_left; (simp <;> omega)))), ?_, by repeat (first | with_reducible exact Below.refl _ _ | with_reducible assumption | ((with_reducible refine Below.setCell ?_ ?_ _); rotate_left; (simp <;> omega)) | ((with_reducible refine Below.alloc ?_ ?_ _); rotate_left; (simp <;> omega)))⟩
  exact hF3.mono (by simp <;> omega)
def Replica.Made (x : Replica) (w : World) (en : Ending) (w' : World) : Prop := ∃ v3 F, en = .returned (.agg #[.int .i64 x.Log.Start, .int .i64 x.Log.Next, .int .i64 x.Log.Roll, v3, .int .i64 x.Mark, .bool x.Up]) ∧ kReplica.T w' F x [.int .i64 x.Log.Start, .int .i64 x.Log.Next, .int .i64 x.Log.Roll, v3, .int .i64 x.Mark, .bool x.Up] ∧ Fresh w F ∧ Below w.heap.size w w'
theorem toReplica_c (w : World) (x : Replica) {A3 : Option Addr} {c3 : Nat} (l3 : x.Log.Segments.length ≤ c3) (g3 : Row kSegment w A3 x.Log.Segments) (hs : x.sm) :
    Calls Try.prog 83 #[.agg #[.int .i64 x.Log.Start, .int .i64 x.Log.Next, .int .i64 x.Log.Roll, .slice A3 x.Log.Segments.length c3, .int .i64 x.Mark, .bool x.Up]] w (x.Made w) := by
  have s0 := hs
  have S0 := Lib.hid s0
  clear s0
  go_enter Try.func83, Try.ntmps83
  go_upto_region 2 with fail
  go_wp2_with (go_at_call 90; refine (toLog_c _ x.Log l3 (Row_below g3 (by repeat (first | with_reducible exact Below.refl _ _ | with_reducible assumption | ((with_reducible refine Below.setCell ?_ ?_ _); rotate_left; (simp <;> omega)) | ((with_reducible refine Below.alloc ?_ ?_ _); rotate_left; (simp <;> omega))))) S0.out).mono ?_; rintro e w0_ ⟨v3, F3, rfl, hS0, hF0, hb0⟩; obtain ⟨v3', G_3, he0, rfl, hT3⟩ := Log.opnT hS0; simp at he0; obtain rfl := he0; obtain ⟨B3, d3, rfl, _⟩ := TS_read hT3; have hB0 : Below w.heap.size w w0_ := (by refine Below.trans ?_ (hb0.mono (by simp <;> omega)); repeat (first | with_reducible exact Below.refl _ _ | with_reducible assumption | ((with_reducible refine Below.setCell ?_ ?_ _); rotate_left; (simp <;> omega)) | ((with_reducible refine Below.alloc ?_ ?_ _); rotate_left; (simp <;> omega)))); have hl3 := Lib.hid (TS_lt hT3); have hG3 := Lib.hid (hF0.2); obtain ⟨hc0, hf0⟩ := bcell hb0; have hz0 := hb0.size; simp at hz0; have hg0_0 : w.heap.size < w0_.heap.size := (by omega); have hg0_1 : w.heap.size + 1 < w0_.heap.size := (by omega); have hg0_2 : w.heap.size + 1 + 1 < w0_.heap.size := (by omega))
  refine bodyPost_ret (v := .agg #[.int .i64 x.Log.Start, .int .i64 x.Log.Next, .int .i64 x.Log.Roll, .slice B3 x.Log.Segments.length d3, .int .i64 x.Mark, .bool x.Up]) (by simp [results, Try.results83, go_sem, hc0, hz0, hg0_0, hg0_1, hg0_2]) rfl ?_
  refine ⟨_, _, rfl, Replica.mkT _ x (F3 := F3) (by repeat (first | with_reducible exact hT3 | ((with_reducible refine TS_setc ?_ hG3.out ?_); rotate_left; (simp <;> omega)))), ?_, by repeat (first | with_reducible exact Below.refl _ _ | with_reducible assumption | ((with_reducible refine Below.setCell ?_ ?_ _); rotate_left; (simp <;> omega)) | ((with_reducible refine Below.alloc ?_ ?_ _); rotate_left; (simp <;> omega)))⟩
  exact hF0.mono (by simp <;> omega)
theorem info_92 : (Try.prog.info? 92).map (fun i => (i.zero, i.size, i.bytes)) = some (some (.agg #[.int .i64 0, .int .i64 0, .int .i64 0, .slice none 0 0, .int .i64 0, .bool false]), 6, 64) := by kernel_rfl
theorem toReplicaS_c (w : World) (l : List Replica) {A : Option Addr} {c : Nat} (hc : l.length ≤ c) (hr : Row kReplica w A l) (hs : (l.length ≤ 1048576 ∧ ∀ y ∈ l, y.sm)) :
    Calls Try.prog 53 #[.slice A l.length c] w (MadeS kReplica 92 l w) := by
  have hl : l.length ≤ 1048576 := hs.1
  have HS := Lib.hid hs
  clear hs
  have hu129 := Try.underlying129
  have hu92 := Try.underlying92
  have hu40 := Try.underlying40
  have hu46 := Try.underlying46
  obtain ⟨i0, hi, hz0, hz1, hz2⟩ := info_parts info_92
  go_enter Try.func53, Try.ntmps53
  go_wp2_with (refine wpList_make_full _ rfl _ _ _ rfl 0 92 i0 _ 6 hu46 hi hz0 hz1 .i64 .i64 _ _ l.length rfl rfl rfl rfl (by rw [hz2]; omega) (by simp only [maxLen]; omega) (Nat.zero_le _) ?_; intro w1 hown hgr)
  have H := Lib.hid (Fill.start (d := kReplica) hown hgr)
  clear hown hgr
  go_loopw [4] (fun i wr => ∃ k : Nat, k ≤ l.length ∧ i = .int .i64 k ∧ Fill kReplica 92 w wr w.heap.size l.length (l.take k)) (fun i _ => l.length - (intOf i).toNat)
  case atStart => exact ⟨0, Nat.zero_le _, rfl, H.out⟩
  case round =>
    clear H
    obtain ⟨k, hk, rfl, hT⟩ := hrel
    by_cases hlt : k < l.length
    · obtain ⟨ad, x, A3, c3, rfl, hx, p0, p1, p2, p3, p4, p5, l3, g3⟩ := Replica.at (Row_below hr hT.bel) k hlt
      have Hx := Lib.hid (take_snoc hx)
      have Sx := Lib.hid (HS.out.2 x (List.mem_of_getElem? hx))
      clear hx
      go_wp2_with (go_at_call 83; refine (toReplica_c _ x l3 g3 Sx.out).mono ?_; rintro e w' ⟨v3, Fx, rfl, hTx, hFx, hb2⟩; have HT := Lib.hid hTx; have HF := Lib.hid hFx; obtain ⟨v3', G3, he, rfl, hU3⟩ := Replica.opnT hTx; obtain ⟨B3, d3, rfl, _⟩ := TS_read hU3; simp at he; obtain rfl := he; obtain ⟨⟨u0_, s0_⟩, f0_, hg0_⟩ := hT.cells hb2 (k * 6) (by show _ < _ * 6; omega); obtain ⟨⟨u1_, s1_⟩, f1_, hg1_⟩ := hT.cells hb2 (k * 6 + 1) (by show _ < _ * 6; omega); obtain ⟨⟨u2_, s2_⟩, f2_, hg2_⟩ := hT.cells hb2 (k * 6 + 2) (by show _ < _ * 6; omega); obtain ⟨⟨u3_, s3_⟩, f3_, hg3_⟩ := hT.cells hb2 (k * 6 + 3) (by show _ < _ * 6; omega); obtain ⟨⟨u4_, s4_⟩, f4_, hg4_⟩ := hT.cells hb2 (k * 6 + 4) (by show _ < _ * 6; omega); obtain ⟨⟨u5_, s5_⟩, f5_, hg5_⟩ := hT.cells hb2 (k * 6 + 5) (by show _ < _ * 6; omega))
      go_roundw
      case rel => exact ⟨k + 1, by omega, by go_num, by rw [Hx.out]; have hp := hT.put k 6 rfl (by simp; omega) hlt hb2 HT.out HF.out; exact hp⟩
      case measure => simp [intOf]; omega
    · go_wp2
      go_ret
      obtain rfl : k = l.length := by omega
      rw [List.take_length] at hT
      exact hT.done rfl
def Part.Made (x : Part) (w : World) (en : Ending) (w' : World) : Prop := ∃ v0 v3 v4 F, en = .returned (.agg #[v0, .int .i64 x.Leader, .int .i64 x.Epoch, v3, v4, .int .i64 x.Least]) ∧ kPart.T w' F x [v0, .int .i64 x.Leader, .int .i64 x.Epoch, v3, v4, .int .i64 x.Least] ∧ Fresh w F ∧ Below w.heap.size w w'
set_option maxHeartbeats 4000000 in
theorem toPart_c (w : World) (x : Part) {A0 : Option Addr} {c0 : Nat} (l0 : x.Replicas.length ≤ c0) (g0 : Row kReplica w A0 x.Replicas) {A3 : Option Addr} {c3 : Nat} (l3 : x.Insync.length ≤ c3) (g3 : Row (Ki.int .i64) w A3 x.Insync) {A4 : Option Addr} {c4 : Nat} (l4 : x.Known.length ≤ c4) (g4 : Row (Ki.int .i64) w A4 x.Known) (hs : x.sm) :
    Calls Try.prog 22 #[.agg #[.slice A0 x.Replicas.length c0, .int .i64 x.Leader, .int .i64 x.Epoch, .slice A3 x.Insync.length c3, .slice A4 x.Known.length c4, .int .i64 x.Least]] w (x.Made w) := by
  obtain ⟨s0, s3, s4⟩ := hs
  have S0 := Lib.hid s0
  clear s0
  have S3 := Lib.hid s3
  clear s3
  have S4 := Lib.hid s4
  clear s4
  go_enter Try.func22, Try.ntmps22
  go_upto_region 2 with fail
  go_upto_region 5 with (go_at_call 53; refine (toReplicaS_c _ x.Replicas l0 (Row_below g0 (by repeat (first | with_reducible exact Below.refl _ _ | with_reducible assumption | ((with_reducible refine Below.setCell ?_ ?_ _); rotate_left; (simp <;> omega)) | ((with_reducible refine Below.alloc ?_ ?_ _); rotate_left; (simp <;> omega))))) S0.out).mono ?_; rintro e w0_ ⟨v0, F0, rfl, hT0, hF0, hb0⟩; obtain ⟨B0, d0, rfl, _⟩ := TS_read hT0; have hB0 : Below w.heap.size w w0_ := (by refine Below.trans ?_ (hb0.mono (by simp <;> omega)); repeat (first | with_reducible exact Below.refl _ _ | with_reducible assumption | ((with_reducible refine Below.setCell ?_ ?_ _); rotate_left; (simp <;> omega)) | ((with_reducible refine Below.alloc ?_ ?_ _); rotate_left; (simp <;> omega)))); have hl0 := Lib.hid (TS_lt hT0); have hG0 := Lib.hid (hF0.2); obtain ⟨hc0, hf0⟩ := bcell hb0; have hz0 := hb0.size; simp at hz0; have hg0_0 : w.heap.size < w0_.heap.size := (by omega); have hg0_1 : w.heap.size + 1 < w0_.heap.size := (by omega); have hg0_2 : w.heap.size + 1 + 1 < w0_.heap.size := (by omega))
  go_upto_region 6 with (go_at_call 54; refine (toIntS_c _ x.Insync l3 (Row_below g3 (by repeat (first | with_reducible exact Below.refl _ _ | with_reducible assumption | ((with_reducible refine Below.setCell ?_ ?_ _); rotate_left; (simp <;> omega)) | ((with_reducible refine Below.alloc ?_ ?_ _); rotate_left; (simp <;> omega))))) S3.out).mono ?_; rintro e w3_ ⟨v3, F3, rfl, hT3, hF3, hb3⟩; obtain ⟨B3, d3, rfl, _⟩ := TS_read hT3; have hB3 : Below w.heap.size w w3_ := (by refine Below.trans ?_ (hb3.mono (by simp <;> omega)); repeat (first | with_reducible exact Below.refl _ _ | with_reducible assumption | ((with_reducible refine Below.setCell ?_ ?_ _); rotate_left; (simp <;> omega)) | ((with_reducible refine Below.alloc ?_ ?_ _); rotate_left; (simp <;> omega)))); replace hT0 : TS kReplica 92 w3_ F0 x.Replicas (.slice B0 x.Replicas.length d0) := TS_below (by repeat (first | with_reducible exact hT0 | ((with_reducible refine TS_setc ?_ hG0.out ?_); rotate_left; (simp <;> omega)))) hb3; have hl3 := Lib.hid (TS_lt hT3); have hG3 := Lib.hid (hF3.2); obtain ⟨hc3, hf3⟩ := bcell hb3; have hz3 := hb3.size; simp at hz3; have hg3_0 : w.heap.size < w3_.heap.size := (by omega); have hg3_1 : w.heap.size + 1 < w3_.heap.size := (by omega); have hg3_2 : w.heap.size + 1 + 1 < w3_.heap.size := (by omega))
  go_wp2_with (go_at_call 54; refine (toIntS_c _ x.Known l4 (Row_below g4 (by repeat (first | with_reducible exact Below.refl _ _ | with_reducible assumption | ((with_reducible refine Below.setCell ?_ ?_ _); rotate_left; (simp <;> omega)) | ((with_reducible refine Below.alloc ?_ ?_ _); rotate_left; (simp <;> omega))))) S4.out).mono ?_; rintro e w4_ ⟨v4, F4, rfl, hT4, hF4, hb4⟩; obtain ⟨B4, d4, rfl, _⟩ := TS_read hT4; have hB4 : Below w.heap.size w w4_ := (by refine Below.trans ?_ (hb4.mono (by simp <;> omega)); repeat (first | with_reducible exact Below.refl _ _ | with_reducible assumption | ((with_reducible refine Below.setCell ?_ ?_ _); rotate_left; (simp <;> omega)) | ((with_reducible refine Below.alloc ?_ ?_ _); rotate_left; (simp <;> omega)))); replace hT0 : TS kReplica 92 w4_ F0 x.Replicas (.slice B0 x.Replicas.length d0) := TS_below (by repeat (first | with_reducible exact hT0 | ((with_reducible refine TS_setc ?_ hG0.out ?_); rotate_left; (simp <;> omega)))) hb4; replace hT3 : TS (Ki.int .i64) 3 w4_ F3 x.Insync (.slice B3 x.Insync.length d3) := TS_below (by repeat (first | with_reducible exact hT3 | ((with_reducible refine TS_setc ?_ hG3.out ?_); rotate_left; (simp <;> omega)))) hb4; have hl4 := Lib.hid (TS_lt hT4); have hG4 := Lib.hid (hF4.2); obtain ⟨hc4, hf4⟩ := bcell hb4; have hz4 := hb4.size; simp at hz4; have hg4_0 : w.heap.size < w4_.heap.size := (by omega); have hg4_1 : w.heap.size + 1 < w4_.heap.size := (by omega); have hg4_2 : w.heap.size + 1 + 1 < w4_.heap.size := (by omega))
  refine bodyPost_ret (v := .agg #[.slice B0 x.Replicas.length d0, .int .i64 x.Leader, .int .i64 x.Epoch, .slice B3 x.Insync.length d3, .slice B4 x.Known.length d4, .int .i64 x.Least]) (by simp [results, Try.results22, go_sem, hc0, hz0, hg0_0, hg0_1, hg0_2, hc3, hz3, hg3_0, hg3_1, hg3_2, hc4, hz4, hg4_0, hg4_1, hg4_2]) rfl ?_
  refine ⟨_, _, _, _, rfl, Part.mkT _ x (F0 := F0) (by repeat (first | with_reducible exact hT0 | ((with_reducible refine TS_setc ?_ hG0.out ?_); rotate_left; (simp <;> omega)))) (F3 := F3) (by repeat (first | with_reducible exact hT3 | ((with_reducible refine TS_setc ?_ hG3.out ?_); rotate_left; (simp <;> omega)))) (F4 := F4) (by repeat (first | with_reducible exact hT4 | ((with_reducible refine TS_setc ?_ hG4.out ?_); rotate_left; (simp <;> omega)))), ?_, by repeat (first | with_reducible exact Below.refl _ _ | with_reducible assumption | ((with_reducible refine Below.setCell ?_ ?_ _); rotate_left; (simp <;> omega)) | ((with_reducible refine Below.alloc ?_ ?_ _); rotate_left; (simp <;> omega)))⟩
  have R3 := Fresh.cat hF3 hF4 (fun b hb => by have := hl3.out b hb; simp <;> omega) (by simp <;> omega)
  have R0 := Fresh.cat hF0 R3 (fun b hb => by have := hl0.out b hb; simp <;> omega) (by simp <;> omega)
  exact R0.mono (by simp <;> omega)
def Txn.Made (x : Txn) (w : World) (en : Ending) (w' : World) : Prop := ∃ v4 F, en = .returned (.agg #[.string x.Name, .int .i64 x.Producer, .int .i64 x.Turn, .bool x.Open, v4]) ∧ kTxn.T w' F x [.string x.Name, .int .i64 x.Producer, .int .i64 x.Turn, .bool x.Open, v4] ∧ Fresh w F ∧ Below w.heap.size w w'
theorem toTxn_c (w : World) (x : Txn) {A4 : Option Addr} {c4 : Nat} (l4 : x.Parts.length ≤ c4) (g4 : Row (Ki.int .i64) w A4 x.Parts) (hs : x.sm) :
    Calls Try.prog 91 #[.agg #[.string x.Name, .int .i64 x.Producer, .int .i64 x.Turn, .bool x.Open, .slice A4 x.Parts.length c4]] w (x.Made w) := by
  obtain ⟨_, s4⟩ := hs
  have S4 := Lib.hid s4
  clear s4
  go_enter Try.func91, Try.ntmps91
  go_upto_region 6 with fail
  go_wp2_with (go_at_call 54; refine (toIntS_c _ x.Parts l4 (Row_below g4 (by repeat (first | with_reducible exact Below.refl _ _ | with_reducible assumption | ((with_reducible refine Below.setCell ?_ ?_ _); rotate_left; (simp <;> omega)) | ((with_reducible refine Below.alloc ?_ ?_ _); rotate_left; (simp <;> omega))))) S4.out).mono ?_; rintro e w4_ ⟨v4, F4, rfl, hT4, hF4, hb4⟩; obtain ⟨B4, d4, rfl, _⟩ := TS_read hT4; have hB4 : Below w.heap.size w w4_ := (by refine Below.trans ?_ (hb4.mono (by simp <;> omega)); repeat (first | with_reducible exact Below.refl _ _ | with_reducible assumption | ((with_reducible refine Below.setCell ?_ ?_ _); rotate_left; (simp <;> omega)) | ((with_reducible refine Below.alloc ?_ ?_ _); rotate_left; (simp <;> omega)))); have hl4 := Lib.hid (TS_lt hT4); have hG4 := Lib.hid (hF4.2); obtain ⟨hc4, hf4⟩ := bcell hb4; have hz4 := hb4.size; simp at hz4; have hg4_0 : w.heap.size < w4_.heap.size := (by omega); have hg4_1 : w.heap.size + 1 < w4_.heap.size := (by omega); have hg4_2 : w.heap.size + 1 + 1 < w4_.heap.size := (by omega))
  refine bodyPost_ret (v := .agg #[.string x.Name, .int .i64 x.Producer, .int .i64 x.Turn, .bool x.Open, .slice B4 x.Parts.length d4]) (by simp [results, Try.results91, go_sem, hc4, hz4, hg4_0, hg4_1, hg4_2]) rfl ?_
  refine ⟨_, _, rfl, Txn.mkT _ x (F4 := F4) (by repeat (first | with_reducible exact hT4 | ((with_reducible refine TS_setc ?_ hG4.out ?_); rotate_left; (simp <;> omega)))), ?_, by repeat (first | with_reducible exact Below.refl _ _ | with_reducible assumption | ((with_reducible refine Below.setCell ?_ ?_ _); rotate_left; (simp <;> omega)) | ((with_reducible refine Below.alloc ?_ ?_ _); rotate_left; (simp <;> omega)))⟩
  exact hF4.mono (by simp <;> omega)
theorem info_90 : (Try.prog.info? 90).map (fun i => (i.zero, i.size, i.bytes)) = some (some (.agg #[.int .i64 0, .int .i64 0, .int .i64 0, .slice none 0 0]), 4, 48) := by kernel_rfl
theorem toLogS_c (w : World) (l : List Log) {A : Option Addr} {c : Nat} (hc : l.length ≤ c) (hr : Row kLog w A l) (hs : (l.length ≤ 1048576 ∧ ∀ y ∈ l, y.sm)) :
    Calls Try.prog 64 #[.slice A l.length c] w (MadeS kLog 90 l w) := by
  have hl : l.length ≤ 1048576 := hs.1
  have HS := Lib.hid hs
  clear hs
  have hu127 := Try.underlying127
  have hu90 := Try.underlying90
  have hu52 := Try.underlying52
  have hu58 := Try.underlying58
  obtain ⟨i0, hi, hz0, hz1, hz2⟩ := info_parts info_90
  go_enter Try.func64, Try.ntmps64
  go_wp2_with (refine wpList_make_full _ rfl _ _ _ rfl 0 90 i0 _ 4 hu58 hi hz0 hz1 .i64 .i64 _ _ l.length rfl rfl rfl rfl (by rw [hz2]; omega) (by simp only [maxLen]; omega) (Nat.zero_le _) ?_; intro w1 hown hgr)
  have H := Lib.hid (Fill.start (d := kLog) hown hgr)
  clear hown hgr
  go_loopw [4] (fun i wr => ∃ k : Nat, k ≤ l.length ∧ i = .int .i64 k ∧ Fill kLog 90 w wr w.heap.size l.length (l.take k)) (fun i _ => l.length - (intOf i).toNat)
  case atStart => exact ⟨0, Nat.zero_le _, rfl, H.out⟩
  case round =>
    clear H
    obtain ⟨k, hk, rfl, hT⟩ := hrel
    by_cases hlt : k < l.length
    · obtain ⟨ad, x, A3, c3, rfl, hx, p0, p1, p2, p3, l3, g3⟩ := Log.at (Row_below hr hT.bel) k hlt
      have Hx := Lib.hid (take_snoc hx)
      have Sx := Lib.hid (HS.out.2 x (List.mem_of_getElem? hx))
      clear hx
      go_wp2_with (go_at_call 90; refine (toLog_c _ x l3 g3 Sx.out).mono ?_; rintro e w' ⟨v3, Fx, rfl, hTx, hFx, hb2⟩; have HT := Lib.hid hTx; have HF := Lib.hid hFx; obtain ⟨v3', G3, he, rfl, hU3⟩ := Log.opnT hTx; obtain ⟨B3, d3, rfl, _⟩ := TS_read hU3; simp at he; obtain rfl := he; obtain ⟨⟨u0_, s0_⟩, f0_, hg0_⟩ := hT.cells hb2 (k * 4) (by show _ < _ * 4; omega); obtain ⟨⟨u1_, s1_⟩, f1_, hg1_⟩ := hT.cells hb2 (k * 4 + 1) (by show _ < _ * 4; omega); obtain ⟨⟨u2_, s2_⟩, f2_, hg2_⟩ := hT.cells hb2 (k * 4 + 2) (by show _ < _ * 4; omega); obtain ⟨⟨u3_, s3_⟩, f3_, hg3_⟩ := hT.cells hb2 (k * 4 + 3) (by show _ < _ * 4; omega))
      go_roundw
      case rel => exact ⟨k + 1, by omega, by go_num, by rw [Hx.out]; have hp := hT.put k 4 rfl (by simp; omega) hlt hb2 HT.out HF.out; exact hp⟩
      case measure => simp [intOf]; omega
    · go_wp2
      go_ret
      obtain rfl : k = l.length := by omega
      rw [List.take_length] at hT
      exact hT.done rfl
theorem info_107 : (Try.prog.info? 107).map (fun i => (i.zero, i.size, i.bytes)) = some (some (.agg #[.string ⟨#[]⟩, .int .i64 0, .int .i64 0, .bool false, .slice none 0 0]), 5, 64) := by kernel_rfl
theorem toTxnS_c (w : World) (l : List Txn) {A : Option Addr} {c : Nat} (hc : l.length ≤ c) (hr : Row kTxn w A l) (hs : (l.length ≤ 1048576 ∧ ∀ y ∈ l, y.sm)) :
    Calls Try.prog 65 #[.slice A l.length c] w (MadeS kTxn 107 l w) := by
  have hl : l.length ≤ 1048576 := hs.1
  have HS := Lib.hid hs
  clear hs
  have hu138 := Try.underlying138
  have hu107 := Try.underlying107
  have hu53 := Try.underlying53
  have hu59 := Try.underlying59
  obtain ⟨i0, hi, hz0, hz1, hz2⟩ := info_parts info_107
  go_enter Try.func65, Try.ntmps65
  go_wp2_with (refine wpList_make_full _ rfl _ _ _ rfl 0 107 i0 _ 5 hu59 hi hz0 hz1 .i64 .i64 _ _ l.length rfl rfl rfl rfl (by rw [hz2]; omega) (by simp only [maxLen]; omega) (Nat.zero_le _) ?_; intro w1 hown hgr)
  have H := Lib.hid (Fill.start (d := kTxn) hown hgr)
  clear hown hgr
  go_loopw [4] (fun i wr => ∃ k : Nat, k ≤ l.length ∧ i = .int .i64 k ∧ Fill kTxn 107 w wr w.heap.size l.length (l.take k)) (fun i _ => l.length - (intOf i).toNat)
  case atStart => exact ⟨0, Nat.zero_le _, rfl, H.out⟩
  case round =>
    clear H
    obtain ⟨k, hk, rfl, hT⟩ := hrel
    by_cases hlt : k < l.length
    · obtain ⟨ad, x, A4, c4, rfl, hx, p0, p1, p2, p3, p4, l4, g4⟩ := Txn.at (Row_below hr hT.bel) k hlt
      have Hx := Lib.hid (take_snoc hx)
      have Sx := Lib.hid (HS.out.2 x (List.mem_of_getElem? hx))
      clear hx
      go_wp2_with (go_at_call 91; refine (toTxn_c _ x l4 g4 Sx.out).mono ?_; rintro e w' ⟨v4, Fx, rfl, hTx, hFx, hb2⟩; have HT := Lib.hid hTx; have HF := Lib.hid hFx; obtain ⟨v4', G4, he, rfl, hU4⟩ := Txn.opnT hTx; obtain ⟨B4, d4, rfl, _⟩ := TS_read hU4; simp at he; obtain rfl := he; obtain ⟨⟨u0_, s0_⟩, f0_, hg0_⟩ := hT.cells hb2 (k * 5) (by show _ < _ * 5; omega); obtain ⟨⟨u1_, s1_⟩, f1_, hg1_⟩ := hT.cells hb2 (k * 5 + 1) (by show _ < _ * 5; omega); obtain ⟨⟨u2_, s2_⟩, f2_, hg2_⟩ := hT.cells hb2 (k * 5 + 2) (by show _ < _ * 5; omega); obtain ⟨⟨u3_, s3_⟩, f3_, hg3_⟩ := hT.cells hb2 (k * 5 + 3) (by show _ < _ * 5; omega); obtain ⟨⟨u4_, s4_⟩, f4_, hg4_⟩ := hT.cells hb2 (k * 5 + 4) (by show _ < _ * 5; omega))
      go_roundw
      case rel => exact ⟨k + 1, by omega, by go_num, by rw [Hx.out]; have hp := hT.put k 5 rfl (by simp; omega) hlt hb2 HT.out HF.out; exact hp⟩
      case measure => simp [intOf]; omega
    · go_wp2
      go_ret
      obtain rfl : k = l.length := by omega
      rw [List.take_length] at hT
      exact hT.done rfl
def Store.Made (x : Store) (w : World) (en : Ending) (w' : World) : Prop := ∃ v0 v1 F, en = .returned (.agg #[v0, v1, .int .i64 x.Used]) ∧ kStore.T w' F x [v0, v1, .int .i64 x.Used] ∧ Fresh w F ∧ Below w.heap.size w w'
set_option maxHeartbeats 4000000 in
theorem toStore_c (w : World) (x : Store) {A0 : Option Addr} {c0 : Nat} (l0 : x.Logs.length ≤ c0) (g0 : Row kLog w A0 x.Logs) {A1 : Option Addr} {c1 : Nat} (l1 : x.Txns.length ≤ c1) (g1 : Row kTxn w A1 x.Txns) (hs : x.sm) :
    Calls Try.prog 27 #[.agg #[.slice A0 x.Logs.length c0, .slice A1 x.Txns.length c1, .int .i64 x.Used]] w (x.Made w) := by
  obtain ⟨s0, s1⟩ := hs
  have S0 := Lib.hid s0
  clear s0
  have S1 := Lib.hid s1
  clear s1
  go_enter Try.func27, Try.ntmps27
  go_upto_region 2 with fail
  go_upto_region 3 with (go_at_call 64; refine (toLogS_c _ x.Logs l0 (Row_below g0 (by repeat (first | with_reducible exact Below.refl _ _ | with_reducible assumption | ((with_reducible refine Below.setCell ?_ ?_ _); rotate_left; (simp <;> omega)) | ((with_reducible refine Below.alloc ?_ ?_ _); rotate_left; (simp <;> omega))))) S0.out).mono ?_; rintro e w0_ ⟨v0, F0, rfl, hT0, hF0, hb0⟩; obtain ⟨B0, d0, rfl, _⟩ := TS_read hT0; have hB0 : Below w.heap.size w w0_ := (by refine Below.trans ?_ (hb0.mono (by simp <;> omega)); repeat (first | with_reducible exact Below.refl _ _ | with_reducible assumption | ((with_reducible refine Below.setCell ?_ ?_ _); rotate_left; (simp <;> omega)) | ((with_reducible refine Below.alloc ?_ ?_ _); rotate_left; (simp <;> omega)))); have hl0 := Lib.hid (TS_lt hT0); have hG0 := Lib.hid (hF0.2); obtain ⟨hc0, hf0⟩ := bcell hb0; have hz0 := hb0.size; simp at hz0; have hg0_0 : w.heap.size < w0_.heap.size := (by omega); have hg0_1 : w.heap.size + 1 < w0_.heap.size := (by omega); have hg0_2 : w.heap.size + 1 + 1 < w0_.heap.size := (by omega))
  go_wp2_with (go_at_call 65; refine (toTxnS_c _ x.Txns l1 (Row_below g1 (by repeat (first | with_reducible exact Below.refl _ _ | with_reducible assumption | ((with_reducible refine Below.setCell ?_ ?_ _); rotate_left; (simp <;> omega)) | ((with_reducible refine Below.alloc ?_ ?_ _); rotate_left; (simp <;> omega))))) S1.out).mono ?_; rintro e w1_ ⟨v1, F1, rfl, hT1, hF1, hb1⟩; obtain ⟨B1, d1, rfl, _⟩ := TS_read hT1; have hB1 : Below w.heap.size w w1_ := (by refine Below.trans ?_ (hb1.mono (by simp <;> omega)); repeat (first | with_reducible exact Below.refl _ _ | with_reducible assumption | ((with_reducible refine Below.setCell ?_ ?_ _); rotate_left; (simp <;> omega)) | ((with_reducible refine Below.alloc ?_ ?_ _); rotate_left; (simp <;> omega)))); replace hT0 : TS kLog 90 w1_ F0 x.Logs (.slice B0 x.Logs.length d0) := TS_below (by repeat (first | with_reducible exact hT0 | ((with_reducible refine TS_setc ?_ hG0.out ?_); rotate_left; (simp <;> omega)))) hb1; have hl1 := Lib.hid (TS_lt hT1); have hG1 := Lib.hid (hF1.2); obtain ⟨hc1, hf1⟩ := bcell hb1; have hz1 := hb1.size; simp at hz1; have hg1_0 : w.heap.size < w1_.heap.size := (by omega); have hg1_1 : w.heap.size + 1 < w1_.heap.size := (by omega); have hg1_2 : w.heap.size + 1 + 1 < w1_.heap.size := (by omega))
  refine bodyPost_ret (v := .agg #[.slice B0 x.Logs.length d0, .slice B1 x.Txns.length d1, .int .i64 x.Used]) (by simp [results, Try.results27, go_sem, hc0, hz0, hg0_0, hg0_1, hg0_2, hc1, hz1, hg1_0, hg1_1, hg1_2]) rfl ?_
  refine ⟨_, _, _, rfl, Store.mkT _ x (F0 := F0) (by repeat (first | with_reducible exact hT0 | ((with_reducible refine TS_setc ?_ hG0.out ?_); rotate_left; (simp <;> omega)))) (F1 := F1) (by repeat (first | with_reducible exact hT1 | ((with_reducible refine TS_setc ?_ hG1.out ?_); rotate_left; (simp <;> omega)))), ?_, by repeat (first | with_reducible exact Below.refl _ _ | with_reducible assumption | ((with_reducible refine Below.setCell ?_ ?_ _); rotate_left; (simp <;> omega)) | ((with_reducible refine Below.alloc ?_ ?_ _); rotate_left; (simp <;> omega)))⟩
  have R0 := Fresh.cat hF0 hF1 (fun b hb => by have := hl0.out b hb; simp <;> omega) (by simp <;> omega)
  exact R0.mono (by simp <;> omega)
end Go.Proofs.Ytpnjgmgnhkhapaa.H
