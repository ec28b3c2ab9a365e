/-
The law FnExactMoves: whatever the input, it answers true. Printed by hlaws.py (this session's own). Conditions: each contract's own premises.
-/
import Derived.Test.YtenldgbabcjjkaaHSz
import Derived.Test.YtenldgbabcjjkaaHTo
import Derived.Test.YtenldgbabcjjkaaHEq
import Derived.Test.YtenldgbabcjjkaaHW9
namespace Go.Proofs.Ytenldgbabcjjkaa.H
open Go.RowKit
set_option linter.unusedVariables false
set_option linter.unusedSimpArgs false
set_option maxRecDepth 100000
set_option maxHeartbeats 4000000 in
theorem law_FnExactMoves (w : World) (x0 : (List Want)) (x1 : (List (List Slot))) {A0_0 : Option Addr} {c0_0 : Nat} (l0_0 : x0.length ≤ c0_0) (g0_0 : Row kWant w A0_0 x0) {A1_0 : Option Addr} {c1_0 : Nat} (l1_0 : x1.length ≤ c1_0) (g1_0 : Row (Ki.slice 79 kSlot) w A1_0 x1) (hw0 : (wfList Want.wf) x0) (hw1 : (wfList (wfList Slot.wf)) x1) :
    Calls Try.prog 4 #[.slice A0_0 x0.length c0_0, .slice A1_0 x1.length c1_0] w fun e w' => e = .returned (.bool true) ∧ Below w.heap.size w w' := by
  have HW0 := Lib.hid hw0
  clear hw0
  have HW1 := Lib.hid hw1
  clear hw1
  go_enter Try.func4, Try.ntmps4
  go_upto_region 2 with fail
  go_upto_region 5 with ((go_at_call 9; refine (szWantS_c _ _ _ x0 _ (Row_below g0_0 (Below.refl _ _)) l0_0 HW0.out (by omega) (by omega)).mono ?_; rintro e w1 ⟨r1, rfl, ra1, rb1, rs1, hb1⟩; have hs0 := Lib.hid rs1; clear rs1; have E1 := below_tr (Below.refl _ _) hb1; have HB1 := E1; have hz1 := E1.size; replace g0_0 := Row_below g0_0 E1; replace g1_0 := Row_below g1_0 E1))
  all_goals first | (go_ret; exact ⟨rfl, HB1⟩) | skip
  have T0 : szL Want.sz x0 ≤ 1048576 := (by have := hs0.out (by omega); omega)
  have HT0 := Lib.hid T0
  have S0 : Hid ((x0.length ≤ 1048576 ∧ ∀ y ∈ x0, y.sm)) := Lib.hid (⟨Nat.le_trans (szL_len _ _) T0, fun y0 hy0 => Want.sm_of (Nat.le_trans (szL_mem Want.sz hy0) T0)⟩)
  clear T0
  go_upto_region 8 with ((go_at_call 14; refine (szSlotSS_c _ _ _ x1 _ (Row_below g1_0 (Below.refl _ _)) l1_0 HW1.out (by omega) (by omega)).mono ?_; rintro e w2 ⟨r2, rfl, ra2, rb2, rs2, hb2⟩; have hs1 := Lib.hid rs2; clear rs2; have E2 := below_tr (Below.refl _ _) hb2; have HB2 := below_tr HB1 E2; have hz2 := E2.size; replace g0_0 := Row_below g0_0 E2; replace g1_0 := Row_below g1_0 E2))
  all_goals first | (go_ret; exact ⟨rfl, HB2⟩) | skip
  have T1 : szL (szL Slot.sz) x1 ≤ 1048576 := (by have := hs1.out (by omega); omega)
  have HT1 := Lib.hid T1
  have S1 : Hid ((x1.length ≤ 1048576 ∧ ∀ y ∈ x1, (y.length ≤ 1048576 ∧ ∀ yy ∈ y, yy.sm))) := Lib.hid (⟨Nat.le_trans (szL_len _ _) T1, fun y0 hy0 => ⟨Nat.le_trans (szL_len _ _) (Nat.le_trans (szL_mem (szL Slot.sz) hy0) T1), fun y1 hy1 => Slot.sm_of (Nat.le_trans (szL_mem Slot.sz hy1) (Nat.le_trans (szL_mem (szL Slot.sz) hy0) T1))⟩⟩)
  clear T1
  go_upto_region 9 with (first | (go_at_call 11; refine (toWantS_c _ x0 l0_0 (Row_below g0_0 (Below.refl _ _)) S0.out).mono ?_; rintro e w3 ⟨v3_0, F3, rfl, hT3, hF3, hb3⟩; obtain ⟨B3_0, d3_0, rfl, m3_0, _, s3_0⟩ := TS_read hT3; have E3 := below_tr (Below.refl _ _) hb3; have HB3 := below_tr HB2 E3; have hz3 := E3.size; replace g0_0 := Row_below g0_0 E3; replace g1_0 := Row_below g1_0 E3) | (go_at_call 16; refine (toSlotSS_c _ x1 l1_0 (Row_below g1_0 (Below.refl _ _)) S1.out).mono ?_; rintro e w4 ⟨v4_0, F4, rfl, hT4, hF4, hb4⟩; obtain ⟨B4_0, d4_0, rfl, m4_0, _, s4_0⟩ := TS_read hT4; have E4 := below_tr (Below.refl _ _) hb4; have HB4 := below_tr HB3 E4; have hz4 := E4.size; replace g0_0 := Row_below g0_0 E4; replace g1_0 := Row_below g1_0 E4; replace s3_0 := Row_below s3_0 E4) | (go_at_call 15; refine (specMoves_c _ x0 x1 m3_0 (Row_below s3_0 (Below.refl _ _)) m4_0 (Row_below s4_0 (Below.refl _ _)) S0.out S1.out).mono ?_; rintro e w5 ⟨rfl, hb5⟩; have E5 := below_tr (Below.refl _ _) hb5; have HB5 := below_tr HB4 E5; have hz5 := E5.size; replace g0_0 := Row_below g0_0 E5; replace g1_0 := Row_below g1_0 E5; replace s3_0 := Row_below s3_0 E5; replace s4_0 := Row_below s4_0 E5))
  go_upto_region 10 with ((go_at_call 11; refine (toWantS_c _ x0 l0_0 (Row_below g0_0 (Below.refl _ _)) S0.out).mono ?_; rintro e w6 ⟨v6_0, F6, rfl, hT6, hF6, hb6⟩; obtain ⟨B6_0, d6_0, rfl, m6_0, _, s6_0⟩ := TS_read hT6; have E6 := below_tr (Below.refl _ _) hb6; have HB6 := below_tr HB5 E6; have hz6 := E6.size; replace g0_0 := Row_below g0_0 E6; replace g1_0 := Row_below g1_0 E6; replace s3_0 := Row_below s3_0 E6; replace s4_0 := Row_below s4_0 E6))
  go_upto_region 11 with ((go_at_call 16; refine (toSlotSS_c _ x1 l1_0 (Row_below g1_0 (Below.refl _ _)) S1.out).mono ?_; rintro e w7 ⟨v7_0, F7, rfl, hT7, hF7, hb7⟩; obtain ⟨B7_0, d7_0, rfl, m7_0, _, s7_0⟩ := TS_read hT7; have E7 := below_tr (Below.refl _ _) hb7; have HB7 := below_tr HB6 E7; have hz7 := E7.size; replace g0_0 := Row_below g0_0 E7; replace g1_0 := Row_below g1_0 E7; replace s3_0 := Row_below s3_0 E7; replace s4_0 := Row_below s4_0 E7; replace s6_0 := Row_below s6_0 E7))
  go_upto_region 14 with ((go_at_call 17; refine (implMoves_c _ x0 x1 m6_0 (Row_below s6_0 (Below.refl _ _)) m7_0 (Row_below s7_0 (Below.refl _ _)) S0.out S1.out HW0.out HW1.out).mono ?_; rintro e w8 ⟨rfl, hb8⟩; have E8 := below_tr (Below.refl _ _) hb8; have HB8 := below_tr HB7 E8; have hz8 := E8.size; replace g0_0 := Row_below g0_0 E8; replace g1_0 := Row_below g1_0 E8; replace s3_0 := Row_below s3_0 E8; replace s4_0 := Row_below s4_0 E8; replace s6_0 := Row_below s6_0 E8; replace s7_0 := Row_below s7_0 E8))
  go_upto_region 16 with (first | (go_at_call 11; refine (toWantS_c _ x0 l0_0 (Row_below g0_0 (Below.refl _ _)) S0.out).mono ?_; rintro e w9 ⟨v9_0, F9, rfl, hT9, hF9, hb9⟩; obtain ⟨B9_0, d9_0, rfl, m9_0, _, s9_0⟩ := TS_read hT9; have E9 := below_tr (Below.refl _ _) hb9; have HB9 := below_tr HB8 E9; have hz9 := E9.size; replace g0_0 := Row_below g0_0 E9; replace g1_0 := Row_below g1_0 E9; replace s3_0 := Row_below s3_0 E9; replace s4_0 := Row_below s4_0 E9; replace s6_0 := Row_below s6_0 E9; replace s7_0 := Row_below s7_0 E9) | (go_at_call 13; refine (eqWantS_c _ x0 m6_0 (Row_below s6_0 (Below.refl _ _)) m9_0 (Row_below s9_0 (Below.refl _ _)) S0.out).mono ?_; rintro e w10 ⟨rfl, hb10⟩; have E10 := below_tr (Below.refl _ _) hb10; have HB10 := below_tr HB9 E10; have hz10 := E10.size; replace g0_0 := Row_below g0_0 E10; replace g1_0 := Row_below g1_0 E10; replace s3_0 := Row_below s3_0 E10; replace s4_0 := Row_below s4_0 E10; replace s6_0 := Row_below s6_0 E10; replace s7_0 := Row_below s7_0 E10; replace s9_0 := Row_below s9_0 E10))
  go_wp2_with (first | (go_at_call 16; refine (toSlotSS_c _ x1 l1_0 (Row_below g1_0 (Below.refl _ _)) S1.out).mono ?_; rintro e w11 ⟨v11_0, F11, rfl, hT11, hF11, hb11⟩; obtain ⟨B11_0, d11_0, rfl, m11_0, _, s11_0⟩ := TS_read hT11; have E11 := below_tr (Below.refl _ _) hb11; have HB11 := below_tr HB10 E11; have hz11 := E11.size; replace g0_0 := Row_below g0_0 E11; replace g1_0 := Row_below g1_0 E11; replace s3_0 := Row_below s3_0 E11; replace s4_0 := Row_below s4_0 E11; replace s6_0 := Row_below s6_0 E11; replace s7_0 := Row_below s7_0 E11; replace s9_0 := Row_below s9_0 E11) | (go_at_call 18; refine (eqSlotSS_c _ x1 m7_0 (Row_below s7_0 (Below.refl _ _)) m11_0 (Row_below s11_0 (Below.refl _ _)) S1.out).mono ?_; rintro e w12 ⟨rfl, hb12⟩; have E12 := below_tr (Below.refl _ _) hb12; have HB12 := below_tr HB11 E12; have hz12 := E12.size; replace g0_0 := Row_below g0_0 E12; replace g1_0 := Row_below g1_0 E12; replace s3_0 := Row_below s3_0 E12; replace s4_0 := Row_below s4_0 E12; replace s6_0 := Row_below s6_0 E12; replace s7_0 := Row_below s7_0 E12; replace s9_0 := Row_below s9_0 E12; replace s11_0 := Row_below s11_0 E12))
  go_ret
  exact ⟨rfl, HB12⟩
end Go.Proofs.Ytenldgbabcjjkaa.H
