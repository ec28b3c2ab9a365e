/-
The law FnExactWantsOk: whatever the input, it answers true. Printed by hlaws.py (this session's own). Conditions: each contract's own premises.
-/
import Derived.Test.YtenldgbabcjjkaaHSz
import Derived.Test.YtenldgbabcjjkaaHTo
import Derived.Test.YtenldgbabcjjkaaHEq
import Derived.Test.YtenldgbabcjjkaaHW7
namespace Go.Proofs.Ytenldgbabcjjkaa.H
open Go.RowKit
set_option linter.unusedVariables false
set_option linter.unusedSimpArgs false
set_option maxRecDepth 100000
set_option maxHeartbeats 4000000 in
theorem law_FnExactWantsOk (w : World) (x0 : (List Want)) {A0_0 : Option Addr} {c0_0 : Nat} (l0_0 : x0.length ≤ c0_0) (g0_0 : Row kWant w A0_0 x0) (hw0 : (wfList Want.wf) x0) :
    Calls Try.prog 3 #[.slice A0_0 x0.length c0_0] w fun e w' => e = .returned (.bool true) ∧ Below w.heap.size w w' := by
  have HW0 := Lib.hid hw0
  clear hw0
  go_enter Try.func3, Try.ntmps3
  go_upto_region 2 with fail
  go_upto_region 5 with ((go_at_call 9; refine (szWantS_c _ _ _ x0 _ (Row_below g0_0 (Below.refl _ _)) l0_0 HW0.out (by omega) (by omega)).mono ?_; rintro e w1 ⟨r1, rfl, ra1, rb1, rs1, hb1⟩; have hs0 := Lib.hid rs1; clear rs1; have E1 := below_tr (Below.refl _ _) hb1; have HB1 := E1; have hz1 := E1.size; replace g0_0 := Row_below g0_0 E1))
  all_goals first | (go_ret; exact ⟨rfl, HB1⟩) | skip
  have T0 : szL Want.sz x0 ≤ 1048576 := (by have := hs0.out (by omega); omega)
  have HT0 := Lib.hid T0
  have S0 : Hid ((x0.length ≤ 1048576 ∧ ∀ y ∈ x0, y.sm)) := Lib.hid (⟨Nat.le_trans (szL_len _ _) T0, fun y0 hy0 => Want.sm_of (Nat.le_trans (szL_mem Want.sz hy0) T0)⟩)
  clear T0
  go_upto_region 6 with (first | (go_at_call 11; refine (toWantS_c _ x0 l0_0 (Row_below g0_0 (Below.refl _ _)) S0.out).mono ?_; rintro e w2 ⟨v2_0, F2, rfl, hT2, hF2, hb2⟩; obtain ⟨B2_0, d2_0, rfl, m2_0, _, s2_0⟩ := TS_read hT2; have E2 := below_tr (Below.refl _ _) hb2; have HB2 := below_tr HB1 E2; have hz2 := E2.size; replace g0_0 := Row_below g0_0 E2) | (go_at_call 10; refine (specWantsOk_c _ x0 m2_0 (Row_below s2_0 (Below.refl _ _)) S0.out).mono ?_; rintro e w3 ⟨rfl, hb3⟩; have E3 := below_tr (Below.refl _ _) hb3; have HB3 := below_tr HB2 E3; have hz3 := E3.size; replace g0_0 := Row_below g0_0 E3; replace s2_0 := Row_below s2_0 E3))
  go_upto_region 7 with ((go_at_call 11; refine (toWantS_c _ x0 l0_0 (Row_below g0_0 (Below.refl _ _)) S0.out).mono ?_; rintro e w4 ⟨v4_0, F4, rfl, hT4, hF4, hb4⟩; obtain ⟨B4_0, d4_0, rfl, m4_0, _, s4_0⟩ := TS_read hT4; have E4 := below_tr (Below.refl _ _) hb4; have HB4 := below_tr HB3 E4; have hz4 := E4.size; replace g0_0 := Row_below g0_0 E4; replace s2_0 := Row_below s2_0 E4))
  go_upto_region 10 with ((go_at_call 12; refine (implWantsOk_c _ x0 m4_0 (Row_below s4_0 (Below.refl _ _)) S0.out HW0.out).mono ?_; rintro e w5 ⟨rfl, hb5⟩; have E5 := below_tr (Below.refl _ _) hb5; have HB5 := below_tr HB4 E5; have hz5 := E5.size; replace g0_0 := Row_below g0_0 E5; replace s2_0 := Row_below s2_0 E5; replace s4_0 := Row_below s4_0 E5))
  go_wp2_with (first | (go_at_call 11; refine (toWantS_c _ x0 l0_0 (Row_below g0_0 (Below.refl _ _)) S0.out).mono ?_; rintro e w6 ⟨v6_0, F6, rfl, hT6, hF6, hb6⟩; obtain ⟨B6_0, d6_0, rfl, m6_0, _, s6_0⟩ := TS_read hT6; have E6 := below_tr (Below.refl _ _) hb6; have HB6 := below_tr HB5 E6; have hz6 := E6.size; replace g0_0 := Row_below g0_0 E6; replace s2_0 := Row_below s2_0 E6; replace s4_0 := Row_below s4_0 E6) | (go_at_call 13; refine (eqWantS_c _ x0 m4_0 (Row_below s4_0 (Below.refl _ _)) m6_0 (Row_below s6_0 (Below.refl _ _)) S0.out).mono ?_; rintro e w7 ⟨rfl, hb7⟩; have E7 := below_tr (Below.refl _ _) hb7; have HB7 := below_tr HB6 E7; have hz7 := E7.size; replace g0_0 := Row_below g0_0 E7; replace s2_0 := Row_below s2_0 E7; replace s4_0 := Row_below s4_0 E7; replace s6_0 := Row_below s6_0 E7))
  go_ret
  exact ⟨rfl, HB7⟩
end Go.Proofs.Ytenldgbabcjjkaa.H
