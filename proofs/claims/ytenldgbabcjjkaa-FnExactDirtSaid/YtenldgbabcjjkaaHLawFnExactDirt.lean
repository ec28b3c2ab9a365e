/-
The law FnExactDirt: whatever the input, it answers true. Printed by hlaws.py (this session's own). Conditions: each contract's own premises.
-/
import Derived.Test.YtenldgbabcjjkaaHSz
import Derived.Test.YtenldgbabcjjkaaHTo
import Derived.Test.YtenldgbabcjjkaaHEq
import Derived.Test.YtenldgbabcjjkaaHD9
namespace Go.Proofs.Ytenldgbabcjjkaa.H
open Go.RowKit
set_option linter.unusedVariables false
set_option linter.unusedSimpArgs false
set_option maxRecDepth 100000
set_option maxHeartbeats 4000000 in
theorem law_FnExactDirt (w : World) (x0 : Log) (x1 : Int) (x2 : Int) (x3 : Int) {A0_3 : Option Addr} {c0_3 : Nat} (l0_3 : x0.Segments.length ≤ c0_3) (g0_3 : Row kSegment w A0_3 x0.Segments) (hw0 : Log.wf x0) (hw1 : (wfInt .i64) x1) (hw2 : (wfInt .i64) x2) (hw3 : (wfInt .i64) x3) :
    Calls Try.prog 8 #[.agg #[.int .i64 x0.Start, .int .i64 x0.Next, .int .i64 x0.Roll, .slice A0_3 x0.Segments.length c0_3], .int .i64 x1, .int .i64 x2, .int .i64 x3] w fun e w' => e = .returned (.bool true) ∧ Below w.heap.size w w' := by
  have HW0 := Lib.hid hw0
  clear hw0
  have HW1 := Lib.hid hw1
  clear hw1
  have HW2 := Lib.hid hw2
  clear hw2
  have HW3 := Lib.hid hw3
  clear hw3
  go_enter Try.func8, Try.ntmps8
  go_upto_region 2 with fail
  go_upto_region 5 with ((go_at_call 29; refine (szLog_c _ x0 l0_3 (Row_below g0_3 ((Below.refl _ _).alloc (by simp) _)) HW0.out _ (by omega) (by omega)).mono ?_; rintro e w1 ⟨r1, rfl, ra1, rb1, rs1, hb1⟩; have hs0 := Lib.hid rs1; clear rs1; have E1 := below_tr ((Below.refl _ _).alloc (by simp) _) hb1; have HB1 := E1; have hz1 := E1.size; replace g0_3 := Row_below g0_3 E1; have X0 := (Box.later (Box.new w _ _) (Below.refl _ _)).later hb1; have q1_0_0 := X0 0 _ rfl; have q1_0_1 := X0 1 _ rfl; have q1_0_2 := X0 2 _ rfl; have q1_0_3 := X0 3 _ rfl; have gb1_0 := X0.lt rfl))
  all_goals first | (go_ret; exact ⟨rfl, HB1⟩) | skip
  have T0 : x0.sz ≤ 1048576 := (by have := hs0.out (by omega); omega)
  have HT0 := Lib.hid T0
  have S0 : Hid (x0.sm) := Lib.hid (Log.sm_of T0)
  clear T0
  go_upto_region 6 with (first | (go_at_call 31; refine (toLog_c _ x0 l0_3 (Row_below g0_3 (Below.refl _ _)) S0.out).mono ?_; rintro e w2 ⟨v2_3, F2, rfl, hT2, hF2, hb2⟩; obtain ⟨v2_3', G2_3, he, rfl, hU2_3⟩ := Log.opnT hT2; obtain ⟨B2_3, d2_3, rfl, m2_3, _, s2_3⟩ := TS_read hU2_3; simp at he; obtain rfl := he; have E2 := below_tr (Below.refl _ _) hb2; have HB2 := below_tr HB1 E2; have hz2 := E2.size; replace g0_3 := Row_below g0_3 E2; replace X0 := X0.later E2; have q2_0_0 := X0 0 _ rfl; have q2_0_1 := X0 1 _ rfl; have q2_0_2 := X0 2 _ rfl; have q2_0_3 := X0 3 _ rfl; have gb2_0 := X0.lt rfl) | (go_at_call 34; refine (specDirt_c _ x0 x1 x2 x3 m2_3 (Row_below s2_3 (Below.refl _ _)) S0.out HW0.out).mono ?_; rintro e w3 ⟨rfl, hb3⟩; have E3 := below_tr (Below.refl _ _) hb3; have HB3 := below_tr HB2 E3; have hz3 := E3.size; replace g0_3 := Row_below g0_3 E3; replace s2_3 := Row_below s2_3 E3; replace X0 := X0.later E3; have q3_0_0 := X0 0 _ rfl; have q3_0_1 := X0 1 _ rfl; have q3_0_2 := X0 2 _ rfl; have q3_0_3 := X0 3 _ rfl; have gb3_0 := X0.lt rfl))
  go_upto_region 7 with ((go_at_call 31; refine (toLog_c _ x0 l0_3 (Row_below g0_3 (Below.refl _ _)) S0.out).mono ?_; rintro e w4 ⟨v4_3, F4, rfl, hT4, hF4, hb4⟩; obtain ⟨v4_3', G4_3, he, rfl, hU4_3⟩ := Log.opnT hT4; obtain ⟨B4_3, d4_3, rfl, m4_3, _, s4_3⟩ := TS_read hU4_3; simp at he; obtain rfl := he; have E4 := below_tr (Below.refl _ _) hb4; have HB4 := below_tr HB3 E4; have hz4 := E4.size; replace g0_3 := Row_below g0_3 E4; replace s2_3 := Row_below s2_3 E4; replace X0 := X0.later E4; have q4_0_0 := X0 0 _ rfl; have q4_0_1 := X0 1 _ rfl; have q4_0_2 := X0 2 _ rfl; have q4_0_3 := X0 3 _ rfl; have gb4_0 := X0.lt rfl))
  go_upto_region 10 with ((go_at_call 35; refine (implDirt_c _ x0 x1 x2 x3 m4_3 (Row_below s4_3 (below_al _ _)) S0.out).mono ?_; rintro e w5 ⟨rfl, hb5⟩; have E5 := below_tr (below_al _ _) hb5; have HB5 := below_tr HB4 E5; have hz5 := E5.size; replace g0_3 := Row_below g0_3 E5; replace s2_3 := Row_below s2_3 E5; replace s4_3 := Row_below s4_3 E5; replace X0 := X0.later E5; have q5_0_0 := X0 0 _ rfl; have q5_0_1 := X0 1 _ rfl; have q5_0_2 := X0 2 _ rfl; have q5_0_3 := X0 3 _ rfl; have gb5_0 := X0.lt rfl; have X1 := (Box.new w4 _ _).later hb5; have q5_1_0 := X1 0 _ rfl; have q5_1_1 := X1 1 _ rfl; have q5_1_2 := X1 2 _ rfl; have q5_1_3 := X1 3 _ rfl; have gb5_1 := X1.lt rfl))
  go_region_held3 (fun W => W.cell? ⟨w.heap.size, 0, none⟩ = some (.int .i64 x0.Start) ∧ W.cell? ⟨w.heap.size, 1, none⟩ = some (.int .i64 x0.Next) ∧ W.cell? ⟨w.heap.size, 2, none⟩ = some (.int .i64 x0.Roll) ∧ W.cell? ⟨w.heap.size, 3, none⟩ = some (.slice A0_3 x0.Segments.length c0_3) ∧ W.cell? ⟨w4.heap.size, 0, none⟩ = some (.int .i64 x0.Start) ∧ W.cell? ⟨w4.heap.size, 1, none⟩ = some (.int .i64 x0.Next) ∧ W.cell? ⟨w4.heap.size, 2, none⟩ = some (.int .i64 x0.Roll) ∧ W.cell? ⟨w4.heap.size, 3, none⟩ = some (.slice B4_3 x0.Segments.length d4_3)) (first | exact ⟨q5_0_0, q5_0_1, q5_0_2, q5_0_3, q5_1_0, q5_1_1, q5_1_2, q5_1_3⟩ | exact ⟨q6_0_0, q6_0_1, q6_0_2, q6_0_3, q6_1_0, q6_1_1, q6_1_2, q6_1_3⟩ | exact ⟨q7_0_0, q7_0_1, q7_0_2, q7_0_3, q7_1_0, q7_1_1, q7_1_2, q7_1_3⟩) (first | (go_at_call 31; refine (toLog_c _ x0 l0_3 (Row_below g0_3 (Below.refl _ _).drew) S0.out).mono ?_; rintro e w6 ⟨v6_3, F6, rfl, hT6, hF6, hb6⟩; obtain ⟨v6_3', G6_3, he, rfl, hU6_3⟩ := Log.opnT hT6; obtain ⟨B6_3, d6_3, rfl, m6_3, _, s6_3⟩ := TS_read hU6_3; simp at he; obtain rfl := he; have E6 := below_tr (Below.refl _ _).drew hb6; have HB6 := below_tr HB5 E6; have hz6 := E6.size; replace g0_3 := Row_below g0_3 E6; replace s2_3 := Row_below s2_3 E6; replace s4_3 := Row_below s4_3 E6; replace X0 := X0.later E6; have q6_0_0 := X0 0 _ rfl; have q6_0_1 := X0 1 _ rfl; have q6_0_2 := X0 2 _ rfl; have q6_0_3 := X0 3 _ rfl; have gb6_0 := X0.lt rfl; replace X1 := X1.later E6; have q6_1_0 := X1 0 _ rfl; have q6_1_1 := X1 1 _ rfl; have q6_1_2 := X1 2 _ rfl; have q6_1_3 := X1 3 _ rfl; have gb6_1 := X1.lt rfl) | (go_at_call 33; refine (eqLog_c _ x0 m4_3 (Row_below s4_3 (Below.refl _ _)) m6_3 (Row_below s6_3 (Below.refl _ _)) S0.out).mono ?_; rintro e w7 ⟨rfl, hb7⟩; have E7 := below_tr (Below.refl _ _) hb7; have HB7 := below_tr HB6 E7; have hz7 := E7.size; replace g0_3 := Row_below g0_3 E7; replace s2_3 := Row_below s2_3 E7; replace s4_3 := Row_below s4_3 E7; replace s6_3 := Row_below s6_3 E7; replace X0 := X0.later E7; have q7_0_0 := X0 0 _ rfl; have q7_0_1 := X0 1 _ rfl; have q7_0_2 := X0 2 _ rfl; have q7_0_3 := X0 3 _ rfl; have gb7_0 := X0.lt rfl; replace X1 := X1.later E7; have q7_1_0 := X1 0 _ rfl; have q7_1_1 := X1 1 _ rfl; have q7_1_2 := X1 2 _ rfl; have q7_1_3 := X1 3 _ rfl; have gb7_1 := X1.lt rfl))
  go_wp2
  go_ret
  exact ⟨rfl, HB7⟩
end Go.Proofs.Ytenldgbabcjjkaa.H
