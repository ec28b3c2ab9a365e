/-
The law FnExactCompact: whatever the input, it answers true. Printed by hlaws.py (this session's own). Conditions: each contract's own premises.
-/
import Derived.Test.YtiefpllmnmmdlaaHMk
import Derived.Test.YtiefpllmnmmdlaaHHeld
import Derived.Test.YtiefpllmnmmdlaaHEq
import Derived.Test.YtiefpllmnmmdlaaHTo
import Derived.Test.YtiefpllmnmmdlaaHSz
import Derived.Test.YtiefpllmnmmdlaaHOwn
import Derived.Test.YtiefpllmnmmdlaaHCnt
import Derived.Test.YtiefpllmnmmdlaaHCp4
namespace Go.Proofs.Ytiefpllmnmmdlaa.H
open Go.RowKit
set_option linter.unusedVariables false
set_option linter.unusedSimpArgs false
set_option maxRecDepth 100000
theorem rowT_Log {w : World} {F : List Nat} {x : Log} {A_3 : Option Addr} {c_3 : Nat} (h : kLog.T w F x [.int .i64 x.Start, .int .i64 x.Next, .int .i64 x.Roll, .slice A_3 x.Segments.length c_3]) : (x.Segments.length ≤ c_3 ∧ Row kSegment w A_3 x.Segments) := by
  obtain ⟨v3, G3, he, _, hU3⟩ := Log.opnT h
  simp only [List.cons.injEq, true_and, and_true] at he
  obtain rfl := he
  obtain ⟨A3', c3', e3, h13, _, h23⟩ := TS_read hU3
  simp only [Value.slice.injEq] at e3
  obtain ⟨rfl, _, rfl⟩ := e3
  exact ⟨h13, h23⟩
theorem made_Log {w w' : World} {x : Log} {e : Ending} (h : x.Made w e w') : ∃ A_3 c_3, ∃ F, e = .returned (.agg #[.int .i64 x.Start, .int .i64 x.Next, .int .i64 x.Roll, .slice A_3 x.Segments.length c_3]) ∧ kLog.T w' F x [.int .i64 x.Start, .int .i64 x.Next, .int .i64 x.Roll, .slice A_3 x.Segments.length c_3] ∧ Fresh w F ∧ Below w.heap.size w w' := by
  obtain ⟨v3, F, rfl, hT, hF, hb⟩ := h
  obtain ⟨w3, G3, he, hG, hU3⟩ := Log.opnT hT
  simp only [List.cons.injEq, true_and, and_true] at he
  obtain rfl := he
  obtain ⟨A3, c3, rfl, _⟩ := TS_read hU3
  exact ⟨A3, c3, F, rfl, hT, hF, hb⟩
theorem markT_Log {w : World} {F : List Nat} {x : Log} {A_3 : Option Addr} {c_3 : Nat} (h : kLog.T w F x [.int .i64 x.Start, .int .i64 x.Next, .int .i64 x.Roll, .slice A_3 x.Segments.length c_3]) (hF : F.Nodup) (hs : x.sm) (k : Int) (h0 : 0 ≤ k) (h1 : k + (x.cntV : Nat) ≤ 1000000000000000) :
    Calls Try.prog 10 #[.agg #[.int .i64 x.Start, .int .i64 x.Next, .int .i64 x.Roll, .slice A_3 x.Segments.length c_3], .int .i64 k] w fun e w' => ∃ y : Log, e = .returned (.int .i64 (k + (x.cntV : Nat))) ∧ y.mkV k (k + (x.cntV : Nat)) ∧ kLog.T w' F y [.int .i64 x.Start, .int .i64 x.Next, .int .i64 x.Roll, .slice A_3 x.Segments.length c_3] ∧ Upd F w w' := by
  obtain ⟨v3, G3, he, rfl, hU3⟩ := Log.opnT h
  simp only [List.cons.injEq, true_and, and_true] at he
  obtain rfl := he
  exact markLog_c w x hU3 hF hs k h0 h1
theorem heldT_Log {w : World} {F : List Nat} {x y : Log} {A_3 : Option Addr} {c_3 : Nat} (h : kLog.T w F y [.int .i64 x.Start, .int .i64 x.Next, .int .i64 x.Roll, .slice A_3 x.Segments.length c_3]) (k k' : Int) (hM : y.mkV k k') (h0 : 0 ≤ k) (h1 : k' ≤ 1000000000000000) :
    Calls Try.prog 11 #[.agg #[.int .i64 x.Start, .int .i64 x.Next, .int .i64 x.Roll, .slice A_3 x.Segments.length c_3], .int .i64 k] w fun e w' => e = .returned (.int .i64 k') ∧ Below w.heap.size w w' := by
  obtain ⟨v3, G3, he, _, hU3⟩ := Log.opnT h
  simp at he
  obtain ⟨e0, e1, e2, rfl⟩ := he
  obtain ⟨A3', c3', g3, h23, _, h33⟩ := TS_read hU3
  simp only [Value.slice.injEq] at g3
  obtain ⟨rfl, l3, rfl⟩ := g3
  rw [e0, e1, e2, l3]
  exact heldLog_c w y h23 h33 k k' hM h0 h1
theorem made2_Log {w w' : World} {x : Log} {y1 : Bool} {e : Ending} (h : ∃ v3, ∃ F, e = .returned (.tuple #[.agg #[.int .i64 x.Start, .int .i64 x.Next, .int .i64 x.Roll, v3], .bool y1]) ∧ kLog.T w' F x [.int .i64 x.Start, .int .i64 x.Next, .int .i64 x.Roll, v3] ∧ Fresh w F ∧ Below w.heap.size w w') : ∃ A_3 c_3, ∃ F, e = .returned (.tuple #[.agg #[.int .i64 x.Start, .int .i64 x.Next, .int .i64 x.Roll, .slice A_3 x.Segments.length c_3], .bool y1]) ∧ kLog.T w' F x [.int .i64 x.Start, .int .i64 x.Next, .int .i64 x.Roll, .slice A_3 x.Segments.length c_3] ∧ Fresh w F ∧ Below w.heap.size w w' := by
  obtain ⟨v3, F, rfl, hT, hF, hb⟩ := h
  obtain ⟨w3, G3, he, hG, hU3⟩ := Log.opnT hT
  simp only [List.cons.injEq, true_and, and_true] at he
  obtain rfl := he
  obtain ⟨A3, c3, rfl, _⟩ := TS_read hU3
  exact ⟨A3, c3, F, rfl, hT, hF, hb⟩
set_option maxHeartbeats 8000000 in
theorem law_FnExactCompact (w : World) (x0 : Log) (x1 : Int) (x2 : Int) (x3 : Int) {A0_3 : Option Addr} {c0_3 : Nat} (l0_3 : x0.Segments.length ≤ c0_3) (g0_3 : Row kSegment w A0_3 x0.Segments) (hw0 : Log.wf x0) (hw1 : (wfInt .i64) x1) (hw2 : (wfInt .i64) x2) (hw3 : (wfInt .i64) x3) :
    Calls Try.prog 3 #[.agg #[.int .i64 x0.Start, .int .i64 x0.Next, .int .i64 x0.Roll, .slice A0_3 x0.Segments.length c0_3], .int .i64 x1, .int .i64 x2, .int .i64 x3] w fun e w' => e = .returned (.bool true) ∧ Below w.heap.size w w' := by
  have HW0 := Lib.hid hw0
  clear hw0
  have HW1 := Lib.hid hw1
  clear hw1
  have HW2 := Lib.hid hw2
  clear hw2
  have HW3 := Lib.hid hw3
  clear hw3
  generalize hy1 : compactOk x0 x1 x2 x3 = y1
  have HY1 := Lib.hid hy1
  clear hy1
  generalize hy : compactL x0 x1 x2 x3 = y
  have HY := Lib.hid hy
  clear hy
  have Z0 : w.heap.size ≤ w.heap.size := Nat.le_refl _
  go_enter Try.func3, Try.ntmps3
  go_upto_region 1 with fail
  have HB : Hid (Below w.heap.size w w) := Lib.hid (Below.refl _ _)
  have hb1 := below_al w (.cells #[.int .i64 x0.Start, .int .i64 x0.Next, .int .i64 x0.Roll, .slice A0_3 x0.Segments.length c0_3] 24)
  have Xp0 := Box.new w #[.int .i64 x0.Start, .int .i64 x0.Next, .int .i64 x0.Roll, .slice A0_3 x0.Segments.length c0_3] 24
  generalize w.alloc (.cells #[.int .i64 x0.Start, .int .i64 x0.Next, .int .i64 x0.Roll, .slice A0_3 x0.Segments.length c0_3] 24) = wp0 at hb1 Xp0 ⊢
  have zs1 : w.heap.size < wp0.heap.size := Xp0.lt rfl
  replace HB := Lib.hid (below_tr HB.out hb1)
  have z1 := hb1.size
  have qp0_0 := Xp0 0 _ rfl
  have qp0_1 := Xp0 1 _ rfl
  have qp0_2 := Xp0 2 _ rfl
  have qp0_3 := Xp0 3 _ rfl
  have gbp0 := Xp0.lt rfl
  go_upto_region 2 with fail
  go_upto_region 5 with (go_at_call 5; refine (szLog_c _ x0 l0_3 (Row_below g0_3 HB.out) HW0.out _ (by omega) (by omega)).mono ?_; rintro e w2 ⟨r2, rfl, ra2, rb2, rs2, hb2⟩; have hs0 := Lib.hid rs2; clear rs2; replace Xp0 := Xp0.later hb2; replace qp0_0 := Xp0 0 _ rfl; replace qp0_1 := Xp0 1 _ rfl; replace qp0_2 := Xp0 2 _ rfl; replace qp0_3 := Xp0 3 _ rfl; replace gbp0 := Xp0.lt rfl; replace HB := Lib.hid (below_tr HB.out hb2); have z2 := hb2.size)
  all_goals first | (go_ret; exact ⟨rfl, HB.out⟩) | skip
  have T0 : x0.sz ≤ 1048576 := (by have := hs0.out (by omega); omega)
  have HT0 := Lib.hid T0
  have S0 : Hid (x0.sm) := Lib.hid (Log.sm_of T0)
  clear T0
  have YS : Hid (y.sm) := Lib.hid (by rw [← HY.out]; exact compactL_sm _ _ _ S0.out)
  have YC : (y.cntV : Nat) ≤ 1000000000 := (by have h := Log.cntV_le (compactL x0 x1 x2 x3); have h2 := compactL_sz x0 x1 x2 x3; rw [HY.out] at h h2; have := HT0.out; omega)
  have XC0 : (x0.cntV : Nat) ≤ 1000000000 := (by have h := Log.cntV_le x0; have := HT0.out; omega)
  go_upto_region 6 with (first | (go_at_call 7; refine (toLog_c _ x0 l0_3 (Row_below g0_3 HB.out) S0.out).mono ?_; intro e w3 hmd; obtain ⟨a0A_3, a0c_3, Fa0, rfl, hTa0, hFa0, hb3⟩ := made_Log hmd; clear hmd; replace Xp0 := Xp0.later hb3; replace qp0_0 := Xp0 0 _ rfl; replace qp0_1 := Xp0 1 _ rfl; replace qp0_2 := Xp0 2 _ rfl; replace qp0_3 := Xp0 3 _ rfl; replace gbp0 := Xp0.lt rfl; replace HB := Lib.hid (below_tr HB.out hb3); have z3 := hb3.size; have Ta0 := Lib.hid hTa0; have NDa0 := Lib.hid hFa0.1; have La0 : Hid (∀ b ∈ Fa0, w2.heap.size ≤ b) := Lib.hid hFa0.2; have Ua0 : Hid (∀ b ∈ Fa0, b < w3.heap.size) := Lib.hid (kLog.T_lt hTa0); clear hTa0 hFa0) | (go_at_call 6; refine (specCompact_c _ x0 x1 x2 x3 (rowT_Log Ta0.out).1 (rowT_Log Ta0.out).2 S0.out HW0.out).mono ?_; rw [HY.out, HY1.out]; rintro e w4 ⟨WA_3, Wc_3, rfl, wl_3, wr_3, hb4⟩; replace Xp0 := Xp0.later hb4; replace qp0_0 := Xp0 0 _ rfl; replace qp0_1 := Xp0 1 _ rfl; replace qp0_2 := Xp0 2 _ rfl; replace qp0_3 := Xp0 3 _ rfl; replace gbp0 := Xp0.lt rfl; replace HB := Lib.hid (below_tr HB.out hb4); have z4 := hb4.size; have HC : Hid (Below w4.heap.size w4 w4) := Lib.hid (Below.refl _ _)))
  have hb5 := below_al w4 (.cells #[.int .i64 y.Start, .int .i64 y.Next, .int .i64 y.Roll, .slice WA_3 y.Segments.length Wc_3] 28)
  have Xw := Box.new w4 #[.int .i64 y.Start, .int .i64 y.Next, .int .i64 y.Roll, .slice WA_3 y.Segments.length Wc_3] 28
  generalize w4.alloc (.cells #[.int .i64 y.Start, .int .i64 y.Next, .int .i64 y.Roll, .slice WA_3 y.Segments.length Wc_3] 28) = wbw at hb5 Xw ⊢
  have zs5 : w4.heap.size < wbw.heap.size := Xw.lt rfl
  replace Xp0 := Xp0.later hb5
  replace qp0_0 := Xp0 0 _ rfl
  replace qp0_1 := Xp0 1 _ rfl
  replace qp0_2 := Xp0 2 _ rfl
  replace qp0_3 := Xp0 3 _ rfl
  replace gbp0 := Xp0.lt rfl
  replace HB := Lib.hid (below_tr HB.out hb5)
  replace HC := Lib.hid (below_tr HC.out hb5)
  have z5 := hb5.size
  have qw_0 := Xw 0 _ rfl
  have qw_1 := Xw 1 _ rfl
  have qw_2 := Xw 2 _ rfl
  have qw_3 := Xw 3 _ rfl
  have gbw := Xw.lt rfl
  go_upto_region 7 with (go_at_call 7; refine (toLog_c _ x0 l0_3 (Row_below g0_3 HB.out) S0.out).mono ?_; intro e w6 hmd; obtain ⟨x0A_3, x0c_3, Fx0, rfl, hTx0, hFx0, hb6⟩ := made_Log hmd; clear hmd; replace Xp0 := Xp0.later hb6; replace qp0_0 := Xp0 0 _ rfl; replace qp0_1 := Xp0 1 _ rfl; replace qp0_2 := Xp0 2 _ rfl; replace qp0_3 := Xp0 3 _ rfl; replace gbp0 := Xp0.lt rfl; replace Xw := Xw.later hb6; replace qw_0 := Xw 0 _ rfl; replace qw_1 := Xw 1 _ rfl; replace qw_2 := Xw 2 _ rfl; replace qw_3 := Xw 3 _ rfl; replace gbw := Xw.lt rfl; replace HB := Lib.hid (below_tr HB.out hb6); replace HC := Lib.hid (below_tr HC.out hb6); have z6 := hb6.size; have Tx0 := Lib.hid hTx0; have NDx0 := Lib.hid hFx0.1; have Lx0 : Hid (∀ b ∈ Fx0, wbw.heap.size ≤ b) := Lib.hid hFx0.2; have Ux0 : Hid (∀ b ∈ Fx0, b < w6.heap.size) := Lib.hid (kLog.T_lt hTx0); clear hTx0 hFx0)
  have hb7 := below_al w6 (.cells #[.int .i64 x0.Start, .int .i64 x0.Next, .int .i64 x0.Roll, .slice x0A_3 x0.Segments.length x0c_3] 28)
  have Xx0 := Box.new w6 #[.int .i64 x0.Start, .int .i64 x0.Next, .int .i64 x0.Roll, .slice x0A_3 x0.Segments.length x0c_3] 28
  generalize w6.alloc (.cells #[.int .i64 x0.Start, .int .i64 x0.Next, .int .i64 x0.Roll, .slice x0A_3 x0.Segments.length x0c_3] 28) = wbx0 at hb7 Xx0 ⊢
  have zs7 : w6.heap.size < wbx0.heap.size := Xx0.lt rfl
  replace Xp0 := Xp0.later hb7
  replace qp0_0 := Xp0 0 _ rfl
  replace qp0_1 := Xp0 1 _ rfl
  replace qp0_2 := Xp0 2 _ rfl
  replace qp0_3 := Xp0 3 _ rfl
  replace gbp0 := Xp0.lt rfl
  replace Xw := Xw.later hb7
  replace qw_0 := Xw 0 _ rfl
  replace qw_1 := Xw 1 _ rfl
  replace qw_2 := Xw 2 _ rfl
  replace qw_3 := Xw 3 _ rfl
  replace gbw := Xw.lt rfl
  replace Tx0 := Lib.hid (Ki.T_below Tx0.out hb7)
  replace HB := Lib.hid (below_tr HB.out hb7)
  replace HC := Lib.hid (below_tr HC.out hb7)
  have z7 := hb7.size
  have qx0_0 := Xx0 0 _ rfl
  have qx0_1 := Xx0 1 _ rfl
  have qx0_2 := Xx0 2 _ rfl
  have qx0_3 := Xx0 3 _ rfl
  have gbx0 := Xx0.lt rfl
  go_upto_region 8 with (go_at_call 8; refine (implCompact_c _ x0 x1 x2 x3 (rowT_Log Tx0.out).1 (rowT_Log Tx0.out).2 S0.out ).mono ?_; rw [HY.out, HY1.out]; intro e w8 hmd; obtain ⟨gA_3, gc_3, Fg, rfl, hTg, hFg, hb8⟩ := made2_Log hmd; clear hmd; replace Xp0 := Xp0.later hb8; replace qp0_0 := Xp0 0 _ rfl; replace qp0_1 := Xp0 1 _ rfl; replace qp0_2 := Xp0 2 _ rfl; replace qp0_3 := Xp0 3 _ rfl; replace gbp0 := Xp0.lt rfl; replace Xw := Xw.later hb8; replace qw_0 := Xw 0 _ rfl; replace qw_1 := Xw 1 _ rfl; replace qw_2 := Xw 2 _ rfl; replace qw_3 := Xw 3 _ rfl; replace gbw := Xw.lt rfl; replace Xx0 := Xx0.later hb8; replace qx0_0 := Xx0 0 _ rfl; replace qx0_1 := Xx0 1 _ rfl; replace qx0_2 := Xx0 2 _ rfl; replace qx0_3 := Xx0 3 _ rfl; replace gbx0 := Xx0.lt rfl; replace Tx0 := Lib.hid (Ki.T_below Tx0.out hb8); replace HB := Lib.hid (below_tr HB.out hb8); replace HC := Lib.hid (below_tr HC.out hb8); have z8 := hb8.size; have Tg := Lib.hid hTg; have NDg := Lib.hid hFg.1; have Lg : Hid (∀ b ∈ Fg, wbx0.heap.size ≤ b) := Lib.hid hFg.2; have Ug : Hid (∀ b ∈ Fg, b < w8.heap.size) := Lib.hid (kLog.T_lt hTg); clear hTg hFg)
  have hb9 := below_al w8 (.cells #[.int .i64 y.Start, .int .i64 y.Next, .int .i64 y.Roll, .slice gA_3 y.Segments.length gc_3] 28)
  have Xg := Box.new w8 #[.int .i64 y.Start, .int .i64 y.Next, .int .i64 y.Roll, .slice gA_3 y.Segments.length gc_3] 28
  generalize w8.alloc (.cells #[.int .i64 y.Start, .int .i64 y.Next, .int .i64 y.Roll, .slice gA_3 y.Segments.length gc_3] 28) = wbg at hb9 Xg ⊢
  have zs9 : w8.heap.size < wbg.heap.size := Xg.lt rfl
  replace Xp0 := Xp0.later hb9
  replace qp0_0 := Xp0 0 _ rfl
  replace qp0_1 := Xp0 1 _ rfl
  replace qp0_2 := Xp0 2 _ rfl
  replace qp0_3 := Xp0 3 _ rfl
  replace gbp0 := Xp0.lt rfl
  replace Xw := Xw.later hb9
  replace qw_0 := Xw 0 _ rfl
  replace qw_1 := Xw 1 _ rfl
  replace qw_2 := Xw 2 _ rfl
  replace qw_3 := Xw 3 _ rfl
  replace gbw := Xw.lt rfl
  replace Xx0 := Xx0.later hb9
  replace qx0_0 := Xx0 0 _ rfl
  replace qx0_1 := Xx0 1 _ rfl
  replace qx0_2 := Xx0 2 _ rfl
  replace qx0_3 := Xx0 3 _ rfl
  replace gbx0 := Xx0.lt rfl
  replace Tx0 := Lib.hid (Ki.T_below Tx0.out hb9)
  replace Tg := Lib.hid (Ki.T_below Tg.out hb9)
  replace HB := Lib.hid (below_tr HB.out hb9)
  replace HC := Lib.hid (below_tr HC.out hb9)
  have z9 := hb9.size
  have qg_0 := Xg 0 _ rfl
  have qg_1 := Xg 1 _ rfl
  have qg_2 := Xg 2 _ rfl
  have qg_3 := Xg 3 _ rfl
  have gbg := Xg.lt rfl
  go_upto_region 10 with (go_at_call 9; refine (eqLog_c _ y (rowT_Log Tg.out).1 (rowT_Log Tg.out).2 wl_3 (Row_below wr_3 HC.out) YS.out).mono ?_; rintro e w10 ⟨rfl, hb10⟩; replace Xp0 := Xp0.later hb10; replace qp0_0 := Xp0 0 _ rfl; replace qp0_1 := Xp0 1 _ rfl; replace qp0_2 := Xp0 2 _ rfl; replace qp0_3 := Xp0 3 _ rfl; replace gbp0 := Xp0.lt rfl; replace Xw := Xw.later hb10; replace qw_0 := Xw 0 _ rfl; replace qw_1 := Xw 1 _ rfl; replace qw_2 := Xw 2 _ rfl; replace qw_3 := Xw 3 _ rfl; replace gbw := Xw.lt rfl; replace Xx0 := Xx0.later hb10; replace qx0_0 := Xx0 0 _ rfl; replace qx0_1 := Xx0 1 _ rfl; replace qx0_2 := Xx0 2 _ rfl; replace qx0_3 := Xx0 3 _ rfl; replace gbx0 := Xx0.lt rfl; replace Xg := Xg.later hb10; replace qg_0 := Xg 0 _ rfl; replace qg_1 := Xg 1 _ rfl; replace qg_2 := Xg 2 _ rfl; replace qg_3 := Xg 3 _ rfl; replace gbg := Xg.lt rfl; replace Tx0 := Lib.hid (Ki.T_below Tx0.out hb10); replace Tg := Lib.hid (Ki.T_below Tg.out hb10); replace HB := Lib.hid (below_tr HB.out hb10); replace HC := Lib.hid (below_tr HC.out hb10); have z10 := hb10.size)
  have e0q := (⟨qp0_0, qp0_1, qp0_2, qp0_3, qw_0, qw_1, qw_2, qw_3, qx0_0, qx0_1, qx0_2, qx0_3, qg_0, qg_1, qg_2, qg_3⟩ : w10.cell? ⟨w.heap.size, 0, none⟩ = some (.int .i64 x0.Start) ∧ w10.cell? ⟨w.heap.size, 1, none⟩ = some (.int .i64 x0.Next) ∧ w10.cell? ⟨w.heap.size, 2, none⟩ = some (.int .i64 x0.Roll) ∧ w10.cell? ⟨w.heap.size, 3, none⟩ = some (.slice A0_3 x0.Segments.length c0_3) ∧ w10.cell? ⟨w4.heap.size, 0, none⟩ = some (.int .i64 y.Start) ∧ w10.cell? ⟨w4.heap.size, 1, none⟩ = some (.int .i64 y.Next) ∧ w10.cell? ⟨w4.heap.size, 2, none⟩ = some (.int .i64 y.Roll) ∧ w10.cell? ⟨w4.heap.size, 3, none⟩ = some (.slice WA_3 y.Segments.length Wc_3) ∧ w10.cell? ⟨w6.heap.size, 0, none⟩ = some (.int .i64 x0.Start) ∧ w10.cell? ⟨w6.heap.size, 1, none⟩ = some (.int .i64 x0.Next) ∧ w10.cell? ⟨w6.heap.size, 2, none⟩ = some (.int .i64 x0.Roll) ∧ w10.cell? ⟨w6.heap.size, 3, none⟩ = some (.slice x0A_3 x0.Segments.length x0c_3) ∧ w10.cell? ⟨w8.heap.size, 0, none⟩ = some (.int .i64 y.Start) ∧ w10.cell? ⟨w8.heap.size, 1, none⟩ = some (.int .i64 y.Next) ∧ w10.cell? ⟨w8.heap.size, 2, none⟩ = some (.int .i64 y.Roll) ∧ w10.cell? ⟨w8.heap.size, 3, none⟩ = some (.slice gA_3 y.Segments.length gc_3))
  go_region_held3 (fun W => W.cell? ⟨w.heap.size, 0, none⟩ = some (.int .i64 x0.Start) ∧ W.cell? ⟨w.heap.size, 1, none⟩ = some (.int .i64 x0.Next) ∧ W.cell? ⟨w.heap.size, 2, none⟩ = some (.int .i64 x0.Roll) ∧ W.cell? ⟨w.heap.size, 3, none⟩ = some (.slice A0_3 x0.Segments.length c0_3) ∧ W.cell? ⟨w4.heap.size, 0, none⟩ = some (.int .i64 y.Start) ∧ W.cell? ⟨w4.heap.size, 1, none⟩ = some (.int .i64 y.Next) ∧ W.cell? ⟨w4.heap.size, 2, none⟩ = some (.int .i64 y.Roll) ∧ W.cell? ⟨w4.heap.size, 3, none⟩ = some (.slice WA_3 y.Segments.length Wc_3) ∧ W.cell? ⟨w6.heap.size, 0, none⟩ = some (.int .i64 x0.Start) ∧ W.cell? ⟨w6.heap.size, 1, none⟩ = some (.int .i64 x0.Next) ∧ W.cell? ⟨w6.heap.size, 2, none⟩ = some (.int .i64 x0.Roll) ∧ W.cell? ⟨w6.heap.size, 3, none⟩ = some (.slice x0A_3 x0.Segments.length x0c_3) ∧ W.cell? ⟨w8.heap.size, 0, none⟩ = some (.int .i64 y.Start) ∧ W.cell? ⟨w8.heap.size, 1, none⟩ = some (.int .i64 y.Next) ∧ W.cell? ⟨w8.heap.size, 2, none⟩ = some (.int .i64 y.Roll) ∧ W.cell? ⟨w8.heap.size, 3, none⟩ = some (.slice gA_3 y.Segments.length gc_3)) (first | exact e0q | exact e1q | exact e2q) (first | (go_at_call 7; refine (toLog_c _ x0 l0_3 (Row_below g0_3 HB.out.drew) S0.out).mono ?_; intro e w11 hmd; obtain ⟨c0A_3, c0c_3, Fc0, rfl, hTc0, hFc0, hb11⟩ := made_Log hmd; clear hmd; have hc11 := below_tr ((Below.refl _ _).drew) hb11; have e1q := (⟨later hc11 qp0_0, later hc11 qp0_1, later hc11 qp0_2, later hc11 qp0_3, later hc11 qw_0, later hc11 qw_1, later hc11 qw_2, later hc11 qw_3, later hc11 qx0_0, later hc11 qx0_1, later hc11 qx0_2, later hc11 qx0_3, later hc11 qg_0, later hc11 qg_1, later hc11 qg_2, later hc11 qg_3⟩ : w11.cell? ⟨w.heap.size, 0, none⟩ = some (.int .i64 x0.Start) ∧ w11.cell? ⟨w.heap.size, 1, none⟩ = some (.int .i64 x0.Next) ∧ w11.cell? ⟨w.heap.size, 2, none⟩ = some (.int .i64 x0.Roll) ∧ w11.cell? ⟨w.heap.size, 3, none⟩ = some (.slice A0_3 x0.Segments.length c0_3) ∧ w11.cell? ⟨w4.heap.size, 0, none⟩ = some (.int .i64 y.Start) ∧ w11.cell? ⟨w4.heap.size, 1, none⟩ = some (.int .i64 y.Next) ∧ w11.cell? ⟨w4.heap.size, 2, none⟩ = some (.int .i64 y.Roll) ∧ w11.cell? ⟨w4.heap.size, 3, none⟩ = some (.slice WA_3 y.Segments.length Wc_3) ∧ w11.cell? ⟨w6.heap.size, 0, none⟩ = some (.int .i64 x0.Start) ∧ w11.cell? ⟨w6.heap.size, 1, none⟩ = some (.int .i64 x0.Next) ∧ w11.cell? ⟨w6.heap.size, 2, none⟩ = some (.int .i64 x0.Roll) ∧ w11.cell? ⟨w6.heap.size, 3, none⟩ = some (.slice x0A_3 x0.Segments.length x0c_3) ∧ w11.cell? ⟨w8.heap.size, 0, none⟩ = some (.int .i64 y.Start) ∧ w11.cell? ⟨w8.heap.size, 1, none⟩ = some (.int .i64 y.Next) ∧ w11.cell? ⟨w8.heap.size, 2, none⟩ = some (.int .i64 y.Roll) ∧ w11.cell? ⟨w8.heap.size, 3, none⟩ = some (.slice gA_3 y.Segments.length gc_3))) | (go_at_call 9; refine (eqLog_c _ x0 (rowT_Log Tx0.out).1 (Row_below (rowT_Log Tx0.out).2 hc11) (rowT_Log hTc0).1 (rowT_Log hTc0).2 S0.out).mono ?_; rintro e w12 ⟨rfl, hb12⟩; have hc12 := below_tr hc11 hb12; have e2q := (⟨later hc12 qp0_0, later hc12 qp0_1, later hc12 qp0_2, later hc12 qp0_3, later hc12 qw_0, later hc12 qw_1, later hc12 qw_2, later hc12 qw_3, later hc12 qx0_0, later hc12 qx0_1, later hc12 qx0_2, later hc12 qx0_3, later hc12 qg_0, later hc12 qg_1, later hc12 qg_2, later hc12 qg_3⟩ : w12.cell? ⟨w.heap.size, 0, none⟩ = some (.int .i64 x0.Start) ∧ w12.cell? ⟨w.heap.size, 1, none⟩ = some (.int .i64 x0.Next) ∧ w12.cell? ⟨w.heap.size, 2, none⟩ = some (.int .i64 x0.Roll) ∧ w12.cell? ⟨w.heap.size, 3, none⟩ = some (.slice A0_3 x0.Segments.length c0_3) ∧ w12.cell? ⟨w4.heap.size, 0, none⟩ = some (.int .i64 y.Start) ∧ w12.cell? ⟨w4.heap.size, 1, none⟩ = some (.int .i64 y.Next) ∧ w12.cell? ⟨w4.heap.size, 2, none⟩ = some (.int .i64 y.Roll) ∧ w12.cell? ⟨w4.heap.size, 3, none⟩ = some (.slice WA_3 y.Segments.length Wc_3) ∧ w12.cell? ⟨w6.heap.size, 0, none⟩ = some (.int .i64 x0.Start) ∧ w12.cell? ⟨w6.heap.size, 1, none⟩ = some (.int .i64 x0.Next) ∧ w12.cell? ⟨w6.heap.size, 2, none⟩ = some (.int .i64 x0.Roll) ∧ w12.cell? ⟨w6.heap.size, 3, none⟩ = some (.slice x0A_3 x0.Segments.length x0c_3) ∧ w12.cell? ⟨w8.heap.size, 0, none⟩ = some (.int .i64 y.Start) ∧ w12.cell? ⟨w8.heap.size, 1, none⟩ = some (.int .i64 y.Next) ∧ w12.cell? ⟨w8.heap.size, 2, none⟩ = some (.int .i64 y.Roll) ∧ w12.cell? ⟨w8.heap.size, 3, none⟩ = some (.slice gA_3 y.Segments.length gc_3))))
  replace Xp0 := Xp0.later hc12
  replace qp0_0 := Xp0 0 _ rfl
  replace qp0_1 := Xp0 1 _ rfl
  replace qp0_2 := Xp0 2 _ rfl
  replace qp0_3 := Xp0 3 _ rfl
  replace gbp0 := Xp0.lt rfl
  replace Xw := Xw.later hc12
  replace qw_0 := Xw 0 _ rfl
  replace qw_1 := Xw 1 _ rfl
  replace qw_2 := Xw 2 _ rfl
  replace qw_3 := Xw 3 _ rfl
  replace gbw := Xw.lt rfl
  replace Xx0 := Xx0.later hc12
  replace qx0_0 := Xx0 0 _ rfl
  replace qx0_1 := Xx0 1 _ rfl
  replace qx0_2 := Xx0 2 _ rfl
  replace qx0_3 := Xx0 3 _ rfl
  replace gbx0 := Xx0.lt rfl
  replace Xg := Xg.later hc12
  replace qg_0 := Xg 0 _ rfl
  replace qg_1 := Xg 1 _ rfl
  replace qg_2 := Xg 2 _ rfl
  replace qg_3 := Xg 3 _ rfl
  replace gbg := Xg.lt rfl
  replace Tx0 := Lib.hid (Ki.T_below Tx0.out hc12)
  replace Tg := Lib.hid (Ki.T_below Tg.out hc12)
  replace HB := Lib.hid (below_tr HB.out hc12)
  replace HC := Lib.hid (below_tr HC.out hc12)
  have z12 := hc12.size
  clear e0q e1q e2q
  go_upto_region 13 with fail
  go_upto_region 14 with (go_at_call 10; refine (markT_Log Tx0.out NDx0.out S0.out _ (by omega) (by omega)).mono ?_; rintro e w13 ⟨m0, rfl, _, _, hup13⟩; replace Xp0 := Box.upd Xp0 hup13 (fun hh => by have h1 := Lx0.out _ hh; have h2 := Ux0.out _ hh; omega); replace qp0_0 := Xp0 0 _ rfl; replace qp0_1 := Xp0 1 _ rfl; replace qp0_2 := Xp0 2 _ rfl; replace qp0_3 := Xp0 3 _ rfl; replace gbp0 := Xp0.lt rfl; replace Xw := Box.upd Xw hup13 (fun hh => by have h1 := Lx0.out _ hh; have h2 := Ux0.out _ hh; omega); replace qw_0 := Xw 0 _ rfl; replace qw_1 := Xw 1 _ rfl; replace qw_2 := Xw 2 _ rfl; replace qw_3 := Xw 3 _ rfl; replace gbw := Xw.lt rfl; replace Xx0 := Box.upd Xx0 hup13 (fun hh => by have h1 := Lx0.out _ hh; have h2 := Ux0.out _ hh; omega); replace qx0_0 := Xx0 0 _ rfl; replace qx0_1 := Xx0 1 _ rfl; replace qx0_2 := Xx0 2 _ rfl; replace qx0_3 := Xx0 3 _ rfl; replace gbx0 := Xx0.lt rfl; replace Xg := Box.upd Xg hup13 (fun hh => by have h1 := Lx0.out _ hh; have h2 := Ux0.out _ hh; omega); replace qg_0 := Xg 0 _ rfl; replace qg_1 := Xg 1 _ rfl; replace qg_2 := Xg 2 _ rfl; replace qg_3 := Xg 3 _ rfl; replace gbg := Xg.lt rfl; replace Tg := Lib.hid (Ki.T_upd Tg.out hup13 (fun b hb hh => by have h1 := Lg.out _ hb; have h2 := Ug.out _ hb; have h3 := Lx0.out _ hh; have h4 := Ux0.out _ hh; omega)); have z13 := hup13.size; replace HB := Lib.hid (HB.out.trans (Upd.below hup13 (fun b hb => by have h1 := Lx0.out _ hb; omega) (by omega))); replace HC := Lib.hid (HC.out.trans (Upd.below hup13 (fun b hb => by have h1 := Lx0.out _ hb; omega) (by omega))); clear hup13)
  generalize hk0 : (1 : Int) + ((x0.cntV : Nat) : Int) = k0
  have ka0 : 0 ≤ k0 := by omega
  have kb0 : k0 ≤ 1000000001 * 1 := by omega
  clear hk0
  go_upto_region 17 with (go_at_call 9; refine (eqLog_c _ y (rowT_Log Tg.out).1 (rowT_Log Tg.out).2 wl_3 (Row_below wr_3 HC.out) YS.out).mono ?_; rintro e w14 ⟨rfl, hb14⟩; replace Xp0 := Xp0.later hb14; replace qp0_0 := Xp0 0 _ rfl; replace qp0_1 := Xp0 1 _ rfl; replace qp0_2 := Xp0 2 _ rfl; replace qp0_3 := Xp0 3 _ rfl; replace gbp0 := Xp0.lt rfl; replace Xw := Xw.later hb14; replace qw_0 := Xw 0 _ rfl; replace qw_1 := Xw 1 _ rfl; replace qw_2 := Xw 2 _ rfl; replace qw_3 := Xw 3 _ rfl; replace gbw := Xw.lt rfl; replace Xx0 := Xx0.later hb14; replace qx0_0 := Xx0 0 _ rfl; replace qx0_1 := Xx0 1 _ rfl; replace qx0_2 := Xx0 2 _ rfl; replace qx0_3 := Xx0 3 _ rfl; replace gbx0 := Xx0.lt rfl; replace Xg := Xg.later hb14; replace qg_0 := Xg 0 _ rfl; replace qg_1 := Xg 1 _ rfl; replace qg_2 := Xg 2 _ rfl; replace qg_3 := Xg 3 _ rfl; replace gbg := Xg.lt rfl; replace Tg := Lib.hid (Ki.T_below Tg.out hb14); replace HB := Lib.hid (below_tr HB.out hb14); replace HC := Lib.hid (below_tr HC.out hb14); have z14 := hb14.size)
  go_upto_region 19 with (go_at_call 10; refine (markT_Log Tg.out NDg.out YS.out _ (by omega) (by omega)).mono ?_; rintro e w15 ⟨yy, rfl, hMM, hTM, hup15⟩; replace Xp0 := Box.upd Xp0 hup15 (fun hh => by have h1 := Lg.out _ hh; have h2 := Ug.out _ hh; omega); replace qp0_0 := Xp0 0 _ rfl; replace qp0_1 := Xp0 1 _ rfl; replace qp0_2 := Xp0 2 _ rfl; replace qp0_3 := Xp0 3 _ rfl; replace gbp0 := Xp0.lt rfl; replace Xw := Box.upd Xw hup15 (fun hh => by have h1 := Lg.out _ hh; have h2 := Ug.out _ hh; omega); replace qw_0 := Xw 0 _ rfl; replace qw_1 := Xw 1 _ rfl; replace qw_2 := Xw 2 _ rfl; replace qw_3 := Xw 3 _ rfl; replace gbw := Xw.lt rfl; replace Xx0 := Box.upd Xx0 hup15 (fun hh => by have h1 := Lg.out _ hh; have h2 := Ug.out _ hh; omega); replace qx0_0 := Xx0 0 _ rfl; replace qx0_1 := Xx0 1 _ rfl; replace qx0_2 := Xx0 2 _ rfl; replace qx0_3 := Xx0 3 _ rfl; replace gbx0 := Xx0.lt rfl; replace Xg := Box.upd Xg hup15 (fun hh => by have h1 := Lg.out _ hh; have h2 := Ug.out _ hh; omega); replace qg_0 := Xg 0 _ rfl; replace qg_1 := Xg 1 _ rfl; replace qg_2 := Xg 2 _ rfl; replace qg_3 := Xg 3 _ rfl; replace gbg := Xg.lt rfl; have z15 := hup15.size; replace HB := Lib.hid (HB.out.trans (Upd.below hup15 (fun b hb => by have h1 := Lg.out _ hb; omega) (by omega))); replace HC := Lib.hid (HC.out.trans (Upd.below hup15 (fun b hb => by have h1 := Lg.out _ hb; omega) (by omega))); clear hup15)
  generalize hkm : (1 : Int) + ((y.cntV : Nat) : Int) = km at hMM ⊢
  have kma : 0 ≤ km := by omega
  have kmb : km ≤ 1000000001 := by omega
  clear hkm
  have HM := Lib.hid hMM
  replace Tg := Lib.hid hTM
  clear hMM hTM
  go_upto_region 24 with (go_at_call 11; refine (heldT_Log Tg.out _ _ HM.out (by omega) (by omega)).mono ?_; rintro e w16 ⟨rfl, hb16⟩; replace Xp0 := Xp0.later hb16; replace qp0_0 := Xp0 0 _ rfl; replace qp0_1 := Xp0 1 _ rfl; replace qp0_2 := Xp0 2 _ rfl; replace qp0_3 := Xp0 3 _ rfl; replace gbp0 := Xp0.lt rfl; replace Xw := Xw.later hb16; replace qw_0 := Xw 0 _ rfl; replace qw_1 := Xw 1 _ rfl; replace qw_2 := Xw 2 _ rfl; replace qw_3 := Xw 3 _ rfl; replace gbw := Xw.lt rfl; replace Xx0 := Xx0.later hb16; replace qx0_0 := Xx0 0 _ rfl; replace qx0_1 := Xx0 1 _ rfl; replace qx0_2 := Xx0 2 _ rfl; replace qx0_3 := Xx0 3 _ rfl; replace gbx0 := Xx0.lt rfl; replace Xg := Xg.later hb16; replace qg_0 := Xg 0 _ rfl; replace qg_1 := Xg 1 _ rfl; replace qg_2 := Xg 2 _ rfl; replace qg_3 := Xg 3 _ rfl; replace gbg := Xg.lt rfl; replace Tg := Lib.hid (Ki.T_below Tg.out hb16); replace HB := Lib.hid (below_tr HB.out hb16); replace HC := Lib.hid (below_tr HC.out hb16); have z16 := hb16.size)
  go_upto_region 25 with (first | (go_at_call 7; refine (toLog_c _ x0 l0_3 (Row_below g0_3 HB.out) S0.out).mono ?_; intro e w17 hmd; obtain ⟨d0A_3, d0c_3, Fd0, rfl, hTd0, hFd0, hb17⟩ := made_Log hmd; clear hmd; replace Xp0 := Xp0.later hb17; replace qp0_0 := Xp0 0 _ rfl; replace qp0_1 := Xp0 1 _ rfl; replace qp0_2 := Xp0 2 _ rfl; replace qp0_3 := Xp0 3 _ rfl; replace gbp0 := Xp0.lt rfl; replace Xw := Xw.later hb17; replace qw_0 := Xw 0 _ rfl; replace qw_1 := Xw 1 _ rfl; replace qw_2 := Xw 2 _ rfl; replace qw_3 := Xw 3 _ rfl; replace gbw := Xw.lt rfl; replace Xx0 := Xx0.later hb17; replace qx0_0 := Xx0 0 _ rfl; replace qx0_1 := Xx0 1 _ rfl; replace qx0_2 := Xx0 2 _ rfl; replace qx0_3 := Xx0 3 _ rfl; replace gbx0 := Xx0.lt rfl; replace Xg := Xg.later hb17; replace qg_0 := Xg 0 _ rfl; replace qg_1 := Xg 1 _ rfl; replace qg_2 := Xg 2 _ rfl; replace qg_3 := Xg 3 _ rfl; replace gbg := Xg.lt rfl; replace Tg := Lib.hid (Ki.T_below Tg.out hb17); replace HB := Lib.hid (below_tr HB.out hb17); replace HC := Lib.hid (below_tr HC.out hb17); have z17 := hb17.size; have Td0 := Lib.hid hTd0; have NDd0 := Lib.hid hFd0.1; have Ld0 : Hid (∀ b ∈ Fd0, w16.heap.size ≤ b) := Lib.hid hFd0.2; have Ud0 : Hid (∀ b ∈ Fd0, b < w17.heap.size) := Lib.hid (kLog.T_lt hTd0); clear hTd0 hFd0) | (go_at_call 8; refine (implCompact_c _ x0 x1 x2 x3 (rowT_Log Td0.out).1 (rowT_Log Td0.out).2 S0.out ).mono ?_; rw [HY.out, HY1.out]; intro e w18 hmd; obtain ⟨hA_3, hc_3, Fh, rfl, hTh, hFh, hb18⟩ := made2_Log hmd; clear hmd; replace Xp0 := Xp0.later hb18; replace qp0_0 := Xp0 0 _ rfl; replace qp0_1 := Xp0 1 _ rfl; replace qp0_2 := Xp0 2 _ rfl; replace qp0_3 := Xp0 3 _ rfl; replace gbp0 := Xp0.lt rfl; replace Xw := Xw.later hb18; replace qw_0 := Xw 0 _ rfl; replace qw_1 := Xw 1 _ rfl; replace qw_2 := Xw 2 _ rfl; replace qw_3 := Xw 3 _ rfl; replace gbw := Xw.lt rfl; replace Xx0 := Xx0.later hb18; replace qx0_0 := Xx0 0 _ rfl; replace qx0_1 := Xx0 1 _ rfl; replace qx0_2 := Xx0 2 _ rfl; replace qx0_3 := Xx0 3 _ rfl; replace gbx0 := Xx0.lt rfl; replace Xg := Xg.later hb18; replace qg_0 := Xg 0 _ rfl; replace qg_1 := Xg 1 _ rfl; replace qg_2 := Xg 2 _ rfl; replace qg_3 := Xg 3 _ rfl; replace gbg := Xg.lt rfl; replace Tg := Lib.hid (Ki.T_below Tg.out hb18); replace Td0 := Lib.hid (Ki.T_below Td0.out hb18); replace HB := Lib.hid (below_tr HB.out hb18); replace HC := Lib.hid (below_tr HC.out hb18); have z18 := hb18.size; have Th := Lib.hid hTh; have NDh := Lib.hid hFh.1; have Lh : Hid (∀ b ∈ Fh, w17.heap.size ≤ b) := Lib.hid hFh.2; have Uh : Hid (∀ b ∈ Fh, b < w18.heap.size) := Lib.hid (kLog.T_lt hTh); clear hTh hFh))
  clear Td0 Ld0 Ud0 NDd0
  have hb19 := below_al w18 (.cells #[.int .i64 y.Start, .int .i64 y.Next, .int .i64 y.Roll, .slice hA_3 y.Segments.length hc_3] 28)
  have Xh := Box.new w18 #[.int .i64 y.Start, .int .i64 y.Next, .int .i64 y.Roll, .slice hA_3 y.Segments.length hc_3] 28
  generalize w18.alloc (.cells #[.int .i64 y.Start, .int .i64 y.Next, .int .i64 y.Roll, .slice hA_3 y.Segments.length hc_3] 28) = wbh at hb19 Xh ⊢
  have zs19 : w18.heap.size < wbh.heap.size := Xh.lt rfl
  replace Xp0 := Xp0.later hb19
  replace qp0_0 := Xp0 0 _ rfl
  replace qp0_1 := Xp0 1 _ rfl
  replace qp0_2 := Xp0 2 _ rfl
  replace qp0_3 := Xp0 3 _ rfl
  replace gbp0 := Xp0.lt rfl
  replace Xw := Xw.later hb19
  replace qw_0 := Xw 0 _ rfl
  replace qw_1 := Xw 1 _ rfl
  replace qw_2 := Xw 2 _ rfl
  replace qw_3 := Xw 3 _ rfl
  replace gbw := Xw.lt rfl
  replace Xx0 := Xx0.later hb19
  replace qx0_0 := Xx0 0 _ rfl
  replace qx0_1 := Xx0 1 _ rfl
  replace qx0_2 := Xx0 2 _ rfl
  replace qx0_3 := Xx0 3 _ rfl
  replace gbx0 := Xx0.lt rfl
  replace Xg := Xg.later hb19
  replace qg_0 := Xg 0 _ rfl
  replace qg_1 := Xg 1 _ rfl
  replace qg_2 := Xg 2 _ rfl
  replace qg_3 := Xg 3 _ rfl
  replace gbg := Xg.lt rfl
  replace Tg := Lib.hid (Ki.T_below Tg.out hb19)
  replace Th := Lib.hid (Ki.T_below Th.out hb19)
  replace HB := Lib.hid (below_tr HB.out hb19)
  replace HC := Lib.hid (below_tr HC.out hb19)
  have z19 := hb19.size
  have qh_0 := Xh 0 _ rfl
  have qh_1 := Xh 1 _ rfl
  have qh_2 := Xh 2 _ rfl
  have qh_3 := Xh 3 _ rfl
  have gbh := Xh.lt rfl
  go_upto_region 28 with (go_at_call 9; refine (eqLog_c _ y (rowT_Log Th.out).1 (rowT_Log Th.out).2 wl_3 (Row_below wr_3 HC.out) YS.out).mono ?_; rintro e w20 ⟨rfl, hb20⟩; replace Xp0 := Xp0.later hb20; replace qp0_0 := Xp0 0 _ rfl; replace qp0_1 := Xp0 1 _ rfl; replace qp0_2 := Xp0 2 _ rfl; replace qp0_3 := Xp0 3 _ rfl; replace gbp0 := Xp0.lt rfl; replace Xw := Xw.later hb20; replace qw_0 := Xw 0 _ rfl; replace qw_1 := Xw 1 _ rfl; replace qw_2 := Xw 2 _ rfl; replace qw_3 := Xw 3 _ rfl; replace gbw := Xw.lt rfl; replace Xx0 := Xx0.later hb20; replace qx0_0 := Xx0 0 _ rfl; replace qx0_1 := Xx0 1 _ rfl; replace qx0_2 := Xx0 2 _ rfl; replace qx0_3 := Xx0 3 _ rfl; replace gbx0 := Xx0.lt rfl; replace Xg := Xg.later hb20; replace qg_0 := Xg 0 _ rfl; replace qg_1 := Xg 1 _ rfl; replace qg_2 := Xg 2 _ rfl; replace qg_3 := Xg 3 _ rfl; replace gbg := Xg.lt rfl; replace Xh := Xh.later hb20; replace qh_0 := Xh 0 _ rfl; replace qh_1 := Xh 1 _ rfl; replace qh_2 := Xh 2 _ rfl; replace qh_3 := Xh 3 _ rfl; replace gbh := Xh.lt rfl; replace Tg := Lib.hid (Ki.T_below Tg.out hb20); replace Th := Lib.hid (Ki.T_below Th.out hb20); replace HB := Lib.hid (below_tr HB.out hb20); replace HC := Lib.hid (below_tr HC.out hb20); have z20 := hb20.size)
  go_wp2_with (go_at_call 11; refine (heldT_Log Tg.out _ _ HM.out (by omega) (by omega)).mono ?_; rintro e w21 ⟨rfl, hb21⟩; replace Xp0 := Xp0.later hb21; replace qp0_0 := Xp0 0 _ rfl; replace qp0_1 := Xp0 1 _ rfl; replace qp0_2 := Xp0 2 _ rfl; replace qp0_3 := Xp0 3 _ rfl; replace gbp0 := Xp0.lt rfl; replace Xw := Xw.later hb21; replace qw_0 := Xw 0 _ rfl; replace qw_1 := Xw 1 _ rfl; replace qw_2 := Xw 2 _ rfl; replace qw_3 := Xw 3 _ rfl; replace gbw := Xw.lt rfl; replace Xx0 := Xx0.later hb21; replace qx0_0 := Xx0 0 _ rfl; replace qx0_1 := Xx0 1 _ rfl; replace qx0_2 := Xx0 2 _ rfl; replace qx0_3 := Xx0 3 _ rfl; replace gbx0 := Xx0.lt rfl; replace Xg := Xg.later hb21; replace qg_0 := Xg 0 _ rfl; replace qg_1 := Xg 1 _ rfl; replace qg_2 := Xg 2 _ rfl; replace qg_3 := Xg 3 _ rfl; replace gbg := Xg.lt rfl; replace Xh := Xh.later hb21; replace qh_0 := Xh 0 _ rfl; replace qh_1 := Xh 1 _ rfl; replace qh_2 := Xh 2 _ rfl; replace qh_3 := Xh 3 _ rfl; replace gbh := Xh.lt rfl; replace Tg := Lib.hid (Ki.T_below Tg.out hb21); replace Th := Lib.hid (Ki.T_below Th.out hb21); replace HB := Lib.hid (below_tr HB.out hb21); replace HC := Lib.hid (below_tr HC.out hb21); have z21 := hb21.size)
  go_ret
  exact ⟨rfl, HB.out⟩
end Go.Proofs.Ytiefpllmnmmdlaa.H
