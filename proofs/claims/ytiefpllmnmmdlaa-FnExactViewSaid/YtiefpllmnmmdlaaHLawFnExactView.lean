/-
The law FnExactView: whatever the input, it answers true. Printed by hlaws.py (this session's own). Conditions: each contract's own premises.
-/
import Derived.Test.YtiefpllmnmmdlaaHMk
import Derived.Test.YtiefpllmnmmdlaaHHeld
import Derived.Test.YtiefpllmnmmdlaaHEq
import Derived.Test.YtiefpllmnmmdlaaHTo
import Derived.Test.YtiefpllmnmmdlaaHSz
import Derived.Test.YtiefpllmnmmdlaaHOwn
import Derived.Test.YtiefpllmnmmdlaaHCnt
import Derived.Test.YtiefpllmnmmdlaaHVw3
namespace Go.Proofs.Ytiefpllmnmmdlaa.H
open Go.RowKit
set_option linter.unusedVariables false
set_option linter.unusedSimpArgs false
set_option maxRecDepth 100000
theorem rowT_Log {w : World} {F : List Nat} {x : Log} {A_3 : Option Addr} {c_3 : Nat} (h : kLog.T w F x [.int .i64 x.Start, .int .i64 x.Next, .int .i64 x.Roll, .slice A_3 x.Segments.length c_3]) : (x.Segments.length ≤ c_3 ∧ Row kSegment w A_3 x.Segments) := by
  obtain ⟨v3, G3, he, _, hU3⟩ := Log.opnT h
  simp only [List.cons.injEq, true_and, and_true] at he
  obtain rfl := he
  obtain ⟨A3', c3', e3, h13, _, h23⟩ := TS_read hU3
  simp only [Value.slice.injEq] at e3
  obtain ⟨rfl, _, rfl⟩ := e3
  exact ⟨h13, h23⟩
theorem made_Log {w w' : World} {x : Log} {e : Ending} (h : x.Made w e w') : ∃ A_3 c_3, ∃ F, e = .returned (.agg #[.int .i64 x.Start, .int .i64 x.Next, .int .i64 x.Roll, .slice A_3 x.Segments.length c_3]) ∧ kLog.T w' F x [.int .i64 x.Start, .int .i64 x.Next, .int .i64 x.Roll, .slice A_3 x.Segments.length c_3] ∧ Fresh w F ∧ Below w.heap.size w w' := by
  obtain ⟨v3, F, rfl, hT, hF, hb⟩ := h
  obtain ⟨w3, G3, he, hG, hU3⟩ := Log.opnT hT
  simp only [List.cons.injEq, true_and, and_true] at he
  obtain rfl := he
  obtain ⟨A3, c3, rfl, _⟩ := TS_read hU3
  exact ⟨A3, c3, F, rfl, hT, hF, hb⟩
theorem markT_Log {w : World} {F : List Nat} {x : Log} {A_3 : Option Addr} {c_3 : Nat} (h : kLog.T w F x [.int .i64 x.Start, .int .i64 x.Next, .int .i64 x.Roll, .slice A_3 x.Segments.length c_3]) (hF : F.Nodup) (hs : x.sm) (k : Int) (h0 : 0 ≤ k) (h1 : k + (x.cntV : Nat) ≤ 1000000000000000) :
    Calls Try.prog 10 #[.agg #[.int .i64 x.Start, .int .i64 x.Next, .int .i64 x.Roll, .slice A_3 x.Segments.length c_3], .int .i64 k] w fun e w' => ∃ y : Log, e = .returned (.int .i64 (k + (x.cntV : Nat))) ∧ y.mkV k (k + (x.cntV : Nat)) ∧ kLog.T w' F y [.int .i64 x.Start, .int .i64 x.Next, .int .i64 x.Roll, .slice A_3 x.Segments.length c_3] ∧ Upd F w w' := by
  obtain ⟨v3, G3, he, rfl, hU3⟩ := Log.opnT h
  simp only [List.cons.injEq, true_and, and_true] at he
  obtain rfl := he
  exact markLog_c w x hU3 hF hs k h0 h1
theorem heldT_Log {w : World} {F : List Nat} {x y : Log} {A_3 : Option Addr} {c_3 : Nat} (h : kLog.T w F y [.int .i64 x.Start, .int .i64 x.Next, .int .i64 x.Roll, .slice A_3 x.Segments.length c_3]) (k k' : Int) (hM : y.mkV k k') (h0 : 0 ≤ k) (h1 : k' ≤ 1000000000000000) :
    Calls Try.prog 11 #[.agg #[.int .i64 x.Start, .int .i64 x.Next, .int .i64 x.Roll, .slice A_3 x.Segments.length c_3], .int .i64 k] w fun e w' => e = .returned (.int .i64 k') ∧ Below w.heap.size w w' := by
  obtain ⟨v3, G3, he, _, hU3⟩ := Log.opnT h
  simp at he
  obtain ⟨e0, e1, e2, rfl⟩ := he
  obtain ⟨A3', c3', g3, h23, _, h33⟩ := TS_read hU3
  simp only [Value.slice.injEq] at g3
  obtain ⟨rfl, l3, rfl⟩ := g3
  rw [e0, e1, e2, l3]
  exact heldLog_c w y h23 h33 k k' hM h0 h1
theorem rowT_PairS {w : World} {F : List Nat} {x : (List Pair)} {A_0 : Option Addr} {c_0 : Nat} (h : TS kPair 64 w F x (.slice A_0 x.length c_0)) : (x.length ≤ c_0 ∧ Row kPair w A_0 x) := by
  obtain ⟨A', c', e, h1, _, h2⟩ := TS_read h
  simp only [Value.slice.injEq] at e
  obtain ⟨rfl, _, rfl⟩ := e
  exact ⟨h1, h2⟩
theorem made_PairS {w w' : World} {x : (List Pair)} {e : Ending} (h : MadeS kPair 64 x w e w') : ∃ A_0 c_0, ∃ F, e = .returned (.slice A_0 x.length c_0) ∧ TS kPair 64 w' F x (.slice A_0 x.length c_0) ∧ Fresh w F ∧ Below w.heap.size w w' := by
  obtain ⟨v, F, rfl, hT, hF, hb⟩ := h
  obtain ⟨A, c, rfl, _⟩ := TS_read hT
  exact ⟨A, c, F, rfl, hT, hF, hb⟩
theorem markT_PairS {w : World} {F : List Nat} {x : (List Pair)} {A_0 : Option Addr} {c_0 : Nat} (h : TS kPair 64 w F x (.slice A_0 x.length c_0)) (hF : F.Nodup) (hs : (x.length ≤ 1048576 ∧ ∀ y ∈ x, y.sm)) (k : Int) (h0 : 0 ≤ k) (h1 : k + (sumF Pair.cnt x : Nat) ≤ 1000000000000000) :
    Calls Try.prog 15 #[.slice A_0 x.length c_0, .int .i64 k] w fun e w' => ∃ y : (List Pair), e = .returned (.int .i64 (k + (sumF Pair.cnt x : Nat))) ∧ Mks Pair.mkR y k (k + (sumF Pair.cnt x : Nat)) ∧ TS kPair 64 w' F y (.slice A_0 x.length c_0) ∧ Upd F w w' := by
  refine (markPairS_c w F x _ k h hF hs h0 h1).mono ?_
  rintro e w' ⟨y, rfl, _, hM, hT, hu⟩
  exact ⟨y, rfl, hM, hT, hu⟩
theorem heldT_PairS {w : World} {F : List Nat} {x y : (List Pair)} {A_0 : Option Addr} {c_0 : Nat} (h : TS kPair 64 w F y (.slice A_0 x.length c_0)) (k k' : Int) (hM : Mks Pair.mkR y k k') (h0 : 0 ≤ k) (h1 : k' ≤ 1000000000000000) :
    Calls Try.prog 16 #[.slice A_0 x.length c_0, .int .i64 k] w fun e w' => e = .returned (.int .i64 k') ∧ Below w.heap.size w w' := by
  obtain ⟨A', c', e, h2, _, h3⟩ := TS_read h
  simp only [Value.slice.injEq] at e
  obtain ⟨rfl, e, rfl⟩ := e
  rw [e]
  exact heldPairS_c w y h2 h3 k k' hM h0 h1
set_option maxHeartbeats 8000000 in
theorem law_FnExactView (w : World) (x0 : Log) {A0_3 : Option Addr} {c0_3 : Nat} (l0_3 : x0.Segments.length ≤ c0_3) (g0_3 : Row kSegment w A0_3 x0.Segments) (hw0 : Log.wf x0) :
    Calls Try.prog 4 #[.agg #[.int .i64 x0.Start, .int .i64 x0.Next, .int .i64 x0.Roll, .slice A0_3 x0.Segments.length c0_3]] w fun e w' => e = .returned (.bool true) ∧ Below w.heap.size w w' := by
  have HW0 := Lib.hid hw0
  clear hw0
  generalize hy : viewL x0 = y
  have HY := Lib.hid hy
  clear hy
  have Z0 : w.heap.size ≤ w.heap.size := Nat.le_refl _
  go_enter Try.func4, Try.ntmps4
  go_upto_region 1 with fail
  have HB : Hid (Below w.heap.size w w) := Lib.hid (Below.refl _ _)
  have hb1 := below_al w (.cells #[.int .i64 x0.Start, .int .i64 x0.Next, .int .i64 x0.Roll, .slice A0_3 x0.Segments.length c0_3] 24)
  have Xp0 := Box.new w #[.int .i64 x0.Start, .int .i64 x0.Next, .int .i64 x0.Roll, .slice A0_3 x0.Segments.length c0_3] 24
  generalize w.alloc (.cells #[.int .i64 x0.Start, .int .i64 x0.Next, .int .i64 x0.Roll, .slice A0_3 x0.Segments.length c0_3] 24) = wp0 at hb1 Xp0 ⊢
  have zs1 : w.heap.size < wp0.heap.size := Xp0.lt rfl
  replace HB := Lib.hid (below_tr HB.out hb1)
  have z1 := hb1.size
  have qp0_0 := Xp0 0 _ rfl
  have qp0_1 := Xp0 1 _ rfl
  have qp0_2 := Xp0 2 _ rfl
  have qp0_3 := Xp0 3 _ rfl
  have gbp0 := Xp0.lt rfl
  go_upto_region 2 with fail
  go_upto_region 5 with (go_at_call 5; refine (szLog_c _ x0 l0_3 (Row_below g0_3 HB.out) HW0.out _ (by omega) (by omega)).mono ?_; rintro e w2 ⟨r2, rfl, ra2, rb2, rs2, hb2⟩; have hs0 := Lib.hid rs2; clear rs2; replace Xp0 := Xp0.later hb2; replace qp0_0 := Xp0 0 _ rfl; replace qp0_1 := Xp0 1 _ rfl; replace qp0_2 := Xp0 2 _ rfl; replace qp0_3 := Xp0 3 _ rfl; replace gbp0 := Xp0.lt rfl; replace HB := Lib.hid (below_tr HB.out hb2); have z2 := hb2.size)
  all_goals first | (go_ret; exact ⟨rfl, HB.out⟩) | skip
  have T0 : x0.sz ≤ 1048576 := (by have := hs0.out (by omega); omega)
  have HT0 := Lib.hid T0
  have S0 : Hid (x0.sm) := Lib.hid (Log.sm_of T0)
  clear T0
  have YS : Hid ((y.length ≤ 1048576 ∧ ∀ yy ∈ y, yy.sm)) := Lib.hid (by rw [← HY.out]; exact viewL_sm S0.out)
  have YC : (sumF Pair.cnt y : Nat) ≤ 1000000000 := (by have h := viewL_cnt x0; rw [HY.out] at h; exact h)
  have XC0 : (x0.cntV : Nat) ≤ 1000000000 := (by have h := Log.cntV_le x0; have := HT0.out; omega)
  go_upto_region 6 with (first | (go_at_call 7; refine (toLog_c _ x0 l0_3 (Row_below g0_3 HB.out) S0.out).mono ?_; intro e w3 hmd; obtain ⟨a0A_3, a0c_3, Fa0, rfl, hTa0, hFa0, hb3⟩ := made_Log hmd; clear hmd; replace Xp0 := Xp0.later hb3; replace qp0_0 := Xp0 0 _ rfl; replace qp0_1 := Xp0 1 _ rfl; replace qp0_2 := Xp0 2 _ rfl; replace qp0_3 := Xp0 3 _ rfl; replace gbp0 := Xp0.lt rfl; replace HB := Lib.hid (below_tr HB.out hb3); have z3 := hb3.size; have Ta0 := Lib.hid hTa0; have NDa0 := Lib.hid hFa0.1; have La0 : Hid (∀ b ∈ Fa0, w2.heap.size ≤ b) := Lib.hid hFa0.2; have Ua0 : Hid (∀ b ∈ Fa0, b < w3.heap.size) := Lib.hid (kLog.T_lt hTa0); clear hTa0 hFa0) | (go_at_call 12; refine (specView_c _ x0 (rowT_Log Ta0.out).1 (rowT_Log Ta0.out).2 S0.out HW0.out).mono ?_; rw [HY.out]; rintro e w4 ⟨WA_0, Wc_0, rfl, wl_0, wr_0, hb4⟩; replace Xp0 := Xp0.later hb4; replace qp0_0 := Xp0 0 _ rfl; replace qp0_1 := Xp0 1 _ rfl; replace qp0_2 := Xp0 2 _ rfl; replace qp0_3 := Xp0 3 _ rfl; replace gbp0 := Xp0.lt rfl; replace HB := Lib.hid (below_tr HB.out hb4); have z4 := hb4.size; have HC : Hid (Below w4.heap.size w4 w4) := Lib.hid (Below.refl _ _)))
  go_upto_region 7 with (go_at_call 7; refine (toLog_c _ x0 l0_3 (Row_below g0_3 HB.out) S0.out).mono ?_; intro e w5 hmd; obtain ⟨x0A_3, x0c_3, Fx0, rfl, hTx0, hFx0, hb5⟩ := made_Log hmd; clear hmd; replace Xp0 := Xp0.later hb5; replace qp0_0 := Xp0 0 _ rfl; replace qp0_1 := Xp0 1 _ rfl; replace qp0_2 := Xp0 2 _ rfl; replace qp0_3 := Xp0 3 _ rfl; replace gbp0 := Xp0.lt rfl; replace HB := Lib.hid (below_tr HB.out hb5); replace HC := Lib.hid (below_tr HC.out hb5); have z5 := hb5.size; have Tx0 := Lib.hid hTx0; have NDx0 := Lib.hid hFx0.1; have Lx0 : Hid (∀ b ∈ Fx0, w4.heap.size ≤ b) := Lib.hid hFx0.2; have Ux0 : Hid (∀ b ∈ Fx0, b < w5.heap.size) := Lib.hid (kLog.T_lt hTx0); clear hTx0 hFx0)
  have hb6 := below_al w5 (.cells #[.int .i64 x0.Start, .int .i64 x0.Next, .int .i64 x0.Roll, .slice x0A_3 x0.Segments.length x0c_3] 28)
  have Xx0 := Box.new w5 #[.int .i64 x0.Start, .int .i64 x0.Next, .int .i64 x0.Roll, .slice x0A_3 x0.Segments.length x0c_3] 28
  generalize w5.alloc (.cells #[.int .i64 x0.Start, .int .i64 x0.Next, .int .i64 x0.Roll, .slice x0A_3 x0.Segments.length x0c_3] 28) = wbx0 at hb6 Xx0 ⊢
  have zs6 : w5.heap.size < wbx0.heap.size := Xx0.lt rfl
  replace Xp0 := Xp0.later hb6
  replace qp0_0 := Xp0 0 _ rfl
  replace qp0_1 := Xp0 1 _ rfl
  replace qp0_2 := Xp0 2 _ rfl
  replace qp0_3 := Xp0 3 _ rfl
  replace gbp0 := Xp0.lt rfl
  replace Tx0 := Lib.hid (Ki.T_below Tx0.out hb6)
  replace HB := Lib.hid (below_tr HB.out hb6)
  replace HC := Lib.hid (below_tr HC.out hb6)
  have z6 := hb6.size
  have qx0_0 := Xx0 0 _ rfl
  have qx0_1 := Xx0 1 _ rfl
  have qx0_2 := Xx0 2 _ rfl
  have qx0_3 := Xx0 3 _ rfl
  have gbx0 := Xx0.lt rfl
  go_upto_region 8 with (go_at_call 13; refine (implView_c _ x0 (rowT_Log Tx0.out).1 (rowT_Log Tx0.out).2 S0.out ).mono ?_; rw [HY.out]; intro e w7 hmd; obtain ⟨gA_0, gc_0, Fg, rfl, hTg, hFg, hb7⟩ := made_PairS hmd; clear hmd; replace Xp0 := Xp0.later hb7; replace qp0_0 := Xp0 0 _ rfl; replace qp0_1 := Xp0 1 _ rfl; replace qp0_2 := Xp0 2 _ rfl; replace qp0_3 := Xp0 3 _ rfl; replace gbp0 := Xp0.lt rfl; replace Xx0 := Xx0.later hb7; replace qx0_0 := Xx0 0 _ rfl; replace qx0_1 := Xx0 1 _ rfl; replace qx0_2 := Xx0 2 _ rfl; replace qx0_3 := Xx0 3 _ rfl; replace gbx0 := Xx0.lt rfl; replace Tx0 := Lib.hid (Ki.T_below Tx0.out hb7); replace HB := Lib.hid (below_tr HB.out hb7); replace HC := Lib.hid (below_tr HC.out hb7); have z7 := hb7.size; have Tg := Lib.hid hTg; have NDg := Lib.hid hFg.1; have Lg : Hid (∀ b ∈ Fg, wbx0.heap.size ≤ b) := Lib.hid hFg.2; have Ug : Hid (∀ b ∈ Fg, b < w7.heap.size) := Lib.hid (TS_lt hTg); clear hTg hFg)
  go_upto_region 10 with (go_at_call 14; refine (eqPairS_c _ y (rowT_PairS Tg.out).1 (rowT_PairS Tg.out).2 wl_0 (Row_below wr_0 HC.out) YS.out).mono ?_; rintro e w8 ⟨rfl, hb8⟩; replace Xp0 := Xp0.later hb8; replace qp0_0 := Xp0 0 _ rfl; replace qp0_1 := Xp0 1 _ rfl; replace qp0_2 := Xp0 2 _ rfl; replace qp0_3 := Xp0 3 _ rfl; replace gbp0 := Xp0.lt rfl; replace Xx0 := Xx0.later hb8; replace qx0_0 := Xx0 0 _ rfl; replace qx0_1 := Xx0 1 _ rfl; replace qx0_2 := Xx0 2 _ rfl; replace qx0_3 := Xx0 3 _ rfl; replace gbx0 := Xx0.lt rfl; replace Tx0 := Lib.hid (Ki.T_below Tx0.out hb8); replace Tg := Lib.hid (TS_below Tg.out hb8); replace HB := Lib.hid (below_tr HB.out hb8); replace HC := Lib.hid (below_tr HC.out hb8); have z8 := hb8.size)
  have e0q := (⟨qp0_0, qp0_1, qp0_2, qp0_3, qx0_0, qx0_1, qx0_2, qx0_3⟩ : w8.cell? ⟨w.heap.size, 0, none⟩ = some (.int .i64 x0.Start) ∧ w8.cell? ⟨w.heap.size, 1, none⟩ = some (.int .i64 x0.Next) ∧ w8.cell? ⟨w.heap.size, 2, none⟩ = some (.int .i64 x0.Roll) ∧ w8.cell? ⟨w.heap.size, 3, none⟩ = some (.slice A0_3 x0.Segments.length c0_3) ∧ w8.cell? ⟨w5.heap.size, 0, none⟩ = some (.int .i64 x0.Start) ∧ w8.cell? ⟨w5.heap.size, 1, none⟩ = some (.int .i64 x0.Next) ∧ w8.cell? ⟨w5.heap.size, 2, none⟩ = some (.int .i64 x0.Roll) ∧ w8.cell? ⟨w5.heap.size, 3, none⟩ = some (.slice x0A_3 x0.Segments.length x0c_3))
  go_region_held3 (fun W => W.cell? ⟨w.heap.size, 0, none⟩ = some (.int .i64 x0.Start) ∧ W.cell? ⟨w.heap.size, 1, none⟩ = some (.int .i64 x0.Next) ∧ W.cell? ⟨w.heap.size, 2, none⟩ = some (.int .i64 x0.Roll) ∧ W.cell? ⟨w.heap.size, 3, none⟩ = some (.slice A0_3 x0.Segments.length c0_3) ∧ W.cell? ⟨w5.heap.size, 0, none⟩ = some (.int .i64 x0.Start) ∧ W.cell? ⟨w5.heap.size, 1, none⟩ = some (.int .i64 x0.Next) ∧ W.cell? ⟨w5.heap.size, 2, none⟩ = some (.int .i64 x0.Roll) ∧ W.cell? ⟨w5.heap.size, 3, none⟩ = some (.slice x0A_3 x0.Segments.length x0c_3)) (first | exact e0q | exact e1q | exact e2q) (first | (go_at_call 7; refine (toLog_c _ x0 l0_3 (Row_below g0_3 HB.out.drew) S0.out).mono ?_; intro e w9 hmd; obtain ⟨c0A_3, c0c_3, Fc0, rfl, hTc0, hFc0, hb9⟩ := made_Log hmd; clear hmd; have hc9 := below_tr ((Below.refl _ _).drew) hb9; have e1q := (⟨later hc9 qp0_0, later hc9 qp0_1, later hc9 qp0_2, later hc9 qp0_3, later hc9 qx0_0, later hc9 qx0_1, later hc9 qx0_2, later hc9 qx0_3⟩ : w9.cell? ⟨w.heap.size, 0, none⟩ = some (.int .i64 x0.Start) ∧ w9.cell? ⟨w.heap.size, 1, none⟩ = some (.int .i64 x0.Next) ∧ w9.cell? ⟨w.heap.size, 2, none⟩ = some (.int .i64 x0.Roll) ∧ w9.cell? ⟨w.heap.size, 3, none⟩ = some (.slice A0_3 x0.Segments.length c0_3) ∧ w9.cell? ⟨w5.heap.size, 0, none⟩ = some (.int .i64 x0.Start) ∧ w9.cell? ⟨w5.heap.size, 1, none⟩ = some (.int .i64 x0.Next) ∧ w9.cell? ⟨w5.heap.size, 2, none⟩ = some (.int .i64 x0.Roll) ∧ w9.cell? ⟨w5.heap.size, 3, none⟩ = some (.slice x0A_3 x0.Segments.length x0c_3))) | (go_at_call 9; refine (eqLog_c _ x0 (rowT_Log Tx0.out).1 (Row_below (rowT_Log Tx0.out).2 hc9) (rowT_Log hTc0).1 (rowT_Log hTc0).2 S0.out).mono ?_; rintro e w10 ⟨rfl, hb10⟩; have hc10 := below_tr hc9 hb10; have e2q := (⟨later hc10 qp0_0, later hc10 qp0_1, later hc10 qp0_2, later hc10 qp0_3, later hc10 qx0_0, later hc10 qx0_1, later hc10 qx0_2, later hc10 qx0_3⟩ : w10.cell? ⟨w.heap.size, 0, none⟩ = some (.int .i64 x0.Start) ∧ w10.cell? ⟨w.heap.size, 1, none⟩ = some (.int .i64 x0.Next) ∧ w10.cell? ⟨w.heap.size, 2, none⟩ = some (.int .i64 x0.Roll) ∧ w10.cell? ⟨w.heap.size, 3, none⟩ = some (.slice A0_3 x0.Segments.length c0_3) ∧ w10.cell? ⟨w5.heap.size, 0, none⟩ = some (.int .i64 x0.Start) ∧ w10.cell? ⟨w5.heap.size, 1, none⟩ = some (.int .i64 x0.Next) ∧ w10.cell? ⟨w5.heap.size, 2, none⟩ = some (.int .i64 x0.Roll) ∧ w10.cell? ⟨w5.heap.size, 3, none⟩ = some (.slice x0A_3 x0.Segments.length x0c_3))))
  replace Xp0 := Xp0.later hc10
  replace qp0_0 := Xp0 0 _ rfl
  replace qp0_1 := Xp0 1 _ rfl
  replace qp0_2 := Xp0 2 _ rfl
  replace qp0_3 := Xp0 3 _ rfl
  replace gbp0 := Xp0.lt rfl
  replace Xx0 := Xx0.later hc10
  replace qx0_0 := Xx0 0 _ rfl
  replace qx0_1 := Xx0 1 _ rfl
  replace qx0_2 := Xx0 2 _ rfl
  replace qx0_3 := Xx0 3 _ rfl
  replace gbx0 := Xx0.lt rfl
  replace Tx0 := Lib.hid (Ki.T_below Tx0.out hc10)
  replace Tg := Lib.hid (TS_below Tg.out hc10)
  replace HB := Lib.hid (below_tr HB.out hc10)
  replace HC := Lib.hid (below_tr HC.out hc10)
  have z10 := hc10.size
  clear e0q e1q e2q
  go_upto_region 13 with fail
  go_upto_region 14 with (go_at_call 10; refine (markT_Log Tx0.out NDx0.out S0.out _ (by omega) (by omega)).mono ?_; rintro e w11 ⟨m0, rfl, _, _, hup11⟩; replace Xp0 := Box.upd Xp0 hup11 (fun hh => by have h1 := Lx0.out _ hh; have h2 := Ux0.out _ hh; omega); replace qp0_0 := Xp0 0 _ rfl; replace qp0_1 := Xp0 1 _ rfl; replace qp0_2 := Xp0 2 _ rfl; replace qp0_3 := Xp0 3 _ rfl; replace gbp0 := Xp0.lt rfl; replace Xx0 := Box.upd Xx0 hup11 (fun hh => by have h1 := Lx0.out _ hh; have h2 := Ux0.out _ hh; omega); replace qx0_0 := Xx0 0 _ rfl; replace qx0_1 := Xx0 1 _ rfl; replace qx0_2 := Xx0 2 _ rfl; replace qx0_3 := Xx0 3 _ rfl; replace gbx0 := Xx0.lt rfl; replace Tg := Lib.hid (TS_upd Tg.out hup11 (fun b hb hh => by have h1 := Lg.out _ hb; have h2 := Ug.out _ hb; have h3 := Lx0.out _ hh; have h4 := Ux0.out _ hh; omega)); have z11 := hup11.size; replace HB := Lib.hid (HB.out.trans (Upd.below hup11 (fun b hb => by have h1 := Lx0.out _ hb; omega) (by omega))); replace HC := Lib.hid (HC.out.trans (Upd.below hup11 (fun b hb => by have h1 := Lx0.out _ hb; omega) (by omega))); clear hup11)
  generalize hk0 : (1 : Int) + ((x0.cntV : Nat) : Int) = k0
  have ka0 : 0 ≤ k0 := by omega
  have kb0 : k0 ≤ 1000000001 * 1 := by omega
  clear hk0
  go_upto_region 17 with (go_at_call 14; refine (eqPairS_c _ y (rowT_PairS Tg.out).1 (rowT_PairS Tg.out).2 wl_0 (Row_below wr_0 HC.out) YS.out).mono ?_; rintro e w12 ⟨rfl, hb12⟩; replace Xp0 := Xp0.later hb12; replace qp0_0 := Xp0 0 _ rfl; replace qp0_1 := Xp0 1 _ rfl; replace qp0_2 := Xp0 2 _ rfl; replace qp0_3 := Xp0 3 _ rfl; replace gbp0 := Xp0.lt rfl; replace Xx0 := Xx0.later hb12; replace qx0_0 := Xx0 0 _ rfl; replace qx0_1 := Xx0 1 _ rfl; replace qx0_2 := Xx0 2 _ rfl; replace qx0_3 := Xx0 3 _ rfl; replace gbx0 := Xx0.lt rfl; replace Tg := Lib.hid (TS_below Tg.out hb12); replace HB := Lib.hid (below_tr HB.out hb12); replace HC := Lib.hid (below_tr HC.out hb12); have z12 := hb12.size)
  go_upto_region 19 with (go_at_call 15; refine (markT_PairS Tg.out NDg.out YS.out _ (by omega) (by omega)).mono ?_; rintro e w13 ⟨yy, rfl, hMM, hTM, hup13⟩; replace Xp0 := Box.upd Xp0 hup13 (fun hh => by have h1 := Lg.out _ hh; have h2 := Ug.out _ hh; omega); replace qp0_0 := Xp0 0 _ rfl; replace qp0_1 := Xp0 1 _ rfl; replace qp0_2 := Xp0 2 _ rfl; replace qp0_3 := Xp0 3 _ rfl; replace gbp0 := Xp0.lt rfl; replace Xx0 := Box.upd Xx0 hup13 (fun hh => by have h1 := Lg.out _ hh; have h2 := Ug.out _ hh; omega); replace qx0_0 := Xx0 0 _ rfl; replace qx0_1 := Xx0 1 _ rfl; replace qx0_2 := Xx0 2 _ rfl; replace qx0_3 := Xx0 3 _ rfl; replace gbx0 := Xx0.lt rfl; have z13 := hup13.size; replace HB := Lib.hid (HB.out.trans (Upd.below hup13 (fun b hb => by have h1 := Lg.out _ hb; omega) (by omega))); replace HC := Lib.hid (HC.out.trans (Upd.below hup13 (fun b hb => by have h1 := Lg.out _ hb; omega) (by omega))); clear hup13)
  generalize hkm : (1 : Int) + ((sumF Pair.cnt y : Nat) : Int) = km at hMM ⊢
  have kma : 0 ≤ km := by omega
  have kmb : km ≤ 1000000001 := by omega
  clear hkm
  have HM := Lib.hid hMM
  replace Tg := Lib.hid hTM
  clear hMM hTM
  go_upto_region 24 with (go_at_call 16; refine (heldT_PairS Tg.out _ _ HM.out (by omega) (by omega)).mono ?_; rintro e w14 ⟨rfl, hb14⟩; replace Xp0 := Xp0.later hb14; replace qp0_0 := Xp0 0 _ rfl; replace qp0_1 := Xp0 1 _ rfl; replace qp0_2 := Xp0 2 _ rfl; replace qp0_3 := Xp0 3 _ rfl; replace gbp0 := Xp0.lt rfl; replace Xx0 := Xx0.later hb14; replace qx0_0 := Xx0 0 _ rfl; replace qx0_1 := Xx0 1 _ rfl; replace qx0_2 := Xx0 2 _ rfl; replace qx0_3 := Xx0 3 _ rfl; replace gbx0 := Xx0.lt rfl; replace Tg := Lib.hid (TS_below Tg.out hb14); replace HB := Lib.hid (below_tr HB.out hb14); replace HC := Lib.hid (below_tr HC.out hb14); have z14 := hb14.size)
  go_upto_region 25 with (first | (go_at_call 7; refine (toLog_c _ x0 l0_3 (Row_below g0_3 HB.out) S0.out).mono ?_; intro e w15 hmd; obtain ⟨d0A_3, d0c_3, Fd0, rfl, hTd0, hFd0, hb15⟩ := made_Log hmd; clear hmd; replace Xp0 := Xp0.later hb15; replace qp0_0 := Xp0 0 _ rfl; replace qp0_1 := Xp0 1 _ rfl; replace qp0_2 := Xp0 2 _ rfl; replace qp0_3 := Xp0 3 _ rfl; replace gbp0 := Xp0.lt rfl; replace Xx0 := Xx0.later hb15; replace qx0_0 := Xx0 0 _ rfl; replace qx0_1 := Xx0 1 _ rfl; replace qx0_2 := Xx0 2 _ rfl; replace qx0_3 := Xx0 3 _ rfl; replace gbx0 := Xx0.lt rfl; replace Tg := Lib.hid (TS_below Tg.out hb15); replace HB := Lib.hid (below_tr HB.out hb15); replace HC := Lib.hid (below_tr HC.out hb15); have z15 := hb15.size; have Td0 := Lib.hid hTd0; have NDd0 := Lib.hid hFd0.1; have Ld0 : Hid (∀ b ∈ Fd0, w14.heap.size ≤ b) := Lib.hid hFd0.2; have Ud0 : Hid (∀ b ∈ Fd0, b < w15.heap.size) := Lib.hid (kLog.T_lt hTd0); clear hTd0 hFd0) | (go_at_call 13; refine (implView_c _ x0 (rowT_Log Td0.out).1 (rowT_Log Td0.out).2 S0.out ).mono ?_; rw [HY.out]; intro e w16 hmd; obtain ⟨hA_0, hc_0, Fh, rfl, hTh, hFh, hb16⟩ := made_PairS hmd; clear hmd; replace Xp0 := Xp0.later hb16; replace qp0_0 := Xp0 0 _ rfl; replace qp0_1 := Xp0 1 _ rfl; replace qp0_2 := Xp0 2 _ rfl; replace qp0_3 := Xp0 3 _ rfl; replace gbp0 := Xp0.lt rfl; replace Xx0 := Xx0.later hb16; replace qx0_0 := Xx0 0 _ rfl; replace qx0_1 := Xx0 1 _ rfl; replace qx0_2 := Xx0 2 _ rfl; replace qx0_3 := Xx0 3 _ rfl; replace gbx0 := Xx0.lt rfl; replace Tg := Lib.hid (TS_below Tg.out hb16); replace Td0 := Lib.hid (Ki.T_below Td0.out hb16); replace HB := Lib.hid (below_tr HB.out hb16); replace HC := Lib.hid (below_tr HC.out hb16); have z16 := hb16.size; have Th := Lib.hid hTh; have NDh := Lib.hid hFh.1; have Lh : Hid (∀ b ∈ Fh, w15.heap.size ≤ b) := Lib.hid hFh.2; have Uh : Hid (∀ b ∈ Fh, b < w16.heap.size) := Lib.hid (TS_lt hTh); clear hTh hFh))
  clear Td0 Ld0 Ud0 NDd0
  go_upto_region 28 with (go_at_call 14; refine (eqPairS_c _ y (rowT_PairS Th.out).1 (rowT_PairS Th.out).2 wl_0 (Row_below wr_0 HC.out) YS.out).mono ?_; rintro e w17 ⟨rfl, hb17⟩; replace Xp0 := Xp0.later hb17; replace qp0_0 := Xp0 0 _ rfl; replace qp0_1 := Xp0 1 _ rfl; replace qp0_2 := Xp0 2 _ rfl; replace qp0_3 := Xp0 3 _ rfl; replace gbp0 := Xp0.lt rfl; replace Xx0 := Xx0.later hb17; replace qx0_0 := Xx0 0 _ rfl; replace qx0_1 := Xx0 1 _ rfl; replace qx0_2 := Xx0 2 _ rfl; replace qx0_3 := Xx0 3 _ rfl; replace gbx0 := Xx0.lt rfl; replace Tg := Lib.hid (TS_below Tg.out hb17); replace Th := Lib.hid (TS_below Th.out hb17); replace HB := Lib.hid (below_tr HB.out hb17); replace HC := Lib.hid (below_tr HC.out hb17); have z17 := hb17.size)
  go_wp2_with (go_at_call 16; refine (heldT_PairS Tg.out _ _ HM.out (by omega) (by omega)).mono ?_; rintro e w18 ⟨rfl, hb18⟩; replace Xp0 := Xp0.later hb18; replace qp0_0 := Xp0 0 _ rfl; replace qp0_1 := Xp0 1 _ rfl; replace qp0_2 := Xp0 2 _ rfl; replace qp0_3 := Xp0 3 _ rfl; replace gbp0 := Xp0.lt rfl; replace Xx0 := Xx0.later hb18; replace qx0_0 := Xx0 0 _ rfl; replace qx0_1 := Xx0 1 _ rfl; replace qx0_2 := Xx0 2 _ rfl; replace qx0_3 := Xx0 3 _ rfl; replace gbx0 := Xx0.lt rfl; replace Tg := Lib.hid (TS_below Tg.out hb18); replace Th := Lib.hid (TS_below Th.out hb18); replace HB := Lib.hid (below_tr HB.out hb18); replace HC := Lib.hid (below_tr HC.out hb18); have z18 := hb18.size)
  go_ret
  exact ⟨rfl, HB.out⟩
end Go.Proofs.Ytiefpllmnmmdlaa.H
