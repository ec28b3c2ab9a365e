/-
The law FnExactTake: whatever the input, it answers true. Printed by hlaws.py (this session's own). Conditions: each contract's own premises.
-/
import Derived.Test.YtipemgjgimpmbaaHMk
import Derived.Test.YtipemgjgimpmbaaHHeld
import Derived.Test.YtipemgjgimpmbaaHEq
import Derived.Test.YtipemgjgimpmbaaHTo
import Derived.Test.YtipemgjgimpmbaaHSz
import Derived.Test.YtipemgjgimpmbaaHOwn
import Derived.Test.YtipemgjgimpmbaaHCnt
import Derived.Test.YtipemgjgimpmbaaHTake4
namespace Go.Proofs.Ytipemgjgimpmbaa.H
open Go.RowKit
set_option linter.unusedVariables false
set_option linter.unusedSimpArgs false
set_option maxRecDepth 100000
theorem rowT_SeenS {w : World} {F : List Nat} {x : (List Seen)} {A_0 : Option Addr} {c_0 : Nat} (h : TS kSeen 101 w F x (.slice A_0 x.length c_0)) : (x.length ≤ c_0 ∧ Row kSeen w A_0 x) := by
  obtain ⟨A', c', e, h1, _, h2⟩ := TS_read h
  simp only [Value.slice.injEq] at e
  obtain ⟨rfl, _, rfl⟩ := e
  exact ⟨h1, h2⟩
theorem made_SeenS {w w' : World} {x : (List Seen)} {e : Ending} (h : MadeS kSeen 101 x w e w') : ∃ A_0 c_0, ∃ F, e = .returned (.slice A_0 x.length c_0) ∧ TS kSeen 101 w' F x (.slice A_0 x.length c_0) ∧ Fresh w F ∧ Below w.heap.size w w' := by
  obtain ⟨v, F, rfl, hT, hF, hb⟩ := h
  obtain ⟨A, c, rfl, _⟩ := TS_read hT
  exact ⟨A, c, F, rfl, hT, hF, hb⟩
theorem markT_SeenS {w : World} {F : List Nat} {x : (List Seen)} {A_0 : Option Addr} {c_0 : Nat} (h : TS kSeen 101 w F x (.slice A_0 x.length c_0)) (hF : F.Nodup) (hs : (x.length ≤ 1048576 ∧ ∀ y ∈ x, y.sm)) (k : Int) (h0 : 0 ≤ k) (h1 : k + (sumF Seen.cnt x : Nat) ≤ 1000000000000000) :
    Calls Try.prog 31 #[.slice A_0 x.length c_0, .int .i64 k] w fun e w' => ∃ y : (List Seen), e = .returned (.int .i64 (k + (sumF Seen.cnt x : Nat))) ∧ Mks Seen.mkR y k (k + (sumF Seen.cnt x : Nat)) ∧ TS kSeen 101 w' F y (.slice A_0 x.length c_0) ∧ Upd F w w' := by
  refine (markSeenS_c w F x _ k h hF hs h0 h1).mono ?_
  rintro e w' ⟨y, rfl, _, hM, hT, hu⟩
  exact ⟨y, rfl, hM, hT, hu⟩
theorem heldT_SeenS {w : World} {F : List Nat} {x y : (List Seen)} {A_0 : Option Addr} {c_0 : Nat} (h : TS kSeen 101 w F y (.slice A_0 x.length c_0)) (k k' : Int) (hM : Mks Seen.mkR y k k') (h0 : 0 ≤ k) (h1 : k' ≤ 1000000000000000) :
    Calls Try.prog 33 #[.slice A_0 x.length c_0, .int .i64 k] w fun e w' => e = .returned (.int .i64 k') ∧ Below w.heap.size w w' := by
  obtain ⟨A', c', e, h2, _, h3⟩ := TS_read h
  simp only [Value.slice.injEq] at e
  obtain ⟨rfl, e, rfl⟩ := e
  rw [e]
  exact heldSeenS_c w y h2 h3 k k' hM h0 h1
theorem rowT_Batch {w : World} {F : List Nat} {x : Batch} {A_6 : Option Addr} {c_6 : Nat} (h : kBatch.T w F x [.int .i64 x.Base, .int .i64 x.Epoch, .int .i64 x.Producer, .int .i64 x.Turn, .int .i64 x.Seq, .int .i64 x.Flags, .slice A_6 x.Records.length c_6]) : (x.Records.length ≤ c_6 ∧ Row kRecord w A_6 x.Records) := by
  obtain ⟨v6, G6, he, _, hU6⟩ := Batch.opnT h
  simp only [List.cons.injEq, true_and, and_true] at he
  obtain rfl := he
  obtain ⟨A6', c6', e6, h16, _, h26⟩ := TS_read hU6
  simp only [Value.slice.injEq] at e6
  obtain ⟨rfl, _, rfl⟩ := e6
  exact ⟨h16, h26⟩
theorem made_Batch {w w' : World} {x : Batch} {e : Ending} (h : x.Made w e w') : ∃ A_6 c_6, ∃ F, e = .returned (.agg #[.int .i64 x.Base, .int .i64 x.Epoch, .int .i64 x.Producer, .int .i64 x.Turn, .int .i64 x.Seq, .int .i64 x.Flags, .slice A_6 x.Records.length c_6]) ∧ kBatch.T w' F x [.int .i64 x.Base, .int .i64 x.Epoch, .int .i64 x.Producer, .int .i64 x.Turn, .int .i64 x.Seq, .int .i64 x.Flags, .slice A_6 x.Records.length c_6] ∧ Fresh w F ∧ Below w.heap.size w w' := by
  obtain ⟨v6, F, rfl, hT, hF, hb⟩ := h
  obtain ⟨w6, G6, he, hG, hU6⟩ := Batch.opnT hT
  simp only [List.cons.injEq, true_and, and_true] at he
  obtain rfl := he
  obtain ⟨A6, c6, rfl, _⟩ := TS_read hU6
  exact ⟨A6, c6, F, rfl, hT, hF, hb⟩
theorem markT_Batch {w : World} {F : List Nat} {x : Batch} {A_6 : Option Addr} {c_6 : Nat} (h : kBatch.T w F x [.int .i64 x.Base, .int .i64 x.Epoch, .int .i64 x.Producer, .int .i64 x.Turn, .int .i64 x.Seq, .int .i64 x.Flags, .slice A_6 x.Records.length c_6]) (hF : F.Nodup) (hs : x.sm) (k : Int) (h0 : 0 ≤ k) (h1 : k + (x.cntV : Nat) ≤ 1000000000000000) :
    Calls Try.prog 32 #[.agg #[.int .i64 x.Base, .int .i64 x.Epoch, .int .i64 x.Producer, .int .i64 x.Turn, .int .i64 x.Seq, .int .i64 x.Flags, .slice A_6 x.Records.length c_6], .int .i64 k] w fun e w' => ∃ y : Batch, e = .returned (.int .i64 (k + (x.cntV : Nat))) ∧ y.mkV k (k + (x.cntV : Nat)) ∧ kBatch.T w' F y [.int .i64 x.Base, .int .i64 x.Epoch, .int .i64 x.Producer, .int .i64 x.Turn, .int .i64 x.Seq, .int .i64 x.Flags, .slice A_6 x.Records.length c_6] ∧ Upd F w w' := by
  obtain ⟨v6, G6, he, rfl, hU6⟩ := Batch.opnT h
  simp only [List.cons.injEq, true_and, and_true] at he
  obtain rfl := he
  exact markBatch_c w x hU6 hF hs k h0 h1
theorem made2_SeenS {w w' : World} {x : (List Seen)} {y1 : Int} {y2 : Int} {e : Ending} (h : ∃ v F, e = .returned (.tuple #[v, .int .i64 y1, .int .i64 y2]) ∧ TS kSeen 101 w' F x v ∧ Fresh w F ∧ Below w.heap.size w w') : ∃ A_0 c_0, ∃ F, e = .returned (.tuple #[.slice A_0 x.length c_0, .int .i64 y1, .int .i64 y2]) ∧ TS kSeen 101 w' F x (.slice A_0 x.length c_0) ∧ Fresh w F ∧ Below w.heap.size w w' := by
  obtain ⟨v, F, rfl, hT, hF, hb⟩ := h
  obtain ⟨A, c, rfl, _⟩ := TS_read hT
  exact ⟨A, c, F, rfl, hT, hF, hb⟩
set_option maxHeartbeats 8000000 in
theorem law_FnExactTake (w : World) (x0 : (List Seen)) (x1 : Batch) {A0_0 : Option Addr} {c0_0 : Nat} (l0_0 : x0.length ≤ c0_0) (g0_0 : Row kSeen w A0_0 x0) {A1_6 : Option Addr} {c1_6 : Nat} (l1_6 : x1.Records.length ≤ c1_6) (g1_6 : Row kRecord w A1_6 x1.Records) (hw0 : (wfList Seen.wf) x0) (hw1 : Batch.wf x1) :
    Calls Try.prog 6 #[.slice A0_0 x0.length c0_0, .agg #[.int .i64 x1.Base, .int .i64 x1.Epoch, .int .i64 x1.Producer, .int .i64 x1.Turn, .int .i64 x1.Seq, .int .i64 x1.Flags, .slice A1_6 x1.Records.length c1_6]] w fun e w' => e = .returned (.bool true) ∧ Below w.heap.size w w' := by
  have HW0 := Lib.hid hw0
  clear hw0
  have HW1 := Lib.hid hw1
  clear hw1
  generalize hy1 : takeC x0 x1 = y1
  have HY1 := Lib.hid hy1
  clear hy1
  generalize hy2 : takeO x0 x1 = y2
  have HY2 := Lib.hid hy2
  clear hy2
  generalize hy : takeL x0 x1 = y
  have HY := Lib.hid hy
  clear hy
  have Z0 : w.heap.size ≤ w.heap.size := Nat.le_refl _
  go_enter Try.func6, Try.ntmps6
  go_upto_region 1 with fail
  have HB : Hid (Below w.heap.size w w) := Lib.hid (Below.refl _ _)
  have hb1 := below_al w (.cells #[.int .i64 x1.Base, .int .i64 x1.Epoch, .int .i64 x1.Producer, .int .i64 x1.Turn, .int .i64 x1.Seq, .int .i64 x1.Flags, .slice A1_6 x1.Records.length c1_6] 43)
  have Xp1 := Box.new w #[.int .i64 x1.Base, .int .i64 x1.Epoch, .int .i64 x1.Producer, .int .i64 x1.Turn, .int .i64 x1.Seq, .int .i64 x1.Flags, .slice A1_6 x1.Records.length c1_6] 43
  generalize w.alloc (.cells #[.int .i64 x1.Base, .int .i64 x1.Epoch, .int .i64 x1.Producer, .int .i64 x1.Turn, .int .i64 x1.Seq, .int .i64 x1.Flags, .slice A1_6 x1.Records.length c1_6] 43) = wp1 at hb1 Xp1 ⊢
  have zs1 : w.heap.size < wp1.heap.size := Xp1.lt rfl
  replace HB := Lib.hid (below_tr HB.out hb1)
  have z1 := hb1.size
  have qp1_0 := Xp1 0 _ rfl
  have qp1_1 := Xp1 1 _ rfl
  have qp1_2 := Xp1 2 _ rfl
  have qp1_3 := Xp1 3 _ rfl
  have qp1_4 := Xp1 4 _ rfl
  have qp1_5 := Xp1 5 _ rfl
  have qp1_6 := Xp1 6 _ rfl
  have gbp1 := Xp1.lt rfl
  go_upto_region 2 with fail
  go_upto_region 5 with (go_at_call 23; refine (szSeenS_c _ _ _ x0 _ (Row_below g0_0 HB.out) l0_0 HW0.out (by omega) (by omega)).mono ?_; rintro e w2 ⟨r2, rfl, ra2, rb2, rs2, hb2⟩; have hs0 := Lib.hid rs2; clear rs2; replace Xp1 := Xp1.later hb2; replace qp1_0 := Xp1 0 _ rfl; replace qp1_1 := Xp1 1 _ rfl; replace qp1_2 := Xp1 2 _ rfl; replace qp1_3 := Xp1 3 _ rfl; replace qp1_4 := Xp1 4 _ rfl; replace qp1_5 := Xp1 5 _ rfl; replace qp1_6 := Xp1 6 _ rfl; replace gbp1 := Xp1.lt rfl; replace HB := Lib.hid (below_tr HB.out hb2); have z2 := hb2.size)
  all_goals first | (go_ret; exact ⟨rfl, HB.out⟩) | skip
  have T0 : szL Seen.sz x0 ≤ 1048576 := (by have := hs0.out (by omega); omega)
  have HT0 := Lib.hid T0
  have S0 : Hid ((x0.length ≤ 1048576 ∧ ∀ y ∈ x0, y.sm)) := Lib.hid (⟨Nat.le_trans (szL_len _ _) T0, fun y0 hy0 => Seen.sm_of (Nat.le_trans (szL_mem Seen.sz hy0) T0)⟩)
  clear T0
  go_upto_region 8 with (go_at_call 24; refine (szBatch_c _ x1 l1_6 (Row_below g1_6 HB.out) HW1.out _ (by omega) (by omega)).mono ?_; rintro e w3 ⟨r3, rfl, ra3, rb3, rs3, hb3⟩; have hs1 := Lib.hid rs3; clear rs3; replace Xp1 := Xp1.later hb3; replace qp1_0 := Xp1 0 _ rfl; replace qp1_1 := Xp1 1 _ rfl; replace qp1_2 := Xp1 2 _ rfl; replace qp1_3 := Xp1 3 _ rfl; replace qp1_4 := Xp1 4 _ rfl; replace qp1_5 := Xp1 5 _ rfl; replace qp1_6 := Xp1 6 _ rfl; replace gbp1 := Xp1.lt rfl; replace HB := Lib.hid (below_tr HB.out hb3); have z3 := hb3.size)
  all_goals first | (go_ret; exact ⟨rfl, HB.out⟩) | skip
  have T1 : x1.sz ≤ 1048576 := (by have := hs1.out (by omega); omega)
  have HT1 := Lib.hid T1
  have S1 : Hid (x1.sm) := Lib.hid (Batch.sm_of T1)
  clear T1
  have YS : Hid ((y.length ≤ 1048576 ∧ ∀ yy ∈ y, yy.sm)) := Lib.hid (by rw [← HY.out]; exact short_sm (takeL_short _ _))
  have YC : (sumF Seen.cnt y : Nat) ≤ 1000000000 := (by have h := short_cnt (takeL_short x0 x1); rw [HY.out] at h; exact h)
  have XC0 : (sumF Seen.cnt x0 : Nat) ≤ 1000000000 := (by have h := sumF_le Seen.cnt_le x0; have := HT0.out; omega)
  have XC1 : (x1.cntV : Nat) ≤ 1000000000 := (by have h := Batch.cntV_le x1; have := HT1.out; omega)
  go_cut [6, 7, 8] (fun z0 z1 z2 wx => ∃ (WA_0 : Option Addr) (Wc_0 : Nat), z0 = .slice WA_0 y.length Wc_0 ∧ z1 = .int .i64 y1 ∧ z2 = .int .i64 y2 ∧ Hid (y.length ≤ Wc_0) ∧ Hid (Row kSeen wx WA_0 y) ∧ Hid (Below w3.heap.size w3 wx))
  case first =>
    go_region_with (first | (go_at_call 26; first | (refine (toSeenS_c _ x0 l0_0 (Row_below g0_0 (HB.out.drew)) S0.out).mono ?_; intro e ua hmd; obtain ⟨saA_0, sac_0, Fsa, rfl, hTa, hFa, hba⟩ := made_SeenS hmd; clear hmd; have H1a := Lib.hid hba; have H2a := Lib.hid hTa; have va_0 := later hba qp1_0; have va_1 := later hba qp1_1; have va_2 := later hba qp1_2; have va_3 := later hba qp1_3; have va_4 := later hba qp1_4; have va_5 := later hba qp1_5; have va_6 := later hba qp1_6; clear hTa hFa hba) | (refine (toSeenS_c _ x0 l0_0 (Row_below g0_0 (below_tr HB.out.drew H1b.out)) S0.out).mono ?_; intro e ua hmd; obtain ⟨saA_0, sac_0, Fsa, rfl, hTa, hFa, hba⟩ := made_SeenS hmd; clear hmd; have H1a := Lib.hid hba; have H2a := Lib.hid hTa; have va_0 := later hba vb_0; have va_1 := later hba vb_1; have va_2 := later hba vb_2; have va_3 := later hba vb_3; have va_4 := later hba vb_4; have va_5 := later hba vb_5; have va_6 := later hba vb_6; clear hTa hFa hba)) | (go_at_call 27; first | (refine (toBatch_c _ x1 l1_6 (Row_below g1_6 (HB.out.drew)) S1.out).mono ?_; intro e ub hmd; obtain ⟨sbA_6, sbc_6, Fsb, rfl, hTb, hFb, hbb⟩ := made_Batch hmd; clear hmd; have H1b := Lib.hid hbb; have H2b := Lib.hid hTb; have vb_0 := later hbb qp1_0; have vb_1 := later hbb qp1_1; have vb_2 := later hbb qp1_2; have vb_3 := later hbb qp1_3; have vb_4 := later hbb qp1_4; have vb_5 := later hbb qp1_5; have vb_6 := later hbb qp1_6; clear hTb hFb hbb) | (refine (toBatch_c _ x1 l1_6 (Row_below g1_6 (below_tr HB.out.drew H1a.out)) S1.out).mono ?_; intro e ub hmd; obtain ⟨sbA_6, sbc_6, Fsb, rfl, hTb, hFb, hbb⟩ := made_Batch hmd; clear hmd; have H1b := Lib.hid hbb; have H2b := Lib.hid hTb; have vb_0 := later hbb va_0; have vb_1 := later hbb va_1; have vb_2 := later hbb va_2; have vb_3 := later hbb va_3; have vb_4 := later hbb va_4; have vb_5 := later hbb va_5; have vb_6 := later hbb va_6; clear hTb hFb hbb)) | (go_at_call 25; first | (refine (specTake_g _ x0 x1 (rowT_SeenS H2a.out).1 (Row_below (rowT_SeenS H2a.out).2 H1b.out) (rowT_Batch H2b.out).1 (rowT_Batch H2b.out).2 S0.out S1.out ).mono ?_; rw [HY.out, HY1.out, HY2.out]; rintro e u3 ⟨WA_0, Wc_0, rfl, wl_0, wr_0, hb3⟩; have hx := below_tr (Below.refl _ _).drew (below_tr (below_tr H1a.out H1b.out) hb3)) | (refine (specTake_g _ x0 x1 (rowT_SeenS H2a.out).1 (rowT_SeenS H2a.out).2 (rowT_Batch H2b.out).1 (Row_below (rowT_Batch H2b.out).2 H1a.out) S0.out S1.out ).mono ?_; rw [HY.out, HY1.out, HY2.out]; rintro e u3 ⟨WA_0, Wc_0, rfl, wl_0, wr_0, hb3⟩; have hx := below_tr (Below.refl _ _).drew (below_tr (below_tr H1b.out H1a.out) hb3))))
    all_goals (go_wp2; go_meet; exact ⟨WA_0, Wc_0, rfl, rfl, rfl, Lib.hid wl_0, Lib.hid wr_0, Lib.hid hx⟩)
  obtain ⟨WA_0, Wc_0, rfl, rfl, rfl, WL, WR, HX4⟩ := hcut
  have wl_0 := WL.out
  have wr_0 := WR.out
  have hb4 := HX4.out
  replace Xp1 := Xp1.later hb4
  replace qp1_0 := Xp1 0 _ rfl
  replace qp1_1 := Xp1 1 _ rfl
  replace qp1_2 := Xp1 2 _ rfl
  replace qp1_3 := Xp1 3 _ rfl
  replace qp1_4 := Xp1 4 _ rfl
  replace qp1_5 := Xp1 5 _ rfl
  replace qp1_6 := Xp1 6 _ rfl
  replace gbp1 := Xp1.lt rfl
  replace HB := Lib.hid (below_tr HB.out hb4)
  have z5 := hb4.size
  have HC : Hid (Below wc.heap.size wc wc) := Lib.hid (Below.refl _ _)
  go_upto_region 10 with (go_at_call 26; refine (toSeenS_c _ x0 l0_0 (Row_below g0_0 HB.out) S0.out).mono ?_; intro e w6 hmd; obtain ⟨x0A_0, x0c_0, Fx0, rfl, hTx0, hFx0, hb6⟩ := made_SeenS hmd; clear hmd; replace Xp1 := Xp1.later hb6; replace qp1_0 := Xp1 0 _ rfl; replace qp1_1 := Xp1 1 _ rfl; replace qp1_2 := Xp1 2 _ rfl; replace qp1_3 := Xp1 3 _ rfl; replace qp1_4 := Xp1 4 _ rfl; replace qp1_5 := Xp1 5 _ rfl; replace qp1_6 := Xp1 6 _ rfl; replace gbp1 := Xp1.lt rfl; replace HB := Lib.hid (below_tr HB.out hb6); replace HC := Lib.hid (below_tr HC.out hb6); have z6 := hb6.size; have Tx0 := Lib.hid hTx0; have NDx0 := Lib.hid hFx0.1; have Lx0 : Hid (∀ b ∈ Fx0, wc.heap.size ≤ b) := Lib.hid hFx0.2; have Ux0 : Hid (∀ b ∈ Fx0, b < w6.heap.size) := Lib.hid (TS_lt hTx0); clear hTx0 hFx0)
  go_upto_region 11 with (go_at_call 27; refine (toBatch_c _ x1 l1_6 (Row_below g1_6 HB.out) S1.out).mono ?_; intro e w7 hmd; obtain ⟨x1A_6, x1c_6, Fx1, rfl, hTx1, hFx1, hb7⟩ := made_Batch hmd; clear hmd; replace Xp1 := Xp1.later hb7; replace qp1_0 := Xp1 0 _ rfl; replace qp1_1 := Xp1 1 _ rfl; replace qp1_2 := Xp1 2 _ rfl; replace qp1_3 := Xp1 3 _ rfl; replace qp1_4 := Xp1 4 _ rfl; replace qp1_5 := Xp1 5 _ rfl; replace qp1_6 := Xp1 6 _ rfl; replace gbp1 := Xp1.lt rfl; replace Tx0 := Lib.hid (TS_below Tx0.out hb7); replace HB := Lib.hid (below_tr HB.out hb7); replace HC := Lib.hid (below_tr HC.out hb7); have z7 := hb7.size; have Tx1 := Lib.hid hTx1; have NDx1 := Lib.hid hFx1.1; have Lx1 : Hid (∀ b ∈ Fx1, w6.heap.size ≤ b) := Lib.hid hFx1.2; have Ux1 : Hid (∀ b ∈ Fx1, b < w7.heap.size) := Lib.hid (kBatch.T_lt hTx1); clear hTx1 hFx1)
  have hb8 := below_al w7 (.cells #[.int .i64 x1.Base, .int .i64 x1.Epoch, .int .i64 x1.Producer, .int .i64 x1.Turn, .int .i64 x1.Seq, .int .i64 x1.Flags, .slice x1A_6 x1.Records.length x1c_6] 52)
  have Xx1 := Box.new w7 #[.int .i64 x1.Base, .int .i64 x1.Epoch, .int .i64 x1.Producer, .int .i64 x1.Turn, .int .i64 x1.Seq, .int .i64 x1.Flags, .slice x1A_6 x1.Records.length x1c_6] 52
  generalize w7.alloc (.cells #[.int .i64 x1.Base, .int .i64 x1.Epoch, .int .i64 x1.Producer, .int .i64 x1.Turn, .int .i64 x1.Seq, .int .i64 x1.Flags, .slice x1A_6 x1.Records.length x1c_6] 52) = wbx1 at hb8 Xx1 ⊢
  have zs8 : w7.heap.size < wbx1.heap.size := Xx1.lt rfl
  replace Xp1 := Xp1.later hb8
  replace qp1_0 := Xp1 0 _ rfl
  replace qp1_1 := Xp1 1 _ rfl
  replace qp1_2 := Xp1 2 _ rfl
  replace qp1_3 := Xp1 3 _ rfl
  replace qp1_4 := Xp1 4 _ rfl
  replace qp1_5 := Xp1 5 _ rfl
  replace qp1_6 := Xp1 6 _ rfl
  replace gbp1 := Xp1.lt rfl
  replace Tx0 := Lib.hid (TS_below Tx0.out hb8)
  replace Tx1 := Lib.hid (Ki.T_below Tx1.out hb8)
  replace HB := Lib.hid (below_tr HB.out hb8)
  replace HC := Lib.hid (below_tr HC.out hb8)
  have z8 := hb8.size
  have qx1_0 := Xx1 0 _ rfl
  have qx1_1 := Xx1 1 _ rfl
  have qx1_2 := Xx1 2 _ rfl
  have qx1_3 := Xx1 3 _ rfl
  have qx1_4 := Xx1 4 _ rfl
  have qx1_5 := Xx1 5 _ rfl
  have qx1_6 := Xx1 6 _ rfl
  have gbx1 := Xx1.lt rfl
  go_upto_region 12 with (go_at_call 28; refine (implTake_m _ x0 x1 (rowT_SeenS Tx0.out).1 (rowT_SeenS Tx0.out).2 (rowT_Batch Tx1.out).1 (rowT_Batch Tx1.out).2 S0.out S1.out ).mono ?_; rw [HY.out, HY1.out, HY2.out]; intro e w9 hmd; obtain ⟨gA_0, gc_0, Fg, rfl, hTg, hFg, hb9⟩ := made2_SeenS hmd; clear hmd; replace Xp1 := Xp1.later hb9; replace qp1_0 := Xp1 0 _ rfl; replace qp1_1 := Xp1 1 _ rfl; replace qp1_2 := Xp1 2 _ rfl; replace qp1_3 := Xp1 3 _ rfl; replace qp1_4 := Xp1 4 _ rfl; replace qp1_5 := Xp1 5 _ rfl; replace qp1_6 := Xp1 6 _ rfl; replace gbp1 := Xp1.lt rfl; replace Xx1 := Xx1.later hb9; replace qx1_0 := Xx1 0 _ rfl; replace qx1_1 := Xx1 1 _ rfl; replace qx1_2 := Xx1 2 _ rfl; replace qx1_3 := Xx1 3 _ rfl; replace qx1_4 := Xx1 4 _ rfl; replace qx1_5 := Xx1 5 _ rfl; replace qx1_6 := Xx1 6 _ rfl; replace gbx1 := Xx1.lt rfl; replace Tx0 := Lib.hid (TS_below Tx0.out hb9); replace Tx1 := Lib.hid (Ki.T_below Tx1.out hb9); replace HB := Lib.hid (below_tr HB.out hb9); replace HC := Lib.hid (below_tr HC.out hb9); have z9 := hb9.size; have Tg := Lib.hid hTg; have NDg := Lib.hid hFg.1; have Lg : Hid (∀ b ∈ Fg, wbx1.heap.size ≤ b) := Lib.hid hFg.2; have Ug : Hid (∀ b ∈ Fg, b < w9.heap.size) := Lib.hid (TS_lt hTg); clear hTg hFg)
  go_upto_region 14 with (go_at_call 29; refine (eqSeenS_c _ y (rowT_SeenS Tg.out).1 (rowT_SeenS Tg.out).2 wl_0 (Row_below wr_0 HC.out) YS.out).mono ?_; rintro e w10 ⟨rfl, hb10⟩; replace Xp1 := Xp1.later hb10; replace qp1_0 := Xp1 0 _ rfl; replace qp1_1 := Xp1 1 _ rfl; replace qp1_2 := Xp1 2 _ rfl; replace qp1_3 := Xp1 3 _ rfl; replace qp1_4 := Xp1 4 _ rfl; replace qp1_5 := Xp1 5 _ rfl; replace qp1_6 := Xp1 6 _ rfl; replace gbp1 := Xp1.lt rfl; replace Xx1 := Xx1.later hb10; replace qx1_0 := Xx1 0 _ rfl; replace qx1_1 := Xx1 1 _ rfl; replace qx1_2 := Xx1 2 _ rfl; replace qx1_3 := Xx1 3 _ rfl; replace qx1_4 := Xx1 4 _ rfl; replace qx1_5 := Xx1 5 _ rfl; replace qx1_6 := Xx1 6 _ rfl; replace gbx1 := Xx1.lt rfl; replace Tx0 := Lib.hid (TS_below Tx0.out hb10); replace Tx1 := Lib.hid (Ki.T_below Tx1.out hb10); replace Tg := Lib.hid (TS_below Tg.out hb10); replace HB := Lib.hid (below_tr HB.out hb10); replace HC := Lib.hid (below_tr HC.out hb10); have z10 := hb10.size)
  go_upto_region 16 with (first | (go_at_call 26; refine (toSeenS_c _ x0 l0_0 (Row_below g0_0 HB.out) S0.out).mono ?_; intro e w11 hmd; obtain ⟨c0A_0, c0c_0, Fc0, rfl, hTc0, hFc0, hb11⟩ := made_SeenS hmd; clear hmd; replace Xp1 := Xp1.later hb11; replace qp1_0 := Xp1 0 _ rfl; replace qp1_1 := Xp1 1 _ rfl; replace qp1_2 := Xp1 2 _ rfl; replace qp1_3 := Xp1 3 _ rfl; replace qp1_4 := Xp1 4 _ rfl; replace qp1_5 := Xp1 5 _ rfl; replace qp1_6 := Xp1 6 _ rfl; replace gbp1 := Xp1.lt rfl; replace Xx1 := Xx1.later hb11; replace qx1_0 := Xx1 0 _ rfl; replace qx1_1 := Xx1 1 _ rfl; replace qx1_2 := Xx1 2 _ rfl; replace qx1_3 := Xx1 3 _ rfl; replace qx1_4 := Xx1 4 _ rfl; replace qx1_5 := Xx1 5 _ rfl; replace qx1_6 := Xx1 6 _ rfl; replace gbx1 := Xx1.lt rfl; replace Tx0 := Lib.hid (TS_below Tx0.out hb11); replace Tx1 := Lib.hid (Ki.T_below Tx1.out hb11); replace Tg := Lib.hid (TS_below Tg.out hb11); replace HB := Lib.hid (below_tr HB.out hb11); replace HC := Lib.hid (below_tr HC.out hb11); have z11 := hb11.size; have Tc0 := Lib.hid hTc0; have NDc0 := Lib.hid hFc0.1; have Lc0 : Hid (∀ b ∈ Fc0, w10.heap.size ≤ b) := Lib.hid hFc0.2; have Uc0 : Hid (∀ b ∈ Fc0, b < w11.heap.size) := Lib.hid (TS_lt hTc0); clear hTc0 hFc0) | (go_at_call 29; refine (eqSeenS_c _ x0 (rowT_SeenS Tx0.out).1 (rowT_SeenS Tx0.out).2 (rowT_SeenS Tc0.out).1 (rowT_SeenS Tc0.out).2 S0.out).mono ?_; rintro e w12 ⟨rfl, hb12⟩; replace Xp1 := Xp1.later hb12; replace qp1_0 := Xp1 0 _ rfl; replace qp1_1 := Xp1 1 _ rfl; replace qp1_2 := Xp1 2 _ rfl; replace qp1_3 := Xp1 3 _ rfl; replace qp1_4 := Xp1 4 _ rfl; replace qp1_5 := Xp1 5 _ rfl; replace qp1_6 := Xp1 6 _ rfl; replace gbp1 := Xp1.lt rfl; replace Xx1 := Xx1.later hb12; replace qx1_0 := Xx1 0 _ rfl; replace qx1_1 := Xx1 1 _ rfl; replace qx1_2 := Xx1 2 _ rfl; replace qx1_3 := Xx1 3 _ rfl; replace qx1_4 := Xx1 4 _ rfl; replace qx1_5 := Xx1 5 _ rfl; replace qx1_6 := Xx1 6 _ rfl; replace gbx1 := Xx1.lt rfl; replace Tx0 := Lib.hid (TS_below Tx0.out hb12); replace Tx1 := Lib.hid (Ki.T_below Tx1.out hb12); replace Tg := Lib.hid (TS_below Tg.out hb12); replace Tc0 := Lib.hid (TS_below Tc0.out hb12); replace HB := Lib.hid (below_tr HB.out hb12); replace HC := Lib.hid (below_tr HC.out hb12); have z12 := hb12.size))
  clear Tc0 Lc0 Uc0 NDc0
  have e0q := (⟨qp1_0, qp1_1, qp1_2, qp1_3, qp1_4, qp1_5, qp1_6, qx1_0, qx1_1, qx1_2, qx1_3, qx1_4, qx1_5, qx1_6⟩ : w12.cell? ⟨w.heap.size, 0, none⟩ = some (.int .i64 x1.Base) ∧ w12.cell? ⟨w.heap.size, 1, none⟩ = some (.int .i64 x1.Epoch) ∧ w12.cell? ⟨w.heap.size, 2, none⟩ = some (.int .i64 x1.Producer) ∧ w12.cell? ⟨w.heap.size, 3, none⟩ = some (.int .i64 x1.Turn) ∧ w12.cell? ⟨w.heap.size, 4, none⟩ = some (.int .i64 x1.Seq) ∧ w12.cell? ⟨w.heap.size, 5, none⟩ = some (.int .i64 x1.Flags) ∧ w12.cell? ⟨w.heap.size, 6, none⟩ = some (.slice A1_6 x1.Records.length c1_6) ∧ w12.cell? ⟨w7.heap.size, 0, none⟩ = some (.int .i64 x1.Base) ∧ w12.cell? ⟨w7.heap.size, 1, none⟩ = some (.int .i64 x1.Epoch) ∧ w12.cell? ⟨w7.heap.size, 2, none⟩ = some (.int .i64 x1.Producer) ∧ w12.cell? ⟨w7.heap.size, 3, none⟩ = some (.int .i64 x1.Turn) ∧ w12.cell? ⟨w7.heap.size, 4, none⟩ = some (.int .i64 x1.Seq) ∧ w12.cell? ⟨w7.heap.size, 5, none⟩ = some (.int .i64 x1.Flags) ∧ w12.cell? ⟨w7.heap.size, 6, none⟩ = some (.slice x1A_6 x1.Records.length x1c_6))
  go_region_held3 (fun W => W.cell? ⟨w.heap.size, 0, none⟩ = some (.int .i64 x1.Base) ∧ W.cell? ⟨w.heap.size, 1, none⟩ = some (.int .i64 x1.Epoch) ∧ W.cell? ⟨w.heap.size, 2, none⟩ = some (.int .i64 x1.Producer) ∧ W.cell? ⟨w.heap.size, 3, none⟩ = some (.int .i64 x1.Turn) ∧ W.cell? ⟨w.heap.size, 4, none⟩ = some (.int .i64 x1.Seq) ∧ W.cell? ⟨w.heap.size, 5, none⟩ = some (.int .i64 x1.Flags) ∧ W.cell? ⟨w.heap.size, 6, none⟩ = some (.slice A1_6 x1.Records.length c1_6) ∧ W.cell? ⟨w7.heap.size, 0, none⟩ = some (.int .i64 x1.Base) ∧ W.cell? ⟨w7.heap.size, 1, none⟩ = some (.int .i64 x1.Epoch) ∧ W.cell? ⟨w7.heap.size, 2, none⟩ = some (.int .i64 x1.Producer) ∧ W.cell? ⟨w7.heap.size, 3, none⟩ = some (.int .i64 x1.Turn) ∧ W.cell? ⟨w7.heap.size, 4, none⟩ = some (.int .i64 x1.Seq) ∧ W.cell? ⟨w7.heap.size, 5, none⟩ = some (.int .i64 x1.Flags) ∧ W.cell? ⟨w7.heap.size, 6, none⟩ = some (.slice x1A_6 x1.Records.length x1c_6)) (first | exact e0q | exact e1q | exact e2q) (first | (go_at_call 27; refine (toBatch_c _ x1 l1_6 (Row_below g1_6 HB.out.drew) S1.out).mono ?_; intro e w13 hmd; obtain ⟨c1A_6, c1c_6, Fc1, rfl, hTc1, hFc1, hb13⟩ := made_Batch hmd; clear hmd; have hc13 := below_tr ((Below.refl _ _).drew) hb13; have e1q := (⟨later hc13 qp1_0, later hc13 qp1_1, later hc13 qp1_2, later hc13 qp1_3, later hc13 qp1_4, later hc13 qp1_5, later hc13 qp1_6, later hc13 qx1_0, later hc13 qx1_1, later hc13 qx1_2, later hc13 qx1_3, later hc13 qx1_4, later hc13 qx1_5, later hc13 qx1_6⟩ : w13.cell? ⟨w.heap.size, 0, none⟩ = some (.int .i64 x1.Base) ∧ w13.cell? ⟨w.heap.size, 1, none⟩ = some (.int .i64 x1.Epoch) ∧ w13.cell? ⟨w.heap.size, 2, none⟩ = some (.int .i64 x1.Producer) ∧ w13.cell? ⟨w.heap.size, 3, none⟩ = some (.int .i64 x1.Turn) ∧ w13.cell? ⟨w.heap.size, 4, none⟩ = some (.int .i64 x1.Seq) ∧ w13.cell? ⟨w.heap.size, 5, none⟩ = some (.int .i64 x1.Flags) ∧ w13.cell? ⟨w.heap.size, 6, none⟩ = some (.slice A1_6 x1.Records.length c1_6) ∧ w13.cell? ⟨w7.heap.size, 0, none⟩ = some (.int .i64 x1.Base) ∧ w13.cell? ⟨w7.heap.size, 1, none⟩ = some (.int .i64 x1.Epoch) ∧ w13.cell? ⟨w7.heap.size, 2, none⟩ = some (.int .i64 x1.Producer) ∧ w13.cell? ⟨w7.heap.size, 3, none⟩ = some (.int .i64 x1.Turn) ∧ w13.cell? ⟨w7.heap.size, 4, none⟩ = some (.int .i64 x1.Seq) ∧ w13.cell? ⟨w7.heap.size, 5, none⟩ = some (.int .i64 x1.Flags) ∧ w13.cell? ⟨w7.heap.size, 6, none⟩ = some (.slice x1A_6 x1.Records.length x1c_6))) | (go_at_call 30; refine (eqBatch_c _ x1 (rowT_Batch Tx1.out).1 (Row_below (rowT_Batch Tx1.out).2 hc13) (rowT_Batch hTc1).1 (rowT_Batch hTc1).2 S1.out).mono ?_; rintro e w14 ⟨rfl, hb14⟩; have hc14 := below_tr hc13 hb14; have e2q := (⟨later hc14 qp1_0, later hc14 qp1_1, later hc14 qp1_2, later hc14 qp1_3, later hc14 qp1_4, later hc14 qp1_5, later hc14 qp1_6, later hc14 qx1_0, later hc14 qx1_1, later hc14 qx1_2, later hc14 qx1_3, later hc14 qx1_4, later hc14 qx1_5, later hc14 qx1_6⟩ : w14.cell? ⟨w.heap.size, 0, none⟩ = some (.int .i64 x1.Base) ∧ w14.cell? ⟨w.heap.size, 1, none⟩ = some (.int .i64 x1.Epoch) ∧ w14.cell? ⟨w.heap.size, 2, none⟩ = some (.int .i64 x1.Producer) ∧ w14.cell? ⟨w.heap.size, 3, none⟩ = some (.int .i64 x1.Turn) ∧ w14.cell? ⟨w.heap.size, 4, none⟩ = some (.int .i64 x1.Seq) ∧ w14.cell? ⟨w.heap.size, 5, none⟩ = some (.int .i64 x1.Flags) ∧ w14.cell? ⟨w.heap.size, 6, none⟩ = some (.slice A1_6 x1.Records.length c1_6) ∧ w14.cell? ⟨w7.heap.size, 0, none⟩ = some (.int .i64 x1.Base) ∧ w14.cell? ⟨w7.heap.size, 1, none⟩ = some (.int .i64 x1.Epoch) ∧ w14.cell? ⟨w7.heap.size, 2, none⟩ = some (.int .i64 x1.Producer) ∧ w14.cell? ⟨w7.heap.size, 3, none⟩ = some (.int .i64 x1.Turn) ∧ w14.cell? ⟨w7.heap.size, 4, none⟩ = some (.int .i64 x1.Seq) ∧ w14.cell? ⟨w7.heap.size, 5, none⟩ = some (.int .i64 x1.Flags) ∧ w14.cell? ⟨w7.heap.size, 6, none⟩ = some (.slice x1A_6 x1.Records.length x1c_6))))
  replace Xp1 := Xp1.later hc14
  replace qp1_0 := Xp1 0 _ rfl
  replace qp1_1 := Xp1 1 _ rfl
  replace qp1_2 := Xp1 2 _ rfl
  replace qp1_3 := Xp1 3 _ rfl
  replace qp1_4 := Xp1 4 _ rfl
  replace qp1_5 := Xp1 5 _ rfl
  replace qp1_6 := Xp1 6 _ rfl
  replace gbp1 := Xp1.lt rfl
  replace Xx1 := Xx1.later hc14
  replace qx1_0 := Xx1 0 _ rfl
  replace qx1_1 := Xx1 1 _ rfl
  replace qx1_2 := Xx1 2 _ rfl
  replace qx1_3 := Xx1 3 _ rfl
  replace qx1_4 := Xx1 4 _ rfl
  replace qx1_5 := Xx1 5 _ rfl
  replace qx1_6 := Xx1 6 _ rfl
  replace gbx1 := Xx1.lt rfl
  replace Tx0 := Lib.hid (TS_below Tx0.out hc14)
  replace Tx1 := Lib.hid (Ki.T_below Tx1.out hc14)
  replace Tg := Lib.hid (TS_below Tg.out hc14)
  replace HB := Lib.hid (below_tr HB.out hc14)
  replace HC := Lib.hid (below_tr HC.out hc14)
  have z14 := hc14.size
  clear e0q e1q e2q
  go_upto_region 19 with fail
  go_upto_region 20 with (go_at_call 31; refine (markT_SeenS Tx0.out NDx0.out S0.out _ (by omega) (by omega)).mono ?_; rintro e w15 ⟨m0, rfl, _, _, hup15⟩; replace Xp1 := Box.upd Xp1 hup15 (fun hh => by have h1 := Lx0.out _ hh; have h2 := Ux0.out _ hh; omega); replace qp1_0 := Xp1 0 _ rfl; replace qp1_1 := Xp1 1 _ rfl; replace qp1_2 := Xp1 2 _ rfl; replace qp1_3 := Xp1 3 _ rfl; replace qp1_4 := Xp1 4 _ rfl; replace qp1_5 := Xp1 5 _ rfl; replace qp1_6 := Xp1 6 _ rfl; replace gbp1 := Xp1.lt rfl; replace Xx1 := Box.upd Xx1 hup15 (fun hh => by have h1 := Lx0.out _ hh; have h2 := Ux0.out _ hh; omega); replace qx1_0 := Xx1 0 _ rfl; replace qx1_1 := Xx1 1 _ rfl; replace qx1_2 := Xx1 2 _ rfl; replace qx1_3 := Xx1 3 _ rfl; replace qx1_4 := Xx1 4 _ rfl; replace qx1_5 := Xx1 5 _ rfl; replace qx1_6 := Xx1 6 _ rfl; replace gbx1 := Xx1.lt rfl; replace Tx1 := Lib.hid (Ki.T_upd Tx1.out hup15 (fun b hb hh => by have h1 := Lx1.out _ hb; have h2 := Ux1.out _ hb; have h3 := Lx0.out _ hh; have h4 := Ux0.out _ hh; omega)); replace Tg := Lib.hid (TS_upd Tg.out hup15 (fun b hb hh => by have h1 := Lg.out _ hb; have h2 := Ug.out _ hb; have h3 := Lx0.out _ hh; have h4 := Ux0.out _ hh; omega)); have z15 := hup15.size; replace HB := Lib.hid (HB.out.trans (Upd.below hup15 (fun b hb => by have h1 := Lx0.out _ hb; omega) (by omega))); replace HC := Lib.hid (HC.out.trans (Upd.below hup15 (fun b hb => by have h1 := Lx0.out _ hb; omega) (by omega))); clear hup15)
  generalize hk0 : (1 : Int) + ((sumF Seen.cnt x0 : Nat) : Int) = k0
  have ka0 : 0 ≤ k0 := by omega
  have kb0 : k0 ≤ 1000000001 * 1 := by omega
  clear hk0
  go_upto_region 21 with (go_at_call 32; refine (markT_Batch Tx1.out NDx1.out S1.out _ (by omega) (by omega)).mono ?_; rintro e w16 ⟨m1, rfl, _, _, hup16⟩; replace Xp1 := Box.upd Xp1 hup16 (fun hh => by have h1 := Lx1.out _ hh; have h2 := Ux1.out _ hh; omega); replace qp1_0 := Xp1 0 _ rfl; replace qp1_1 := Xp1 1 _ rfl; replace qp1_2 := Xp1 2 _ rfl; replace qp1_3 := Xp1 3 _ rfl; replace qp1_4 := Xp1 4 _ rfl; replace qp1_5 := Xp1 5 _ rfl; replace qp1_6 := Xp1 6 _ rfl; replace gbp1 := Xp1.lt rfl; replace Xx1 := Box.upd Xx1 hup16 (fun hh => by have h1 := Lx1.out _ hh; have h2 := Ux1.out _ hh; omega); replace qx1_0 := Xx1 0 _ rfl; replace qx1_1 := Xx1 1 _ rfl; replace qx1_2 := Xx1 2 _ rfl; replace qx1_3 := Xx1 3 _ rfl; replace qx1_4 := Xx1 4 _ rfl; replace qx1_5 := Xx1 5 _ rfl; replace qx1_6 := Xx1 6 _ rfl; replace gbx1 := Xx1.lt rfl; replace Tg := Lib.hid (TS_upd Tg.out hup16 (fun b hb hh => by have h1 := Lg.out _ hb; have h2 := Ug.out _ hb; have h3 := Lx1.out _ hh; have h4 := Ux1.out _ hh; omega)); have z16 := hup16.size; replace HB := Lib.hid (HB.out.trans (Upd.below hup16 (fun b hb => by have h1 := Lx1.out _ hb; omega) (by omega))); replace HC := Lib.hid (HC.out.trans (Upd.below hup16 (fun b hb => by have h1 := Lx1.out _ hb; omega) (by omega))); clear hup16)
  generalize hk1 : k0 + ((x1.cntV : Nat) : Int) = k1
  have ka1 : 0 ≤ k1 := by omega
  have kb1 : k1 ≤ 1000000001 * 2 := by omega
  clear hk1
  go_upto_region 24 with (go_at_call 29; refine (eqSeenS_c _ y (rowT_SeenS Tg.out).1 (rowT_SeenS Tg.out).2 wl_0 (Row_below wr_0 HC.out) YS.out).mono ?_; rintro e w17 ⟨rfl, hb17⟩; replace Xp1 := Xp1.later hb17; replace qp1_0 := Xp1 0 _ rfl; replace qp1_1 := Xp1 1 _ rfl; replace qp1_2 := Xp1 2 _ rfl; replace qp1_3 := Xp1 3 _ rfl; replace qp1_4 := Xp1 4 _ rfl; replace qp1_5 := Xp1 5 _ rfl; replace qp1_6 := Xp1 6 _ rfl; replace gbp1 := Xp1.lt rfl; replace Xx1 := Xx1.later hb17; replace qx1_0 := Xx1 0 _ rfl; replace qx1_1 := Xx1 1 _ rfl; replace qx1_2 := Xx1 2 _ rfl; replace qx1_3 := Xx1 3 _ rfl; replace qx1_4 := Xx1 4 _ rfl; replace qx1_5 := Xx1 5 _ rfl; replace qx1_6 := Xx1 6 _ rfl; replace gbx1 := Xx1.lt rfl; replace Tg := Lib.hid (TS_below Tg.out hb17); replace HB := Lib.hid (below_tr HB.out hb17); replace HC := Lib.hid (below_tr HC.out hb17); have z17 := hb17.size)
  go_upto_region 26 with (go_at_call 31; refine (markT_SeenS Tg.out NDg.out YS.out _ (by omega) (by omega)).mono ?_; rintro e w18 ⟨yy, rfl, hMM, hTM, hup18⟩; replace Xp1 := Box.upd Xp1 hup18 (fun hh => by have h1 := Lg.out _ hh; have h2 := Ug.out _ hh; omega); replace qp1_0 := Xp1 0 _ rfl; replace qp1_1 := Xp1 1 _ rfl; replace qp1_2 := Xp1 2 _ rfl; replace qp1_3 := Xp1 3 _ rfl; replace qp1_4 := Xp1 4 _ rfl; replace qp1_5 := Xp1 5 _ rfl; replace qp1_6 := Xp1 6 _ rfl; replace gbp1 := Xp1.lt rfl; replace Xx1 := Box.upd Xx1 hup18 (fun hh => by have h1 := Lg.out _ hh; have h2 := Ug.out _ hh; omega); replace qx1_0 := Xx1 0 _ rfl; replace qx1_1 := Xx1 1 _ rfl; replace qx1_2 := Xx1 2 _ rfl; replace qx1_3 := Xx1 3 _ rfl; replace qx1_4 := Xx1 4 _ rfl; replace qx1_5 := Xx1 5 _ rfl; replace qx1_6 := Xx1 6 _ rfl; replace gbx1 := Xx1.lt rfl; have z18 := hup18.size; replace HB := Lib.hid (HB.out.trans (Upd.below hup18 (fun b hb => by have h1 := Lg.out _ hb; omega) (by omega))); replace HC := Lib.hid (HC.out.trans (Upd.below hup18 (fun b hb => by have h1 := Lg.out _ hb; omega) (by omega))); clear hup18)
  generalize hkm : (1 : Int) + ((sumF Seen.cnt y : Nat) : Int) = km at hMM ⊢
  have kma : 0 ≤ km := by omega
  have kmb : km ≤ 1000000001 := by omega
  clear hkm
  have HM := Lib.hid hMM
  replace Tg := Lib.hid hTM
  clear hMM hTM
  go_upto_region 31 with (go_at_call 33; refine (heldT_SeenS Tg.out _ _ HM.out (by omega) (by omega)).mono ?_; rintro e w19 ⟨rfl, hb19⟩; replace Xp1 := Xp1.later hb19; replace qp1_0 := Xp1 0 _ rfl; replace qp1_1 := Xp1 1 _ rfl; replace qp1_2 := Xp1 2 _ rfl; replace qp1_3 := Xp1 3 _ rfl; replace qp1_4 := Xp1 4 _ rfl; replace qp1_5 := Xp1 5 _ rfl; replace qp1_6 := Xp1 6 _ rfl; replace gbp1 := Xp1.lt rfl; replace Xx1 := Xx1.later hb19; replace qx1_0 := Xx1 0 _ rfl; replace qx1_1 := Xx1 1 _ rfl; replace qx1_2 := Xx1 2 _ rfl; replace qx1_3 := Xx1 3 _ rfl; replace qx1_4 := Xx1 4 _ rfl; replace qx1_5 := Xx1 5 _ rfl; replace qx1_6 := Xx1 6 _ rfl; replace gbx1 := Xx1.lt rfl; replace Tg := Lib.hid (TS_below Tg.out hb19); replace HB := Lib.hid (below_tr HB.out hb19); replace HC := Lib.hid (below_tr HC.out hb19); have z19 := hb19.size)
  go_cut [17, 18, 19] (fun z0 z1 z2 wx => ∃ (hA_0 : Option Addr) (hc_0 : Nat) (Fh : List Nat), z0 = .slice hA_0 y.length hc_0 ∧ z1 = .int .i64 y1 ∧ z2 = .int .i64 y2 ∧ Hid (TS kSeen 101 wx Fh y (.slice hA_0 y.length hc_0)) ∧ Hid (Fh.Nodup) ∧ Hid (∀ b ∈ Fh, w19.heap.size ≤ b) ∧ Hid (Below w19.heap.size w19 wx))
  case first =>
    go_region_with (first | (go_at_call 26; first | (refine (toSeenS_c _ x0 l0_0 (Row_below g0_0 (HB.out.drew)) S0.out).mono ?_; intro e ua hmd; obtain ⟨taA_0, tac_0, Fta, rfl, hTa, hFa, hba⟩ := made_SeenS hmd; clear hmd; have H1a := Lib.hid hba; have H2a := Lib.hid hTa; have va_0 := later hba qp1_0; have va_1 := later hba qp1_1; have va_2 := later hba qp1_2; have va_3 := later hba qp1_3; have va_4 := later hba qp1_4; have va_5 := later hba qp1_5; have va_6 := later hba qp1_6; have va_7 := later hba qx1_0; have va_8 := later hba qx1_1; have va_9 := later hba qx1_2; have va_10 := later hba qx1_3; have va_11 := later hba qx1_4; have va_12 := later hba qx1_5; have va_13 := later hba qx1_6; clear hTa hFa hba) | (refine (toSeenS_c _ x0 l0_0 (Row_below g0_0 (below_tr HB.out.drew H1b.out)) S0.out).mono ?_; intro e ua hmd; obtain ⟨taA_0, tac_0, Fta, rfl, hTa, hFa, hba⟩ := made_SeenS hmd; clear hmd; have H1a := Lib.hid hba; have H2a := Lib.hid hTa; have va_0 := later hba vb_0; have va_1 := later hba vb_1; have va_2 := later hba vb_2; have va_3 := later hba vb_3; have va_4 := later hba vb_4; have va_5 := later hba vb_5; have va_6 := later hba vb_6; have va_7 := later hba vb_7; have va_8 := later hba vb_8; have va_9 := later hba vb_9; have va_10 := later hba vb_10; have va_11 := later hba vb_11; have va_12 := later hba vb_12; have va_13 := later hba vb_13; clear hTa hFa hba)) | (go_at_call 27; first | (refine (toBatch_c _ x1 l1_6 (Row_below g1_6 (HB.out.drew)) S1.out).mono ?_; intro e ub hmd; obtain ⟨tbA_6, tbc_6, Ftb, rfl, hTb, hFb, hbb⟩ := made_Batch hmd; clear hmd; have H1b := Lib.hid hbb; have H2b := Lib.hid hTb; have vb_0 := later hbb qp1_0; have vb_1 := later hbb qp1_1; have vb_2 := later hbb qp1_2; have vb_3 := later hbb qp1_3; have vb_4 := later hbb qp1_4; have vb_5 := later hbb qp1_5; have vb_6 := later hbb qp1_6; have vb_7 := later hbb qx1_0; have vb_8 := later hbb qx1_1; have vb_9 := later hbb qx1_2; have vb_10 := later hbb qx1_3; have vb_11 := later hbb qx1_4; have vb_12 := later hbb qx1_5; have vb_13 := later hbb qx1_6; clear hTb hFb hbb) | (refine (toBatch_c _ x1 l1_6 (Row_below g1_6 (below_tr HB.out.drew H1a.out)) S1.out).mono ?_; intro e ub hmd; obtain ⟨tbA_6, tbc_6, Ftb, rfl, hTb, hFb, hbb⟩ := made_Batch hmd; clear hmd; have H1b := Lib.hid hbb; have H2b := Lib.hid hTb; have vb_0 := later hbb va_0; have vb_1 := later hbb va_1; have vb_2 := later hbb va_2; have vb_3 := later hbb va_3; have vb_4 := later hbb va_4; have vb_5 := later hbb va_5; have vb_6 := later hbb va_6; have vb_7 := later hbb va_7; have vb_8 := later hbb va_8; have vb_9 := later hbb va_9; have vb_10 := later hbb va_10; have vb_11 := later hbb va_11; have vb_12 := later hbb va_12; have vb_13 := later hbb va_13; clear hTb hFb hbb)) | (go_at_call 28; first | (refine (implTake_m _ x0 x1 (rowT_SeenS H2a.out).1 (Row_below (rowT_SeenS H2a.out).2 H1b.out) (rowT_Batch H2b.out).1 (rowT_Batch H2b.out).2 S0.out S1.out ).mono ?_; rw [HY.out, HY1.out, HY2.out]; intro e u3 hmd; obtain ⟨hA_0, hc_0, Fh, rfl, hTh, hFh, hb3⟩ := made2_SeenS hmd; clear hmd; have hx := below_tr (Below.refl _ _).drew (below_tr (below_tr H1a.out H1b.out) hb3)) | (refine (implTake_m _ x0 x1 (rowT_SeenS H2a.out).1 (rowT_SeenS H2a.out).2 (rowT_Batch H2b.out).1 (Row_below (rowT_Batch H2b.out).2 H1a.out) S0.out S1.out ).mono ?_; rw [HY.out, HY1.out, HY2.out]; intro e u3 hmd; obtain ⟨hA_0, hc_0, Fh, rfl, hTh, hFh, hb3⟩ := made2_SeenS hmd; clear hmd; have hx := below_tr (Below.refl _ _).drew (below_tr (below_tr H1b.out H1a.out) hb3))))
    all_goals (go_wp2; go_meet; exact ⟨hA_0, hc_0, Fh, rfl, rfl, rfl, Lib.hid hTh, Lib.hid hFh.1, Lib.hid (fun b hb => by have h1 := hFh.2 b hb; have h2 := (by first | exact (below_tr H1a.out H1b.out).size | exact (below_tr H1b.out H1a.out).size : _ ≤ _); simp at h2; omega), Lib.hid hx⟩)
  obtain ⟨hA_0, hc_0, Fh, rfl, rfl, rfl, Th, NDh0, Lh, HX20⟩ := hcut
  have NDh := NDh0
  have hb20 := HX20.out
  replace Xp1 := Xp1.later hb20
  replace qp1_0 := Xp1 0 _ rfl
  replace qp1_1 := Xp1 1 _ rfl
  replace qp1_2 := Xp1 2 _ rfl
  replace qp1_3 := Xp1 3 _ rfl
  replace qp1_4 := Xp1 4 _ rfl
  replace qp1_5 := Xp1 5 _ rfl
  replace qp1_6 := Xp1 6 _ rfl
  replace gbp1 := Xp1.lt rfl
  replace Xx1 := Xx1.later hb20
  replace qx1_0 := Xx1 0 _ rfl
  replace qx1_1 := Xx1 1 _ rfl
  replace qx1_2 := Xx1 2 _ rfl
  replace qx1_3 := Xx1 3 _ rfl
  replace qx1_4 := Xx1 4 _ rfl
  replace qx1_5 := Xx1 5 _ rfl
  replace qx1_6 := Xx1 6 _ rfl
  replace gbx1 := Xx1.lt rfl
  replace Tg := Lib.hid (TS_below Tg.out hb20)
  replace HB := Lib.hid (below_tr HB.out hb20)
  replace HC := Lib.hid (below_tr HC.out hb20)
  have z21 := hb20.size
  have Uh : Hid (∀ b ∈ Fh, b < wc.heap.size) := Lib.hid (TS_lt Th.out)
  go_upto_region 35 with (go_at_call 29; refine (eqSeenS_c _ y (rowT_SeenS Th.out).1 (rowT_SeenS Th.out).2 wl_0 (Row_below wr_0 HC.out) YS.out).mono ?_; rintro e w22 ⟨rfl, hb22⟩; replace Xp1 := Xp1.later hb22; replace qp1_0 := Xp1 0 _ rfl; replace qp1_1 := Xp1 1 _ rfl; replace qp1_2 := Xp1 2 _ rfl; replace qp1_3 := Xp1 3 _ rfl; replace qp1_4 := Xp1 4 _ rfl; replace qp1_5 := Xp1 5 _ rfl; replace qp1_6 := Xp1 6 _ rfl; replace gbp1 := Xp1.lt rfl; replace Xx1 := Xx1.later hb22; replace qx1_0 := Xx1 0 _ rfl; replace qx1_1 := Xx1 1 _ rfl; replace qx1_2 := Xx1 2 _ rfl; replace qx1_3 := Xx1 3 _ rfl; replace qx1_4 := Xx1 4 _ rfl; replace qx1_5 := Xx1 5 _ rfl; replace qx1_6 := Xx1 6 _ rfl; replace gbx1 := Xx1.lt rfl; replace Tg := Lib.hid (TS_below Tg.out hb22); replace Th := Lib.hid (TS_below Th.out hb22); replace HB := Lib.hid (below_tr HB.out hb22); replace HC := Lib.hid (below_tr HC.out hb22); have z22 := hb22.size)
  go_wp2_with (go_at_call 33; refine (heldT_SeenS Tg.out _ _ HM.out (by omega) (by omega)).mono ?_; rintro e w23 ⟨rfl, hb23⟩; replace Xp1 := Xp1.later hb23; replace qp1_0 := Xp1 0 _ rfl; replace qp1_1 := Xp1 1 _ rfl; replace qp1_2 := Xp1 2 _ rfl; replace qp1_3 := Xp1 3 _ rfl; replace qp1_4 := Xp1 4 _ rfl; replace qp1_5 := Xp1 5 _ rfl; replace qp1_6 := Xp1 6 _ rfl; replace gbp1 := Xp1.lt rfl; replace Xx1 := Xx1.later hb23; replace qx1_0 := Xx1 0 _ rfl; replace qx1_1 := Xx1 1 _ rfl; replace qx1_2 := Xx1 2 _ rfl; replace qx1_3 := Xx1 3 _ rfl; replace qx1_4 := Xx1 4 _ rfl; replace qx1_5 := Xx1 5 _ rfl; replace qx1_6 := Xx1 6 _ rfl; replace gbx1 := Xx1.lt rfl; replace Tg := Lib.hid (TS_below Tg.out hb23); replace Th := Lib.hid (TS_below Th.out hb23); replace HB := Lib.hid (below_tr HB.out hb23); replace HC := Lib.hid (below_tr HC.out hb23); have z23 := hb23.size)
  go_ret
  exact ⟨rfl, HB.out⟩
end Go.Proofs.Ytipemgjgimpmbaa.H
