/-
The program's CutFrom. Conditions: each contract's own premises.
-/
import Derived.Test.YtipemgjgimpmbaaHMv
import Derived.Test.YtipemgjgimpmbaaHCutP
import Derived.Test.YtipemgjgimpmbaaHLog1
import Derived.Test.YtipemgjgimpmbaaHBatch2
namespace Go.Proofs.Ytipemgjgimpmbaa.H
open Go.RowKit
set_option linter.unusedVariables false
set_option linter.unusedSimpArgs false
set_option maxRecDepth 100000
set_option maxHeartbeats 4000000 in
theorem inLog_c (w : World) (x : Log) (tt : Int) {A3 : Option Addr} {c3 : Nat} (l3 : x.Segments.length ≤ c3) (g3 : Row kSegment w A3 x.Segments) (hs : x.sm) :
    Calls Try.prog 53 #[.agg #[.int .i64 x.Start, .int .i64 x.Next, .int .i64 x.Roll, .slice A3 x.Segments.length c3], .int .i64 tt] w fun e w' => e = .returned (.bool (logOk x && inB tt x.Start x.Next)) ∧ Below w.heap.size w w' := by
  have HS := Lib.hid hs
  clear hs
  generalize hok : logOk x = ok
  have Hok := Lib.hid hok
  clear hok
  go_enter Try.func53, Try.ntmps53
  cases ok
  all_goals
    go_wp2_with (go_at_call 46; refine (implLogOk_c _ x l3 (Row_below g3 (below_al _ _)) HS.out).mono ?_; rintro e w1 ⟨rfl, hb1⟩; rw [Hok.out]; have X := (Box.new w _ _).later hb1; have z0 := X 0 _ rfl; have z1 := X 1 _ rfl; clear X)
    all_goals (go_ret; exact ⟨ret_bool (by simp [inB]; try omega), below_tr (below_al _ _) hb1⟩)
/-- The answer: a log of the call's own, and whether it was asked for rightly. -/
def MadeLB (x : Log) (ok : Bool) (w : World) (en : Ending) (w' : World) : Prop := ∃ v F, en = .returned (.tuple #[.agg #[.int .i64 x.Start, .int .i64 x.Next, .int .i64 x.Roll, v], .bool ok]) ∧ kLog.T w' F x [.int .i64 x.Start, .int .i64 x.Next, .int .i64 x.Roll, v] ∧ Fresh w F ∧ Below w.heap.size w w'
theorem lb_made {w w' : World} {x : Log} {ok : Bool} {v : Value} (hO : OwnT kSegment 83 w.heap.size w' x.Segments v) (hb : Below w.heap.size w w') : MadeLB x ok w (.returned (.tuple #[.agg #[.int .i64 x.Start, .int .i64 x.Next, .int .i64 x.Roll, v], .bool ok])) w' := by
  obtain ⟨F, hT, hF⟩ := hO.fresh
  exact ⟨v, F, rfl, Log.mkT w' x hT, hF, hb⟩
set_option maxHeartbeats 8000000 in
theorem implCutFrom_c (w : World) (x : Log) (start : Int) {A : Option Addr} {c : Nat} (hc : x.Segments.length ≤ c) (hr : Row kSegment w A x.Segments) (hs : x.sm) :
    Calls Try.prog 22 #[.agg #[.int .i64 x.Start, .int .i64 x.Next, .int .i64 x.Roll, .slice A x.Segments.length c], .int .i64 start] w (MadeLB (cutFromL x start) (cutOk x start) w) := by
  have HS := Lib.hid hs
  clear hs
  have hu := Try.underlying83
  have hu2 := Try.underlying28
  have hu3 := Try.underlying30
  have hu4 := Try.underlying52
  have hu5 := Try.underlying70
  generalize hok : cutOk x start = ok
  have Hok := Lib.hid hok
  have B1 := (Blk.new w #[.int .i64 x.Start, .int .i64 x.Next, .int .i64 x.Roll, .slice A x.Segments.length c] 30).below (below_al _ (.cells #[.int .i64 0, .int .i64 0, .int .i64 0, .slice none 0 0] 30))
  have B2 := Blk.new (w.alloc (.cells #[.int .i64 x.Start, .int .i64 x.Next, .int .i64 x.Roll, .slice A x.Segments.length c] 30)) #[.int .i64 0, .int .i64 0, .int .i64 0, .slice none 0 0] 30
  have hb := below_tr (below_al w (.cells #[.int .i64 x.Start, .int .i64 x.Next, .int .i64 x.Roll, .slice A x.Segments.length c] 30)) (below_al _ (.cells #[.int .i64 0, .int .i64 0, .int .i64 0, .slice none 0 0] 30))
  rw [size_al] at B2
  go_enter Try.func22, Try.ntmps22
  go_upto_region 1 with fail
  generalize (w.alloc (.cells #[.int .i64 x.Start, .int .i64 x.Next, .int .i64 x.Roll, .slice A x.Segments.length c] 30)).alloc (.cells #[.int .i64 0, .int .i64 0, .int .i64 0, .slice none 0 0] 30) = W1 at B1 B2 hb ⊢
  have a0 := B1.cell 0 _ rfl
  have a1 := B1.cell 1 _ rfl
  have a2 := B1.cell 2 _ rfl
  have a3 := B1.cell 3 _ rfl
  have HR1 := Lib.hid (Row_below hr hb)
  have hsz := hb.size
  have HB1 := Lib.hid B1
  have HB2 := Lib.hid B2
  have g2 := B2.lt
  have Hh := Lib.hid hb
  clear B1 B2
  cases ok with
  | false =>
    have HL : Hid (cutFromL x start = zLog) := Lib.hid (by unfold cutFromL; rw [hok]; rfl)
    clear hok
    go_upto_region 2 with (go_at_call 53; refine (inLog_c _ x start hc HR1.out HS.out).mono ?_; rintro e W2 ⟨rfl, hb2⟩; rw [show (logOk x && inB start x.Start x.Next) = false from Hok.out])
    have C2 := HB2.out.below hb2
    have e0 := C2.cell 0 _ rfl
    have e1 := C2.cell 1 _ rfl
    have e2 := C2.cell 2 _ rfl
    have e3 := C2.cell 3 _ rfl
    have f0 := C2.frz 0
    have f1 := C2.frz 1
    have f2 := C2.frz 2
    have f3 := C2.frz 3
    have g3 := C2.lt
    have hbw := below_tr hb hb2
    go_wp2
    refine bodyPost_ret (v := .tuple #[.agg #[.int .i64 0, .int .i64 0, .int .i64 0, .slice none 0 0], .bool false]) (by simp [results, Try.results22, go_sem, e0, e1, e2, e3]) rfl ?_
    rw [HL.out]
    refine lb_made (x := zLog) OwnT.nil ?_
    repeat (first | with_reducible exact Below.refl _ _ | with_reducible assumption | ((with_reducible refine Below.setCell ?_ ?_ _); rotate_left; (simp <;> omega)) | ((with_reducible refine Below.alloc ?_ ?_ _); rotate_left; (simp <;> omega)))
  | true =>
    have HL : Hid (cutFromL x start = ⟨start, x.Next, x.Roll, cutF start x.Segments⟩) := Lib.hid (by unfold cutFromL; rw [hok]; rfl)
    have hlo : logOk x = true := by unfold cutOk at hok; simp at hok; exact hok.1
    have HUP := Lib.hid (logOk_up hlo)
    have HAL := Lib.hid (logOk_all hlo).2
    clear hok hlo
    go_upto_region 3 with (go_at_call 53; refine (inLog_c _ x start hc HR1.out HS.out).mono ?_; rintro e W2 ⟨rfl, hb2⟩; rw [show (logOk x && inB start x.Start x.Next) = true from Hok.out])
    have C1 := HB1.out.below hb2
    have C2 := Lib.hid (HB2.out.below hb2)
    have c0 := C1.cell 0 _ rfl
    have c1 := C1.cell 1 _ rfl
    have c2 := C1.cell 2 _ rfl
    have c3 := C1.cell 3 _ rfl
    have HR2 := Lib.hid (Row_below HR1.out hb2)
    have Hh2 := Lib.hid (below_tr hb hb2)
    have hsz2 := hb2.size
    clear a0 a1 a2 a3 hb2 hb HB1 HB2 HR1 Hh
    have HC1 := Lib.hid C1
    clear C1
    go_upto_region 4 with (go_at_call 54; refine (implCopyLog_c _ x hc HR2.out HS.out).mono ?_; rintro e W3 ⟨v, F0, rfl, hT, hF, hb3⟩; obtain ⟨v3, F3, he, e9, hT3⟩ := Log.opnT hT; simp only [List.cons.injEq, true_and, and_true] at he; subst he; subst e9; clear hT; obtain ⟨A0, q0, e9, _⟩ := TS_read hT3; subst e9; have D1 := HC1.out.below hb3; have f0 := D1.frz 0; have f1 := D1.frz 1; have f2 := D1.frz 2; have f3 := D1.frz 3; have d0 := D1.cell 0 _ rfl; have d1 := D1.cell 1 _ rfl; have d2 := D1.cell 2 _ rfl; have d3 := D1.cell 3 _ rfl; have gl := D1.lt; have HD1 := Lib.hid D1; have Hb3 := Lib.hid hb3; clear D1 hb3)
    obtain ⟨Fs, hX, hXF⟩ := TSx.of hT3 hF.1
    have hFs : ∀ b ∈ (Value.slice A0 x.Segments.length q0).ownBlock.toList ++ Fs.flatten, w.heap.size + 2 ≤ b := fun b hb' => by have := hF.2 b (hXF b hb'); omega
    have HFs := Lib.hid hFs
    clear hFs hXF hT3 hF
    have E1' := (((HD1.out.set 0 (.int .i64 x.Start)).set 1 (.int .i64 x.Next)).set 2 (.int .i64 x.Roll)).set 3 (.slice A0 x.Segments.length q0)
    have E1 : Blk ((((W3.setCell ⟨w.heap.size, 0, none⟩ (.int .i64 x.Start)).setCell ⟨w.heap.size, 1, none⟩ (.int .i64 x.Next)).setCell ⟨w.heap.size, 2, none⟩ (.int .i64 x.Roll)).setCell ⟨w.heap.size, 3, none⟩ (.slice A0 x.Segments.length q0)) w.heap.size #[.int .i64 x.Start, .int .i64 x.Next, .int .i64 x.Roll, .slice A0 x.Segments.length q0] 30 := by simpa using E1'
    have E2 := ((((C2.out.below Hb3.out).far w.heap.size 0 (.int .i64 x.Start) (by omega)).far w.heap.size 1 (.int .i64 x.Next) (by omega)).far w.heap.size 2 (.int .i64 x.Roll) (by omega)).far w.heap.size 3 (.slice A0 x.Segments.length q0) (by omega)
    have hSt := (((St.set (B := w.heap.size + 2) (N := W3.heap.size) W3 w.heap.size 0 (.int .i64 x.Start) (by omega)).trans (St.set _ w.heap.size 1 (.int .i64 x.Next) (by omega))).trans (St.set _ w.heap.size 2 (.int .i64 x.Roll) (by omega))).trans (St.set _ w.heap.size 3 (.slice A0 x.Segments.length q0) (by omega))
    have hX4 := hX.st hSt HFs.out (Nat.le_refl _)
    have hb4 := ((((below_tr Hh2.out Hb3.out).setCell (p := ⟨w.heap.size, 0, none⟩) (by simp) (.int .i64 x.Start)).setCell (p := ⟨w.heap.size, 1, none⟩) (by simp) (.int .i64 x.Next)).setCell (p := ⟨w.heap.size, 2, none⟩) (by simp) (.int .i64 x.Roll)).setCell (p := ⟨w.heap.size, 3, none⟩) (by simp) (.slice A0 x.Segments.length q0)
    clear E1' hSt hX C2 Hb3 HD1 Hh2 f0 f1 f2 f3 d0 d1 d2 d3 gl c0 c1 c2 c3 HC1 HR2 hsz2
    generalize (((W3.setCell ⟨w.heap.size, 0, none⟩ (.int .i64 x.Start)).setCell ⟨w.heap.size, 1, none⟩ (.int .i64 x.Next)).setCell ⟨w.heap.size, 2, none⟩ (.int .i64 x.Roll)).setCell ⟨w.heap.size, 3, none⟩ (.slice A0 x.Segments.length q0) = W4 at E1 E2 hX4 hb4 ⊢
    have f0 := E1.frz 0
    have f3 := E1.frz 3
    have d0 : W4.cell? ⟨w.heap.size, 0, none⟩ = some (.int .i64 x.Start) := E1.cell 0 _ rfl
    have d3 : W4.cell? ⟨w.heap.size, 3, none⟩ = some (.slice A0 x.Segments.length q0) := E1.cell 3 _ rfl
    have gl := E1.lt
    have HE1 := Lib.hid E1
    have HE2 := Lib.hid E2
    have HX4 := Lib.hid hX4
    have Hb4 := Lib.hid hb4
    clear E1 E2 hX4 hb4
    go_upto_region 7 with fail
    have E1 : Blk ((W4.setCell ⟨w.heap.size, 0, none⟩ (.int .i64 start)).setCell ⟨w.heap.size, 3, none⟩ (.slice none 0 0)) w.heap.size #[.int .i64 start, .int .i64 x.Next, .int .i64 x.Roll, .slice none 0 0] 30 := by simpa using (HE1.out.set 0 (.int .i64 start)).set 3 (.slice none 0 0)
    have E2 := (HE2.out.far w.heap.size 0 (.int .i64 start) (by omega)).far w.heap.size 3 (.slice none 0 0) (by omega)
    have hSt := (St.set (B := w.heap.size + 2) (N := W4.heap.size) W4 w.heap.size 0 (.int .i64 start) (by omega)).trans (St.set _ w.heap.size 3 (.slice none 0 0) (by omega))
    have hX5 := HX4.out.st hSt HFs.out (Nat.le_refl _)
    have hb5 := (Hb4.out.setCell (p := ⟨w.heap.size, 0, none⟩) (by simp) (.int .i64 start)).setCell (p := ⟨w.heap.size, 3, none⟩) (by simp) (.slice none 0 0)
    clear hSt HE1 HE2 HX4 Hb4 f0 f3 d0 d3 gl
    generalize (W4.setCell ⟨w.heap.size, 0, none⟩ (.int .i64 start)).setCell ⟨w.heap.size, 3, none⟩ (.slice none 0 0) = W5 at E1 E2 hX5 hb5 ⊢
    obtain ⟨N, hN⟩ : ∃ n, n = W5.heap.size := ⟨_, rfl⟩
    have HN := Lib.hid hN
    have hg1 := E2.lt
    have hN2 : w.heap.size + 2 ≤ N := by omega
    clear hN
    have HX5 := Lib.hid hX5
    clear hX5
    have hln : x.Segments.length ≤ 1048576 := HS.out.1
    go_upto_region 8 with fail
    go_loopg [24] x.Segments.length (fun g v24 wr => ∃ (k : Nat) (ys : List Segment) (A' : Option Addr) (c' : Nat), k + g = x.Segments.length ∧ v24 = .int .i64 k ∧ Hid (Blk wr w.heap.size #[.int .i64 start, .int .i64 x.Next, .int .i64 x.Roll, .slice A' ys.length c'] 30) ∧ Hid (Blk wr (w.heap.size + 1) #[.int .i64 0, .int .i64 0, .int .i64 0, .slice none 0 0] 30) ∧ Hid (Mv kSegment 83 wr Fs k N ys (.slice A' ys.length c')) ∧ Hid (St (w.heap.size + 2) N W5 wr) ∧ Hid (ys ++ gF start (x.Segments.drop k) = gF start x.Segments) ∧ ys.length ≤ k ∧ N ≤ wr.heap.size ∧ Below w.heap.size w wr)
    case atStart => exact ⟨0, [], none, 0, by omega, rfl, Lib.hid E1, Lib.hid E2, Lib.hid Mv.nil, Lib.hid (St.refl _ _ _), Lib.hid rfl, Nat.le_refl _, by rw [HN.out]; exact Nat.le_refl _, hb5⟩
    case round =>
      clear E1 E2 hg1 hb5
      obtain ⟨k, ys, A', c', hk, rfl, HB1, HB2, HM, HT, HG, hyk, hNr, hb⟩ := hrel
      have hg1 := HB1.out.lt
      have hg2 := HB2.out.lt
      by_cases hlt : k < x.Segments.length
      case neg =>
        obtain rfl : k = x.Segments.length := by omega
        have d0 := HB1.out.cell 0 _ rfl
        have d1 := HB1.out.cell 1 _ rfl
        have d2 := HB1.out.cell 2 _ rfl
        have d3 := HB1.out.cell 3 _ rfl
        have e0 := HB2.out.cell 0 _ rfl
        have e1 := HB2.out.cell 1 _ rfl
        have e2 := HB2.out.cell 2 _ rfl
        have e3 := HB2.out.cell 3 _ rfl
        have f0 := HB2.out.frz 0
        have f1 := HB2.out.frz 1
        have f2 := HB2.out.frz 2
        have f3 := HB2.out.frz 3
        have hys : ys = cutF start x.Segments := by
          have h := HG.out
          rw [List.drop_length, gF, List.append_nil, gF_cutF start _ _ HUP.out] at h
          exact h
        subst hys
        have HOW := Lib.hid (HM.out.own (B := w.heap.size + 2) (fun b hb' => HFs.out b (List.mem_append_right _ hb')) hN2)
        go_wp2
        refine bodyPost_ret (v := .tuple #[.agg #[.int .i64 start, .int .i64 x.Next, .int .i64 x.Roll, .slice A' (cutF start x.Segments).length c'], .bool true]) (by simp [results, Try.results22, go_sem, e0, e1, e2, e3]) rfl ?_
        rw [HL.out]
        refine lb_made (x := ⟨start, x.Next, x.Roll, cutF start x.Segments⟩) (OwnT.mono (B := w.heap.size + 2) ?_ (by omega)) ?_
        · repeat (refine OwnT.setc ?_ _ _ _ (by omega))
          exact HOW.out
        · repeat (first | with_reducible exact Below.refl _ _ | with_reducible assumption | ((with_reducible refine Below.setCell ?_ ?_ _); rotate_left; (simp <;> omega)) | ((with_reducible refine Below.alloc ?_ ?_ _); rotate_left; (simp <;> omega)))
      have hX := HX5.out.st HT.out HFs.out (by rw [HN.out]; exact Nat.le_refl _)
      obtain ⟨ad, y, cs, Fi, ⟨q1, hv⟩, hy, hFi, hTi, hcell0⟩ := hX.at k hlt
      simp only [Value.slice.injEq, true_and] at hv
      obtain ⟨rfl, rfl⟩ := hv
      have hcell : ∀ j u, cs[j]? = some u → wr.cell? (ad.add (k * 2 + j)) = some u := hcell0
      obtain ⟨v1, F1, rfl, rfl, hT1⟩ := Segment.opnT hTi
      obtain ⟨A1, c1, rfl, l1, _, g1⟩ := TS_read hT1
      have p0 := hcell 0 _ rfl
      have p1 := hcell 1 _ rfl
      rw [add_field _ _ 1 (by omega)] at p1
      rw [Nat.add_zero] at p0
      clear hcell hcell0 hTi
      have HFN := Lib.hid (show ∀ b ∈ Fi, b < N from fun b hb' => by have := HX5.out.lt b (List.mem_append_right _ (List.mem_flatten.2 ⟨Fi, List.mem_of_getElem? hFi, hb'⟩)); rw [HN.out]; exact this)
      have HND := Lib.hid (show Fs.flatten.Nodup by obtain ⟨_, _, _, h, _⟩ := HX5.out; exact (List.nodup_append.1 h).2.1)
      have HFi := Lib.hid hFi
      have HT1 := Lib.hid hT1
      have HYK := Lib.hid hy
      have hys := HS.out.2 y (List.mem_of_getElem? hy)
      have HYB := Lib.hid (show ∀ b ∈ y.Batches, batchOk b = true from fun b hb' => HAL.out b (List.mem_flatMap.2 ⟨y, List.mem_of_getElem? hy, hb'⟩))
      clear hX hFi hT1 hy
      have B3 := Blk.new wr #[.int .i64 y.Base, .slice A1 y.Batches.length c1] 83
      have hba := below_al wr (.cells #[.int .i64 y.Base, .slice A1 y.Batches.length c1] 83)
      obtain ⟨H, hH⟩ : ∃ n, n = wr.heap.size := ⟨_, rfl⟩
      go_upto_region 10 with fail
      clear p0 p1
      have HB1a := Lib.hid (HB1.out.below hba)
      have HB2a := Lib.hid (HB2.out.below hba)
      have G1 := Lib.hid (Row_below g1 hba)
      generalize wr.alloc (.cells #[.int .i64 y.Base, .slice A1 y.Batches.length c1] 83) = W6 at B3 hba HB1a HB2a G1 ⊢
      rw [← hH] at B3 ⊢
      have HH := Lib.hid hH
      clear hH g1
      have s0 : W6.cell? ⟨H, 0, none⟩ = some (.int .i64 y.Base) := B3.cell 0 _ rfl
      have s1 : W6.cell? ⟨H, 1, none⟩ = some (.slice A1 y.Batches.length c1) := B3.cell 1 _ rfl
      have s3 : W6.cell? ⟨w.heap.size, 3, none⟩ = some (.slice A' ys.length c') := HB1a.out.cell 3 _ rfl
      have hyl := hys.1
      have hs6 := hba.size
      by_cases hlast : k + 1 < x.Segments.length
      case neg =>
        have hkl : k + 1 = x.Segments.length := by omega
        have HGn : Hid ((ys ++ [y]) ++ gF start (x.Segments.drop (k + 1)) = gF start x.Segments) := Lib.hid (by
          rw [← HG.out, drop_cons HYK.out, hkl, List.drop_length, List.append_assoc]; rfl)
        have hci : ¬ (k : Int) < (x.Segments.length : Int) - 1 := by omega
        have hbal := below_al W6 (.cells #[.int .i64 y.Base, .slice A1 y.Batches.length c1] 83)
        have hch := below_tr hba (below_tr (Below.refl W6.heap.size W6) hbal)
        have HCH := Lib.hid hch
        have hszc := hch.size
        go_wp2_with (at_builtin; refine list_mv (v := .slice A' ys.length c') info_seg rfl (by decide) (by decide) rfl _ _ _ rfl Try.underlying28 rfl HM.out HCH.out hNr _ _ rfl (T_bel (seg_T HT1.out) HCH.out) (Box.new W6 _ _) HND.out HFi.out HFN.out (by omega) ?_; intro A7 c7 W8 hM8 hgr hvb; have HB1n := Lib.hid ((HB1.out.below HCH.out).grown hgr (fun h => by have := hvb _ h; omega)); have HB2n := Lib.hid ((HB2.out.below HCH.out).grown hgr (fun h => by have := hvb _ h; omega)); have t3n := HB1n.out.cell 3 (.slice A' ys.length c') rfl; have f3n := HB1n.out.frz 3; have g3n := HB1n.out.lt; have HGR := Lib.hid hgr; clear hgr)
        have hsz8 := HGR.out.size
        go_roundg (gk - 1)
        case rel =>
          refine ⟨k + 1, ys ++ [y], A7, c7, by omega, by go_num, Lib.hid (by simpa using HB1n.out.set 3 (.slice A7 (ys.length + 1) c7)), Lib.hid (HB2n.out.far _ _ _ (by omega)), Lib.hid ?_, Lib.hid (((HT.out.trans (St.of_below HCH.out hNr)).trans (St.grown HGR.out (by omega) hvb)).trans (St.set _ w.heap.size 3 _ (by omega))), HGn, by simp; omega, by simp; omega, ((below_tr hb HCH.out).grown HGR.out (by have := hb.size; omega) (fun q hq => by have := hvb q hq; omega)).setCell (p := ⟨w.heap.size, 3, none⟩) (by simp) _⟩
          rw [List.length_append, List.length_singleton]
          exact hM8.setc _ _ _ (B := w.heap.size + 2) (fun b hb' => HFs.out b (List.mem_append_right _ hb')) hN2 (by omega)
        case measure => omega
      case pos =>
        have hne : y.Batches ≠ [] := by
          have h1 : x.Segments.drop k = y :: x.Segments.drop (k + 1) := drop_cons HYK.out
          rw [drop_cons (List.getElem?_eq_getElem hlast)] at h1
          exact upS_drop _ _ _ _ _ _ HUP.out h1
        have hnl : 0 < y.Batches.length := List.length_pos_iff.2 hne
        obtain ⟨bd, b, A6, c6, rfl, hyb, p0, p1, p2, p3, p4, p5, p6, l6, g6⟩ := Batch.at G1.out (y.Batches.length - 1) (by omega)
        have hix : ((y.Batches.length : Int) - 1) = ((y.Batches.length - 1 : Nat) : Int) := by omega
        have hi0 : ((y.Batches.length : Int) - 1).toNat = y.Batches.length - 1 := by omega
        have HE : Hid (segEnd y = lastB b) := Lib.hid (by unfold segEnd; rw [List.getLast?_eq_getElem?, hyb])
        have hbm := List.mem_of_getElem? hyb
        have hbg := lastB_ge (HYB.out b hbm)
        obtain ⟨hg1', hg2', hg3', hg4', _⟩ := hbg
        have hbs := (hys.2 b hbm).1
        clear hyb hbm
        have HDR : Hid (∃ t r, x.Segments.drop k = y :: t :: r ∧ x.Segments.drop (k + 1) = t :: r) := Lib.hid ⟨_, _, by rw [drop_cons HYK.out, drop_cons (List.getElem?_eq_getElem hlast)], drop_cons (List.getElem?_eq_getElem hlast)⟩
        by_cases hend : b.Base + (b.Records.length : Int) - 1 < start
        case pos =>
          have HGn : Hid (ys ++ gF start (x.Segments.drop (k + 1)) = gF start x.Segments) := Lib.hid (by
            obtain ⟨t, r, h1, h2⟩ := HDR.out
            rw [← HG.out, h1, h2, gF, if_pos (by rw [HE.out]; exact hend)])
          go_wp2_with (go_at_call 58; refine (lastOf_c _ b l6 (by omega) (by omega) hbs).mono ?_; rintro e W7 ⟨rfl, hb7⟩)
          have hch := below_tr hba hb7
          have hszc := hch.size
          go_roundg (gk - 1)
          case rel => exact ⟨k + 1, ys, A', c', by omega, by go_num, Lib.hid (HB1.out.below hch), Lib.hid (HB2.out.below hch), Lib.hid ((HM.out.below hch).skip), Lib.hid (HT.out.trans (St.of_below hch hNr)), HGn, by omega, by omega, below_tr hb hch⟩
          case measure => omega
        case neg =>
          have HGn : Hid ((ys ++ [y]) ++ gF start (x.Segments.drop (k + 1)) = gF start x.Segments) := Lib.hid (by
            obtain ⟨t, r, h1, h2⟩ := HDR.out
            rw [← HG.out, h1, h2, gF, if_neg (by rw [HE.out]; exact hend), List.append_assoc]; rfl)
          go_upto_region 12 with (go_at_call 58; refine (lastOf_c _ b l6 (by omega) (by omega) hbs).mono ?_; rintro e W7 ⟨rfl, hb7⟩; have s0' := later hb7 s0; have s1' := later hb7 s1; have s3' := later hb7 s3)
          clear s0 s1 s3 p0 p1 p2 p3 p4 p5 p6
          have hbal := below_al W7 (.cells #[.int .i64 y.Base, .slice (some bd) y.Batches.length c1] 83)
          have hch := below_tr hba (below_tr hb7 hbal)
          have HCH := Lib.hid hch
          have hszc := hch.size
          go_wp2_with (at_builtin; refine list_mv (v := .slice A' ys.length c') info_seg rfl (by decide) (by decide) rfl _ _ _ rfl Try.underlying28 rfl HM.out HCH.out hNr _ _ rfl (T_bel (seg_T HT1.out) HCH.out) (Box.new W7 _ _) HND.out HFi.out HFN.out (by omega) ?_; intro A7 c7 W8 hM8 hgr hvb; have HB1n := Lib.hid ((HB1.out.below HCH.out).grown hgr (fun h => by have := hvb _ h; omega)); have HB2n := Lib.hid ((HB2.out.below HCH.out).grown hgr (fun h => by have := hvb _ h; omega)); have t3n := HB1n.out.cell 3 (.slice A' ys.length c') rfl; have f3n := HB1n.out.frz 3; have g3n := HB1n.out.lt; have HGR := Lib.hid hgr; clear hgr)
          have hsz8 := HGR.out.size
          go_roundg (gk - 1)
          case rel =>
            refine ⟨k + 1, ys ++ [y], A7, c7, by omega, by go_num, Lib.hid (by simpa using HB1n.out.set 3 (.slice A7 (ys.length + 1) c7)), Lib.hid (HB2n.out.far _ _ _ (by omega)), Lib.hid ?_, Lib.hid (((HT.out.trans (St.of_below HCH.out hNr)).trans (St.grown HGR.out (by omega) hvb)).trans (St.set _ w.heap.size 3 _ (by omega))), HGn, by simp; omega, by simp; omega, ((below_tr hb HCH.out).grown HGR.out (by have := hb.size; omega) (fun q hq => by have := hvb q hq; omega)).setCell (p := ⟨w.heap.size, 3, none⟩) (by simp) _⟩
            rw [List.length_append, List.length_singleton]
            exact hM8.setc _ _ _ (B := w.heap.size + 2) (fun b hb' => HFs.out b (List.mem_append_right _ hb')) hN2 (by omega)
          case measure => omega
end Go.Proofs.Ytipemgjgimpmbaa.H
