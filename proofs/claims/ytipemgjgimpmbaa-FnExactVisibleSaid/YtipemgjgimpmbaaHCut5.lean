/-
The program's CutTo. Conditions: each contract's own premises.
-/
import Derived.Test.YtipemgjgimpmbaaHCut4
import Derived.Test.YtipemgjgimpmbaaHMv2
namespace Go.Proofs.Ytipemgjgimpmbaa.H
open Go.RowKit
set_option linter.unusedVariables false
set_option linter.unusedSimpArgs false
set_option maxRecDepth 100000
theorem cut_T2 {w : World} {F : List Nat} {b : Batch} {A : Option Addr} {c m : Nat} (tt : Int) (h : TS kRecord 116 w F b.Records (.slice A b.Records.length c)) (hm : b.Records.take (tt - b.Base).toNat = b.Records.take m) (hle : m ≤ b.Records.length) (h0 : 0 < b.Records.length) (hc : m ≤ c) :
    ∃ F', kBatch.T w F' (cutR tt b) [.int .i64 b.Base, .int .i64 b.Epoch, .int .i64 b.Producer, .int .i64 b.Turn, .int .i64 b.Seq, .int .i64 b.Flags, .slice A m m] ∧ (F.Nodup → F'.Nodup) ∧ ∀ q ∈ F', q ∈ F := by
  obtain ⟨F', h1, h2, h3⟩ := TS_take (n := m) (c' := m) h hle h0 (Nat.le_refl _) hc
  refine ⟨F', ?_, h2, h3⟩
  have h4 := Batch.mkT w (cutR tt b) (v6 := .slice A m m) (F6 := F') (by unfold cutR; rw [hm]; exact h1)
  exact h4
set_option maxHeartbeats 8000000 in
theorem implCutTo_c (w : World) (x : Log) (tt : Int) {A : Option Addr} {c : Nat} (hc : x.Segments.length ≤ c) (hr : Row kSegment w A x.Segments) (hs : x.sm) :
    Calls Try.prog 19 #[.agg #[.int .i64 x.Start, .int .i64 x.Next, .int .i64 x.Roll, .slice A x.Segments.length c], .int .i64 tt] w (MadeLB (cutToL x tt) (cutOk x tt) w) := by
  have HS := Lib.hid hs
  clear hs
  have hu := Try.underlying83
  have hu2 := Try.underlying28
  have hu3 := Try.underlying30
  have hu4 := Try.underlying52
  have hu5 := Try.underlying70
  generalize hok : cutOk x tt = ok
  have Hok := Lib.hid hok
  have B1 := (Blk.new w #[.int .i64 x.Start, .int .i64 x.Next, .int .i64 x.Roll, .slice A x.Segments.length c] 30).below (below_al _ (.cells #[.int .i64 0, .int .i64 0, .int .i64 0, .slice none 0 0] 30))
  have B2 := Blk.new (w.alloc (.cells #[.int .i64 x.Start, .int .i64 x.Next, .int .i64 x.Roll, .slice A x.Segments.length c] 30)) #[.int .i64 0, .int .i64 0, .int .i64 0, .slice none 0 0] 30
  have hb := below_tr (below_al w (.cells #[.int .i64 x.Start, .int .i64 x.Next, .int .i64 x.Roll, .slice A x.Segments.length c] 30)) (below_al _ (.cells #[.int .i64 0, .int .i64 0, .int .i64 0, .slice none 0 0] 30))
  rw [size_al] at B2
  go_enter Try.func19, Try.ntmps19
  go_upto_region 1 with fail
  generalize (w.alloc (.cells #[.int .i64 x.Start, .int .i64 x.Next, .int .i64 x.Roll, .slice A x.Segments.length c] 30)).alloc (.cells #[.int .i64 0, .int .i64 0, .int .i64 0, .slice none 0 0] 30) = W1 at B1 B2 hb ⊢
  have a0 := B1.cell 0 _ rfl
  have a1 := B1.cell 1 _ rfl
  have a2 := B1.cell 2 _ rfl
  have a3 := B1.cell 3 _ rfl
  have HR1 := Lib.hid (Row_below hr hb)
  have hsz := hb.size
  have HB1 := Lib.hid B1
  have HB2 := Lib.hid B2
  have g2 := B2.lt
  have Hh := Lib.hid hb
  clear B1 B2
  cases ok with
  | false =>
    have HL : Hid (cutToL x tt = zLog) := Lib.hid (by unfold cutToL; rw [hok]; rfl)
    clear hok
    go_upto_region 2 with (go_at_call 53; refine (inLog_c _ x tt hc HR1.out HS.out).mono ?_; rintro e W2 ⟨rfl, hb2⟩; rw [show (logOk x && inB tt x.Start x.Next) = false from Hok.out])
    have C2 := HB2.out.below hb2
    have e0 := C2.cell 0 _ rfl
    have e1 := C2.cell 1 _ rfl
    have e2 := C2.cell 2 _ rfl
    have e3 := C2.cell 3 _ rfl
    have f0 := C2.frz 0
    have f1 := C2.frz 1
    have f2 := C2.frz 2
    have f3 := C2.frz 3
    have g3 := C2.lt
    have hbw := below_tr hb hb2
    go_wp2
    refine bodyPost_ret (v := .tuple #[.agg #[.int .i64 0, .int .i64 0, .int .i64 0, .slice none 0 0], .bool false]) (by simp [results, Try.results19, go_sem, e0, e1, e2, e3]) rfl ?_
    rw [HL.out]
    refine lb_made (x := zLog) OwnT.nil ?_
    repeat (first | with_reducible exact Below.refl _ _ | with_reducible assumption | ((with_reducible refine Below.setCell ?_ ?_ _); rotate_left; (simp <;> omega)) | ((with_reducible refine Below.alloc ?_ ?_ _); rotate_left; (simp <;> omega)))
  | true =>
    have HL : Hid (cutToL x tt = ⟨x.Start, tt, x.Roll, cutGs tt x.Segments⟩) := Lib.hid (by unfold cutToL; rw [hok]; rfl)
    have hlo : logOk x = true := by unfold cutOk at hok; simp at hok; exact hok.1
    have HAL := Lib.hid (logOk_all hlo).2
    have htt : 0 ≤ tt ∧ tt ≤ 1000000000 := by
      have h1 := (logOk_chain hlo).2.2
      have h2 : inB tt x.Start x.Next = true := by unfold cutOk at hok; simp at hok; exact hok.2
      simp only [logHdr, inB, Bool.and_eq_true, decide_eq_true_eq] at h1 h2
      omega
    clear hok hlo
    go_upto_region 3 with (go_at_call 53; refine (inLog_c _ x tt hc HR1.out HS.out).mono ?_; rintro e W2 ⟨rfl, hb2⟩; rw [show (logOk x && inB tt x.Start x.Next) = true from Hok.out])
    have C1 := HB1.out.below hb2
    have C2 := Lib.hid (HB2.out.below hb2)
    have c0 := C1.cell 0 _ rfl
    have c1 := C1.cell 1 _ rfl
    have c2 := C1.cell 2 _ rfl
    have c3 := C1.cell 3 _ rfl
    have HR2 := Lib.hid (Row_below HR1.out hb2)
    have Hh2 := Lib.hid (below_tr hb hb2)
    have hsz2 := hb2.size
    clear a0 a1 a2 a3 hb2 hb HB1 HB2 HR1 Hh
    have HC1 := Lib.hid C1
    clear C1
    go_upto_region 4 with (go_at_call 54; refine (implCopyLog_c _ x hc HR2.out HS.out).mono ?_; rintro e W3 ⟨v, F0, rfl, hT, hF, hb3⟩; obtain ⟨v3, F3, he, e9, hT3⟩ := Log.opnT hT; simp only [List.cons.injEq, true_and, and_true] at he; subst he; subst e9; clear hT; obtain ⟨A0, q0, e9, _⟩ := TS_read hT3; subst e9; have D1 := HC1.out.below hb3; have f0 := D1.frz 0; have f1 := D1.frz 1; have f2 := D1.frz 2; have f3 := D1.frz 3; have d0 := D1.cell 0 _ rfl; have d1 := D1.cell 1 _ rfl; have d2 := D1.cell 2 _ rfl; have d3 := D1.cell 3 _ rfl; have gl := D1.lt; have HD1 := Lib.hid D1; have Hb3 := Lib.hid hb3; clear D1 hb3)
    obtain ⟨Fs, hX, hXF⟩ := TSx.of hT3 hF.1
    have hFs : ∀ b ∈ (Value.slice A0 x.Segments.length q0).ownBlock.toList ++ Fs.flatten, w.heap.size + 2 ≤ b := fun b hb' => by have := hF.2 b (hXF b hb'); omega
    have HFs := Lib.hid hFs
    clear hFs hXF hT3 hF
    have E1' := (((HD1.out.set 0 (.int .i64 x.Start)).set 1 (.int .i64 x.Next)).set 2 (.int .i64 x.Roll)).set 3 (.slice A0 x.Segments.length q0)
    have E1 : Blk ((((W3.setCell ⟨w.heap.size, 0, none⟩ (.int .i64 x.Start)).setCell ⟨w.heap.size, 1, none⟩ (.int .i64 x.Next)).setCell ⟨w.heap.size, 2, none⟩ (.int .i64 x.Roll)).setCell ⟨w.heap.size, 3, none⟩ (.slice A0 x.Segments.length q0)) w.heap.size #[.int .i64 x.Start, .int .i64 x.Next, .int .i64 x.Roll, .slice A0 x.Segments.length q0] 30 := by simpa using E1'
    have E2 := ((((C2.out.below Hb3.out).far w.heap.size 0 (.int .i64 x.Start) (by omega)).far w.heap.size 1 (.int .i64 x.Next) (by omega)).far w.heap.size 2 (.int .i64 x.Roll) (by omega)).far w.heap.size 3 (.slice A0 x.Segments.length q0) (by omega)
    have hSt := (((St.set (B := w.heap.size + 2) (N := W3.heap.size) W3 w.heap.size 0 (.int .i64 x.Start) (by omega)).trans (St.set _ w.heap.size 1 (.int .i64 x.Next) (by omega))).trans (St.set _ w.heap.size 2 (.int .i64 x.Roll) (by omega))).trans (St.set _ w.heap.size 3 (.slice A0 x.Segments.length q0) (by omega))
    have hX4 := hX.st hSt HFs.out (Nat.le_refl _)
    have hb4 := ((((below_tr Hh2.out Hb3.out).setCell (p := ⟨w.heap.size, 0, none⟩) (by simp) (.int .i64 x.Start)).setCell (p := ⟨w.heap.size, 1, none⟩) (by simp) (.int .i64 x.Next)).setCell (p := ⟨w.heap.size, 2, none⟩) (by simp) (.int .i64 x.Roll)).setCell (p := ⟨w.heap.size, 3, none⟩) (by simp) (.slice A0 x.Segments.length q0)
    clear E1' hSt hX C2 Hb3 HD1 Hh2 f0 f1 f2 f3 d0 d1 d2 d3 gl c0 c1 c2 c3 HC1 HR2 hsz2
    generalize (((W3.setCell ⟨w.heap.size, 0, none⟩ (.int .i64 x.Start)).setCell ⟨w.heap.size, 1, none⟩ (.int .i64 x.Next)).setCell ⟨w.heap.size, 2, none⟩ (.int .i64 x.Roll)).setCell ⟨w.heap.size, 3, none⟩ (.slice A0 x.Segments.length q0) = W4 at E1 E2 hX4 hb4 ⊢
    have f1 := E1.frz 1
    have f3 := E1.frz 3
    have d1 : W4.cell? ⟨w.heap.size, 1, none⟩ = some (.int .i64 x.Next) := E1.cell 1 _ rfl
    have d3 : W4.cell? ⟨w.heap.size, 3, none⟩ = some (.slice A0 x.Segments.length q0) := E1.cell 3 _ rfl
    have gl := E1.lt
    have HE1 := Lib.hid E1
    have HE2 := Lib.hid E2
    have HX4 := Lib.hid hX4
    have Hb4 := Lib.hid hb4
    clear E1 E2 hX4 hb4
    go_upto_region 7 with fail
    have E1 : Blk ((W4.setCell ⟨w.heap.size, 1, none⟩ (.int .i64 tt)).setCell ⟨w.heap.size, 3, none⟩ (.slice none 0 0)) w.heap.size #[.int .i64 x.Start, .int .i64 tt, .int .i64 x.Roll, .slice none 0 0] 30 := by simpa using (HE1.out.set 1 (.int .i64 tt)).set 3 (.slice none 0 0)
    have E2 := (HE2.out.far w.heap.size 1 (.int .i64 tt) (by omega)).far w.heap.size 3 (.slice none 0 0) (by omega)
    have hSt := (St.set (B := w.heap.size + 2) (N := W4.heap.size) W4 w.heap.size 1 (.int .i64 tt) (by omega)).trans (St.set _ w.heap.size 3 (.slice none 0 0) (by omega))
    have hX5 := HX4.out.st hSt HFs.out (Nat.le_refl _)
    have hb5 := (Hb4.out.setCell (p := ⟨w.heap.size, 1, none⟩) (by simp) (.int .i64 tt)).setCell (p := ⟨w.heap.size, 3, none⟩) (by simp) (.slice none 0 0)
    clear hSt HE1 HE2 HX4 Hb4 f1 f3 d1 d3 gl
    generalize (W4.setCell ⟨w.heap.size, 1, none⟩ (.int .i64 tt)).setCell ⟨w.heap.size, 3, none⟩ (.slice none 0 0) = W5 at E1 E2 hX5 hb5 ⊢
    obtain ⟨N, hN⟩ : ∃ n, n = W5.heap.size := ⟨_, rfl⟩
    have HN := Lib.hid hN
    have hg1 := E2.lt
    have hN2 : w.heap.size + 2 ≤ N := by omega
    clear hN
    have HX5 := Lib.hid hX5
    clear hX5
    have hln : x.Segments.length ≤ 1048576 := HS.out.1
    go_upto_region 8 with fail
    go_loopg [27] x.Segments.length (fun g v27 wr => ∃ (k : Nat) (A' : Option Addr) (c' : Nat), k + g = x.Segments.length ∧ v27 = .int .i64 k ∧ Hid (Blk wr w.heap.size #[.int .i64 x.Start, .int .i64 tt, .int .i64 x.Roll, .slice A' (cutGs tt (x.Segments.take k)).length c'] 30) ∧ Hid (Blk wr (w.heap.size + 1) #[.int .i64 0, .int .i64 0, .int .i64 0, .slice none 0 0] 30) ∧ Hid (Mv kSegment 83 wr Fs k N (cutGs tt (x.Segments.take k)) (.slice A' (cutGs tt (x.Segments.take k)).length c')) ∧ Hid (St (w.heap.size + 2) N W5 wr) ∧ N ≤ wr.heap.size ∧ Below w.heap.size w wr)
    case atStart => exact ⟨0, none, 0, by omega, rfl, Lib.hid E1, Lib.hid E2, Lib.hid (by rw [List.take_zero]; exact Mv.nil), Lib.hid (St.refl _ _ _), by rw [HN.out]; exact Nat.le_refl _, hb5⟩
    case round =>
      clear E1 E2 hg1 hb5
      obtain ⟨k, A', c', hk, rfl, HB1, HB2, HM, HT, hNr, hb⟩ := hrel
      have hg1 := HB1.out.lt
      have hg2 := HB2.out.lt
      by_cases hlt : k < x.Segments.length
      case neg =>
        obtain rfl : k = x.Segments.length := by omega
        have d0 := HB1.out.cell 0 _ rfl
        have d1 := HB1.out.cell 1 _ rfl
        have d2 := HB1.out.cell 2 _ rfl
        have d3 := HB1.out.cell 3 _ rfl
        have e0 := HB2.out.cell 0 _ rfl
        have e1 := HB2.out.cell 1 _ rfl
        have e2 := HB2.out.cell 2 _ rfl
        have e3 := HB2.out.cell 3 _ rfl
        have f0 := HB2.out.frz 0
        have f1 := HB2.out.frz 1
        have f2 := HB2.out.frz 2
        have f3 := HB2.out.frz 3
        have hO := HM.out.own (B := w.heap.size + 2) (fun b hb' => HFs.out b (List.mem_append_right _ hb')) hN2
        rw [List.take_length] at hO d3
        have HO2 := Lib.hid hO
        clear hO
        go_wp2
        refine bodyPost_ret (v := .tuple #[.agg #[.int .i64 x.Start, .int .i64 tt, .int .i64 x.Roll, .slice A' (cutGs tt x.Segments).length c'], .bool true]) (by simp [results, Try.results19, go_sem, e0, e1, e2, e3]) rfl ?_
        rw [HL.out]
        refine lb_made (x := ⟨x.Start, tt, x.Roll, cutGs tt x.Segments⟩) (OwnT.mono (B := w.heap.size + 2) ?_ (by omega)) ?_
        · repeat (refine OwnT.setc ?_ _ _ _ (by omega))
          exact HO2.out
        · repeat (first | with_reducible exact Below.refl _ _ | with_reducible assumption | ((with_reducible refine Below.setCell ?_ ?_ _); rotate_left; (simp <;> omega)) | ((with_reducible refine Below.alloc ?_ ?_ _); rotate_left; (simp <;> omega)))
      have hX := HX5.out.st HT.out HFs.out (by rw [HN.out]; exact Nat.le_refl _)
      obtain ⟨ad, y, cs, Fi, ⟨q1, hv⟩, hy, hFi, hTi, hcell0⟩ := hX.at k hlt
      simp only [Value.slice.injEq, true_and] at hv
      obtain ⟨rfl, rfl⟩ := hv
      have hcell : ∀ j u, cs[j]? = some u → wr.cell? (ad.add (k * 2 + j)) = some u := hcell0
      obtain ⟨v1, F1, rfl, rfl, hT1⟩ := Segment.opnT hTi
      obtain ⟨A1, c1, rfl, l1, _, _⟩ := TS_read hT1
      have p0 := hcell 0 _ rfl
      have p1 := hcell 1 _ rfl
      rw [add_field _ _ 1 (by omega)] at p1
      rw [Nat.add_zero] at p0
      clear hcell hcell0 hTi
      have HFN := Lib.hid (show ∀ b ∈ Fi, b < N from fun b hb' => by have := HX5.out.lt b (List.mem_append_right _ (List.mem_flatten.2 ⟨Fi, List.mem_of_getElem? hFi, hb'⟩)); rw [HN.out]; exact this)
      have HND := Lib.hid (show Fs.flatten.Nodup by obtain ⟨_, _, _, h, _⟩ := HX5.out; exact (List.nodup_append.1 h).2.1)
      obtain ⟨Gs, hXG, hGF⟩ := TSx.of hT1 ((flat_nd Fs HND.out).1 Fi (List.mem_of_getElem? hFi))
      have HGF := Lib.hid hGF
      have HFi := Lib.hid hFi
      have HKT := Lib.hid (cutGs_take (tt := tt) hy)
      have hys := HS.out.2 y (List.mem_of_getElem? hy)
      have hyl := hys.1
      have HYB := Lib.hid (show ∀ b ∈ y.Batches, batchOk b = true from fun b hb' => HAL.out b (List.mem_flatMap.2 ⟨y, List.mem_of_getElem? hy, hb'⟩))
      have HLZ := Lib.hid (Nat.le_trans (cutGs_len tt (x.Segments.take k)) (by rw [List.length_take]; omega) : (cutGs tt (x.Segments.take k)).length ≤ 1048576)
      generalize hYS : cutGs tt (x.Segments.take k) = ys at HB1 HM HKT HLZ
      have HYS := Lib.hid hYS
      clear hX hFi hT1 hy hGF hYS
      have B3 := Blk.new wr #[.int .i64 y.Base, .slice A1 y.Batches.length c1] 83
      have hba := below_al wr (.cells #[.int .i64 y.Base, .slice A1 y.Batches.length c1] 83)
      obtain ⟨H, hH⟩ : ∃ n, n = wr.heap.size := ⟨_, rfl⟩
      have HXG := Lib.hid (hXG.frame (fun b hb' => hba.block b (hXG.lt b hb')))
      clear hXG
      go_upto_region 10 with fail
      clear p0 p1
      generalize wr.alloc (.cells #[.int .i64 y.Base, .slice A1 y.Batches.length c1] 83) = W6 at B3 hba HXG ⊢
      rw [← hH] at B3 ⊢
      have HH := Lib.hid hH
      clear hH
      have s1 : W6.cell? ⟨H, 1, none⟩ = some (.slice A1 y.Batches.length c1) := B3.cell 1 _ rfl
      have HB3 := Lib.hid B3
      have hs6 := hba.size
      have hH6 := B3.lt
      obtain ⟨WR, hWR⟩ : ∃ q, q = wr := ⟨_, rfl⟩
      rw [← hWR] at hba HB1 HB2 HM HT hNr hb hg1 hg2 HH hs6
      clear hWR B3
      obtain ⟨N2, hN6⟩ : ∃ n, n = W6.heap.size := ⟨_, rfl⟩
      have HN6 := Lib.hid hN6
      clear hN6
      go_upto_region 12 with fail
      clear s1
      go_loopg [9, 34] y.Batches.length (fun g v9 v34 wi => ∃ (q : Nat) (A2 : Option Addr) (c2 : Nat), q + g = y.Batches.length ∧ v34 = .int .i64 q ∧ v9 = .slice A2 (cutBs tt (y.Batches.take q)).length c2 ∧ Hid (Mv kBatch 52 wi Gs q N2 (cutBs tt (y.Batches.take q)) (.slice A2 (cutBs tt (y.Batches.take q)).length c2)) ∧ Below W6.heap.size W6 wi)
      case atStart => exact ⟨0, none, 0, by omega, rfl, rfl, Lib.hid (by rw [List.take_zero]; exact Mv.nil), Below.refl _ _⟩
      case round =>
        obtain ⟨q, A2, c2, hq, rfl, rfl, HZ, hbi⟩ := hrel
        have hsi := hbi.size
        have HBI := Lib.hid (HB3.out.below hbi)
        have hchw := Lib.hid (below_tr hba hbi)
        by_cases hlq : q < y.Batches.length
        case neg =>
          obtain rfl : q = y.Batches.length := by omega
          have s0 : wr.cell? ⟨H, 0, none⟩ = some (.int .i64 y.Base) := HBI.out.cell 0 _ rfl
          have C1 := Lib.hid (HB1.out.below hchw.out)
          have C2 := Lib.hid (HB2.out.below hchw.out)
          have s3 : wr.cell? ⟨w.heap.size, 3, none⟩ = some (.slice A' ys.length c') := C1.out.cell 3 _ rfl
          have hzl := cutBs_len tt (y.Batches.take y.Batches.length)
          rw [List.take_length] at HZ hzl ⊢
          have HCG : Hid (cutG tt y = if (cutBs tt y.Batches).length = 0 then [] else [⟨y.Base, cutBs tt y.Batches⟩]) := Lib.hid rfl
          generalize hzs : cutBs tt y.Batches = zs at HZ HCG hzl ⊢
          have HZS := Lib.hid hzs
          clear hzs
          have hbw := below_tr hb hchw.out
          by_cases hz0 : 0 < zs.length
          case neg =>
            have HG0 : Hid (cutGs tt (x.Segments.take (k + 1)) = ys) := Lib.hid (by rw [HKT.out, HCG.out, if_pos (by omega), List.append_nil])
            have hz1 : ¬ (0 : Int) < (zs.length : Int) := by omega
            clear hz0
            go_wp2
            go_roundg (x.Segments.length - k - 1)
            case rel => exact ⟨k + 1, A', c', by omega, by go_num, by rw [HG0.out]; exact C1, C2, by rw [HG0.out]; exact Lib.hid ((HM.out.below hchw.out).skip), Lib.hid (HT.out.trans (St.of_below hchw.out hNr)), by have := hchw.out.size; omega, hbw⟩
            case measure => omega
          case pos =>
            have HG1 : Hid (cutGs tt (x.Segments.take (k + 1)) = ys ++ [⟨y.Base, zs⟩]) := Lib.hid (by rw [HKT.out, HCG.out, if_neg (by omega)])
            have hz1 : (0 : Int) < (zs.length : Int) := by omega
            have hal := below_al wr (.cells #[.int .i64 y.Base, .slice A2 zs.length c2] 83)
            have hch := Lib.hid (below_tr hchw.out hal)
            obtain ⟨F2, hT2, hNd2, _, hF2, _⟩ := HZ.out.below hal
            have HTs := Lib.hid (seg_T (y := ⟨y.Base, zs⟩) hT2)
            have HNd2 := Lib.hid hNd2
            have HF2 := Lib.hid (show ∀ b ∈ F2, b ∈ Fi ∨ WR.heap.size ≤ b from fun b hb' => by
              rcases hF2 b hb' with ⟨j, Gj, _, hj, hbj⟩ | hbj
              · exact .inl (HGF.out b (List.mem_append_right _ (List.mem_flatten.2 ⟨Gj, List.mem_of_getElem? hj, hbj⟩)))
              · exact .inr (by have := HN6.out; omega))
            clear hT2 hNd2 hF2 hal
            go_wp2_with (at_builtin; refine list_mv2 (v := .slice A' ys.length c') info_seg rfl (by decide) (by decide) rfl _ _ _ rfl Try.underlying28 rfl HM.out hch.out hNr _ _ rfl HTs.out (Box.new wr _ _) HND.out HFi.out HFN.out HNd2.out HF2.out (by have := HLZ.out; omega) ?_; intro A7 c7 W8 hM8 hgr hvb; have HB1n := Lib.hid ((HB1.out.below hch.out).grown hgr (fun h => by have := hvb _ h; omega)); have HB2n := Lib.hid ((HB2.out.below hch.out).grown hgr (fun h => by have := hvb _ h; omega)); have t3n := HB1n.out.cell 3 (.slice A' ys.length c') rfl; have f3n := HB1n.out.frz 3; have g3n := HB1n.out.lt; have HGR := Lib.hid hgr; clear hgr)
            have hsz8 := HGR.out.size
            have hszc := hch.out.size
            go_roundg (x.Segments.length - k - 1)
            case rel =>
              refine ⟨k + 1, A7, c7, by omega, by go_num, Lib.hid ?_, Lib.hid (HB2n.out.far _ _ _ (by omega)), Lib.hid ?_, Lib.hid (((HT.out.trans (St.of_below hch.out hNr)).trans (St.grown HGR.out (by omega) hvb)).trans (St.set _ w.heap.size 3 _ (by omega))), by simp; omega, ((below_tr hb hch.out).grown HGR.out (by have := hb.size; omega) (fun q hq => by have := hvb q hq; omega)).setCell (p := ⟨w.heap.size, 3, none⟩) (by simp) _⟩
              · rw [HG1.out, List.length_append, List.length_singleton]
                simpa using HB1n.out.set 3 (.slice A7 (ys.length + 1) c7)
              · rw [HG1.out, List.length_append, List.length_singleton]
                exact hM8.setc _ _ _ (B := w.heap.size + 2) (fun b hb' => HFs.out b (List.mem_append_right _ hb')) hN2 (by omega)
            case measure => omega
        case pos =>
          have HLZ2 := Lib.hid (Nat.le_trans (cutBs_len tt (y.Batches.take q)) (by rw [List.length_take]; omega) : (cutBs tt (y.Batches.take q)).length ≤ 1048576)
          have hXw := HXG.out.frame (fun b hb' => hbi.block b (HXG.out.lt b hb'))
          obtain ⟨bd, b, cs, Gi, ⟨q1, hv⟩, hyb, hGi, hTi, hcell0⟩ := hXw.at q hlq
          simp only [Value.slice.injEq, true_and] at hv
          obtain ⟨rfl, rfl⟩ := hv
          have hcell : ∀ j u, cs[j]? = some u → wr.cell? (bd.add (q * 7 + j)) = some u := hcell0
          obtain ⟨v6, F6, rfl, rfl, hT6⟩ := Batch.opnT hTi
          obtain ⟨A6, c6, rfl, l6, m6, _⟩ := TS_read hT6
          have p0 := hcell 0 _ rfl
          have p1 := hcell 1 _ rfl
          have p2 := hcell 2 _ rfl
          have p3 := hcell 3 _ rfl
          have p4 := hcell 4 _ rfl
          have p5 := hcell 5 _ rfl
          have p6 := hcell 6 _ rfl
          rw [Nat.add_zero] at p0
          rw [add_field _ _ 1 (by omega)] at p1
          rw [add_field _ _ 2 (by omega)] at p2
          rw [add_field _ _ 3 (by omega)] at p3
          rw [add_field _ _ 4 (by omega)] at p4
          rw [add_field _ _ 5 (by omega)] at p5
          rw [add_field _ _ 6 (by omega)] at p6
          clear hcell hcell0 hTi
          have HKB := Lib.hid (cutBs_take (tt := tt) hyb)
          have hbm := List.mem_of_getElem? hyb
          have hbl := (hys.2 b hbm).1
          obtain ⟨hv1, hv2, hv3, hv4, _⟩ := lastB_ge (HYB.out b hbm)
          have hbn : 0 < b.Records.length := by unfold lastB at hv1; omega
          have HGi := Lib.hid hGi
          have HGN := Lib.hid (show ∀ g ∈ Gi, g < N2 from fun g hg => by have := HXG.out.lt g (List.mem_append_right _ (List.mem_flatten.2 ⟨Gi, List.mem_of_getElem? hGi, hg⟩)); have := HN6.out; omega)
          have HGD := Lib.hid (show Gs.flatten.Nodup by obtain ⟨_, _, _, h, _⟩ := HXG.out; exact (List.nodup_append.1 h).2.1)
          have HT6 := Lib.hid hT6
          generalize hzs : cutBs tt (y.Batches.take q) = zs at HZ HKB HLZ2 ⊢
          have HZS := Lib.hid hzs
          clear hzs hyb hbm hXw hGi hT6
          obtain ⟨ht0, ht1⟩ := htt
          have BJ := Blk.new wr #[.int .i64 b.Base, .int .i64 b.Epoch, .int .i64 b.Producer, .int .i64 b.Turn, .int .i64 b.Seq, .int .i64 b.Flags, .slice A6 b.Records.length c6] 52
          have hbj := below_al wr (.cells #[.int .i64 b.Base, .int .i64 b.Epoch, .int .i64 b.Producer, .int .i64 b.Turn, .int .i64 b.Seq, .int .i64 b.Flags, .slice A6 b.Records.length c6] 52)
          obtain ⟨J, hJ⟩ : ∃ n, n = wr.heap.size := ⟨_, rfl⟩
          go_upto_region 14 with fail
          clear p0 p1 p2 p3 p4 p5 p6
          generalize wr.alloc (.cells #[.int .i64 b.Base, .int .i64 b.Epoch, .int .i64 b.Producer, .int .i64 b.Turn, .int .i64 b.Seq, .int .i64 b.Flags, .slice A6 b.Records.length c6] 52) = W7 at BJ hbj ⊢
          rw [← hJ] at BJ ⊢
          have HJ := Lib.hid hJ
          have hJw : wr.heap.size ≤ J := by omega
          clear hJ
          have BJX := Lib.hid BJ
          have j0 : W7.cell? ⟨J, 0, none⟩ = some (.int .i64 b.Base) := BJ.cell 0 _ rfl
          have j6 : W7.cell? ⟨J, 6, none⟩ = some (.slice A6 b.Records.length c6) := BJ.cell 6 _ rfl
          have jz := BJ.frz 6
          have jl := BJ.lt
          have HbX := Lib.hid hbj
          have hw0 : IntKind.i64.wrap (tt - b.Base) = tt - b.Base := IntWalk.i64_in _ (by omega)
          clear BJ hbj
          by_cases hge : 0 < tt - b.Base
          case neg =>
            have HKc : Hid (cutBs tt (y.Batches.take (q + 1)) = zs) := Lib.hid (by rw [HKB.out]; unfold cutB; rw [if_neg (by omega), List.append_nil])
            go_wp2
            go_roundg (y.Batches.length - q - 1)
            case rel => exact ⟨q + 1, A2, c2, by omega, by go_num, by rw [HKc.out], by rw [HKc.out]; exact Lib.hid ((HZ.out.below HbX.out).skip), below_tr hbi HbX.out⟩
            case measure => omega
          case pos =>
            have HKc : Hid (cutBs tt (y.Batches.take (q + 1)) = zs ++ [cutR tt b]) := Lib.hid (by rw [HKB.out]; unfold cutB; rw [if_pos (by omega)])
            obtain ⟨n0, hn0⟩ : ∃ n : Nat, tt - b.Base = (n : Int) := ⟨(tt - b.Base).toNat, by omega⟩
            go_upto_region 16 with fail
            clear hw0
            by_cases hmin : n0 ≤ b.Records.length
            case pos =>
              have hmi : (n0 : Int) ≤ (b.Records.length : Int) := by omega
              have hnc : n0 ≤ c6 := by omega
              go_upto_region 17 with fail
              have BJ8 : Blk (W7.setCell ⟨J, 6, none⟩ (.slice A6 n0 n0)) J #[.int .i64 b.Base, .int .i64 b.Epoch, .int .i64 b.Producer, .int .i64 b.Turn, .int .i64 b.Seq, .int .i64 b.Flags, .slice A6 n0 n0] 52 := by simpa using BJX.out.set 6 (.slice A6 n0 n0)
              obtain ⟨F8, hT8, hN8, hS8⟩ := cut_T2 (m := n0) tt (TS_setn (g := J) (o := 6) (u := .slice A6 n0 n0) (TS_below HT6.out HbX.out) (fun h => by have := TS_lt HT6.out J h; omega)) (by rw [show (tt - b.Base).toNat = n0 by omega]) (hmin) hbn (by omega)
              have HbX8 := Lib.hid (HbX.out.setCell (p := ⟨J, 6, none⟩) (by simp; omega) (.slice A6 n0 n0))
              have HF8 := Lib.hid (show F8.Nodup from hN8 ((flat_nd Gs HGD.out).1 Gi (List.mem_of_getElem? HGi.out)))
              have HS8 := Lib.hid (show ∀ b ∈ F8, b ∈ Gi ∨ wr.heap.size ≤ b from fun b hb' => .inl (hS8 b hb'))
              have HT8 := Lib.hid hT8
              clear BJX HbX j0 j6 jz jl hT8 hN8 hS8
              have BJX := Lib.hid BJ8
              clear BJ8
              generalize W7.setCell ⟨J, 6, none⟩ (.slice A6 n0 n0) = W8 at BJX HT8 HbX8 ⊢
              have d0 : W8.cell? ⟨J, 0, none⟩ = some (.int .i64 b.Base) := BJX.out.cell 0 _ rfl
              have d1 : W8.cell? ⟨J, 1, none⟩ = some (.int .i64 b.Epoch) := BJX.out.cell 1 _ rfl
              have d2 : W8.cell? ⟨J, 2, none⟩ = some (.int .i64 b.Producer) := BJX.out.cell 2 _ rfl
              have d3 : W8.cell? ⟨J, 3, none⟩ = some (.int .i64 b.Turn) := BJX.out.cell 3 _ rfl
              have d4 : W8.cell? ⟨J, 4, none⟩ = some (.int .i64 b.Seq) := BJX.out.cell 4 _ rfl
              have d5 : W8.cell? ⟨J, 5, none⟩ = some (.int .i64 b.Flags) := BJX.out.cell 5 _ rfl
              have d6 : W8.cell? ⟨J, 6, none⟩ = some (.slice A6 n0 n0) := BJX.out.cell 6 _ rfl
              have hal := below_al W8 (.cells #[.int .i64 b.Base, .int .i64 b.Epoch, .int .i64 b.Producer, .int .i64 b.Turn, .int .i64 b.Seq, .int .i64 b.Flags, .slice A6 n0 n0] 52)
              have HCH := Lib.hid (below_tr HbX8.out hal)
              have HTA := Lib.hid (T_bel HT8.out hal)
              have hNs : N2 ≤ wr.heap.size := by have := HN6.out; omega
              clear hal
              go_wp2_with (at_builtin; refine list_mv2 (v := .slice A2 zs.length c2) info_batch rfl (by decide) (by decide) rfl _ _ _ rfl Try.underlying70 rfl HZ.out HCH.out hNs _ _ rfl HTA.out (Box.new W8 _ _) HGD.out HGi.out HGN.out HF8.out HS8.out (by have := HLZ2.out; omega) ?_; intro A9 c9 W9 hO9 hgr hvb; have HGR := Lib.hid hgr; clear hgr)
              have hszc := HCH.out.size
              go_roundg (y.Batches.length - q - 1)
              case rel =>
                refine ⟨q + 1, A9, c9, by omega, by go_num, by rw [HKc.out, List.length_append, List.length_singleton], Lib.hid ?_, (below_tr hbi HCH.out).grown HGR.out (by omega) (fun q hq => by have := hvb q hq; have := HN6.out; omega)⟩
                rw [HKc.out, List.length_append, List.length_singleton]
                exact hO9
              case measure => omega
            case neg =>
              have hmi : ¬ (n0 : Int) ≤ (b.Records.length : Int) := by omega
              have hmj : (b.Records.length : Int) ≤ (n0 : Int) := by omega
              go_upto_region 17 with fail
              have BJ8 : Blk (W7.setCell ⟨J, 6, none⟩ (.slice A6 b.Records.length b.Records.length)) J #[.int .i64 b.Base, .int .i64 b.Epoch, .int .i64 b.Producer, .int .i64 b.Turn, .int .i64 b.Seq, .int .i64 b.Flags, .slice A6 b.Records.length b.Records.length] 52 := by simpa using BJX.out.set 6 (.slice A6 b.Records.length b.Records.length)
              obtain ⟨F8, hT8, hN8, hS8⟩ := cut_T2 (m := b.Records.length) tt (TS_setn (g := J) (o := 6) (u := .slice A6 b.Records.length b.Records.length) (TS_below HT6.out HbX.out) (fun h => by have := TS_lt HT6.out J h; omega)) (by rw [List.take_of_length_le (by omega), List.take_length]) (Nat.le_refl _) hbn (by omega)
              have HbX8 := Lib.hid (HbX.out.setCell (p := ⟨J, 6, none⟩) (by simp; omega) (.slice A6 b.Records.length b.Records.length))
              have HF8 := Lib.hid (show F8.Nodup from hN8 ((flat_nd Gs HGD.out).1 Gi (List.mem_of_getElem? HGi.out)))
              have HS8 := Lib.hid (show ∀ b ∈ F8, b ∈ Gi ∨ wr.heap.size ≤ b from fun b hb' => .inl (hS8 b hb'))
              have HT8 := Lib.hid hT8
              clear BJX HbX j0 j6 jz jl hT8 hN8 hS8
              have BJX := Lib.hid BJ8
              clear BJ8
              generalize W7.setCell ⟨J, 6, none⟩ (.slice A6 b.Records.length b.Records.length) = W8 at BJX HT8 HbX8 ⊢
              have d0 : W8.cell? ⟨J, 0, none⟩ = some (.int .i64 b.Base) := BJX.out.cell 0 _ rfl
              have d1 : W8.cell? ⟨J, 1, none⟩ = some (.int .i64 b.Epoch) := BJX.out.cell 1 _ rfl
              have d2 : W8.cell? ⟨J, 2, none⟩ = some (.int .i64 b.Producer) := BJX.out.cell 2 _ rfl
              have d3 : W8.cell? ⟨J, 3, none⟩ = some (.int .i64 b.Turn) := BJX.out.cell 3 _ rfl
              have d4 : W8.cell? ⟨J, 4, none⟩ = some (.int .i64 b.Seq) := BJX.out.cell 4 _ rfl
              have d5 : W8.cell? ⟨J, 5, none⟩ = some (.int .i64 b.Flags) := BJX.out.cell 5 _ rfl
              have d6 : W8.cell? ⟨J, 6, none⟩ = some (.slice A6 b.Records.length b.Records.length) := BJX.out.cell 6 _ rfl
              have hal := below_al W8 (.cells #[.int .i64 b.Base, .int .i64 b.Epoch, .int .i64 b.Producer, .int .i64 b.Turn, .int .i64 b.Seq, .int .i64 b.Flags, .slice A6 b.Records.length b.Records.length] 52)
              have HCH := Lib.hid (below_tr HbX8.out hal)
              have HTA := Lib.hid (T_bel HT8.out hal)
              have hNs : N2 ≤ wr.heap.size := by have := HN6.out; omega
              clear hal
              go_wp2_with (at_builtin; refine list_mv2 (v := .slice A2 zs.length c2) info_batch rfl (by decide) (by decide) rfl _ _ _ rfl Try.underlying70 rfl HZ.out HCH.out hNs _ _ rfl HTA.out (Box.new W8 _ _) HGD.out HGi.out HGN.out HF8.out HS8.out (by have := HLZ2.out; omega) ?_; intro A9 c9 W9 hO9 hgr hvb; have HGR := Lib.hid hgr; clear hgr)
              have hszc := HCH.out.size
              go_roundg (y.Batches.length - q - 1)
              case rel =>
                refine ⟨q + 1, A9, c9, by omega, by go_num, by rw [HKc.out, List.length_append, List.length_singleton], Lib.hid ?_, (below_tr hbi HCH.out).grown HGR.out (by omega) (fun q hq => by have := hvb q hq; have := HN6.out; omega)⟩
                rw [HKc.out, List.length_append, List.length_singleton]
                exact hO9
              case measure => omega
end Go.Proofs.Ytipemgjgimpmbaa.H
