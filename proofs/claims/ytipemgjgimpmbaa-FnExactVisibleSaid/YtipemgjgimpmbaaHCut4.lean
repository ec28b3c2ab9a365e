/-
The reference's CutTo. Conditions: each contract's own premises.
-/
import Derived.Test.YtipemgjgimpmbaaHCut2
import Derived.Test.YtipemgjgimpmbaaHCutQ
namespace Go.Proofs.Ytipemgjgimpmbaa.H
open Go.RowKit
set_option linter.unusedVariables false
set_option linter.unusedSimpArgs false
set_option maxRecDepth 100000
theorem cut_T {w : World} {F : List Nat} {b : Batch} {A : Option Addr} {c m : Nat} (tt : Int) (h : TS kRecord 116 w F b.Records (.slice A b.Records.length c)) (hm : (tt - b.Base).toNat = m) (hle : m ≤ b.Records.length) (h0 : 0 < b.Records.length) (hc : m ≤ c) {c' : Nat} (hmc : m ≤ c') (hc' : c' ≤ c) :
    ∃ F', kBatch.T w F' (cutR tt b) [.int .i64 b.Base, .int .i64 b.Epoch, .int .i64 b.Producer, .int .i64 b.Turn, .int .i64 b.Seq, .int .i64 b.Flags, .slice A m c'] ∧ (F.Nodup → F'.Nodup) ∧ ∀ q ∈ F', q ∈ F := by
  obtain ⟨F', h1, h2, h3⟩ := TS_take (n := m) (c' := c') h hle h0 hmc hc'
  refine ⟨F', ?_, h2, h3⟩
  have h4 := Batch.mkT w (cutR tt b) (v6 := .slice A m c') (F6 := F') (by unfold cutR; rw [hm]; exact h1)
  exact h4
theorem cut_all {tt : Int} {b : Batch} (h : (b.Records.length : Int) ≤ tt - b.Base) : cutR tt b = b := by
  unfold cutR
  rw [List.take_of_length_le (by omega)]
set_option maxHeartbeats 8000000 in
theorem specCutTo_m (w : World) (x : Log) (tt : Int) {A : Option Addr} {c : Nat} (hc : x.Segments.length ≤ c) (hr : Row kSegment w A x.Segments) (hs : x.sm) (hw : x.wf) :
    Calls Try.prog 18 #[.agg #[.int .i64 x.Start, .int .i64 x.Next, .int .i64 x.Roll, .slice A x.Segments.length c], .int .i64 tt] w (MadeLB (cutToL x tt) (cutOk x tt) w) := by
  have HS := Lib.hid hs
  have HW := Lib.hid hw
  have hln := hs.1
  clear hs hw
  have hu := Try.underlying83
  have hu2 := Try.underlying28
  have hu3 := Try.underlying30
  generalize hok : cutOk x tt = ok
  have Hok := Lib.hid hok
  generalize ho1 : logOk x = o1
  generalize ho2 : inB tt x.Start x.Next = o2
  have O1 := Lib.hid ho1
  have O2 := Lib.hid ho2
  have B1 := (Blk.new w #[.int .i64 x.Start, .int .i64 x.Next, .int .i64 x.Roll, .slice A x.Segments.length c] 30).below (below_al _ (.cells #[.int .i64 0, .int .i64 0, .int .i64 0, .slice none 0 0] 30))
  have B2 := Blk.new (w.alloc (.cells #[.int .i64 x.Start, .int .i64 x.Next, .int .i64 x.Roll, .slice A x.Segments.length c] 30)) #[.int .i64 0, .int .i64 0, .int .i64 0, .slice none 0 0] 30
  have hb := below_tr (below_al w (.cells #[.int .i64 x.Start, .int .i64 x.Next, .int .i64 x.Roll, .slice A x.Segments.length c] 30)) (below_al _ (.cells #[.int .i64 0, .int .i64 0, .int .i64 0, .slice none 0 0] 30))
  rw [size_al] at B2
  go_enter Try.func18, Try.ntmps18
  go_upto_region 1 with fail
  generalize (w.alloc (.cells #[.int .i64 x.Start, .int .i64 x.Next, .int .i64 x.Roll, .slice A x.Segments.length c] 30)).alloc (.cells #[.int .i64 0, .int .i64 0, .int .i64 0, .slice none 0 0] 30) = W1 at B1 B2 hb ⊢
  have a0 : W1.cell? ⟨w.heap.size, 0, none⟩ = some (.int .i64 x.Start) := B1.cell 0 _ rfl
  have a1 : W1.cell? ⟨w.heap.size, 1, none⟩ = some (.int .i64 x.Next) := B1.cell 1 _ rfl
  have a2 : W1.cell? ⟨w.heap.size, 2, none⟩ = some (.int .i64 x.Roll) := B1.cell 2 _ rfl
  have a3 : W1.cell? ⟨w.heap.size, 3, none⟩ = some (.slice A x.Segments.length c) := B1.cell 3 _ rfl
  have HR1 := Lib.hid (Row_below hr hb)
  have hsz := hb.size
  have HB1 := Lib.hid B1
  have HB2 := Lib.hid B2
  have g2 := B2.lt
  have Hh := Lib.hid hb
  clear B1 B2 hb
  by_cases hbb : ok = true
  case neg =>
    have hok0 : ok = false := by cases ok <;> simp_all
    subst hok0
    have HL : Hid (cutToL x tt = zLog) := Lib.hid (by unfold cutToL; rw [hok]; rfl)
    have hcase : o1 = false ∨ (o1 = true ∧ o2 = false) := by unfold cutOk at hok; rw [ho1, ho2] at hok; cases o1 <;> cases o2 <;> simp_all
    clear hok ho1 ho2 hbb
    rcases hcase with rfl | ⟨rfl, rfl⟩
    all_goals
      go_upto_region 2 with (first | (go_at_call 42; refine (specLogOk_c _ x hc HR1.out HS.out HW.out).mono ?_; rintro e W2 ⟨rfl, hb2⟩; rw [O1.out]; have b0 := later hb2 a0; have b1 := later hb2 a1) | (go_at_call 51; refine (l1In_c _ _ _ _).mono ?_; rintro e w' ⟨rfl, rfl⟩; rw [O2.out]))
      have C2 := HB2.out.below hb2
      have e0 := C2.cell 0 _ rfl
      have e1 := C2.cell 1 _ rfl
      have e2 := C2.cell 2 _ rfl
      have e3 := C2.cell 3 _ rfl
      have f0 := C2.frz 0
      have f1 := C2.frz 1
      have f2 := C2.frz 2
      have f3 := C2.frz 3
      have g3 := C2.lt
      have hbw := below_tr Hh.out hb2
      go_wp2
      refine bodyPost_ret (v := .tuple #[.agg #[.int .i64 0, .int .i64 0, .int .i64 0, .slice none 0 0], .bool false]) (by simp [results, Try.results18, go_sem, e0, e1, e2, e3]) rfl ?_
      rw [HL.out]
      refine lb_made (x := zLog) OwnT.nil ?_
      repeat (first | with_reducible exact Below.refl _ _ | with_reducible assumption | ((with_reducible refine Below.setCell ?_ ?_ _); rotate_left; (simp <;> omega)) | ((with_reducible refine Below.alloc ?_ ?_ _); rotate_left; (simp <;> omega)))
  case pos =>
    subst hbb
    have HL : Hid (cutToL x tt = ⟨x.Start, tt, x.Roll, cutGs tt x.Segments⟩) := Lib.hid (by unfold cutToL; rw [hok]; rfl)
    obtain ⟨rfl, rfl⟩ : o1 = true ∧ o2 = true := by unfold cutOk at hok; rw [ho1, ho2] at hok; cases o1 <;> cases o2 <;> simp_all
    have HAL := Lib.hid (logOk_all ho1).2
    have htt : 0 ≤ tt ∧ tt ≤ 1000000000 := by
      have h1 := (logOk_chain ho1).2.2
      simp only [logHdr, inB, Bool.and_eq_true, decide_eq_true_eq] at h1
      simp only [inB, decide_eq_true_eq] at ho2
      omega
    clear hok ho1 ho2
    go_upto_region 3 with (first | (go_at_call 42; refine (specLogOk_c _ x hc HR1.out HS.out HW.out).mono ?_; rintro e W2 ⟨rfl, hb2⟩; rw [O1.out]; have b0 := later hb2 a0; have b1 := later hb2 a1; have b2 := later hb2 a2; have b3 := later hb2 a3) | (go_at_call 51; refine (l1In_c _ _ _ _).mono ?_; rintro e w' ⟨rfl, rfl⟩; rw [O2.out]))
    have C1 := Lib.hid (HB1.out.below hb2)
    have C2 := Lib.hid (HB2.out.below hb2)
    have Hh2 := Lib.hid (below_tr Hh.out hb2)
    have hsz2 := hb2.size
    have g1 := C1.out.lt
    clear a0 a1 a2 a3 HB1 HB2 HR1 Hh
    obtain ⟨O, hO⟩ : ∃ n, n = W2.heap.size := ⟨_, rfl⟩
    go_upto_region 4 with fail
    clear b0 b1 b2 b3
    have B3 := Blk.new W2 #[.int .i64 x.Start, .int .i64 tt, .int .i64 x.Roll, .slice none 0 0] 30
    have hba := below_al W2 (.cells #[.int .i64 x.Start, .int .i64 tt, .int .i64 x.Roll, .slice none 0 0] 30)
    have D1 := C1.out.below hba
    have D2 := C2.out.below hba
    have hb3 := below_tr Hh2.out hba
    generalize W2.alloc (.cells #[.int .i64 x.Start, .int .i64 tt, .int .i64 x.Roll, .slice none 0 0] 30) = W3 at B3 D1 D2 hb3 hba ⊢
    rw [← hO] at B3 ⊢
    have HO := Lib.hid hO
    have hOg : w.heap.size + 2 ≤ O := by omega
    have hO3 := B3.lt
    clear hO C1 C2 Hh2 hba hb2 hsz2
    go_upto_region 5 with fail
    go_loopg [7] x.Segments.length (fun g v7 wr => ∃ (k : Nat) (A' : Option Addr) (c' : Nat), k + g = x.Segments.length ∧ v7 = .int .i64 k ∧ Hid (Blk wr w.heap.size #[.int .i64 x.Start, .int .i64 x.Next, .int .i64 x.Roll, .slice A x.Segments.length c] 30) ∧ Hid (Blk wr (w.heap.size + 1) #[.int .i64 0, .int .i64 0, .int .i64 0, .slice none 0 0] 30) ∧ Hid (Blk wr O #[.int .i64 x.Start, .int .i64 tt, .int .i64 x.Roll, .slice A' (cutGs tt (x.Segments.take k)).length c'] 30) ∧ Hid (OwnR kSegment 83 (O + 1) wr (cutGs tt (x.Segments.take k)) (.slice A' (cutGs tt (x.Segments.take k)).length c')) ∧ Below w.heap.size w wr)
    case atStart => exact ⟨0, none, 0, by omega, rfl, Lib.hid D1, Lib.hid D2, Lib.hid B3, Lib.hid (by rw [List.take_zero]; exact OwnR.nil), hb3⟩
    case round =>
      clear D1 D2 B3 hb3 hO3 HO
      obtain ⟨k, A', c', hk, rfl, HB1, HB2, HB3, HOW, hb⟩ := hrel
      have hg1 := HB1.out.lt
      have hg2 := HB2.out.lt
      have hg3 := HB3.out.lt
      have q3 : wr.cell? ⟨w.heap.size, 3, none⟩ = some (.slice A x.Segments.length c) := HB1.out.cell 3 _ rfl
      by_cases hlt : k < x.Segments.length
      case neg =>
        obtain rfl : k = x.Segments.length := by omega
        have d0 := HB3.out.cell 0 _ rfl
        have d1 := HB3.out.cell 1 _ rfl
        have d2 := HB3.out.cell 2 _ rfl
        have d3 := HB3.out.cell 3 _ rfl
        have e0 := HB2.out.cell 0 _ rfl
        have e1 := HB2.out.cell 1 _ rfl
        have e2 := HB2.out.cell 2 _ rfl
        have e3 := HB2.out.cell 3 _ rfl
        have f0 := HB2.out.frz 0
        have f1 := HB2.out.frz 1
        have f2 := HB2.out.frz 2
        have f3 := HB2.out.frz 3
        have hO := HOW.out.toT
        rw [List.take_length] at hO d3
        have HO2 := Lib.hid hO
        clear hO
        go_wp2
        refine bodyPost_ret (v := .tuple #[.agg #[.int .i64 x.Start, .int .i64 tt, .int .i64 x.Roll, .slice A' (cutGs tt x.Segments).length c'], .bool true]) (by simp [results, Try.results18, go_sem, e0, e1, e2, e3]) rfl ?_
        rw [HL.out]
        refine lb_made (x := ⟨x.Start, tt, x.Roll, cutGs tt x.Segments⟩) (OwnT.mono (B := O + 1) ?_ (by omega)) ?_
        · repeat (refine OwnT.setc ?_ _ _ _ (by omega))
          exact HO2.out
        · repeat (first | with_reducible exact Below.refl _ _ | with_reducible assumption | ((with_reducible refine Below.setCell ?_ ?_ _); rotate_left; (simp <;> omega)) | ((with_reducible refine Below.alloc ?_ ?_ _); rotate_left; (simp <;> omega)))
      have hkc : k ≤ x.Segments.length := by omega
      obtain ⟨ad, y, A1, c1, rfl, hy, p0, p1, l1, g1⟩ := Segment.at (Row_below hr hb) k hlt
      have HKT := Lib.hid (cutGs_take (tt := tt) hy)
      have hys := HS.out.2 y (List.mem_of_getElem? hy)
      have HYB := Lib.hid (show ∀ b ∈ y.Batches, batchOk b = true from fun b hb' => HAL.out b (List.mem_flatMap.2 ⟨y, List.mem_of_getElem? hy, hb'⟩))
      clear hy
      have HLZ := Lib.hid (Nat.le_trans (cutGs_len tt (x.Segments.take k)) (by rw [List.length_take]; omega) : (cutGs tt (x.Segments.take k)).length ≤ 1048576)
      generalize hYS : cutGs tt (x.Segments.take k) = ys at HB3 HOW HKT HLZ
      have HYS := Lib.hid hYS
      clear hYS
      have HY1 := Lib.hid g1
      have HP0 := Lib.hid p0
      have HP1 := Lib.hid p1
      clear g1 p0 p1
      have p0 := HP0.out
      obtain ⟨H, hH⟩ : ∃ n, n = wr.heap.size := ⟨_, rfl⟩
      have BH := Blk.new wr #[.int .i64 y.Base, .slice none 0 0] 83
      have hbh := below_al wr (.cells #[.int .i64 y.Base, .slice none 0 0] 83)
      go_upto_region 8 with fail
      clear p0 q3
      generalize wr.alloc (.cells #[.int .i64 y.Base, .slice none 0 0] 83) = W4 at BH hbh ⊢
      rw [← hH] at BH ⊢
      have HH := Lib.hid hH
      have hHO : O < H := by omega
      clear hH
      obtain ⟨WR, hWR⟩ : ∃ q, q = wr := ⟨_, rfl⟩
      have HWR := Lib.hid hWR
      rw [← hWR] at hbh HB1 HB2 HB3 HOW hb hg1 hg2 hg3 HY1 HP0 HP1 HH
      clear hWR HWR
      go_upto_region 9 with fail
      go_loopg [9] y.Batches.length (fun g v9 wi => ∃ (q : Nat) (A2 : Option Addr) (c2 : Nat), q + g = y.Batches.length ∧ v9 = .int .i64 q ∧ Hid (Blk wi H #[.int .i64 y.Base, .slice A2 (cutBs tt (y.Batches.take q)).length c2] 83) ∧ Hid (OwnR kBatch 52 (H + 1) wi (cutBs tt (y.Batches.take q)) (.slice A2 (cutBs tt (y.Batches.take q)).length c2)) ∧ Below WR.heap.size WR wi)
      case atStart => exact ⟨0, none, 0, by omega, rfl, Lib.hid BH, Lib.hid (by rw [List.take_zero]; exact OwnR.nil), hbh⟩
      case round =>
        clear BH hbh
        obtain ⟨q, A2, c2, hq, rfl, HI, HZ, hbi⟩ := hrel
        have hgi := HI.out.lt
        have hsi := hbi.size
        have C1 := Lib.hid (HB1.out.below hbi)
        have C2 := Lib.hid (HB2.out.below hbi)
        have C3 := Lib.hid (HB3.out.below hbi)
        have q3 : wr.cell? ⟨w.heap.size, 3, none⟩ = some (.slice (some ad) x.Segments.length c) := C1.out.cell 3 _ rfl
        have p1 := later hbi HP1.out
        have s1 : wr.cell? ⟨H, 1, none⟩ = some (.slice A2 (cutBs tt (y.Batches.take q)).length c2) := HI.out.cell 1 _ rfl
        have hyl := hys.1
        by_cases hlq : q < y.Batches.length
        case neg =>
          obtain rfl : q = y.Batches.length := by omega
          have s0 : wr.cell? ⟨H, 0, none⟩ = some (.int .i64 y.Base) := HI.out.cell 0 _ rfl
          have s3 : wr.cell? ⟨O, 3, none⟩ = some (.slice A' ys.length c') := C3.out.cell 3 _ rfl
          have hzl := cutBs_len tt (y.Batches.take y.Batches.length)
          rw [List.take_length] at HI HZ s1 hzl
          have HCG : Hid (cutG tt y = if (cutBs tt y.Batches).length = 0 then [] else [⟨y.Base, cutBs tt y.Batches⟩]) := Lib.hid rfl
          generalize hzs : cutBs tt y.Batches = zs at HI HZ s1 HCG hzl
          have HZS := Lib.hid hzs
          clear hzs
          have hbw := below_tr hb hbi
          by_cases hz0 : 0 < zs.length
          case neg =>
            have HG0 : Hid (cutGs tt (x.Segments.take (k + 1)) = ys) := Lib.hid (by rw [HKT.out, HCG.out, if_pos (by omega), List.append_nil])
            have hz1 : ¬ (0 : Int) < (zs.length : Int) := by omega
            clear hz0
            go_wp2
            go_roundg (x.Segments.length - k - 1)
            case rel => exact ⟨k + 1, A', c', by omega, by go_num, C1, C2, by rw [HG0.out]; exact C3, by rw [HG0.out]; exact Lib.hid (HOW.out.below hbi), hbw⟩
            case measure => omega
          case pos =>
            have HG1 : Hid (cutGs tt (x.Segments.take (k + 1)) = ys ++ [⟨y.Base, zs⟩]) := Lib.hid (by rw [HKT.out, HCG.out, if_neg (by omega)])
            have hz1 : (0 : Int) < (zs.length : Int) := by omega
            have hal := below_al wr (.cells #[.int .i64 y.Base, .slice A2 zs.length c2] 83)
            have HAL2 := Lib.hid hal
            have hch := Lib.hid (below_tr hbi hal)
            obtain ⟨F2, hT2, hN2, hG2, _⟩ := HZ.out.below hal
            have HTs := Lib.hid (seg_T (y := ⟨y.Base, zs⟩) hT2)
            have HF2 := Lib.hid (show Fresh WR F2 from ⟨hN2, fun b hb' => by have := hG2 b hb'; have := HH.out; omega⟩)
            clear hT2 hN2 hG2 hal
            go_wp2_with (at_builtin; refine list_el (v := .slice A' ys.length c') info_seg rfl (by decide) (by decide) rfl _ _ _ rfl Try.underlying28 rfl HOW.out hch.out (by omega) _ _ rfl HTs.out (Box.new wr _ _) HF2.out (by have := HLZ.out; omega) ?_; intro A7 c7 W8 hO8 hgr hvb; have HB3n := Lib.hid ((HB3.out.below hch.out).grown hgr (fun h => by have := hvb _ h; omega)); have t3n := HB3n.out.cell 3 (.slice A' ys.length c') rfl; have f3n := HB3n.out.frz 3; have g3n := HB3n.out.lt; have HGR := Lib.hid hgr; clear hgr)
            have HB1n := Lib.hid ((HB1.out.below hch.out).grown HGR.out (fun h => by have := hvb _ h; omega))
            have HB2n := Lib.hid ((HB2.out.below hch.out).grown HGR.out (fun h => by have := hvb _ h; omega))
            have hszc := hch.out.size
            go_roundg (x.Segments.length - k - 1)
            case rel =>
              refine ⟨k + 1, A7, c7, by omega, by go_num, Lib.hid (HB1n.out.far _ _ _ (by omega)), Lib.hid (HB2n.out.far _ _ _ (by omega)), Lib.hid ?_, Lib.hid ?_, ((below_tr hb hch.out).grown HGR.out (by have := hb.size; omega) (fun q hq => by have := hvb q hq; omega)).setCell (p := ⟨O, 3, none⟩) (by simp; omega) _⟩
              · rw [HG1.out, List.length_append, List.length_singleton]
                simpa using HB3n.out.set 3 (.slice A7 (ys.length + 1) c7)
              · rw [HG1.out, List.length_append, List.length_singleton]
                exact hO8.setc _ _ _ (by omega)
            case measure => omega
        case pos =>
          have HLZ2 := Lib.hid (Nat.le_trans (cutBs_len tt (y.Batches.take q)) (by rw [List.length_take]; omega) : (cutBs tt (y.Batches.take q)).length ≤ 1048576)
          obtain ⟨bd, b, A6, c6, rfl, hyb, b0, b1, b2, b3, b4, b5, b6, l6, g6⟩ := Batch.at (Row_below HY1.out hbi) q hlq
          have HKB := Lib.hid (cutBs_take (tt := tt) hyb)
          have hbm := List.mem_of_getElem? hyb
          have hbs := hys.2 b hbm
          have HBS := Lib.hid hbs
          have hbl := hbs.1
          have hbo := HYB.out b hbm
          obtain ⟨hv1, hv2, hv3, hv4, _⟩ := lastB_ge hbo
          have hbn : 0 < b.Records.length := by unfold lastB at hv1; omega
          generalize hzs : cutBs tt (y.Batches.take q) = zs at HI HZ s1 HKB HLZ2
          have HZS := Lib.hid hzs
          clear hzs hyb hbm hbs hbo
          have HG6 := Lib.hid g6
          clear g6
          go_upto_region 12 with (go_at_call 52; refine (l3Batch_c _ b l6 HG6.out HBS.out).mono ?_; rintro e W5 ⟨v6, Fb, rfl, hTb, hFb, hb5⟩; obtain ⟨v7, F7, he, e9, hT7⟩ := Batch.opnT hTb; simp only [List.cons.injEq, true_and, and_true] at he; subst he; subst e9; clear hTb; obtain ⟨A7, c7, e8, l7, _, _⟩ := TS_read hT7; subst e8)
          have hs5 := hb5.size
          obtain ⟨J, hJ⟩ : ∃ n, n = W5.heap.size := ⟨_, rfl⟩
          have HFJ := Lib.hid (show ∀ q ∈ Fb, q < J from fun q hq => by have := TS_lt hT7 q hq; omega)
          have BJ := Blk.new W5 #[.int .i64 b.Base, .int .i64 b.Epoch, .int .i64 b.Producer, .int .i64 b.Turn, .int .i64 b.Seq, .int .i64 b.Flags, .slice A7 b.Records.length c7] 52
          have hbj := below_al W5 (.cells #[.int .i64 b.Base, .int .i64 b.Epoch, .int .i64 b.Producer, .int .i64 b.Turn, .int .i64 b.Seq, .int .i64 b.Flags, .slice A7 b.Records.length c7] 52)
          have HT6 := Lib.hid (TS_below hT7 hbj)
          have HF6 := Lib.hid (show Fresh wr Fb from hFb)
          generalize W5.alloc (.cells #[.int .i64 b.Base, .int .i64 b.Epoch, .int .i64 b.Producer, .int .i64 b.Turn, .int .i64 b.Seq, .int .i64 b.Flags, .slice A7 b.Records.length c7] 52) = W6 at BJ hbj HT6 ⊢
          rw [← hJ] at BJ ⊢
          have hJw : wr.heap.size ≤ J := by omega
          have HbX := Lib.hid (below_tr hb5 hbj)
          have BJX := Lib.hid BJ
          have j0 : W6.cell? ⟨J, 0, none⟩ = some (.int .i64 b.Base) := BJ.cell 0 _ rfl
          have j6 : W6.cell? ⟨J, 6, none⟩ = some (.slice A7 b.Records.length c7) := BJ.cell 6 _ rfl
          have jz := BJ.frz 6
          have jl := BJ.lt
          clear hT7 hFb hJ hb5 hbj q3 p1 s1 b0 b1 b2 b3 b4 b5 b6 BJ hs5
          obtain ⟨ht0, ht1⟩ := htt
          by_cases hge : tt ≤ b.Base
          case pos =>
            have HKc : Hid (cutBs tt (y.Batches.take (q + 1)) = zs) := Lib.hid (by rw [HKB.out]; unfold cutB; rw [if_neg (by omega), List.append_nil])
            go_wp2
            go_roundg (y.Batches.length - q - 1)
            case rel => exact ⟨q + 1, A2, c2, by omega, by go_num, by rw [HKc.out]; exact Lib.hid (HI.out.below HbX.out), by rw [HKc.out]; exact Lib.hid (HZ.out.below HbX.out), below_tr hbi HbX.out⟩
            case measure => omega
          case neg =>
            have HKc : Hid (cutBs tt (y.Batches.take (q + 1)) = zs ++ [cutR tt b]) := Lib.hid (by rw [HKB.out]; unfold cutB; rw [if_pos (by omega)])
            by_cases hcut : tt < b.Base + (b.Records.length : Int)
            case neg =>
              have HTX : Hid (kBatch.T W6 Fb (cutR tt b) [.int .i64 b.Base, .int .i64 b.Epoch, .int .i64 b.Producer, .int .i64 b.Turn, .int .i64 b.Seq, .int .i64 b.Flags, .slice A7 b.Records.length c7]) := Lib.hid (by rw [cut_all (by omega)]; exact Batch.mkT W6 b HT6.out)
              have HFX := Lib.hid (show Fresh wr Fb from HF6.out)
              go_upto_region 15 with fail
              clear j0 j6 jz jl
              have d0 : W6.cell? ⟨J, 0, none⟩ = some (.int .i64 b.Base) := BJX.out.cell 0 _ rfl
              have d1 : W6.cell? ⟨J, 1, none⟩ = some (.int .i64 b.Epoch) := BJX.out.cell 1 _ rfl
              have d2 : W6.cell? ⟨J, 2, none⟩ = some (.int .i64 b.Producer) := BJX.out.cell 2 _ rfl
              have d3 : W6.cell? ⟨J, 3, none⟩ = some (.int .i64 b.Turn) := BJX.out.cell 3 _ rfl
              have d4 : W6.cell? ⟨J, 4, none⟩ = some (.int .i64 b.Seq) := BJX.out.cell 4 _ rfl
              have d5 : W6.cell? ⟨J, 5, none⟩ = some (.int .i64 b.Flags) := BJX.out.cell 5 _ rfl
              have d6 : W6.cell? ⟨J, 6, none⟩ = some (.slice A7 b.Records.length c7) := BJX.out.cell 6 _ rfl
              have HIX := Lib.hid (HI.out.below HbX.out)
              have t1 : W6.cell? ⟨H, 1, none⟩ = some (.slice A2 zs.length c2) := HIX.out.cell 1 _ rfl
              have hal := below_al W6 (.cells #[.int .i64 b.Base, .int .i64 b.Epoch, .int .i64 b.Producer, .int .i64 b.Turn, .int .i64 b.Seq, .int .i64 b.Flags, .slice A7 b.Records.length c7] 52)
              have HCH := Lib.hid (below_tr HbX.out hal)
              have HTA := Lib.hid (T_bel HTX.out hal)
              clear hal
              have hszX := HbX.out.size
              go_wp2_with (at_builtin; refine list_el (v := .slice A2 zs.length c2) info_batch rfl (by decide) (by decide) rfl _ _ _ rfl Try.underlying70 rfl HZ.out HCH.out (by omega) _ _ rfl HTA.out (Box.new W6 _ _) HFX.out (by have := HLZ2.out; omega) ?_; intro A9 c9 W9 hO9 hgr hvb; have HIn := Lib.hid ((HI.out.below HCH.out).grown hgr (fun h => by have := hvb _ h; omega)); have t1n := HIn.out.cell 1 (.slice A2 zs.length c2) rfl; have f1n := HIn.out.frz 1; have g1n := HIn.out.lt; have HGR := Lib.hid hgr; clear hgr)
              have hszc := HCH.out.size
              go_roundg (y.Batches.length - q - 1)
              case rel =>
                refine ⟨q + 1, A9, c9, by omega, by go_num, Lib.hid ?_, Lib.hid ?_, ((below_tr hbi HCH.out).grown HGR.out (by omega) (fun q hq => by have := hvb q hq; have := HH.out; omega)).setCell (p := ⟨H, 1, none⟩) (by have := HH.out; simp; omega) _⟩
                · rw [HKc.out, List.length_append, List.length_singleton]
                  simpa using HIn.out.set 1 (.slice A9 (zs.length + 1) c9)
                · rw [HKc.out, List.length_append, List.length_singleton]
                  exact hO9.setc _ _ _ (by omega)
              case measure => omega
            case pos =>
              obtain ⟨m, hm⟩ : ∃ m : Nat, tt - b.Base = (m : Int) := ⟨(tt - b.Base).toNat, by omega⟩
              have hml : m ≤ b.Records.length := by omega
              have hmc : m ≤ c7 := by omega
              have hw1 : IntKind.i64.wrap (tt - b.Base) = (m : Int) := by rw [← hm]; exact IntWalk.i64_in _ (by omega)
              obtain ⟨F8, hT8, hN8, hS8⟩ := cut_T tt HT6.out (by omega) hml hbn hmc hmc (Nat.le_refl _)
              have HFX := Lib.hid (show Fresh wr F8 from ⟨hN8 HF6.out.1, fun q hq => HF6.out.2 q (hS8 q hq)⟩)
              have HT8 := Lib.hid hT8
              have HNJ := Lib.hid (show ∀ q ∈ F8, q < J from fun q hq => HFJ.out q (hS8 q hq))
              clear hT8 hN8 hS8
              go_upto_region 15 with fail
              have BJ7 : Blk (W6.setCell ⟨J, 6, none⟩ (.slice A7 m c7)) J #[.int .i64 b.Base, .int .i64 b.Epoch, .int .i64 b.Producer, .int .i64 b.Turn, .int .i64 b.Seq, .int .i64 b.Flags, .slice A7 m c7] 52 := by simpa using BJX.out.set 6 (.slice A7 m c7)
              have HTX := Lib.hid (Ki.T_frame kBatch (w1 := W6.setCell ⟨J, 6, none⟩ (.slice A7 m c7)) (fun q hq => Below.heap_setCell W6 ⟨J, 6, none⟩ _ q (by have := HNJ.out q hq; simp; omega)) HT8.out)
              have HbX7 := Lib.hid (HbX.out.setCell (p := ⟨J, 6, none⟩) (by simp; omega) (.slice A7 m c7))
              clear BJX HbX j0 j6 jz jl hw1 hm
              have BJX := Lib.hid BJ7
              have HbX := HbX7
              clear BJ7 HbX7
              generalize W6.setCell ⟨J, 6, none⟩ (.slice A7 m c7) = W7 at BJX HTX HbX ⊢
              have d0 : W7.cell? ⟨J, 0, none⟩ = some (.int .i64 b.Base) := BJX.out.cell 0 _ rfl
              have d1 : W7.cell? ⟨J, 1, none⟩ = some (.int .i64 b.Epoch) := BJX.out.cell 1 _ rfl
              have d2 : W7.cell? ⟨J, 2, none⟩ = some (.int .i64 b.Producer) := BJX.out.cell 2 _ rfl
              have d3 : W7.cell? ⟨J, 3, none⟩ = some (.int .i64 b.Turn) := BJX.out.cell 3 _ rfl
              have d4 : W7.cell? ⟨J, 4, none⟩ = some (.int .i64 b.Seq) := BJX.out.cell 4 _ rfl
              have d5 : W7.cell? ⟨J, 5, none⟩ = some (.int .i64 b.Flags) := BJX.out.cell 5 _ rfl
              have d6 : W7.cell? ⟨J, 6, none⟩ = some (.slice A7 m c7) := BJX.out.cell 6 _ rfl
              have HIX := Lib.hid (HI.out.below HbX.out)
              have t1 : W7.cell? ⟨H, 1, none⟩ = some (.slice A2 zs.length c2) := HIX.out.cell 1 _ rfl
              have hal := below_al W7 (.cells #[.int .i64 b.Base, .int .i64 b.Epoch, .int .i64 b.Producer, .int .i64 b.Turn, .int .i64 b.Seq, .int .i64 b.Flags, .slice A7 m c7] 52)
              have HCH := Lib.hid (below_tr HbX.out hal)
              have HTA := Lib.hid (T_bel HTX.out hal)
              clear hal
              have hszX := HbX.out.size
              go_wp2_with (at_builtin; refine list_el (v := .slice A2 zs.length c2) info_batch rfl (by decide) (by decide) rfl _ _ _ rfl Try.underlying70 rfl HZ.out HCH.out (by omega) _ _ rfl HTA.out (Box.new W7 _ _) HFX.out (by have := HLZ2.out; omega) ?_; intro A9 c9 W9 hO9 hgr hvb; have HIn := Lib.hid ((HI.out.below HCH.out).grown hgr (fun h => by have := hvb _ h; omega)); have t1n := HIn.out.cell 1 (.slice A2 zs.length c2) rfl; have f1n := HIn.out.frz 1; have g1n := HIn.out.lt; have HGR := Lib.hid hgr; clear hgr)
              have hszc := HCH.out.size
              go_roundg (y.Batches.length - q - 1)
              case rel =>
                refine ⟨q + 1, A9, c9, by omega, by go_num, Lib.hid ?_, Lib.hid ?_, ((below_tr hbi HCH.out).grown HGR.out (by omega) (fun q hq => by have := hvb q hq; have := HH.out; omega)).setCell (p := ⟨H, 1, none⟩) (by have := HH.out; simp; omega) _⟩
                · rw [HKc.out, List.length_append, List.length_singleton]
                  simpa using HIn.out.set 1 (.slice A9 (zs.length + 1) c9)
                · rw [HKc.out, List.length_append, List.length_singleton]
                  exact hO9.setc _ _ _ (by omega)
              case measure => omega
end Go.Proofs.Ytipemgjgimpmbaa.H
