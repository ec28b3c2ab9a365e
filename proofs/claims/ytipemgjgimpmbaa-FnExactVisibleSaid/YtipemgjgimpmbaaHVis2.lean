/-
The program's Visible. Conditions: each contract's own premises.
-/
import Derived.Test.YtipemgjgimpmbaaHVis1
import Derived.Test.YtipemgjgimpmbaaHMv3
import Derived.Test.YtipemgjgimpmbaaHCut1
namespace Go.Proofs.Ytipemgjgimpmbaa.H
open Go.RowKit
set_option linter.unusedVariables false
set_option linter.unusedSimpArgs false
set_option maxRecDepth 100000
theorem info_read : (Try.prog.info? 118).map (fun i => (i.zero, i.size, i.bytes)) = some (some (.agg #[.int .i64 0, .int .i64 0, .bool false, .string ⟨#[]⟩, .bool false, .string ⟨#[]⟩, .slice none 0 0]), 7, 88) := by kernel_rfl
/-- The answer: what is read, a row of the call's own, and a number. -/
def MadeRN (l : List Read) (n : Int) (w : World) (en : Ending) (w' : World) : Prop := ∃ v F, en = .returned (.tuple #[v, .int .i64 n]) ∧ TS kRead 118 w' F l v ∧ Fresh w F ∧ Below w.heap.size w w'
set_option maxHeartbeats 8000000 in
theorem implVisible_c (w : World) (x : Log) (fr : Int) (st : Bool) {A : Option Addr} {c : Nat} (hc : x.Segments.length ≤ c) (hr : Row kSegment w A x.Segments) (hs : x.sm) (hz : x.sz ≤ 1048576) :
    Calls Try.prog 35 #[.agg #[.int .i64 x.Start, .int .i64 x.Next, .int .i64 x.Roll, .slice A x.Segments.length c], .int .i64 fr, .bool st] w (MadeRN (visF x fr st) (visN x fr st) w) := by
  have HS := Lib.hid hs
  have hlen := hs.1
  clear hs
  have hu := Try.underlying52
  have hu2 := Try.underlying70
  have hu3 := Try.underlying116
  have hu4 := Try.underlying50
  have hu5 := Try.underlying118
  have hu6 := Try.underlying59
  generalize hok : cutOk x fr = ok
  have Hok := Lib.hid hok
  cases ok with
  | false =>
    have HF : Hid (visF x fr st = []) := Lib.hid (by unfold visF; rw [hok]; rfl)
    have HN : Hid (visN x fr st = -1) := Lib.hid (by unfold visN; rw [hok]; rfl)
    clear hok
    go_enter Try.func35, Try.ntmps35
    go_wp2_with (go_at_call 53; refine (inLog_c _ x fr hc (Row_below hr (below_al _ _)) HS.out).mono ?_; rintro e W2 ⟨rfl, hb2⟩; rw [show (logOk x && inB fr x.Start x.Next) = false from Hok.out])
    refine bodyPost_ret (v := .tuple #[.slice none 0 0, .int .i64 (-1)]) (by simp [results, Try.results35, go_sem]) rfl ?_
    rw [HF.out, HN.out]
    exact ⟨_, [], rfl, TS_nil, Fresh.nil _, below_tr (below_al _ _) hb2⟩
  | true =>
    have hlo : logOk x = true := by unfold cutOk at hok; simp at hok; exact hok.1
    have HLO := Lib.hid hlo
    have HAF : Hid ((txF (allB x)).2 = aborted x) := Lib.hid (by unfold aborted; rw [if_pos hlo])
    have hal := aborted_len x
    have HFO := Lib.hid (fOk_all hlo).2
    have hbl := (fOk_all hlo).1
    have hfr : 0 ≤ fr ∧ fr ≤ 1000000000 := by
      have h1 := (logOk_chain hlo).2.2
      have h2 : inB fr x.Start x.Next = true := by unfold cutOk at hok; simp at hok; exact hok.2
      simp only [logHdr, inB, Bool.and_eq_true, decide_eq_true_eq] at h1 h2
      omega
    have HF : Hid (visF x fr st = visL st (aborted x) fr (visEnd x st) (allB x)) := Lib.hid (by unfold visF; rw [hok]; rfl)
    have HN : Hid (visN x fr st = if visEnd x st < fr then fr else visEnd x st) := Lib.hid (by unfold visN; rw [hok]; rfl)
    have HSM := Lib.hid (show ∀ b ∈ allB x, b.sm from fun b hb' => by
      unfold allB at hb'
      obtain ⟨s, hs', hb'⟩ := List.mem_flatMap.1 hb'
      exact (HS.out.2 s hs').2 b hb')
    have HO := Lib.hid (logOk_all hlo).2
    have HRM := Lib.hid (show ∀ (gs : List Gone) (en : Int) (k : Nat) (b : Batch), (allB x)[k]? = some b → (visL st gs fr en ((allB x).take k)).length + b.Records.length ≤ 1048576 from fun gs en k b h => vis_room hz st gs fr en h)
    clear hok hlo
    generalize aborted x = gs at HAF hal HF
    go_enter Try.func35, Try.ntmps35
    go_upto_region 3 with (go_at_call 53; refine (inLog_c _ x fr hc (Row_below hr (below_al _ _)) HS.out).mono ?_; rintro e W2 ⟨rfl, hb2⟩; rw [show (logOk x && inB fr x.Start x.Next) = true from Hok.out]; have X := (Box.new w _ _).later hb2; have z0 := X 0 _ rfl; have z1 := X 1 _ rfl; have z2 := X 2 _ rfl; have z3 := X 3 _ rfl; have hgz := X.lt rfl; have HX := Lib.hid X; clear X)
    have HB2 := Lib.hid (below_tr (below_al w _) hb2)
    have HR2 := Lib.hid (Row_below hr HB2.out)
    clear hb2
    go_upto_region 4 with (go_at_call 47; refine (implTx_c _ x hc HR2.out HS.out HLO.out).mono ?_; rintro e W3 ⟨bm, D, v4, rfl, hown, hT, hO, hb3⟩; rw [HAF.out] at hO; obtain ⟨Fg, hg1, _⟩ := hO; obtain ⟨Ag, cg, rfl, lg, _, gg⟩ := TS_read hg1; have y0 := later hb3 z0; have y1 := later hb3 z1; have y2 := later hb3 z2; have y3 := later hb3 z3; have HRg := Lib.hid gg; have Hb3 := Lib.hid hb3; clear hown hT hg1 gg hb3)
    cases st
    case false =>
      have HR3 := Lib.hid (Row_below HR2.out Hb3.out)
      have HB3 := Lib.hid (below_tr HB2.out Hb3.out)
      have HEN : Hid (visEnd x false = x.Next) := Lib.hid rfl
      rw [HEN.out] at HF HN
      go_upto_region 8 with (first | fail)
      have HBw := Lib.hid HB3.out
      have HRw := Lib.hid (Row_below hr HBw.out)
      have HGw := Lib.hid HRg.out
      generalize x.Next = en at HF HN HEN ⊢
      go_upto_region 9 with (go_at_call 80; refine (batches_c _ x hc HRw.out hlen (by omega)).mono ?_; rintro e W5 ⟨A9, c9, rfl, l9, r9, hb5⟩; have HR9 := Lib.hid r9; clear r9)
      have HB5 := Lib.hid (below_tr HBw.out hb5)
      have HG5 := Lib.hid (Row_below HGw.out hb5)
      clear hb5 z0 z1 z2 z3 y0 y1 y2 y3 HR2 HR3 HB2 HB3 Hb3 HBw HRw HGw HRg HX
      generalize allB x = L at HFO hbl HF HSM HO HR9 l9 HRM ⊢
      obtain ⟨M0, hM0⟩ : ∃ n, n = W5.heap.size := ⟨_, rfl⟩
      have HM0 := Lib.hid hM0
      have hM1 : w.heap.size ≤ M0 := by have := HB5.out.size; omega
      clear hM0
      go_loopg [11, 35] L.length (fun g v11 v35 wr => ∃ (k : Nat) (A' : Option Addr) (c' : Nat), k + g = L.length ∧ v35 = .int .i64 k ∧ v11 = .slice A' (visL false gs fr en (L.take k)).length c' ∧ Hid (OwnR kRead 118 M0 wr (visL false gs fr en (L.take k)) (.slice A' (visL false gs fr en (L.take k)).length c')) ∧ Below M0 W5 wr)
      case atStart => exact ⟨0, none, 0, by omega, rfl, rfl, Lib.hid (by rw [List.take_zero]; exact OwnR.nil), Below.refl _ _⟩
      case round =>
        obtain ⟨k, A', c', hk, rfl, rfl, HOW, hb⟩ := hrel
        have hbM : Below W5.heap.size W5 wr := by rw [← HM0.out]; exact hb
        by_cases hlt : k < L.length
        case neg =>
          obtain rfl : k = L.length := by omega
          rw [List.take_length] at HOW ⊢
          rw [← HF.out] at HOW ⊢
          by_cases hmx : en < fr
          case pos =>
            have HN2 : Hid (visN x fr false = fr) := Lib.hid (by rw [HN.out, if_pos hmx])
            have hm1 : en ≤ fr := by omega
            have hm2 : ¬ fr ≤ en := by omega
            go_wp2
            refine bodyPost_ret (v := .tuple #[.slice A' (visF x fr false).length c', .int .i64 fr]) (by simp [results, Try.results35, go_sem]) rfl ?_
            rw [HN2.out]
            obtain ⟨F, hT, hF⟩ := (HOW.out.mono hM1).fresh
            exact ⟨_, F, rfl, hT, hF, below_tr HB5.out hbM⟩
          case neg =>
            have HN2 : Hid (visN x fr false = en) := Lib.hid (by rw [HN.out, if_neg hmx])
            have hm1 : fr ≤ en := by omega
            go_wp2
            refine bodyPost_ret (v := .tuple #[.slice A' (visF x fr false).length c', .int .i64 en]) (by simp [results, Try.results35, go_sem]) rfl ?_
            rw [HN2.out]
            obtain ⟨F, hT, hF⟩ := (HOW.out.mono hM1).fresh
            exact ⟨_, F, rfl, hT, hF, below_tr HB5.out hbM⟩
        case pos =>
          obtain ⟨bd, b, A6, c6, rfl, hyb, p0, p1, p2, p3, p4, p5, p6, l6, g6⟩ := Batch.at (Row_below HR9.out hbM) k hlt
          have HKV := Lib.hid (visL_take (st := false) (gs := gs) (fr := fr) (en := en) hyb)
          have hbm := List.mem_of_getElem? hyb
          obtain ⟨_, ⟨fb1, fb2⟩, ⟨ff1, ff2⟩, _, _⟩ := HFO.out b hbm
          have hbs := HSM.out b hbm
          have hbl2 := hbs.1
          have HBS := Lib.hid hbs
          have HLZ := Lib.hid (HRM.out gs en k b hyb)
          clear hyb hbm hbs
          generalize visL false gs fr en (L.take k) = zs at HOW HKV HLZ ⊢
          have BJ := Blk.new wr #[.int .i64 b.Base, .int .i64 b.Epoch, .int .i64 b.Producer, .int .i64 b.Turn, .int .i64 b.Seq, .int .i64 b.Flags, .slice A6 b.Records.length c6] 52
          have hbj := below_al wr (.cells #[.int .i64 b.Base, .int .i64 b.Epoch, .int .i64 b.Producer, .int .i64 b.Turn, .int .i64 b.Seq, .int .i64 b.Flags, .slice A6 b.Records.length c6] 52)
          have HG6 := Lib.hid (Row_below g6 hbj)
          obtain ⟨J, hJ⟩ : ∃ n, n = wr.heap.size := ⟨_, rfl⟩
          go_upto_region 11 with fail
          clear p0 p1 p2 p3 p4 p5 p6 g6
          generalize wr.alloc (.cells #[.int .i64 b.Base, .int .i64 b.Epoch, .int .i64 b.Producer, .int .i64 b.Turn, .int .i64 b.Seq, .int .i64 b.Flags, .slice A6 b.Records.length c6] 52) = W6 at BJ hbj HG6 ⊢
          rw [← hJ] at BJ ⊢
          have HJ := Lib.hid hJ
          clear hJ
          have BJX := Lib.hid BJ
          have j5 : W6.cell? ⟨J, 5, none⟩ = some (.int .i64 b.Flags) := BJ.cell 5 _ rfl
          have HbX := Lib.hid hbj
          have hszj := hbj.size
          clear BJ hbj
          have e4 : Go.bits .and .i64 b.Flags 4 = 4 * (b.Flags / 4) := and4 ff1 ff2
          have e2 : Go.bits .and .i64 b.Flags 2 = 2 * (b.Flags / 2 % 2) := and2 ff1 ff2
          by_cases h4 : 4 ≤ b.Flags
          case pos =>
            have h5 : b.Flags / 4 = 1 := by omega
            rw [h5] at e4
            have HZ : Hid (visL false gs fr en (L.take (k + 1)) = zs) := Lib.hid (by rw [HKV.out]; unfold visB; rw [if_pos h4, List.append_nil])
            go_wp2
            go_roundg (gk - 1)
            case rel => exact ⟨k + 1, A', c', by omega, by go_num, by rw [HZ.out], by rw [HZ.out]; exact Lib.hid (HOW.out.below HbX.out), by have := below_tr hbM HbX.out; rw [HM0.out]; exact this⟩
            case measure => omega
          case neg =>
            have h5 : b.Flags / 4 = 0 := by omega
            rw [h5] at e4
            by_cases h2 : b.Flags / 2 % 2 = 1
            case pos =>
              rw [h2] at e2
              clear h2
              go_upto_region 14 with (go_at_call 81; refine (visHas_c _ b gs J lg (Row_below (Row_below HG5.out hbM) HbX.out) (by omega) l6 BJX.out fb1 fb2 hbl2).mono ?_; rintro e W7 ⟨rfl, hb7⟩)
              have HJW := Lib.hid hb7
              have HBJ := Lib.hid (BJX.out.below HJW.out)
              have j6 : W7.cell? ⟨J, 6, none⟩ = some (.slice A6 b.Records.length c6) := HBJ.out.cell 6 _ rfl
              have HZK : Hid (visL false gs fr en (L.take (k + 1)) = zs ++ readsB fr en b b.Records 0) := Lib.hid (by rw [HKV.out]; unfold visB; rw [if_neg (show ¬ 4 ≤ b.Flags by omega), if_neg (by simp)])
              go_upto_region 15 with (go_at_call 83; refine (implCopyRecords_c _ b.Records l6 (Row_below HG6.out HJW.out) hbl2 HBS.out.2).mono ?_; rintro e W8 ⟨v9, Fc, rfl, hTc, hFc, hb8⟩; obtain ⟨Ac, cc, e8, lc, _, _⟩ := TS_read hTc; subst e8)
              clear j6
              obtain ⟨Fs, hX, hXF⟩ := TSx.of hTc hFc.1
              obtain ⟨N, hN⟩ : ∃ n, n = W8.heap.size := ⟨_, rfl⟩
              have HXs := Lib.hid hX
              have HFs := Lib.hid (show ∀ Fi ∈ Fs, ∀ q ∈ Fi, J ≤ q ∧ q < N from fun Fi hFi q hq => by
                have h1 := hXF q (List.mem_append_right _ (List.mem_flatten.2 ⟨Fi, hFi, hq⟩))
                have h2 := TS_lt hTc q h1
                exact ⟨by have := hFc.2 q h1; have := HBJ.out.lt; omega, by omega⟩)
              have HND := Lib.hid (show Fs.flatten.Nodup by obtain ⟨_, _, _, h, _⟩ := hX; exact (List.nodup_append.1 h).2.1)
              have HM8 := Lib.hid ((MvM.start (i := 0) (N := N) (Fs := Fs) (M := J) HOW.out (by have := HJ.out; omega)).below (below_tr (below_tr HbX.out HJW.out) hb8))
              have HB8 := Lib.hid (below_tr (below_tr HbX.out HJW.out) hb8)
              have HBJ8 := Lib.hid (HBJ.out.below hb8)
              have HN8 := Lib.hid hN
              have hJ7 : J < W7.heap.size := HBJ.out.lt
              have hMN : J ≤ N := by have := hb8.size; omega
              have hJN : J < N := by have := hb8.size; omega
              have hBM : M0 ≤ J := by have := hbM.size; have := HM0.out; have := HJ.out; omega
              have HXB := Lib.hid (show ∀ q ∈ (Value.slice Ac b.Records.length cc).ownBlock.toList ++ Fs.flatten, J ≤ q ∧ q < N from fun q hq => by have h1 := hXF q hq; have h2 := TS_lt hTc q h1; have h3 := hFc.2 q h1; omega)
              have HBM8 := Lib.hid (show Below M0 W5 W8 by have := below_tr hbM HB8.out; rw [HM0.out]; exact this)
              clear hX hXF hTc hFc hb8 hN
              go_loopg [11, 60] b.Records.length (fun g v11 v60 wi => ∃ (q : Nat) (A2 : Option Addr) (c2 : Nat), q + g = b.Records.length ∧ v60 = .int .i64 q ∧ v11 = .slice A2 (zs ++ readsB fr en b (b.Records.take q) 0).length c2 ∧ Hid (MvM kRead 118 wi Fs q J N M0 (zs ++ readsB fr en b (b.Records.take q) 0) (.slice A2 (zs ++ readsB fr en b (b.Records.take q) 0).length c2)) ∧ Hid (St J N W8 wi) ∧ N ≤ wi.heap.size ∧ Below M0 W5 wi)
              case atStart => exact ⟨0, A', c', by omega, rfl, by simp [readsB], by simpa [readsB] using HM8, Lib.hid (St.refl _ _ _), by rw [HN8.out]; exact Nat.le_refl _, HBM8.out⟩
              case round =>
                clear HM8
                obtain ⟨q, A2, c2, hq, rfl, rfl, HM, HST, hNs, hbi⟩ := hrel
                have hsi := hbi.size
                by_cases hlq : q < b.Records.length
                case neg =>
                  obtain rfl : q = b.Records.length := by omega
                  rw [List.take_length] at HM ⊢
                  rw [← HZK.out] at HM ⊢
                  go_wp2
                  go_roundg (L.length - k - 1)
                  case rel => exact ⟨k + 1, A2, c2, by omega, by go_num, rfl, Lib.hid HM.out.own, hbi⟩
                  case measure => omega
                case pos =>
                  have hXw := HXs.out.frame (fun b' hb' => HST.out b' (HXB.out b' hb').1 (HXB.out b' hb').2)
                  obtain ⟨rd, r, cs, Fi, ⟨q9, hv⟩, hyr, hFi, hTi, hcell0⟩ := hXw.at q hlq
                  simp only [Value.slice.injEq, true_and] at hv
                  obtain ⟨rfl, rfl⟩ := hv
                  have hcell : ∀ j u, cs[j]? = some u → wr.cell? (rd.add (q * 6 + j)) = some u := hcell0
                  obtain ⟨v5, F5, rfl, rfl, hT5⟩ := Record.opnT hTi
                  obtain ⟨A5, c5, rfl, l5, _, _⟩ := TS_read hT5
                  have p0 := hcell 0 _ rfl
                  have p1 := hcell 1 _ rfl
                  have p2 := hcell 2 _ rfl
                  have p3 := hcell 3 _ rfl
                  have p4 := hcell 4 _ rfl
                  have p5 := hcell 5 _ rfl
                  rw [Nat.add_zero] at p0
                  rw [add_field _ _ 1 (by omega)] at p1
                  rw [add_field _ _ 2 (by omega)] at p2
                  rw [add_field _ _ 3 (by omega)] at p3
                  rw [add_field _ _ 4 (by omega)] at p4
                  rw [add_field _ _ 5 (by omega)] at p5
                  clear hcell hcell0 hTi hXw
                  have HKR : Hid (zs ++ readsB fr en b (b.Records.take (q + 1)) 0 = (zs ++ readsB fr en b (b.Records.take q) 0) ++ readB fr en b q r) := Lib.hid (by rw [readsB_take hyr, List.append_assoc])
                  have HYL : Hid ((zs ++ readsB fr en b (b.Records.take q) 0).length ≤ 1048576) := Lib.hid (by have h1 := readsB_len fr en b (b.Records.take q) 0; have h2 := HLZ.out; rw [List.length_take] at h1; rw [List.length_append]; omega)
                  have HFi := Lib.hid hFi
                  have HFiN := Lib.hid (HFs.out Fi (List.mem_of_getElem? hFi))
                  have HT5 := Lib.hid hT5
                  generalize zs ++ readsB fr en b (b.Records.take q) 0 = ys at HM HKR HYL ⊢
                  clear hFi hT5 hyr
                  have hbr := below_al wr (.cells #[.int .i64 r.Time, .bool r.Keyed, .string r.Key, .bool r.Gone, .string r.Value, .slice A5 r.Heads.length c5] 116)
                  have BR := Blk.new wr #[.int .i64 r.Time, .bool r.Keyed, .string r.Key, .bool r.Gone, .string r.Value, .slice A5 r.Heads.length c5] 116
                  obtain ⟨RR, hRR⟩ : ∃ n, n = wr.heap.size := ⟨_, rfl⟩
                  go_upto_region 17 with fail
                  clear p0 p1 p2 p3 p4 p5
                  generalize wr.alloc (.cells #[.int .i64 r.Time, .bool r.Keyed, .string r.Key, .bool r.Gone, .string r.Value, .slice A5 r.Heads.length c5] 116) = W9 at BR hbr ⊢
                  rw [← hRR] at BR ⊢
                  have HRR := Lib.hid hRR
                  clear hRR
                  have d0 : W9.cell? ⟨RR, 0, none⟩ = some (.int .i64 r.Time) := BR.cell 0 _ rfl
                  have d1 : W9.cell? ⟨RR, 1, none⟩ = some (.bool r.Keyed) := BR.cell 1 _ rfl
                  have d2 : W9.cell? ⟨RR, 2, none⟩ = some (.string r.Key) := BR.cell 2 _ rfl
                  have d3 : W9.cell? ⟨RR, 3, none⟩ = some (.bool r.Gone) := BR.cell 3 _ rfl
                  have d4 : W9.cell? ⟨RR, 4, none⟩ = some (.string r.Value) := BR.cell 4 _ rfl
                  have d5 : W9.cell? ⟨RR, 5, none⟩ = some (.slice A5 r.Heads.length c5) := BR.cell 5 _ rfl
                  have j0 : W9.cell? ⟨J, 0, none⟩ = some (.int .i64 b.Base) := Blk.cell (show Blk W9 J _ _ from (hbr.block J (by omega)).trans ((HST.out J (Nat.le_refl _) hJN).trans HBJ8.out)) 0 _ rfl
                  have hw1 : IntKind.i64.wrap (b.Base + (q : Int)) = b.Base + (q : Int) := IntWalk.i64_in _ (by omega)
                  have Hbr := Lib.hid hbr
                  clear BR hbr
                  by_cases hf : fr ≤ b.Base + (q : Int)
                  case neg =>
                    have HKs : Hid (zs ++ readsB fr en b (b.Records.take (q + 1)) 0 = ys) := Lib.hid (by rw [HKR.out]; unfold readB; rw [if_neg (by omega), List.append_nil])
                    go_wp2
                    go_roundg (b.Records.length - q - 1)
                    case rel => exact ⟨q + 1, A2, c2, by omega, by go_num, by rw [HKs.out], by rw [HKs.out]; exact Lib.hid ((HM.out.below Hbr.out).skip), Lib.hid (HST.out.trans (St.of_below Hbr.out hNs)), by have := Hbr.out.size; omega, hbi.trans (Hbr.out.mono (by have := hbi.size; have := HM0.out; omega))⟩
                    case measure => omega
                  by_cases he : b.Base + (q : Int) < en
                  case neg =>
                    have HKs : Hid (zs ++ readsB fr en b (b.Records.take (q + 1)) 0 = ys) := Lib.hid (by rw [HKR.out]; unfold readB; rw [if_neg (by omega), List.append_nil])
                    go_wp2
                    go_roundg (b.Records.length - q - 1)
                    case rel => exact ⟨q + 1, A2, c2, by omega, by go_num, by rw [HKs.out], by rw [HKs.out]; exact Lib.hid ((HM.out.below Hbr.out).skip), Lib.hid (HST.out.trans (St.of_below Hbr.out hNs)), by have := Hbr.out.size; omega, hbi.trans (Hbr.out.mono (by have := hbi.size; have := HM0.out; omega))⟩
                    case measure => omega
                  have HKs : Hid (zs ++ readsB fr en b (b.Records.take (q + 1)) 0 = ys ++ [⟨b.Base + (q : Int), r⟩]) := Lib.hid (by rw [HKR.out]; unfold readB; rw [if_pos ⟨by omega, by omega⟩])
                  have hal := below_al W9 (.cells #[.int .i64 (b.Base + (q : Int)), .int .i64 r.Time, .bool r.Keyed, .string r.Key, .bool r.Gone, .string r.Value, .slice A5 r.Heads.length c5] 118)
                  have HCH := Lib.hid (below_tr Hbr.out hal)
                  have HTA := Lib.hid (Read.mkT _ ⟨b.Base + (q : Int), r⟩ (TS_below HT5.out HCH.out))
                  clear hal
                  go_wp2_with (at_builtin; refine list_mv3 (v := .slice A2 ys.length c2) info_read rfl (by decide) (by decide) rfl _ _ _ rfl Try.underlying59 rfl HM.out HCH.out hNs _ _ rfl HTA.out (Box.new W9 _ _) HND.out HFi.out HFiN.out hBM hMN HYL.out ?_; intro A11 c11 W11 hM11 hgr hvb; have HGR := Lib.hid hgr; clear hgr)
                  have hszc := HCH.out.size
                  go_roundg (b.Records.length - q - 1)
                  case rel =>
                    refine ⟨q + 1, A11, c11, by omega, by go_num, by rw [HKs.out, List.length_append, List.length_singleton], Lib.hid ?_, Lib.hid ((HST.out.trans (St.of_below HCH.out hNs)).trans (St.grown2 HGR.out (by omega) (fun k hk => (hvb k hk).2))), by have := HGR.out.size; omega, ?_⟩
                    · rw [HKs.out, List.length_append, List.length_singleton]
                      exact hM11
                    · exact (hbi.trans (HCH.out.mono (by have := hbi.size; have := HM0.out; omega))).grown HGR.out (by have := hbi.size; have := HM0.out; omega) (fun k hk => (hvb k hk).1)
                  case measure => omega
            case neg =>
              have h3 : b.Flags / 2 % 2 = 0 := by omega
              rw [h3] at e2
              clear h2 h3
              go_upto_region 14 with fail
              have HJW := Lib.hid (Below.refl W6.heap.size W6)
              have HBJ := Lib.hid (BJX.out.below HJW.out)
              have j6 : W6.cell? ⟨J, 6, none⟩ = some (.slice A6 b.Records.length c6) := HBJ.out.cell 6 _ rfl
              have HZK : Hid (visL false gs fr en (L.take (k + 1)) = zs ++ readsB fr en b b.Records 0) := Lib.hid (by rw [HKV.out]; unfold visB; rw [if_neg (show ¬ 4 ≤ b.Flags by omega), if_neg (by simp)])
              go_upto_region 15 with (go_at_call 83; refine (implCopyRecords_c _ b.Records l6 (Row_below HG6.out HJW.out) hbl2 HBS.out.2).mono ?_; rintro e W8 ⟨v9, Fc, rfl, hTc, hFc, hb8⟩; obtain ⟨Ac, cc, e8, lc, _, _⟩ := TS_read hTc; subst e8)
              clear j6
              obtain ⟨Fs, hX, hXF⟩ := TSx.of hTc hFc.1
              obtain ⟨N, hN⟩ : ∃ n, n = W8.heap.size := ⟨_, rfl⟩
              have HXs := Lib.hid hX
              have HFs := Lib.hid (show ∀ Fi ∈ Fs, ∀ q ∈ Fi, J ≤ q ∧ q < N from fun Fi hFi q hq => by
                have h1 := hXF q (List.mem_append_right _ (List.mem_flatten.2 ⟨Fi, hFi, hq⟩))
                have h2 := TS_lt hTc q h1
                exact ⟨by have := hFc.2 q h1; have := HBJ.out.lt; omega, by omega⟩)
              have HND := Lib.hid (show Fs.flatten.Nodup by obtain ⟨_, _, _, h, _⟩ := hX; exact (List.nodup_append.1 h).2.1)
              have HM8 := Lib.hid ((MvM.start (i := 0) (N := N) (Fs := Fs) (M := J) HOW.out (by have := HJ.out; omega)).below (below_tr (below_tr HbX.out HJW.out) hb8))
              have HB8 := Lib.hid (below_tr (below_tr HbX.out HJW.out) hb8)
              have HBJ8 := Lib.hid (HBJ.out.below hb8)
              have HN8 := Lib.hid hN
              have hJ7 : J < W6.heap.size := HBJ.out.lt
              have hMN : J ≤ N := by have := hb8.size; omega
              have hJN : J < N := by have := hb8.size; omega
              have hBM : M0 ≤ J := by have := hbM.size; have := HM0.out; have := HJ.out; omega
              have HXB := Lib.hid (show ∀ q ∈ (Value.slice Ac b.Records.length cc).ownBlock.toList ++ Fs.flatten, J ≤ q ∧ q < N from fun q hq => by have h1 := hXF q hq; have h2 := TS_lt hTc q h1; have h3 := hFc.2 q h1; omega)
              have HBM8 := Lib.hid (show Below M0 W5 W8 by have := below_tr hbM HB8.out; rw [HM0.out]; exact this)
              clear hX hXF hTc hFc hb8 hN
              go_loopg [11, 60] b.Records.length (fun g v11 v60 wi => ∃ (q : Nat) (A2 : Option Addr) (c2 : Nat), q + g = b.Records.length ∧ v60 = .int .i64 q ∧ v11 = .slice A2 (zs ++ readsB fr en b (b.Records.take q) 0).length c2 ∧ Hid (MvM kRead 118 wi Fs q J N M0 (zs ++ readsB fr en b (b.Records.take q) 0) (.slice A2 (zs ++ readsB fr en b (b.Records.take q) 0).length c2)) ∧ Hid (St J N W8 wi) ∧ N ≤ wi.heap.size ∧ Below M0 W5 wi)
              case atStart => exact ⟨0, A', c', by omega, rfl, by simp [readsB], by simpa [readsB] using HM8, Lib.hid (St.refl _ _ _), by rw [HN8.out]; exact Nat.le_refl _, HBM8.out⟩
              case round =>
                clear HM8
                obtain ⟨q, A2, c2, hq, rfl, rfl, HM, HST, hNs, hbi⟩ := hrel
                have hsi := hbi.size
                by_cases hlq : q < b.Records.length
                case neg =>
                  obtain rfl : q = b.Records.length := by omega
                  rw [List.take_length] at HM ⊢
                  rw [← HZK.out] at HM ⊢
                  go_wp2
                  go_roundg (L.length - k - 1)
                  case rel => exact ⟨k + 1, A2, c2, by omega, by go_num, rfl, Lib.hid HM.out.own, hbi⟩
                  case measure => omega
                case pos =>
                  have hXw := HXs.out.frame (fun b' hb' => HST.out b' (HXB.out b' hb').1 (HXB.out b' hb').2)
                  obtain ⟨rd, r, cs, Fi, ⟨q9, hv⟩, hyr, hFi, hTi, hcell0⟩ := hXw.at q hlq
                  simp only [Value.slice.injEq, true_and] at hv
                  obtain ⟨rfl, rfl⟩ := hv
                  have hcell : ∀ j u, cs[j]? = some u → wr.cell? (rd.add (q * 6 + j)) = some u := hcell0
                  obtain ⟨v5, F5, rfl, rfl, hT5⟩ := Record.opnT hTi
                  obtain ⟨A5, c5, rfl, l5, _, _⟩ := TS_read hT5
                  have p0 := hcell 0 _ rfl
                  have p1 := hcell 1 _ rfl
                  have p2 := hcell 2 _ rfl
                  have p3 := hcell 3 _ rfl
                  have p4 := hcell 4 _ rfl
                  have p5 := hcell 5 _ rfl
                  rw [Nat.add_zero] at p0
                  rw [add_field _ _ 1 (by omega)] at p1
                  rw [add_field _ _ 2 (by omega)] at p2
                  rw [add_field _ _ 3 (by omega)] at p3
                  rw [add_field _ _ 4 (by omega)] at p4
                  rw [add_field _ _ 5 (by omega)] at p5
                  clear hcell hcell0 hTi hXw
                  have HKR : Hid (zs ++ readsB fr en b (b.Records.take (q + 1)) 0 = (zs ++ readsB fr en b (b.Records.take q) 0) ++ readB fr en b q r) := Lib.hid (by rw [readsB_take hyr, List.append_assoc])
                  have HYL : Hid ((zs ++ readsB fr en b (b.Records.take q) 0).length ≤ 1048576) := Lib.hid (by have h1 := readsB_len fr en b (b.Records.take q) 0; have h2 := HLZ.out; rw [List.length_take] at h1; rw [List.length_append]; omega)
                  have HFi := Lib.hid hFi
                  have HFiN := Lib.hid (HFs.out Fi (List.mem_of_getElem? hFi))
                  have HT5 := Lib.hid hT5
                  generalize zs ++ readsB fr en b (b.Records.take q) 0 = ys at HM HKR HYL ⊢
                  clear hFi hT5 hyr
                  have hbr := below_al wr (.cells #[.int .i64 r.Time, .bool r.Keyed, .string r.Key, .bool r.Gone, .string r.Value, .slice A5 r.Heads.length c5] 116)
                  have BR := Blk.new wr #[.int .i64 r.Time, .bool r.Keyed, .string r.Key, .bool r.Gone, .string r.Value, .slice A5 r.Heads.length c5] 116
                  obtain ⟨RR, hRR⟩ : ∃ n, n = wr.heap.size := ⟨_, rfl⟩
                  go_upto_region 17 with fail
                  clear p0 p1 p2 p3 p4 p5
                  generalize wr.alloc (.cells #[.int .i64 r.Time, .bool r.Keyed, .string r.Key, .bool r.Gone, .string r.Value, .slice A5 r.Heads.length c5] 116) = W9 at BR hbr ⊢
                  rw [← hRR] at BR ⊢
                  have HRR := Lib.hid hRR
                  clear hRR
                  have d0 : W9.cell? ⟨RR, 0, none⟩ = some (.int .i64 r.Time) := BR.cell 0 _ rfl
                  have d1 : W9.cell? ⟨RR, 1, none⟩ = some (.bool r.Keyed) := BR.cell 1 _ rfl
                  have d2 : W9.cell? ⟨RR, 2, none⟩ = some (.string r.Key) := BR.cell 2 _ rfl
                  have d3 : W9.cell? ⟨RR, 3, none⟩ = some (.bool r.Gone) := BR.cell 3 _ rfl
                  have d4 : W9.cell? ⟨RR, 4, none⟩ = some (.string r.Value) := BR.cell 4 _ rfl
                  have d5 : W9.cell? ⟨RR, 5, none⟩ = some (.slice A5 r.Heads.length c5) := BR.cell 5 _ rfl
                  have j0 : W9.cell? ⟨J, 0, none⟩ = some (.int .i64 b.Base) := Blk.cell (show Blk W9 J _ _ from (hbr.block J (by omega)).trans ((HST.out J (Nat.le_refl _) hJN).trans HBJ8.out)) 0 _ rfl
                  have hw1 : IntKind.i64.wrap (b.Base + (q : Int)) = b.Base + (q : Int) := IntWalk.i64_in _ (by omega)
                  have Hbr := Lib.hid hbr
                  clear BR hbr
                  by_cases hf : fr ≤ b.Base + (q : Int)
                  case neg =>
                    have HKs : Hid (zs ++ readsB fr en b (b.Records.take (q + 1)) 0 = ys) := Lib.hid (by rw [HKR.out]; unfold readB; rw [if_neg (by omega), List.append_nil])
                    go_wp2
                    go_roundg (b.Records.length - q - 1)
                    case rel => exact ⟨q + 1, A2, c2, by omega, by go_num, by rw [HKs.out], by rw [HKs.out]; exact Lib.hid ((HM.out.below Hbr.out).skip), Lib.hid (HST.out.trans (St.of_below Hbr.out hNs)), by have := Hbr.out.size; omega, hbi.trans (Hbr.out.mono (by have := hbi.size; have := HM0.out; omega))⟩
                    case measure => omega
                  by_cases he : b.Base + (q : Int) < en
                  case neg =>
                    have HKs : Hid (zs ++ readsB fr en b (b.Records.take (q + 1)) 0 = ys) := Lib.hid (by rw [HKR.out]; unfold readB; rw [if_neg (by omega), List.append_nil])
                    go_wp2
                    go_roundg (b.Records.length - q - 1)
                    case rel => exact ⟨q + 1, A2, c2, by omega, by go_num, by rw [HKs.out], by rw [HKs.out]; exact Lib.hid ((HM.out.below Hbr.out).skip), Lib.hid (HST.out.trans (St.of_below Hbr.out hNs)), by have := Hbr.out.size; omega, hbi.trans (Hbr.out.mono (by have := hbi.size; have := HM0.out; omega))⟩
                    case measure => omega
                  have HKs : Hid (zs ++ readsB fr en b (b.Records.take (q + 1)) 0 = ys ++ [⟨b.Base + (q : Int), r⟩]) := Lib.hid (by rw [HKR.out]; unfold readB; rw [if_pos ⟨by omega, by omega⟩])
                  have hal := below_al W9 (.cells #[.int .i64 (b.Base + (q : Int)), .int .i64 r.Time, .bool r.Keyed, .string r.Key, .bool r.Gone, .string r.Value, .slice A5 r.Heads.length c5] 118)
                  have HCH := Lib.hid (below_tr Hbr.out hal)
                  have HTA := Lib.hid (Read.mkT _ ⟨b.Base + (q : Int), r⟩ (TS_below HT5.out HCH.out))
                  clear hal
                  go_wp2_with (at_builtin; refine list_mv3 (v := .slice A2 ys.length c2) info_read rfl (by decide) (by decide) rfl _ _ _ rfl Try.underlying59 rfl HM.out HCH.out hNs _ _ rfl HTA.out (Box.new W9 _ _) HND.out HFi.out HFiN.out hBM hMN HYL.out ?_; intro A11 c11 W11 hM11 hgr hvb; have HGR := Lib.hid hgr; clear hgr)
                  have hszc := HCH.out.size
                  go_roundg (b.Records.length - q - 1)
                  case rel =>
                    refine ⟨q + 1, A11, c11, by omega, by go_num, by rw [HKs.out, List.length_append, List.length_singleton], Lib.hid ?_, Lib.hid ((HST.out.trans (St.of_below HCH.out hNs)).trans (St.grown2 HGR.out (by omega) (fun k hk => (hvb k hk).2))), by have := HGR.out.size; omega, ?_⟩
                    · rw [HKs.out, List.length_append, List.length_singleton]
                      exact hM11
                    · exact (hbi.trans (HCH.out.mono (by have := hbi.size; have := HM0.out; omega))).grown HGR.out (by have := hbi.size; have := HM0.out; omega) (fun k hk => (hvb k hk).1)
                  case measure => omega
    case true =>
      have HR3 := Lib.hid (Row_below HR2.out Hb3.out)
      have HB3 := Lib.hid (below_tr HB2.out Hb3.out)
      have HEN : Hid (visEnd x true = stable x) := Lib.hid rfl
      rw [HEN.out] at HF HN
      go_upto_region 8 with (first | (go_at_call 79; refine (implStable_c _ x hc HR3.out HS.out).mono ?_; rintro e W4 ⟨rfl, hb4⟩; have x0 := later hb4 y0; have x1 := later hb4 y1; have x2 := later hb4 y2; have x3 := later hb4 y3))
      have HBw := Lib.hid (below_tr HB3.out hb4)
      have HRw := Lib.hid (Row_below hr HBw.out)
      have HGw := Lib.hid (Row_below HRg.out hb4)
      generalize stable x = en at HF HN HEN ⊢
      go_upto_region 9 with (go_at_call 80; refine (batches_c _ x hc HRw.out hlen (by omega)).mono ?_; rintro e W5 ⟨A9, c9, rfl, l9, r9, hb5⟩; have HR9 := Lib.hid r9; clear r9)
      have HB5 := Lib.hid (below_tr HBw.out hb5)
      have HG5 := Lib.hid (Row_below HGw.out hb5)
      clear hb5 hb4 x0 x1 x2 x3 z0 z1 z2 z3 y0 y1 y2 y3 HR2 HR3 HB2 HB3 Hb3 HBw HRw HGw HRg HX
      generalize allB x = L at HFO hbl HF HSM HO HR9 l9 HRM ⊢
      obtain ⟨M0, hM0⟩ : ∃ n, n = W5.heap.size := ⟨_, rfl⟩
      have HM0 := Lib.hid hM0
      have hM1 : w.heap.size ≤ M0 := by have := HB5.out.size; omega
      clear hM0
      go_loopg [11, 35] L.length (fun g v11 v35 wr => ∃ (k : Nat) (A' : Option Addr) (c' : Nat), k + g = L.length ∧ v35 = .int .i64 k ∧ v11 = .slice A' (visL true gs fr en (L.take k)).length c' ∧ Hid (OwnR kRead 118 M0 wr (visL true gs fr en (L.take k)) (.slice A' (visL true gs fr en (L.take k)).length c')) ∧ Below M0 W5 wr)
      case atStart => exact ⟨0, none, 0, by omega, rfl, rfl, Lib.hid (by rw [List.take_zero]; exact OwnR.nil), Below.refl _ _⟩
      case round =>
        obtain ⟨k, A', c', hk, rfl, rfl, HOW, hb⟩ := hrel
        have hbM : Below W5.heap.size W5 wr := by rw [← HM0.out]; exact hb
        by_cases hlt : k < L.length
        case neg =>
          obtain rfl : k = L.length := by omega
          rw [List.take_length] at HOW ⊢
          rw [← HF.out] at HOW ⊢
          by_cases hmx : en < fr
          case pos =>
            have HN2 : Hid (visN x fr true = fr) := Lib.hid (by rw [HN.out, if_pos hmx])
            have hm1 : en ≤ fr := by omega
            have hm2 : ¬ fr ≤ en := by omega
            go_wp2
            refine bodyPost_ret (v := .tuple #[.slice A' (visF x fr true).length c', .int .i64 fr]) (by simp [results, Try.results35, go_sem]) rfl ?_
            rw [HN2.out]
            obtain ⟨F, hT, hF⟩ := (HOW.out.mono hM1).fresh
            exact ⟨_, F, rfl, hT, hF, below_tr HB5.out hbM⟩
          case neg =>
            have HN2 : Hid (visN x fr true = en) := Lib.hid (by rw [HN.out, if_neg hmx])
            have hm1 : fr ≤ en := by omega
            go_wp2
            refine bodyPost_ret (v := .tuple #[.slice A' (visF x fr true).length c', .int .i64 en]) (by simp [results, Try.results35, go_sem]) rfl ?_
            rw [HN2.out]
            obtain ⟨F, hT, hF⟩ := (HOW.out.mono hM1).fresh
            exact ⟨_, F, rfl, hT, hF, below_tr HB5.out hbM⟩
        case pos =>
          obtain ⟨bd, b, A6, c6, rfl, hyb, p0, p1, p2, p3, p4, p5, p6, l6, g6⟩ := Batch.at (Row_below HR9.out hbM) k hlt
          have HKV := Lib.hid (visL_take (st := true) (gs := gs) (fr := fr) (en := en) hyb)
          have hbm := List.mem_of_getElem? hyb
          obtain ⟨_, ⟨fb1, fb2⟩, ⟨ff1, ff2⟩, _, _⟩ := HFO.out b hbm
          have hbs := HSM.out b hbm
          have hbl2 := hbs.1
          have HBS := Lib.hid hbs
          have HLZ := Lib.hid (HRM.out gs en k b hyb)
          clear hyb hbm hbs
          generalize visL true gs fr en (L.take k) = zs at HOW HKV HLZ ⊢
          have BJ := Blk.new wr #[.int .i64 b.Base, .int .i64 b.Epoch, .int .i64 b.Producer, .int .i64 b.Turn, .int .i64 b.Seq, .int .i64 b.Flags, .slice A6 b.Records.length c6] 52
          have hbj := below_al wr (.cells #[.int .i64 b.Base, .int .i64 b.Epoch, .int .i64 b.Producer, .int .i64 b.Turn, .int .i64 b.Seq, .int .i64 b.Flags, .slice A6 b.Records.length c6] 52)
          have HG6 := Lib.hid (Row_below g6 hbj)
          obtain ⟨J, hJ⟩ : ∃ n, n = wr.heap.size := ⟨_, rfl⟩
          go_upto_region 11 with fail
          clear p0 p1 p2 p3 p4 p5 p6 g6
          generalize wr.alloc (.cells #[.int .i64 b.Base, .int .i64 b.Epoch, .int .i64 b.Producer, .int .i64 b.Turn, .int .i64 b.Seq, .int .i64 b.Flags, .slice A6 b.Records.length c6] 52) = W6 at BJ hbj HG6 ⊢
          rw [← hJ] at BJ ⊢
          have HJ := Lib.hid hJ
          clear hJ
          have BJX := Lib.hid BJ
          have j5 : W6.cell? ⟨J, 5, none⟩ = some (.int .i64 b.Flags) := BJ.cell 5 _ rfl
          have HbX := Lib.hid hbj
          have hszj := hbj.size
          clear BJ hbj
          have e4 : Go.bits .and .i64 b.Flags 4 = 4 * (b.Flags / 4) := and4 ff1 ff2
          have e2 : Go.bits .and .i64 b.Flags 2 = 2 * (b.Flags / 2 % 2) := and2 ff1 ff2
          by_cases h4 : 4 ≤ b.Flags
          case pos =>
            have h5 : b.Flags / 4 = 1 := by omega
            rw [h5] at e4
            have HZ : Hid (visL true gs fr en (L.take (k + 1)) = zs) := Lib.hid (by rw [HKV.out]; unfold visB; rw [if_pos h4, List.append_nil])
            go_wp2
            go_roundg (gk - 1)
            case rel => exact ⟨k + 1, A', c', by omega, by go_num, by rw [HZ.out], by rw [HZ.out]; exact Lib.hid (HOW.out.below HbX.out), by have := below_tr hbM HbX.out; rw [HM0.out]; exact this⟩
            case measure => omega
          case neg =>
            have h5 : b.Flags / 4 = 0 := by omega
            rw [h5] at e4
            by_cases h2 : b.Flags / 2 % 2 = 1
            case pos =>
              rw [h2] at e2
              have HAG : Hid (abG b gs = gs.any (hitG b)) := Lib.hid (by unfold abG; rw [show bit2 b.Flags = true by simp [bit2, h2]]; rfl)
              clear h2
              generalize hav : gs.any (hitG b) = av at HAG
              have HAV := Lib.hid hav
              clear hav
              cases av
              case true =>
                have HZ : Hid (visL true gs fr en (L.take (k + 1)) = zs) := Lib.hid (by rw [HKV.out]; unfold visB; rw [if_neg (show ¬ 4 ≤ b.Flags by omega), if_pos (by rw [HAG.out]; rfl), List.append_nil])
                go_wp2_with (go_at_call 81; refine (visHas_c _ b gs J lg (Row_below (Row_below HG5.out hbM) HbX.out) (by omega) l6 BJX.out fb1 fb2 hbl2).mono ?_; rw [HAV.out]; rintro e W7 ⟨rfl, hb7⟩)
                go_roundg (gk - 1)
                case rel => exact ⟨k + 1, A', c', by omega, by go_num, by rw [HZ.out], by rw [HZ.out]; exact Lib.hid (HOW.out.below (below_tr HbX.out hb7)), by have := below_tr hbM (below_tr HbX.out hb7); rw [HM0.out]; exact this⟩
                case measure => omega
              case false =>
                have HAB : Hid (abG b gs = false) := HAG
                go_upto_region 14 with (go_at_call 81; refine (visHas_c _ b gs J lg (Row_below (Row_below HG5.out hbM) HbX.out) (by omega) l6 BJX.out fb1 fb2 hbl2).mono ?_; rw [HAV.out]; rintro e W7 ⟨rfl, hb7⟩)
                have HJW := Lib.hid hb7
                have HBJ := Lib.hid (BJX.out.below HJW.out)
                have j6 : W7.cell? ⟨J, 6, none⟩ = some (.slice A6 b.Records.length c6) := HBJ.out.cell 6 _ rfl
                have HZK : Hid (visL true gs fr en (L.take (k + 1)) = zs ++ readsB fr en b b.Records 0) := Lib.hid (by rw [HKV.out]; unfold visB; rw [if_neg (show ¬ 4 ≤ b.Flags by omega), if_neg (by rw [HAB.out]; simp)])
                go_upto_region 15 with (go_at_call 83; refine (implCopyRecords_c _ b.Records l6 (Row_below HG6.out HJW.out) hbl2 HBS.out.2).mono ?_; rintro e W8 ⟨v9, Fc, rfl, hTc, hFc, hb8⟩; obtain ⟨Ac, cc, e8, lc, _, _⟩ := TS_read hTc; subst e8)
                clear j6
                obtain ⟨Fs, hX, hXF⟩ := TSx.of hTc hFc.1
                obtain ⟨N, hN⟩ : ∃ n, n = W8.heap.size := ⟨_, rfl⟩
                have HXs := Lib.hid hX
                have HFs := Lib.hid (show ∀ Fi ∈ Fs, ∀ q ∈ Fi, J ≤ q ∧ q < N from fun Fi hFi q hq => by
                  have h1 := hXF q (List.mem_append_right _ (List.mem_flatten.2 ⟨Fi, hFi, hq⟩))
                  have h2 := TS_lt hTc q h1
                  exact ⟨by have := hFc.2 q h1; have := HBJ.out.lt; omega, by omega⟩)
                have HND := Lib.hid (show Fs.flatten.Nodup by obtain ⟨_, _, _, h, _⟩ := hX; exact (List.nodup_append.1 h).2.1)
                have HM8 := Lib.hid ((MvM.start (i := 0) (N := N) (Fs := Fs) (M := J) HOW.out (by have := HJ.out; omega)).below (below_tr (below_tr HbX.out HJW.out) hb8))
                have HB8 := Lib.hid (below_tr (below_tr HbX.out HJW.out) hb8)
                have HBJ8 := Lib.hid (HBJ.out.below hb8)
                have HN8 := Lib.hid hN
                have hJ7 : J < W7.heap.size := HBJ.out.lt
                have hMN : J ≤ N := by have := hb8.size; omega
                have hJN : J < N := by have := hb8.size; omega
                have hBM : M0 ≤ J := by have := hbM.size; have := HM0.out; have := HJ.out; omega
                have HXB := Lib.hid (show ∀ q ∈ (Value.slice Ac b.Records.length cc).ownBlock.toList ++ Fs.flatten, J ≤ q ∧ q < N from fun q hq => by have h1 := hXF q hq; have h2 := TS_lt hTc q h1; have h3 := hFc.2 q h1; omega)
                have HBM8 := Lib.hid (show Below M0 W5 W8 by have := below_tr hbM HB8.out; rw [HM0.out]; exact this)
                clear hX hXF hTc hFc hb8 hN
                go_loopg [11, 60] b.Records.length (fun g v11 v60 wi => ∃ (q : Nat) (A2 : Option Addr) (c2 : Nat), q + g = b.Records.length ∧ v60 = .int .i64 q ∧ v11 = .slice A2 (zs ++ readsB fr en b (b.Records.take q) 0).length c2 ∧ Hid (MvM kRead 118 wi Fs q J N M0 (zs ++ readsB fr en b (b.Records.take q) 0) (.slice A2 (zs ++ readsB fr en b (b.Records.take q) 0).length c2)) ∧ Hid (St J N W8 wi) ∧ N ≤ wi.heap.size ∧ Below M0 W5 wi)
                case atStart => exact ⟨0, A', c', by omega, rfl, by simp [readsB], by simpa [readsB] using HM8, Lib.hid (St.refl _ _ _), by rw [HN8.out]; exact Nat.le_refl _, HBM8.out⟩
                case round =>
                  clear HM8
                  obtain ⟨q, A2, c2, hq, rfl, rfl, HM, HST, hNs, hbi⟩ := hrel
                  have hsi := hbi.size
                  by_cases hlq : q < b.Records.length
                  case neg =>
                    obtain rfl : q = b.Records.length := by omega
                    rw [List.take_length] at HM ⊢
                    rw [← HZK.out] at HM ⊢
                    go_wp2
                    go_roundg (L.length - k - 1)
                    case rel => exact ⟨k + 1, A2, c2, by omega, by go_num, rfl, Lib.hid HM.out.own, hbi⟩
                    case measure => omega
                  case pos =>
                    have hXw := HXs.out.frame (fun b' hb' => HST.out b' (HXB.out b' hb').1 (HXB.out b' hb').2)
                    obtain ⟨rd, r, cs, Fi, ⟨q9, hv⟩, hyr, hFi, hTi, hcell0⟩ := hXw.at q hlq
                    simp only [Value.slice.injEq, true_and] at hv
                    obtain ⟨rfl, rfl⟩ := hv
                    have hcell : ∀ j u, cs[j]? = some u → wr.cell? (rd.add (q * 6 + j)) = some u := hcell0
                    obtain ⟨v5, F5, rfl, rfl, hT5⟩ := Record.opnT hTi
                    obtain ⟨A5, c5, rfl, l5, _, _⟩ := TS_read hT5
                    have p0 := hcell 0 _ rfl
                    have p1 := hcell 1 _ rfl
                    have p2 := hcell 2 _ rfl
                    have p3 := hcell 3 _ rfl
                    have p4 := hcell 4 _ rfl
                    have p5 := hcell 5 _ rfl
                    rw [Nat.add_zero] at p0
                    rw [add_field _ _ 1 (by omega)] at p1
                    rw [add_field _ _ 2 (by omega)] at p2
                    rw [add_field _ _ 3 (by omega)] at p3
                    rw [add_field _ _ 4 (by omega)] at p4
                    rw [add_field _ _ 5 (by omega)] at p5
                    clear hcell hcell0 hTi hXw
                    have HKR : Hid (zs ++ readsB fr en b (b.Records.take (q + 1)) 0 = (zs ++ readsB fr en b (b.Records.take q) 0) ++ readB fr en b q r) := Lib.hid (by rw [readsB_take hyr, List.append_assoc])
                    have HYL : Hid ((zs ++ readsB fr en b (b.Records.take q) 0).length ≤ 1048576) := Lib.hid (by have h1 := readsB_len fr en b (b.Records.take q) 0; have h2 := HLZ.out; rw [List.length_take] at h1; rw [List.length_append]; omega)
                    have HFi := Lib.hid hFi
                    have HFiN := Lib.hid (HFs.out Fi (List.mem_of_getElem? hFi))
                    have HT5 := Lib.hid hT5
                    generalize zs ++ readsB fr en b (b.Records.take q) 0 = ys at HM HKR HYL ⊢
                    clear hFi hT5 hyr
                    have hbr := below_al wr (.cells #[.int .i64 r.Time, .bool r.Keyed, .string r.Key, .bool r.Gone, .string r.Value, .slice A5 r.Heads.length c5] 116)
                    have BR := Blk.new wr #[.int .i64 r.Time, .bool r.Keyed, .string r.Key, .bool r.Gone, .string r.Value, .slice A5 r.Heads.length c5] 116
                    obtain ⟨RR, hRR⟩ : ∃ n, n = wr.heap.size := ⟨_, rfl⟩
                    go_upto_region 17 with fail
                    clear p0 p1 p2 p3 p4 p5
                    generalize wr.alloc (.cells #[.int .i64 r.Time, .bool r.Keyed, .string r.Key, .bool r.Gone, .string r.Value, .slice A5 r.Heads.length c5] 116) = W9 at BR hbr ⊢
                    rw [← hRR] at BR ⊢
                    have HRR := Lib.hid hRR
                    clear hRR
                    have d0 : W9.cell? ⟨RR, 0, none⟩ = some (.int .i64 r.Time) := BR.cell 0 _ rfl
                    have d1 : W9.cell? ⟨RR, 1, none⟩ = some (.bool r.Keyed) := BR.cell 1 _ rfl
                    have d2 : W9.cell? ⟨RR, 2, none⟩ = some (.string r.Key) := BR.cell 2 _ rfl
                    have d3 : W9.cell? ⟨RR, 3, none⟩ = some (.bool r.Gone) := BR.cell 3 _ rfl
                    have d4 : W9.cell? ⟨RR, 4, none⟩ = some (.string r.Value) := BR.cell 4 _ rfl
                    have d5 : W9.cell? ⟨RR, 5, none⟩ = some (.slice A5 r.Heads.length c5) := BR.cell 5 _ rfl
                    have j0 : W9.cell? ⟨J, 0, none⟩ = some (.int .i64 b.Base) := Blk.cell (show Blk W9 J _ _ from (hbr.block J (by omega)).trans ((HST.out J (Nat.le_refl _) hJN).trans HBJ8.out)) 0 _ rfl
                    have hw1 : IntKind.i64.wrap (b.Base + (q : Int)) = b.Base + (q : Int) := IntWalk.i64_in _ (by omega)
                    have Hbr := Lib.hid hbr
                    clear BR hbr
                    by_cases hf : fr ≤ b.Base + (q : Int)
                    case neg =>
                      have HKs : Hid (zs ++ readsB fr en b (b.Records.take (q + 1)) 0 = ys) := Lib.hid (by rw [HKR.out]; unfold readB; rw [if_neg (by omega), List.append_nil])
                      go_wp2
                      go_roundg (b.Records.length - q - 1)
                      case rel => exact ⟨q + 1, A2, c2, by omega, by go_num, by rw [HKs.out], by rw [HKs.out]; exact Lib.hid ((HM.out.below Hbr.out).skip), Lib.hid (HST.out.trans (St.of_below Hbr.out hNs)), by have := Hbr.out.size; omega, hbi.trans (Hbr.out.mono (by have := hbi.size; have := HM0.out; omega))⟩
                      case measure => omega
                    by_cases he : b.Base + (q : Int) < en
                    case neg =>
                      have HKs : Hid (zs ++ readsB fr en b (b.Records.take (q + 1)) 0 = ys) := Lib.hid (by rw [HKR.out]; unfold readB; rw [if_neg (by omega), List.append_nil])
                      go_wp2
                      go_roundg (b.Records.length - q - 1)
                      case rel => exact ⟨q + 1, A2, c2, by omega, by go_num, by rw [HKs.out], by rw [HKs.out]; exact Lib.hid ((HM.out.below Hbr.out).skip), Lib.hid (HST.out.trans (St.of_below Hbr.out hNs)), by have := Hbr.out.size; omega, hbi.trans (Hbr.out.mono (by have := hbi.size; have := HM0.out; omega))⟩
                      case measure => omega
                    have HKs : Hid (zs ++ readsB fr en b (b.Records.take (q + 1)) 0 = ys ++ [⟨b.Base + (q : Int), r⟩]) := Lib.hid (by rw [HKR.out]; unfold readB; rw [if_pos ⟨by omega, by omega⟩])
                    have hal := below_al W9 (.cells #[.int .i64 (b.Base + (q : Int)), .int .i64 r.Time, .bool r.Keyed, .string r.Key, .bool r.Gone, .string r.Value, .slice A5 r.Heads.length c5] 118)
                    have HCH := Lib.hid (below_tr Hbr.out hal)
                    have HTA := Lib.hid (Read.mkT _ ⟨b.Base + (q : Int), r⟩ (TS_below HT5.out HCH.out))
                    clear hal
                    go_wp2_with (at_builtin; refine list_mv3 (v := .slice A2 ys.length c2) info_read rfl (by decide) (by decide) rfl _ _ _ rfl Try.underlying59 rfl HM.out HCH.out hNs _ _ rfl HTA.out (Box.new W9 _ _) HND.out HFi.out HFiN.out hBM hMN HYL.out ?_; intro A11 c11 W11 hM11 hgr hvb; have HGR := Lib.hid hgr; clear hgr)
                    have hszc := HCH.out.size
                    go_roundg (b.Records.length - q - 1)
                    case rel =>
                      refine ⟨q + 1, A11, c11, by omega, by go_num, by rw [HKs.out, List.length_append, List.length_singleton], Lib.hid ?_, Lib.hid ((HST.out.trans (St.of_below HCH.out hNs)).trans (St.grown2 HGR.out (by omega) (fun k hk => (hvb k hk).2))), by have := HGR.out.size; omega, ?_⟩
                      · rw [HKs.out, List.length_append, List.length_singleton]
                        exact hM11
                      · exact (hbi.trans (HCH.out.mono (by have := hbi.size; have := HM0.out; omega))).grown HGR.out (by have := hbi.size; have := HM0.out; omega) (fun k hk => (hvb k hk).1)
                    case measure => omega
            case neg =>
              have h3 : b.Flags / 2 % 2 = 0 := by omega
              rw [h3] at e2
              have HAB : Hid (abG b gs = false) := Lib.hid (by unfold abG; rw [show bit2 b.Flags = false by simp [bit2, h3]]; rfl)
              clear h2 h3
              go_upto_region 14 with fail
              have HJW := Lib.hid (Below.refl W6.heap.size W6)
              have HBJ := Lib.hid (BJX.out.below HJW.out)
              have j6 : W6.cell? ⟨J, 6, none⟩ = some (.slice A6 b.Records.length c6) := HBJ.out.cell 6 _ rfl
              have HZK : Hid (visL true gs fr en (L.take (k + 1)) = zs ++ readsB fr en b b.Records 0) := Lib.hid (by rw [HKV.out]; unfold visB; rw [if_neg (show ¬ 4 ≤ b.Flags by omega), if_neg (by rw [HAB.out]; simp)])
              go_upto_region 15 with (go_at_call 83; refine (implCopyRecords_c _ b.Records l6 (Row_below HG6.out HJW.out) hbl2 HBS.out.2).mono ?_; rintro e W8 ⟨v9, Fc, rfl, hTc, hFc, hb8⟩; obtain ⟨Ac, cc, e8, lc, _, _⟩ := TS_read hTc; subst e8)
              clear j6
              obtain ⟨Fs, hX, hXF⟩ := TSx.of hTc hFc.1
              obtain ⟨N, hN⟩ : ∃ n, n = W8.heap.size := ⟨_, rfl⟩
              have HXs := Lib.hid hX
              have HFs := Lib.hid (show ∀ Fi ∈ Fs, ∀ q ∈ Fi, J ≤ q ∧ q < N from fun Fi hFi q hq => by
                have h1 := hXF q (List.mem_append_right _ (List.mem_flatten.2 ⟨Fi, hFi, hq⟩))
                have h2 := TS_lt hTc q h1
                exact ⟨by have := hFc.2 q h1; have := HBJ.out.lt; omega, by omega⟩)
              have HND := Lib.hid (show Fs.flatten.Nodup by obtain ⟨_, _, _, h, _⟩ := hX; exact (List.nodup_append.1 h).2.1)
              have HM8 := Lib.hid ((MvM.start (i := 0) (N := N) (Fs := Fs) (M := J) HOW.out (by have := HJ.out; omega)).below (below_tr (below_tr HbX.out HJW.out) hb8))
              have HB8 := Lib.hid (below_tr (below_tr HbX.out HJW.out) hb8)
              have HBJ8 := Lib.hid (HBJ.out.below hb8)
              have HN8 := Lib.hid hN
              have hJ7 : J < W6.heap.size := HBJ.out.lt
              have hMN : J ≤ N := by have := hb8.size; omega
              have hJN : J < N := by have := hb8.size; omega
              have hBM : M0 ≤ J := by have := hbM.size; have := HM0.out; have := HJ.out; omega
              have HXB := Lib.hid (show ∀ q ∈ (Value.slice Ac b.Records.length cc).ownBlock.toList ++ Fs.flatten, J ≤ q ∧ q < N from fun q hq => by have h1 := hXF q hq; have h2 := TS_lt hTc q h1; have h3 := hFc.2 q h1; omega)
              have HBM8 := Lib.hid (show Below M0 W5 W8 by have := below_tr hbM HB8.out; rw [HM0.out]; exact this)
              clear hX hXF hTc hFc hb8 hN
              go_loopg [11, 60] b.Records.length (fun g v11 v60 wi => ∃ (q : Nat) (A2 : Option Addr) (c2 : Nat), q + g = b.Records.length ∧ v60 = .int .i64 q ∧ v11 = .slice A2 (zs ++ readsB fr en b (b.Records.take q) 0).length c2 ∧ Hid (MvM kRead 118 wi Fs q J N M0 (zs ++ readsB fr en b (b.Records.take q) 0) (.slice A2 (zs ++ readsB fr en b (b.Records.take q) 0).length c2)) ∧ Hid (St J N W8 wi) ∧ N ≤ wi.heap.size ∧ Below M0 W5 wi)
              case atStart => exact ⟨0, A', c', by omega, rfl, by simp [readsB], by simpa [readsB] using HM8, Lib.hid (St.refl _ _ _), by rw [HN8.out]; exact Nat.le_refl _, HBM8.out⟩
              case round =>
                clear HM8
                obtain ⟨q, A2, c2, hq, rfl, rfl, HM, HST, hNs, hbi⟩ := hrel
                have hsi := hbi.size
                by_cases hlq : q < b.Records.length
                case neg =>
                  obtain rfl : q = b.Records.length := by omega
                  rw [List.take_length] at HM ⊢
                  rw [← HZK.out] at HM ⊢
                  go_wp2
                  go_roundg (L.length - k - 1)
                  case rel => exact ⟨k + 1, A2, c2, by omega, by go_num, rfl, Lib.hid HM.out.own, hbi⟩
                  case measure => omega
                case pos =>
                  have hXw := HXs.out.frame (fun b' hb' => HST.out b' (HXB.out b' hb').1 (HXB.out b' hb').2)
                  obtain ⟨rd, r, cs, Fi, ⟨q9, hv⟩, hyr, hFi, hTi, hcell0⟩ := hXw.at q hlq
                  simp only [Value.slice.injEq, true_and] at hv
                  obtain ⟨rfl, rfl⟩ := hv
                  have hcell : ∀ j u, cs[j]? = some u → wr.cell? (rd.add (q * 6 + j)) = some u := hcell0
                  obtain ⟨v5, F5, rfl, rfl, hT5⟩ := Record.opnT hTi
                  obtain ⟨A5, c5, rfl, l5, _, _⟩ := TS_read hT5
                  have p0 := hcell 0 _ rfl
                  have p1 := hcell 1 _ rfl
                  have p2 := hcell 2 _ rfl
                  have p3 := hcell 3 _ rfl
                  have p4 := hcell 4 _ rfl
                  have p5 := hcell 5 _ rfl
                  rw [Nat.add_zero] at p0
                  rw [add_field _ _ 1 (by omega)] at p1
                  rw [add_field _ _ 2 (by omega)] at p2
                  rw [add_field _ _ 3 (by omega)] at p3
                  rw [add_field _ _ 4 (by omega)] at p4
                  rw [add_field _ _ 5 (by omega)] at p5
                  clear hcell hcell0 hTi hXw
                  have HKR : Hid (zs ++ readsB fr en b (b.Records.take (q + 1)) 0 = (zs ++ readsB fr en b (b.Records.take q) 0) ++ readB fr en b q r) := Lib.hid (by rw [readsB_take hyr, List.append_assoc])
                  have HYL : Hid ((zs ++ readsB fr en b (b.Records.take q) 0).length ≤ 1048576) := Lib.hid (by have h1 := readsB_len fr en b (b.Records.take q) 0; have h2 := HLZ.out; rw [List.length_take] at h1; rw [List.length_append]; omega)
                  have HFi := Lib.hid hFi
                  have HFiN := Lib.hid (HFs.out Fi (List.mem_of_getElem? hFi))
                  have HT5 := Lib.hid hT5
                  generalize zs ++ readsB fr en b (b.Records.take q) 0 = ys at HM HKR HYL ⊢
                  clear hFi hT5 hyr
                  have hbr := below_al wr (.cells #[.int .i64 r.Time, .bool r.Keyed, .string r.Key, .bool r.Gone, .string r.Value, .slice A5 r.Heads.length c5] 116)
                  have BR := Blk.new wr #[.int .i64 r.Time, .bool r.Keyed, .string r.Key, .bool r.Gone, .string r.Value, .slice A5 r.Heads.length c5] 116
                  obtain ⟨RR, hRR⟩ : ∃ n, n = wr.heap.size := ⟨_, rfl⟩
                  go_upto_region 17 with fail
                  clear p0 p1 p2 p3 p4 p5
                  generalize wr.alloc (.cells #[.int .i64 r.Time, .bool r.Keyed, .string r.Key, .bool r.Gone, .string r.Value, .slice A5 r.Heads.length c5] 116) = W9 at BR hbr ⊢
                  rw [← hRR] at BR ⊢
                  have HRR := Lib.hid hRR
                  clear hRR
                  have d0 : W9.cell? ⟨RR, 0, none⟩ = some (.int .i64 r.Time) := BR.cell 0 _ rfl
                  have d1 : W9.cell? ⟨RR, 1, none⟩ = some (.bool r.Keyed) := BR.cell 1 _ rfl
                  have d2 : W9.cell? ⟨RR, 2, none⟩ = some (.string r.Key) := BR.cell 2 _ rfl
                  have d3 : W9.cell? ⟨RR, 3, none⟩ = some (.bool r.Gone) := BR.cell 3 _ rfl
                  have d4 : W9.cell? ⟨RR, 4, none⟩ = some (.string r.Value) := BR.cell 4 _ rfl
                  have d5 : W9.cell? ⟨RR, 5, none⟩ = some (.slice A5 r.Heads.length c5) := BR.cell 5 _ rfl
                  have j0 : W9.cell? ⟨J, 0, none⟩ = some (.int .i64 b.Base) := Blk.cell (show Blk W9 J _ _ from (hbr.block J (by omega)).trans ((HST.out J (Nat.le_refl _) hJN).trans HBJ8.out)) 0 _ rfl
                  have hw1 : IntKind.i64.wrap (b.Base + (q : Int)) = b.Base + (q : Int) := IntWalk.i64_in _ (by omega)
                  have Hbr := Lib.hid hbr
                  clear BR hbr
                  by_cases hf : fr ≤ b.Base + (q : Int)
                  case neg =>
                    have HKs : Hid (zs ++ readsB fr en b (b.Records.take (q + 1)) 0 = ys) := Lib.hid (by rw [HKR.out]; unfold readB; rw [if_neg (by omega), List.append_nil])
                    go_wp2
                    go_roundg (b.Records.length - q - 1)
                    case rel => exact ⟨q + 1, A2, c2, by omega, by go_num, by rw [HKs.out], by rw [HKs.out]; exact Lib.hid ((HM.out.below Hbr.out).skip), Lib.hid (HST.out.trans (St.of_below Hbr.out hNs)), by have := Hbr.out.size; omega, hbi.trans (Hbr.out.mono (by have := hbi.size; have := HM0.out; omega))⟩
                    case measure => omega
                  by_cases he : b.Base + (q : Int) < en
                  case neg =>
                    have HKs : Hid (zs ++ readsB fr en b (b.Records.take (q + 1)) 0 = ys) := Lib.hid (by rw [HKR.out]; unfold readB; rw [if_neg (by omega), List.append_nil])
                    go_wp2
                    go_roundg (b.Records.length - q - 1)
                    case rel => exact ⟨q + 1, A2, c2, by omega, by go_num, by rw [HKs.out], by rw [HKs.out]; exact Lib.hid ((HM.out.below Hbr.out).skip), Lib.hid (HST.out.trans (St.of_below Hbr.out hNs)), by have := Hbr.out.size; omega, hbi.trans (Hbr.out.mono (by have := hbi.size; have := HM0.out; omega))⟩
                    case measure => omega
                  have HKs : Hid (zs ++ readsB fr en b (b.Records.take (q + 1)) 0 = ys ++ [⟨b.Base + (q : Int), r⟩]) := Lib.hid (by rw [HKR.out]; unfold readB; rw [if_pos ⟨by omega, by omega⟩])
                  have hal := below_al W9 (.cells #[.int .i64 (b.Base + (q : Int)), .int .i64 r.Time, .bool r.Keyed, .string r.Key, .bool r.Gone, .string r.Value, .slice A5 r.Heads.length c5] 118)
                  have HCH := Lib.hid (below_tr Hbr.out hal)
                  have HTA := Lib.hid (Read.mkT _ ⟨b.Base + (q : Int), r⟩ (TS_below HT5.out HCH.out))
                  clear hal
                  go_wp2_with (at_builtin; refine list_mv3 (v := .slice A2 ys.length c2) info_read rfl (by decide) (by decide) rfl _ _ _ rfl Try.underlying59 rfl HM.out HCH.out hNs _ _ rfl HTA.out (Box.new W9 _ _) HND.out HFi.out HFiN.out hBM hMN HYL.out ?_; intro A11 c11 W11 hM11 hgr hvb; have HGR := Lib.hid hgr; clear hgr)
                  have hszc := HCH.out.size
                  go_roundg (b.Records.length - q - 1)
                  case rel =>
                    refine ⟨q + 1, A11, c11, by omega, by go_num, by rw [HKs.out, List.length_append, List.length_singleton], Lib.hid ?_, Lib.hid ((HST.out.trans (St.of_below HCH.out hNs)).trans (St.grown2 HGR.out (by omega) (fun k hk => (hvb k hk).2))), by have := HGR.out.size; omega, ?_⟩
                    · rw [HKs.out, List.length_append, List.length_singleton]
                      exact hM11
                    · exact (hbi.trans (HCH.out.mono (by have := hbi.size; have := HM0.out; omega))).grown HGR.out (by have := hbi.size; have := HM0.out; omega) (fun k hk => (hvb k hk).1)
                  case measure => omega
end Go.Proofs.Ytipemgjgimpmbaa.H
