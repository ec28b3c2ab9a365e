/-
The program's Learn. Conditions: each contract's own premises.
-/
import Derived.Test.YtipemgjgimpmbaaHLrn0
import Derived.Test.YtipemgjgimpmbaaHAll
import Derived.Test.YtipemgjgimpmbaaHTx1
namespace Go.Proofs.Ytipemgjgimpmbaa.H
open Go.RowKit
set_option linter.unusedVariables false
set_option linter.unusedSimpArgs false
set_option maxRecDepth 100000
def MadeT (l : List Seen) (w : World) (en : Ending) (w' : World) : Prop := ∃ v, en = .returned v ∧ OwnT kSeen 101 w.heap.size w' l v ∧ Below w.heap.size w w'
set_option maxHeartbeats 8000000 in
theorem implLearn_t (w : World) (x : Log) {A : Option Addr} {c : Nat} (hc : x.Segments.length ≤ c) (hr : Row kSegment w A x.Segments) (hs : x.sm) :
    Calls Try.prog 40 #[.agg #[.int .i64 x.Start, .int .i64 x.Next, .int .i64 x.Roll, .slice A x.Segments.length c]] w (MadeT (learn x) w) := by
  have HS := Lib.hid hs
  have hlen := hs.1
  clear hs
  have hu := Try.underlying52
  have hu2 := Try.underlying70
  have hu3 := Try.underlying101
  have hu4 := Try.underlying46
  generalize hok : logOk x = ok
  have HOK := Lib.hid hok
  clear hok
  have HR1 := Lib.hid (Row_below hr (below_al w (.cells #[.int .i64 x.Start, .int .i64 x.Next, .int .i64 x.Roll, .slice A x.Segments.length c] 30)))
  go_enter Try.func40, Try.ntmps40
  cases ok
  case false =>
    have HF : Hid (learn x = []) := Lib.hid (by unfold learn; rw [HOK.out]; rfl)
    go_wp2_with (go_at_call 46; refine (implLogOk_c _ x hc HR1.out HS.out).mono ?_; rintro e W2 ⟨rfl, hb2⟩; rw [HOK.out])
    go_ret
    exact ⟨_, rfl, by rw [HF.out]; exact OwnT.nil, below_tr (below_al _ _) hb2⟩
  case true =>
    have HF : Hid (learn x = learnF (allB x)) := Lib.hid (by unfold learn; rw [HOK.out]; rfl)
    have hbl := (logOk_all HOK.out).1
    have HO := Lib.hid (logOk_all HOK.out).2
    have HSM := Lib.hid (show ∀ b ∈ allB x, b.sm from fun b hb' => by
      unfold allB at hb'
      obtain ⟨s, hs', hb'⟩ := List.mem_flatMap.1 hb'
      exact (HS.out.2 s hs').2 b hb')
    go_upto_region 4 with (go_at_call 46; refine (implLogOk_c _ x hc HR1.out HS.out).mono ?_; rintro e W2 ⟨rfl, hb2⟩; rw [HOK.out]; have X := (Box.new w _ _).later hb2; have z0 := X 0 _ rfl; have z1 := X 1 _ rfl; have z2 := X 2 _ rfl; have z3 := X 3 _ rfl; have hgz := X.lt rfl; clear X)
    have HR2 := Lib.hid (Row_below HR1.out hb2)
    have HB2 := Lib.hid (below_tr (below_al w (.cells #[.int .i64 x.Start, .int .i64 x.Next, .int .i64 x.Roll, .slice A x.Segments.length c] 30)) hb2)
    clear hb2
    go_upto_region 5 with (go_at_call 80; refine (batches_c _ x hc HR2.out hlen (by omega)).mono ?_; rintro e W5 ⟨A9, c9, rfl, l9, r9, hb5⟩; have HR9 := Lib.hid r9; clear r9)
    have HB5 := Lib.hid (below_tr HB2.out hb5)
    clear hb5 z0 z1 z2 z3 hgz HR2 HB2 HR1
    generalize allB x = L at HF HSM HO HR9 l9 hbl ⊢
    obtain ⟨M0, hM0⟩ : ∃ n, n = W5.heap.size := ⟨_, rfl⟩
    have HM0 := Lib.hid hM0
    have hM1 : w.heap.size ≤ M0 := by have := HB5.out.size; omega
    clear hM0
    go_loopg [3, 17] L.length (fun g v3 v17 wr => ∃ (k : Nat) (A' : Option Addr) (c' : Nat), k + g = L.length ∧ v17 = .int .i64 k ∧ v3 = .slice A' (learnF (L.take k)).length c' ∧ Hid (OwnT kSeen 101 M0 wr (learnF (L.take k)) (.slice A' (learnF (L.take k)).length c')) ∧ Below M0 W5 wr)
    case atStart => exact ⟨0, none, 0, by omega, rfl, rfl, Lib.hid (by rw [List.take_zero]; exact OwnT.nil), Below.refl _ _⟩
    case round =>
      obtain ⟨k, A', c', hk, rfl, rfl, HOW, hb⟩ := hrel
      have hbM : Below W5.heap.size W5 wr := by rw [← HM0.out]; exact hb
      have hsM : M0 ≤ wr.heap.size := by have := hbM.size; have := HM0.out; omega
      by_cases hlt : k < L.length
      case neg =>
        obtain rfl : k = L.length := by omega
        rw [List.take_length] at HOW ⊢
        rw [← HF.out] at HOW ⊢
        go_wp2
        go_ret
        exact ⟨_, rfl, HOW.out.mono hM1, below_tr HB5.out hbM⟩
      case pos =>
        obtain ⟨bd, b, A6, c6, rfl, hyb, p0, p1, p2, p3, p4, p5, p6, l6, g6⟩ := Batch.at (Row_below HR9.out hbM) k hlt
        have hbm := List.mem_of_getElem? hyb
        have hbo := HO.out b hbm
        have HBO := Lib.hid hbo
        have HBS := Lib.hid (HSM.out b hbm)
        have HST : Hid (learnF (L.take (k + 1)) = learnB (learnF (L.take k)) b) := Lib.hid (learnF_step hyb)
        have HTO := Lib.hid (learnF_ok (L.take k) (fun q hq => HO.out q (List.mem_of_mem_take hq)))
        obtain ⟨⟨fp0, fp1⟩, _, ⟨ff0, ff1⟩, _, _⟩ := fOk_of hbo
        obtain ⟨⟨ft0, ft1⟩, _, _⟩ := bt_facts hbo
        clear hyb hbm hbo
        generalize learnF (L.take k) = T at HOW HST HTO ⊢
        obtain ⟨hT1, hT2, hT3⟩ := tableOk_good HTO.out
        have HSR := Lib.hid hT2
        have HGD := Lib.hid hT3
        clear hT2 hT3
        have BJ := Lib.hid (Blk.new wr #[.int .i64 b.Base, .int .i64 b.Epoch, .int .i64 b.Producer, .int .i64 b.Turn, .int .i64 b.Seq, .int .i64 b.Flags, .slice A6 b.Records.length c6] 52)
        have hbj := below_al wr (.cells #[.int .i64 b.Base, .int .i64 b.Epoch, .int .i64 b.Producer, .int .i64 b.Turn, .int .i64 b.Seq, .int .i64 b.Flags, .slice A6 b.Records.length c6] 52)
        have HG6 := Lib.hid (Row_below g6 hbj)
        obtain ⟨J, hJ⟩ : ∃ n, n = wr.heap.size := ⟨_, rfl⟩
        go_upto_region 7 with fail
        clear p0 p1 p2 p3 p4 p5 p6 g6
        generalize wr.alloc (.cells #[.int .i64 b.Base, .int .i64 b.Epoch, .int .i64 b.Producer, .int .i64 b.Turn, .int .i64 b.Seq, .int .i64 b.Flags, .slice A6 b.Records.length c6] 52) = W6 at BJ hbj HG6 ⊢
        rw [← hJ] at BJ ⊢
        have HJ := Lib.hid hJ
        clear hJ
        have HbX := Lib.hid (below_tr hbM hbj)
        have HOW6 := Lib.hid (HOW.out.below hbj)
        have hs6 : M0 ≤ W6.heap.size := by have := hbj.size; omega
        clear hbj HOW hbM
        obtain ⟨Fo, hFo⟩ := HOW6.out
        have hlT : T.length ≤ c' := by obtain ⟨A0, c0, e, h, _⟩ := HOW6.out.row; simp only [Value.slice.injEq, true_and] at e; omega
        have HRT : Hid (Row kSeen W6 A' T) := Lib.hid (by obtain ⟨A0, c0, e, _, h⟩ := HOW6.out.row; simp only [Value.slice.injEq, true_and] at e; rw [e.1]; exact h)
        clear hFo Fo
        have j0 : W6.cell? ⟨J, 0, none⟩ = some (.int .i64 b.Base) := BJ.out.cell 0 _ rfl
        have j1 : W6.cell? ⟨J, 1, none⟩ = some (.int .i64 b.Epoch) := BJ.out.cell 1 _ rfl
        have j2 : W6.cell? ⟨J, 2, none⟩ = some (.int .i64 b.Producer) := BJ.out.cell 2 _ rfl
        have j3 : W6.cell? ⟨J, 3, none⟩ = some (.int .i64 b.Turn) := BJ.out.cell 3 _ rfl
        have j4 : W6.cell? ⟨J, 4, none⟩ = some (.int .i64 b.Seq) := BJ.out.cell 4 _ rfl
        have j5 : W6.cell? ⟨J, 5, none⟩ = some (.int .i64 b.Flags) := BJ.out.cell 5 _ rfl
        have j6 : W6.cell? ⟨J, 6, none⟩ = some (.slice A6 b.Records.length c6) := BJ.out.cell 6 _ rfl
        have hJl := BJ.out.lt
        have e4 : Go.bits .and .i64 b.Flags 4 = 4 * (b.Flags / 4) := and4 ff0 ff1
        by_cases h4 : 4 ≤ b.Flags
        case neg =>
          have h5 : b.Flags / 4 = 0 := by omega
          rw [h5] at e4
          clear h5
          have HX : Hid (learnF (L.take (k + 1)) = if takeC T b = 0 then takeL T b else T) := Lib.hid (by rw [HST.out, learnB, if_neg h4])
          go_upto_region 12 with (go_at_call 28; refine (implTake_c _ T b hlT HRT.out ⟨by omega, fun y hy => by have := (snA_facts (HGD.out y hy).1).2.2.2; show y.Recent.length ≤ 1048576; omega⟩ l6 HG6.out HBS.out).mono ?_; rintro e W7 ⟨v7, rfl, hO7, hb7⟩)
          have HO7 := Lib.hid hO7
          have HB7 := Lib.hid (below_tr HbX.out hb7)
          have HOW7 := Lib.hid (HOW6.out.below hb7)
          have hs7 := hb7.size
          clear hO7 hb7 j0 j1 j2 j3 j4 j5 j6 hJl e4
          generalize hv : decide (takeC T b = 0) = e1
          have hp1 : (takeC T b == 0) = e1 := by rw [← hv]; rfl
          have HE := Lib.hid hv
          clear hv
          generalize takeC T b = tc at hp1 HE HX ⊢
          cases e1
          case false =>
            have HX2 : Hid (learnF (L.take (k + 1)) = T) := Lib.hid (by rw [HX.out, if_neg (of_decide_eq_false HE.out)])
            go_wp2
            go_roundg (gk - 1)
            case rel => exact ⟨k + 1, A', c', by omega, by go_num, by rw [HX2.out], by rw [HX2.out]; exact Lib.hid HOW7.out, by have := HB7.out; rw [HM0.out]; exact this⟩
            case measure => omega
          case true =>
            have HX2 : Hid (learnF (L.take (k + 1)) = takeL T b) := Lib.hid (by rw [HX.out, if_pos (of_decide_eq_true HE.out)])
            obtain ⟨A8, c8, e8, _, _⟩ := HO7.out.row
            subst e8
            go_wp2
            go_roundg (gk - 1)
            case rel => exact ⟨k + 1, A8, c8, by omega, by go_num, by rw [HX2.out], by rw [HX2.out]; exact Lib.hid (HO7.out.mono hs6), by have := HB7.out; rw [HM0.out]; exact this⟩
            case measure => omega
        case pos =>
          have h5 : b.Flags / 4 = 1 := by omega
          rw [h5] at e4
          clear h5
          have HX : Hid (learnF (L.take (k + 1)) = match seenGet b.Producer T with
              | some s => if s.Turn < b.Turn then T.set (seenAt b.Producer T) (markS b.Producer b.Turn) else T
              | none => T) := Lib.hid (by rw [HST.out, learnB, if_pos h4]; rfl)
          go_upto_region 9 with (go_at_call 70; refine (findSeen_c _ T b.Producer hlT HRT.out hT1 HSR.out (fun s hs => (snA_facts (HGD.out s hs).1).1) ⟨fp0, fp1⟩).mono ?_; rintro e W7 ⟨rfl, hb7⟩)
          rw [hasAt_get]
          have HGS := Lib.hid (fun s (h : seenGet b.Producer T = some s) => seenGet_some h)
          generalize seenAt b.Producer T = i at HX HGS ⊢
          generalize seenGet b.Producer T = gs at HX HGS ⊢
          have HB7 := Lib.hid (below_tr HbX.out hb7)
          have HOW7 := Lib.hid (HOW6.out.below hb7)
          have BJ7 := Lib.hid (BJ.out.below hb7)
          clear hb7 j0 j1 j2 j3 j4 j5 j6 hJl e4 HOW6 HRT BJ HbX
          have j2 : W7.cell? ⟨J, 2, none⟩ = some (.int .i64 b.Producer) := BJ7.out.cell 2 _ rfl
          have j3 : W7.cell? ⟨J, 3, none⟩ = some (.int .i64 b.Turn) := BJ7.out.cell 3 _ rfl
          cases gs
          case none =>
            have HX2 : Hid (learnF (L.take (k + 1)) = T) := HX
            rw [show (none : Option Seen).isSome = false from rfl]
            go_quiet (fail)
            go_wp2
            go_roundg (gk - 1)
            case rel => exact ⟨k + 1, A', c', by omega, by go_num, by rw [HX2.out], by rw [HX2.out]; exact Lib.hid (HOW7.out.below (below_dn (Below.refl _ _) _)), by have := below_dn HB7.out nq; rw [HM0.out]; exact this⟩
            case measure => omega
          case some s =>
            rw [show (some s).isSome = true from rfl]
            obtain ⟨hi, hsp⟩ := HGS.out s rfl
            have hit : i < T.length := (List.getElem?_eq_some_iff.1 hi).1
            obtain ⟨g, c9, u3, e9, hc9, hgM, hgl, ⟨s0, s1, s2, s3⟩, ⟨f0, f1, f2, f3⟩, hput⟩ := own_put rfl seen_K seen_M HOW7.out hi
            simp only [Value.slice.injEq, true_and] at e9
            obtain ⟨rfl, rfl⟩ := e9
            have HPUT := Lib.hid (hput b.Producer b.Turn)
            clear hput hi hsp
            by_cases hlt2 : s.Turn < b.Turn
            case neg =>
              have hd : decide (s.Turn < b.Turn) = false := by simpa using hlt2
              have HX2 : Hid (learnF (L.take (k + 1)) = T) := Lib.hid (by rw [HX.out]; exact if_neg hlt2)
              go_quiet (fail)
              go_wp2
              go_roundg (gk - 1)
              case rel => exact ⟨k + 1, _, c', by omega, by go_num, by rw [HX2.out], by rw [HX2.out]; exact Lib.hid (HOW7.out.below (below_dn (Below.refl _ _) _)), by have := below_dn HB7.out nq; rw [HM0.out]; exact this⟩
              case measure => omega
            case pos =>
              have hd : decide (s.Turn < b.Turn) = true := by simpa using hlt2
              have HX2 : Hid (learnF (L.take (k + 1)) = T.set i (markS b.Producer b.Turn)) := Lib.hid (by rw [HX.out]; exact if_pos hlt2)
              have HLL : Hid ((T.set i (markS b.Producer b.Turn)).length = T.length) := Lib.hid (List.length_set ..)
              go_quiet (fail)
              go_upto_region 10 with fail
              refine gen_wp (w0 := W7) (below_dn (Below.refl _ _) _) (fun W8 hb8 => ?_)
              have HOW8 := Lib.hid (HOW7.out.below hb8)
              have HB8 := Lib.hid (below_tr HB7.out hb8)
              have BJ8 := Lib.hid (BJ7.out.below hb8)
              clear hb8 s0 s1 s2 s3 f0 f1 f2 f3 hgl hgM hc9 HPUT HOW7 HB7 j2 j3 BJ7
              obtain ⟨hi, hsp⟩ := HGS.out s rfl
              obtain ⟨g', c8, u4, e8, hc8, hgM, hgl, ⟨s0, s1, s2, s3⟩, ⟨f0, f1, f2, f3⟩, hput⟩ := own_put rfl seen_K seen_M HOW8.out hi
              simp only [Value.slice.injEq, Option.some.injEq, Addr.mk.injEq, and_true, true_and] at e8
              obtain ⟨rfl, rfl⟩ := e8
              have HPUT := Lib.hid (hput b.Producer b.Turn)
              have HBP := Lib.hid (put_below (i := i) (show Below M0 W5 W8 by have := HB8.out; rw [HM0.out]; exact this) hgM b.Producer b.Turn)
              clear hput hi hsp
              have j2 : W8.cell? ⟨J, 2, none⟩ = some (.int .i64 b.Producer) := BJ8.out.cell 2 _ rfl
              have j3 : W8.cell? ⟨J, 3, none⟩ = some (.int .i64 b.Turn) := BJ8.out.cell 3 _ rfl
              go_wp2
              go_roundg (gk - 1)
              case rel => exact ⟨k + 1, some ⟨g, 0, none⟩, c', by omega, by go_num, by rw [HX2.out, HLL.out], by rw [HX2.out, HLL.out]; exact HPUT, HBP.out⟩
              case measure => omega
end Go.Proofs.Ytipemgjgimpmbaa.H
