/-
The reference's Learn. Conditions: each contract's own premises.
-/
import Derived.Test.YtipemgjgimpmbaaHLrn0
import Derived.Test.YtipemgjgimpmbaaHAll2
import Derived.Test.YtipemgjgimpmbaaHTx4
namespace Go.Proofs.Ytipemgjgimpmbaa.H
open Go.RowKit
set_option linter.unusedVariables false
set_option linter.unusedSimpArgs false
set_option maxRecDepth 100000
/-- The table of the reference's round: an empty one may lie in an older block. -/
def TabS (M0 b0 : Nat) (w : World) (T : List Seen) (v : Value) : Prop := ∃ B, OwnT kSeenS 101 B w T v ∧ b0 ≤ B ∧ (T ≠ [] → M0 ≤ B)
theorem TabS.below {M0 b0 : Nat} {w w1 : World} {T : List Seen} {v : Value} (h : TabS M0 b0 w T v) (hb : Below w.heap.size w w1) : TabS M0 b0 w1 T v := by
  obtain ⟨B, h1, h2, h3⟩ := h
  exact ⟨B, h1.below hb, h2, h3⟩
theorem TabS.row {M0 b0 : Nat} {w : World} {T : List Seen} {A : Option Addr} {c : Nat} (h : TabS M0 b0 w T (.slice A T.length c)) : T.length ≤ c ∧ Row kSeen w A T := by
  obtain ⟨B, h1, _⟩ := h
  obtain ⟨A', c', e, h2, h3⟩ := h1.rowS
  simp only [Value.slice.injEq, true_and] at e
  obtain ⟨rfl, rfl⟩ := e
  exact ⟨h2, h3⟩
set_option maxHeartbeats 8000000 in
theorem specLearn_c (w : World) (x : Log) {A : Option Addr} {c : Nat} (hc : x.Segments.length ≤ c) (hr : Row kSegment w A x.Segments) (hs : x.sm) (hw : x.wf) :
    Calls Try.prog 39 #[.agg #[.int .i64 x.Start, .int .i64 x.Next, .int .i64 x.Roll, .slice A x.Segments.length c]] w (GivesK kSeen (learn x) w) := by
  have HS := Lib.hid hs
  have HW := Lib.hid hw
  have hlen := hs.1
  clear hs hw
  have hu := Try.underlying52
  have hu2 := Try.underlying70
  have hu3 := Try.underlying101
  have hu4 := Try.underlying46
  generalize hok : logOk x = ok
  have HOK := Lib.hid hok
  clear hok
  have hB := Blk.new w #[.int .i64 x.Start, .int .i64 x.Next, .int .i64 x.Roll, .slice A x.Segments.length c] 30
  have hb0 := below_al w (.cells #[.int .i64 x.Start, .int .i64 x.Next, .int .i64 x.Roll, .slice A x.Segments.length c] 30)
  have hlit := lit_own (d := kSeenS) (e := 101) (w.alloc (.cells #[.int .i64 x.Start, .int .i64 x.Next, .int .i64 x.Roll, .slice A x.Segments.length c] 30))
  have B1 := hB.below (below_al _ (.cells #[] 101))
  have hb := below_tr hb0 (below_al _ (.cells #[] 101))
  rw [size_al] at hlit
  go_enter Try.func39, Try.ntmps39
  go_upto_region 2 with fail
  generalize (w.alloc (.cells #[.int .i64 x.Start, .int .i64 x.Next, .int .i64 x.Roll, .slice A x.Segments.length c] 30)).alloc (.cells #[] 101) = W1 at B1 hb hlit ⊢
  clear hB hb0
  have a0 : W1.cell? ⟨w.heap.size, 0, none⟩ = some (.int .i64 x.Start) := B1.cell 0 _ rfl
  have a1 : W1.cell? ⟨w.heap.size, 1, none⟩ = some (.int .i64 x.Next) := B1.cell 1 _ rfl
  have a2 : W1.cell? ⟨w.heap.size, 2, none⟩ = some (.int .i64 x.Roll) := B1.cell 2 _ rfl
  have a3 : W1.cell? ⟨w.heap.size, 3, none⟩ = some (.slice A x.Segments.length c) := B1.cell 3 _ rfl
  have HR1 := Lib.hid (Row_below hr hb)
  have HB1 := Lib.hid B1
  have Hh := Lib.hid hb
  have HLI := Lib.hid hlit.toT
  clear B1 hb hlit
  cases ok
  case false =>
    have HF : Hid (learn x = []) := Lib.hid (by unfold learn; rw [HOK.out]; rfl)
    go_wp2_with (go_at_call 42; refine (specLogOk_c _ x hc HR1.out HS.out HW.out).mono ?_; rintro e W2 ⟨rfl, hb2⟩; rw [HOK.out])
    go_ret
    exact ⟨some ⟨w.heap.size + 1, 0, none⟩, 0, by rw [HF.out]; rfl, by rw [HF.out]; exact Nat.le_refl _, by rw [HF.out]; exact fun h => absurd h (Nat.lt_irrefl _), below_tr Hh.out hb2⟩
  case true =>
    have HF : Hid (learn x = learnF (allB x)) := Lib.hid (by unfold learn; rw [HOK.out]; rfl)
    have hbl := (logOk_all HOK.out).1
    have HO := Lib.hid (logOk_all HOK.out).2
    have HSM := Lib.hid (show ∀ b ∈ allB x, b.sm from fun b hb' => by
      unfold allB at hb'
      obtain ⟨s, hs', hb'⟩ := List.mem_flatMap.1 hb'
      exact (HS.out.2 s hs').2 b hb')
    go_upto_region 4 with (go_at_call 42; refine (specLogOk_c _ x hc HR1.out HS.out HW.out).mono ?_; rintro e W2 ⟨rfl, hb2⟩; rw [HOK.out]; have b0 := later hb2 a0; have b1 := later hb2 a1; have b2 := later hb2 a2; have b3 := later hb2 a3)
    have HR2 := Lib.hid (Row_below HR1.out hb2)
    have HB2 := Lib.hid (below_tr Hh.out hb2)
    have HL2 := Lib.hid (HLI.out.below hb2)
    clear hb2 a0 a1 a2 a3 HB1 HR1 Hh HLI
    go_upto_region 6 with (go_at_call 44; refine (l3All_c _ x hc HR2.out hlen (by omega)).mono ?_; rintro e W5 ⟨A9, c9, rfl, l9, r9, hb5⟩; have HR9 := Lib.hid r9; clear r9)
    have HB5 := Lib.hid (below_tr HB2.out hb5)
    have HL5 := Lib.hid (HL2.out.below hb5)
    clear hb5 b0 b1 b2 b3 HR2 HB2 HL2
    generalize allB x = L at HF HSM HO HR9 l9 hbl ⊢
    obtain ⟨M0, hM0⟩ : ∃ n, n = W5.heap.size := ⟨_, rfl⟩
    have HM0 := Lib.hid hM0
    have hM1 : w.heap.size ≤ M0 := by have := HB5.out.size; omega
    clear hM0
    go_loopg [3, 5] L.length (fun g v3 v5 wr => ∃ (k : Nat) (A' : Option Addr) (c' : Nat), k + g = L.length ∧ v5 = .int .i64 k ∧ v3 = .slice A' (learnF (L.take k)).length c' ∧ Hid (TabS M0 w.heap.size wr (learnF (L.take k)) (.slice A' (learnF (L.take k)).length c')) ∧ Below M0 W5 wr)
    case atStart => exact ⟨0, some ⟨w.heap.size + 1, 0, none⟩, 0, by omega, rfl, rfl, Lib.hid ⟨w.heap.size + 1, by rw [List.take_zero]; exact HL5.out, by omega, fun h => absurd rfl h⟩, Below.refl _ _⟩
    case round =>
      obtain ⟨k, A', c', hk, rfl, rfl, HOW, hb⟩ := hrel
      have hbM : Below W5.heap.size W5 wr := by rw [← HM0.out]; exact hb
      have hsM : M0 ≤ wr.heap.size := by have := hbM.size; have := HM0.out; omega
      by_cases hlt : k < L.length
      case neg =>
        obtain rfl : k = L.length := by omega
        rw [List.take_length] at HOW ⊢
        rw [← HF.out] at HOW ⊢
        go_wp2
        go_ret
        exact ⟨A', c', rfl, HOW.out.row.1, HOW.out.row.2, below_tr HB5.out hbM⟩
      case pos =>
        obtain ⟨bd, b, A6, c6, rfl, hyb, p0, p1, p2, p3, p4, p5, p6, l6, g6⟩ := Batch.at (Row_below HR9.out hbM) k hlt
        have hbm := List.mem_of_getElem? hyb
        have hbo := HO.out b hbm
        have HBS := Lib.hid (HSM.out b hbm)
        have HST : Hid (learnF (L.take (k + 1)) = learnB (learnF (L.take k)) b) := Lib.hid (learnF_step hyb)
        have HTO := Lib.hid (learnF_ok (L.take k) (fun q hq => HO.out q (List.mem_of_mem_take hq)))
        clear hyb hbm hbo
        generalize learnF (L.take k) = T at HOW HST HTO ⊢
        obtain ⟨hT1, hT2, hT3⟩ := tableOk_good HTO.out
        have HGD := Lib.hid hT3
        clear hT2 hT3
        obtain ⟨hlT, hrT⟩ := HOW.out.row
        have HRT := Lib.hid hrT
        have HG6 := Lib.hid g6
        clear hrT g6
        by_cases h4 : 4 ≤ b.Flags
        case neg =>
          have HX : Hid (learnF (L.take (k + 1)) = if takeC T b = 0 then takeL T b else T) := Lib.hid (by rw [HST.out, learnB, if_neg h4])
          go_upto_region 13 with (go_at_call 25; refine (specTake_c _ T b hlT HRT.out ⟨by omega, fun y hy => by have := (snA_facts (HGD.out y hy).1).2.2.2; show y.Recent.length ≤ 1048576; omega⟩ l6 HG6.out HBS.out).mono ?_; rintro e W7 ⟨v7, rfl, hO7, hb7⟩)
          have HO7 := Lib.hid hO7
          have HB7 := Lib.hid (below_tr hbM hb7)
          have HOW7 := Lib.hid (HOW.out.below hb7)
          clear hO7 hb7 p0 p1 p2 p3 p4 p5 p6
          generalize hv : decide (takeC T b = 0) = e1
          have hp1 : (takeC T b == 0) = e1 := by rw [← hv]; rfl
          have HE := Lib.hid hv
          clear hv
          generalize takeC T b = tc at hp1 HE HX ⊢
          cases e1
          case false =>
            have HX2 : Hid (learnF (L.take (k + 1)) = T) := Lib.hid (by rw [HX.out, if_neg (of_decide_eq_false HE.out)])
            go_wp2
            go_roundg (gk - 1)
            case rel => exact ⟨k + 1, A', c', by omega, by go_num, by rw [HX2.out], by rw [HX2.out]; exact Lib.hid HOW7.out, by have := HB7.out; rw [HM0.out]; exact this⟩
            case measure => omega
          case true =>
            have HX2 : Hid (learnF (L.take (k + 1)) = takeL T b) := Lib.hid (by rw [HX.out, if_pos (of_decide_eq_true HE.out)])
            obtain ⟨A8, c8, e8, _, _⟩ := HO7.out.rowS
            subst e8
            go_wp2
            go_roundg (gk - 1)
            case rel => exact ⟨k + 1, A8, c8, by omega, by go_num, by rw [HX2.out], by rw [HX2.out]; exact Lib.hid ⟨wr.heap.size, HO7.out, by omega, fun _ => hsM⟩, by have := HB7.out; rw [HM0.out]; exact this⟩
            case measure => omega
        case pos =>
          have HX : Hid (learnF (L.take (k + 1)) = match seenGet b.Producer T with
              | some s => if s.Turn < b.Turn then T.set (seenAt b.Producer T) (markS b.Producer b.Turn) else T
              | none => T) := Lib.hid (by rw [HST.out, learnB, if_pos h4]; rfl)
          go_upto_region 10 with (go_at_call 64; refine (l7At_c _ T b.Producer hlT HRT.out (by omega)).mono ?_; rintro e W7 ⟨rfl, hb7⟩)
          rw [hasAt_get]
          have HGS := Lib.hid (fun s (h : seenGet b.Producer T = some s) => seenGet_some h)
          generalize seenAt b.Producer T = i at HX HGS ⊢
          generalize seenGet b.Producer T = gs at HX HGS ⊢
          have HB7 := Lib.hid (below_tr hbM hb7)
          have HOW7 := Lib.hid (HOW.out.below hb7)
          have q2 := later hb7 p2
          have q3 := later hb7 p3
          clear hb7 p0 p1 p2 p3 p4 p5 p6
          cases gs
          case none =>
            have HX2 : Hid (learnF (L.take (k + 1)) = T) := HX
            rw [show (none : Option Seen).isSome = false from rfl]
            go_quiet (fail)
            go_wp2
            go_roundg (gk - 1)
            case rel => exact ⟨k + 1, A', c', by omega, by go_num, by rw [HX2.out], by rw [HX2.out]; exact Lib.hid (HOW7.out.below (below_dn (Below.refl _ _) _)), by have := below_dn HB7.out nq; rw [HM0.out]; exact this⟩
            case measure => omega
          case some s =>
            rw [show (some s).isSome = true from rfl]
            obtain ⟨hi, hsp⟩ := HGS.out s rfl
            have hit : i < T.length := (List.getElem?_eq_some_iff.1 hi).1
            obtain ⟨B, hOB, hwB, hMB⟩ := HOW7.out
            have hMB2 : M0 ≤ B := hMB (fun e => by rw [e] at hit; simp at hit)
            obtain ⟨g, c8, u3, e9, hc9, hgM, hgl, ⟨s0, s1, s2, s3⟩, ⟨f0, f1, f2, f3⟩, hput⟩ := own_put rfl seenS_K seenS_M hOB hi
            simp only [Value.slice.injEq, true_and] at e9
            obtain ⟨rfl, rfl⟩ := e9
            have HPUT := Lib.hid (hput b.Producer b.Turn)
            clear hput hi hsp hOB hMB
            by_cases hlt2 : s.Turn < b.Turn
            case neg =>
              have hd : decide (s.Turn < b.Turn) = false := by simpa using hlt2
              have HX2 : Hid (learnF (L.take (k + 1)) = T) := Lib.hid (by rw [HX.out]; exact if_neg hlt2)
              go_quiet (fail)
              go_wp2
              go_roundg (gk - 1)
              case rel => exact ⟨k + 1, _, c', by omega, by go_num, by rw [HX2.out], by rw [HX2.out]; exact Lib.hid (HOW7.out.below (below_dn (Below.refl _ _) _)), by have := below_dn HB7.out nq; rw [HM0.out]; exact this⟩
              case measure => omega
            case pos =>
              have hd : decide (s.Turn < b.Turn) = true := by simpa using hlt2
              have HX2 : Hid (learnF (L.take (k + 1)) = T.set i (markS b.Producer b.Turn)) := Lib.hid (by rw [HX.out]; exact if_pos hlt2)
              have HLL : Hid ((T.set i (markS b.Producer b.Turn)).length = T.length) := Lib.hid (List.length_set ..)
              go_quiet (fail)
              go_upto_region 11 with fail
              refine gen_wp (w0 := W7) (below_dn (Below.refl _ _) _) (fun W8 hb8 => ?_)
              have HOW8 := Lib.hid (HOW7.out.below hb8)
              have HB8 := Lib.hid (below_tr HB7.out hb8)
              have r2 := later hb8 q2
              have r3 := later hb8 q3
              clear hb8 s0 s1 s2 s3 f0 f1 f2 f3 hgl hgM hc9 HPUT HOW7 HB7 q2 q3 hMB2 hwB
              obtain ⟨hi, hsp⟩ := HGS.out s rfl
              obtain ⟨B', hOB, hwB, hMB⟩ := HOW8.out
              have hMB2 : M0 ≤ B' := hMB (fun e => by rw [e] at hit; simp at hit)
              obtain ⟨g', c9', u4, e8, hc8, hgM, hgl, ⟨s0, s1, s2, s3⟩, ⟨f0, f1, f2, f3⟩, hput⟩ := own_put rfl seenS_K seenS_M hOB hi
              simp only [Value.slice.injEq, Option.some.injEq, Addr.mk.injEq, and_true, true_and] at e8
              obtain ⟨rfl, rfl⟩ := e8
              have HPUT : Hid (TabS M0 w.heap.size (putSeen W8 g i b.Producer b.Turn) (T.set i (markS b.Producer b.Turn)) (.slice (some ⟨g, 0, none⟩) T.length c')) := Lib.hid ⟨B', hput b.Producer b.Turn, hwB, fun _ => hMB2⟩
              have HBP := Lib.hid (put_below (i := i) (show Below M0 W5 W8 by have := HB8.out; rw [HM0.out]; exact this) (Nat.le_trans hMB2 hgM) b.Producer b.Turn)
              clear hput hi hsp hOB hMB
              go_region
              go_wp2
              go_roundg (gk - 1)
              case rel => exact ⟨k + 1, some ⟨g, 0, none⟩, c', by omega, by go_num, by rw [HX2.out, HLL.out], by rw [HX2.out, HLL.out]; exact Lib.hid (HPUT.out.below (Below.refl _ _).drew), HBP.out.drew⟩
              case measure => omega
end Go.Proofs.Ytipemgjgimpmbaa.H
