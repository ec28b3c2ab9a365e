/-
The reference's TableOk answers tableOk. Conditions: the contract's own premises.
-/
import Derived.Test.YtipemgjgimpmbaaHTab1
namespace Go.Proofs.Ytipemgjgimpmbaa.H
open Go.RowKit Go.Sort Go.BigFrame
set_option linter.unusedVariables false
set_option linter.unusedSimpArgs false
set_option maxRecDepth 100000
theorem l1In_gT (x lo hi : Int) {w : World} {d : Nat} {os : Array Obj} {b : Bool} (h : inB x lo hi = b) : Calls Try.prog 51 #[.int .i64 x, .int .i64 lo, .int .i64 hi] (grow (redrawn w d) os) fun e w'' => e = .returned (.bool b) ∧ ∃ p : Regrown, w'' = grow (redrawn w p.d) p.os := rg_same (l1In_c x lo hi _) (congrArg Value.bool h)
set_option maxHeartbeats 8000000 in
theorem specTableOk_c (w : World) (l : List Seen) {A : Option Addr} {c : Nat} (hc : l.length ≤ c) (hr : Row kSeen w A l) (hs : l.length ≤ 1048576 ∧ ∀ y ∈ l, y.sm) :
    Calls Try.prog 61 #[.slice A l.length c] w fun e w' => e = .returned (.bool (tableOk l)) ∧ Below w.heap.size w w' := by
  obtain ⟨hs0, hs1⟩ := hs
  have HS := Lib.hid hs1
  clear hs1
  have hu := Try.underlying101
  have hu2 := Try.underlying46
  have hu3 := Try.underlying103
  have hu4 := Try.underlying99
  generalize hT : tableOk l = T
  have HT := Lib.hid hT
  clear hT
  go_enter Try.func61, Try.ntmps61
  by_cases h100 : l.length ≤ 100
  case neg =>
    have h101 : ¬ ((l.length : Int) ≤ 100) := by omega
    have HF : Hid (false = T) := Lib.hid (by rw [← HT.out]; unfold tableOk; simp [h100])
    clear h100 hs0
    go_wp2
    go_ret
    exact ⟨ret_bool HF.out, Below.refl _ _⟩
  have h101 : ¬ ((100 : Int) < (l.length : Int)) := by omega
  have HL : Hid (tblB l (-1) = T) := Lib.hid (by rw [← HT.out]; unfold tableOk; simp [h100])
  clear HT
  go_wp2
  clear h101
  go_loopg [3] l.length (fun g vi wr => ∃ (k : Nat) (p : Int), k + g = l.length ∧ vi = .int .i64 k ∧ Hid (∀ q, k = q + 1 → ∃ y, l[q]? = some y ∧ y.Producer = p) ∧ Hid (k = 0 → p = -1) ∧ Below w.heap.size w wr ∧ Hid (tblB (l.drop k) p = T))
  case atStart => exact ⟨0, -1, by omega, rfl, Lib.hid (by omega), Lib.hid (by omega), Below.refl _ _, HL⟩
  case round =>
    clear HL
    obtain ⟨k, p, hk, rfl, HP, HP0, hb, HD⟩ := hrel
    by_cases hlt : k < l.length
    case neg =>
      have HE : Hid (true = T) := Lib.hid (by have h := HD.out; rw [List.drop_eq_nil_of_le (by omega)] at h; exact h)
      go_wp2
      go_ret
      exact ⟨ret_bool HE.out, hb⟩
    obtain ⟨ad, s, A3, c3, rfl, hx, p0, p1, p2, p3, l3, g3⟩ := Seen.at (Row_below hr hb) k hlt
    have HX := Lib.hid (drop_cons hx)
    have hsl : s.Recent.length ≤ 1048576 := HS.out s (List.mem_of_getElem? hx)
    have HD2 : Hid ((snA s && decide (p < s.Producer) && rcs s.Next s.Recent && tblB (l.drop (k + 1)) s.Producer) = T) := Lib.hid (by rw [← tblB_cons, ← HX.out]; exact HD.out)
    have HN : Hid (∀ q, k + 1 = q + 1 → ∃ y, l[q]? = some y ∧ y.Producer = s.Producer) := Lib.hid (fun q hq => ⟨s, by rw [show q = k by omega]; exact hx, rfl⟩)
    clear hx HX HD
    have X1 := Lib.hid (Blk.new wr #[.int .i64 s.Producer, .int .i64 s.Turn, .int .i64 s.Next, .slice A3 s.Recent.length c3] 101)
    have hb1 := below_tr hb (below_al wr (.cells #[.int .i64 s.Producer, .int .i64 s.Turn, .int .i64 s.Next, .slice A3 s.Recent.length c3] 101))
    have G3 := Lib.hid (Row_below g3 (below_al wr (.cells #[.int .i64 s.Producer, .int .i64 s.Turn, .int .i64 s.Next, .slice A3 s.Recent.length c3] 101)))
    have GR := Lib.hid (Row_below hr hb1)
    obtain ⟨J, hJ⟩ : ∃ n, n = wr.heap.size := ⟨_, rfl⟩
    go_upto_region 7 with fail
    clear p0 p1 p2 p3 g3
    generalize wr.alloc (.cells #[.int .i64 s.Producer, .int .i64 s.Turn, .int .i64 s.Next, .slice A3 s.Recent.length c3] 101) = W1 at X1 hb1 G3 GR ⊢
    rw [← hJ] at X1 ⊢
    clear hJ hb
    have x0 : W1.cell? ⟨J, 0, none⟩ = some (.int .i64 s.Producer) := X1.out.cell 0 _ rfl
    have x1 : W1.cell? ⟨J, 1, none⟩ = some (.int .i64 s.Turn) := X1.out.cell 1 _ rfl
    have x2 : W1.cell? ⟨J, 2, none⟩ = some (.int .i64 s.Next) := X1.out.cell 2 _ rfl
    have x3 : W1.cell? ⟨J, 3, none⟩ = some (.slice A3 s.Recent.length c3) := X1.out.cell 3 _ rfl
    go_cut [57] (fun v wx => v = .bool !(snA s && decide (p < s.Producer)) ∧ Hid (Blk wx J #[.int .i64 s.Producer, .int .i64 s.Turn, .int .i64 s.Next, .slice A3 s.Recent.length c3] 101) ∧ Below W1.heap.size W1 wx)
    case first =>
      clear HN HD2
      have cx0 := cg x0
      have cx1 := cg x1
      have cx2 := cg x2
      have cx3 := cg x3
      have HV : Hid (snA s = (inB s.Producer 0 1000000000 && inB s.Turn 0 1000 && inB s.Next 0 1000000001 && decide ((s.Recent.length : Int) ≤ 5))) := Lib.hid rfl
      generalize hi1 : inB s.Producer 0 1000000000 = a1 at HV
      generalize hi2 : inB s.Turn 0 1000 = a2 at HV
      generalize hi3 : inB s.Next 0 1000000001 = a3 at HV
      have H1 := Lib.hid hi1
      have H2 := Lib.hid hi2
      have H3 := Lib.hid hi3
      clear hi1 hi2 hi3
      cases a1 with
      | false =>
        refine wp_region_quiet_below (by kernel_rfl) (by kernel_rfl) ?_
        repeat (go_big_quiet_step (first | (go_at_call 51; with_reducible exact l1In_gT _ _ _ H1.out) | (go_at_call 51; with_reducible exact l1In_gT _ _ _ H2.out) | (go_at_call 51; with_reducible exact l1In_gT _ _ _ H3.out)))
        refine wpQuiet_nil ?_
        intro _ hw'
        obtain ⟨pp, hw''⟩ := hw'
        subst hw''
        have hbq := below_regrown W1 pp.d pp.os
        go_wp2
        all_goals (go_meet; exact ⟨by simp only [Value.bool.injEq]; rw [HV.out]; simp, Lib.hid (X1.out.below hbq), hbq⟩)
      | true =>
        by_cases hk0 : k = 0
        case pos =>
          have HP9 : Hid (p < s.Producer) := Lib.hid (by have h1 := HP0.out hk0; have h2 := H1.out; simp only [inB, decide_eq_true_eq] at h2; omega)
          have hd : decide ((0 : Int) < (k : Int)) = false := by simp; omega
          have hd2 : decide (0 < k) = false := by simp; omega
          clear hk0
          cases a2 with
          | false =>
            refine wp_region_quiet_below (by kernel_rfl) (by kernel_rfl) ?_
            repeat (go_big_quiet_step (first | (go_at_call 51; with_reducible exact l1In_gT _ _ _ H1.out) | (go_at_call 51; with_reducible exact l1In_gT _ _ _ H2.out) | (go_at_call 51; with_reducible exact l1In_gT _ _ _ H3.out)))
            refine wpQuiet_nil ?_
            intro _ hw'
            obtain ⟨pp, hw''⟩ := hw'
            subst hw''
            have hbq := below_regrown W1 pp.d pp.os
            go_wp2
            all_goals (go_meet; exact ⟨by simp only [Value.bool.injEq]; rw [HV.out]; simp [HP9.out], Lib.hid (X1.out.below hbq), hbq⟩)
          | true =>
            cases a3 with
            | false =>
              refine wp_region_quiet_below (by kernel_rfl) (by kernel_rfl) ?_
              repeat (go_big_quiet_step (first | (go_at_call 51; with_reducible exact l1In_gT _ _ _ H1.out) | (go_at_call 51; with_reducible exact l1In_gT _ _ _ H2.out) | (go_at_call 51; with_reducible exact l1In_gT _ _ _ H3.out)))
              refine wpQuiet_nil ?_
              intro _ hw'
              obtain ⟨pp, hw''⟩ := hw'
              subst hw''
              have hbq := below_regrown W1 pp.d pp.os
              go_wp2
              all_goals (go_meet; exact ⟨by simp only [Value.bool.injEq]; rw [HV.out]; simp [HP9.out], Lib.hid (X1.out.below hbq), hbq⟩)
            | true =>
              by_cases h5 : s.Recent.length ≤ 5
              case neg =>
                have h5i : decide ((5 : Int) < (s.Recent.length : Int)) = true := by simp; omega
                have H5 : Hid (decide ((s.Recent.length : Int) ≤ 5) = false) := Lib.hid (by simp; omega)
                clear h5
                refine wp_region_quiet_below (by kernel_rfl) (by kernel_rfl) ?_
                repeat (go_big_quiet_step (first | (go_at_call 51; with_reducible exact l1In_gT _ _ _ H1.out) | (go_at_call 51; with_reducible exact l1In_gT _ _ _ H2.out) | (go_at_call 51; with_reducible exact l1In_gT _ _ _ H3.out)))
                refine wpQuiet_nil ?_
                intro _ hw'
                obtain ⟨pp, hw''⟩ := hw'
                subst hw''
                have hbq := below_regrown W1 pp.d pp.os
                go_wp2
                all_goals (go_meet; exact ⟨by simp only [Value.bool.injEq]; rw [HV.out]; simp [H5.out, HP9.out], Lib.hid (X1.out.below hbq), hbq⟩)
              case pos =>
                have h5i : decide ((5 : Int) < (s.Recent.length : Int)) = false := by simp; omega
                have H5 : Hid (decide ((s.Recent.length : Int) ≤ 5) = true) := Lib.hid (by simp; omega)
                clear h5
                refine wp_region_quiet_below (by kernel_rfl) (by kernel_rfl) ?_
                repeat (go_big_quiet_step (first | (go_at_call 51; with_reducible exact l1In_gT _ _ _ H1.out) | (go_at_call 51; with_reducible exact l1In_gT _ _ _ H2.out) | (go_at_call 51; with_reducible exact l1In_gT _ _ _ H3.out)))
                refine wpQuiet_nil ?_
                intro _ hw'
                obtain ⟨pp, hw''⟩ := hw'
                subst hw''
                have hbq := below_regrown W1 pp.d pp.os
                go_wp2
                all_goals (go_meet; exact ⟨by simp only [Value.bool.injEq]; rw [HV.out]; simp [H5.out, HP9.out], Lib.hid (X1.out.below hbq), hbq⟩)
        case neg =>
          obtain ⟨y, hy, hyp⟩ := HP.out (k - 1) (by omega)
          obtain ⟨ad', y', B3, d3, hA', hy', q0, _⟩ := Seen.at GR.out (k - 1) (by omega)
          cases hA'
          obtain rfl : y' = y := by rw [hy] at hy'; exact (Option.some.inj hy').symm
          have q0 : W1.cell? (ad.add ((k - 1) * 4)) = some (.int .i64 p) := by rw [← hyp]; exact q0
          clear hy hy' hyp
          have cq0 := cg q0
          have hd : decide ((0 : Int) < (k : Int)) = true := by simp; omega
          have hd2 : decide (0 < k) = true := by simp; omega
          have hk2 : IntKind.i64.wrap ((k : Int) - 1) = ((k - 1 : Nat) : Int) := by rw [IntWalk.i64_in _ (by omega)]; omega
          by_cases hpy : s.Producer ≤ p
          case pos =>
            have hpy2 : decide (s.Producer ≤ p) = true := by simpa using hpy
            have HP9 := Lib.hid (show ¬ p < s.Producer by omega)
            clear hpy
            refine wp_region_quiet_below (by kernel_rfl) (by kernel_rfl) ?_
            repeat (go_big_quiet_step (first | (go_at_call 51; with_reducible exact l1In_gT _ _ _ H1.out) | (go_at_call 51; with_reducible exact l1In_gT _ _ _ H2.out) | (go_at_call 51; with_reducible exact l1In_gT _ _ _ H3.out)))
            refine wpQuiet_nil ?_
            intro _ hw'
            obtain ⟨pp, hw''⟩ := hw'
            subst hw''
            have hbq := below_regrown W1 pp.d pp.os
            go_wp2
            all_goals (go_meet; exact ⟨by simp only [Value.bool.injEq]; rw [HV.out]; simp [HP9.out], Lib.hid (X1.out.below hbq), hbq⟩)
          case neg =>
            have hpy2 : decide (s.Producer ≤ p) = false := by simpa using hpy
            have HP9 := Lib.hid (show p < s.Producer by omega)
            clear hpy
            cases a2 with
            | false =>
              refine wp_region_quiet_below (by kernel_rfl) (by kernel_rfl) ?_
              repeat (go_big_quiet_step (first | (go_at_call 51; with_reducible exact l1In_gT _ _ _ H1.out) | (go_at_call 51; with_reducible exact l1In_gT _ _ _ H2.out) | (go_at_call 51; with_reducible exact l1In_gT _ _ _ H3.out)))
              refine wpQuiet_nil ?_
              intro _ hw'
              obtain ⟨pp, hw''⟩ := hw'
              subst hw''
              have hbq := below_regrown W1 pp.d pp.os
              go_wp2
              all_goals (go_meet; exact ⟨by simp only [Value.bool.injEq]; rw [HV.out]; simp [HP9.out], Lib.hid (X1.out.below hbq), hbq⟩)
            | true =>
              cases a3 with
              | false =>
                refine wp_region_quiet_below (by kernel_rfl) (by kernel_rfl) ?_
                repeat (go_big_quiet_step (first | (go_at_call 51; with_reducible exact l1In_gT _ _ _ H1.out) | (go_at_call 51; with_reducible exact l1In_gT _ _ _ H2.out) | (go_at_call 51; with_reducible exact l1In_gT _ _ _ H3.out)))
                refine wpQuiet_nil ?_
                intro _ hw'
                obtain ⟨pp, hw''⟩ := hw'
                subst hw''
                have hbq := below_regrown W1 pp.d pp.os
                go_wp2
                all_goals (go_meet; exact ⟨by simp only [Value.bool.injEq]; rw [HV.out]; simp [HP9.out], Lib.hid (X1.out.below hbq), hbq⟩)
              | true =>
                by_cases h5 : s.Recent.length ≤ 5
                case neg =>
                  have h5i : decide ((5 : Int) < (s.Recent.length : Int)) = true := by simp; omega
                  have H5 : Hid (decide ((s.Recent.length : Int) ≤ 5) = false) := Lib.hid (by simp; omega)
                  clear h5
                  refine wp_region_quiet_below (by kernel_rfl) (by kernel_rfl) ?_
                  repeat (go_big_quiet_step (first | (go_at_call 51; with_reducible exact l1In_gT _ _ _ H1.out) | (go_at_call 51; with_reducible exact l1In_gT _ _ _ H2.out) | (go_at_call 51; with_reducible exact l1In_gT _ _ _ H3.out)))
                  refine wpQuiet_nil ?_
                  intro _ hw'
                  obtain ⟨pp, hw''⟩ := hw'
                  subst hw''
                  have hbq := below_regrown W1 pp.d pp.os
                  go_wp2
                  all_goals (go_meet; exact ⟨by simp only [Value.bool.injEq]; rw [HV.out]; simp [H5.out, HP9.out], Lib.hid (X1.out.below hbq), hbq⟩)
                case pos =>
                  have h5i : decide ((5 : Int) < (s.Recent.length : Int)) = false := by simp; omega
                  have H5 : Hid (decide ((s.Recent.length : Int) ≤ 5) = true) := Lib.hid (by simp; omega)
                  clear h5
                  refine wp_region_quiet_below (by kernel_rfl) (by kernel_rfl) ?_
                  repeat (go_big_quiet_step (first | (go_at_call 51; with_reducible exact l1In_gT _ _ _ H1.out) | (go_at_call 51; with_reducible exact l1In_gT _ _ _ H2.out) | (go_at_call 51; with_reducible exact l1In_gT _ _ _ H3.out)))
                  refine wpQuiet_nil ?_
                  intro _ hw'
                  obtain ⟨pp, hw''⟩ := hw'
                  subst hw''
                  have hbq := below_regrown W1 pp.d pp.os
                  go_wp2
                  all_goals (go_meet; exact ⟨by simp only [Value.bool.injEq]; rw [HV.out]; simp [H5.out, HP9.out], Lib.hid (X1.out.below hbq), hbq⟩)
    obtain ⟨rfl, X2, hb0⟩ := hcut
    have hb2 := below_tr hb1 hb0
    have G4 := Lib.hid (Row_below G3.out hb0)
    clear hb0 hb1 G3 X1 GR HP HP0
    clear x0 x1 x2 x3
    have y0 : wc.cell? ⟨J, 0, none⟩ = some (.int .i64 s.Producer) := X2.out.cell 0 _ rfl
    have y2 : wc.cell? ⟨J, 2, none⟩ = some (.int .i64 s.Next) := X2.out.cell 2 _ rfl
    have y3 : wc.cell? ⟨J, 3, none⟩ = some (.slice A3 s.Recent.length c3) := X2.out.cell 3 _ rfl
    generalize hA : (snA s && decide (p < s.Producer)) = va at HD2 ⊢
    have HVA := Lib.hid hA
    clear hA
    cases va with
    | false =>
      have HF : Hid (false = T) := Lib.hid (by rw [← HD2.out]; rfl)
      go_wp2
      go_ret
      exact ⟨ret_bool HF.out, hb2⟩
    | true =>
      have HR0 : Hid ((rcs s.Next s.Recent && tblB (l.drop (k + 1)) s.Producer) = T) := Lib.hid (by rw [← HD2.out]; simp)
      clear HD2
      have hl5 : s.Recent.length ≤ 1048576 := hsl
      go_upto_region 10 with fail
      go_loopg [5] s.Recent.length (fun g v wi => ∃ j : Nat, j + g = s.Recent.length ∧ v = .int .i64 j ∧ Hid (Blk wi J #[.int .i64 s.Producer, .int .i64 s.Turn, .int .i64 s.Next, .slice A3 s.Recent.length c3] 101) ∧ Below wc.heap.size wc wi ∧ Hid ((rcs s.Next (s.Recent.drop j) && tblB (l.drop (k + 1)) s.Producer) = T))
      case atStart => exact ⟨0, by omega, rfl, X2, Below.refl _ _, HR0⟩
      case round =>
        clear HR0 y0 y2 y3
        obtain ⟨j, hj, rfl, X3, hbi, HD3⟩ := hrel
        have y2 : wr.cell? ⟨J, 2, none⟩ = some (.int .i64 s.Next) := X3.out.cell 2 _ rfl
        have y3 : wr.cell? ⟨J, 3, none⟩ = some (.slice A3 s.Recent.length c3) := X3.out.cell 3 _ rfl
        by_cases hlj : j < s.Recent.length
        case neg =>
          have HE : Hid (tblB (l.drop (k + 1)) s.Producer = T) := Lib.hid (by have h := HD3.out; rw [List.drop_eq_nil_of_le (by omega), rcs] at h; simpa using h)
          clear HD3
          go_wp2
          go_roundg (l.length - k - 1)
          case rel => exact ⟨k + 1, s.Producer, by omega, by go_num, HN, Lib.hid (by omega), below_tr hb2 hbi, HE⟩
          case measure => omega
        obtain ⟨bd, r, rfl, hy, r0, r1, r2⟩ := Recent.at (Row_below G4.out hbi) j hlj
        have HD4 : Hid ((rcOk r && decide (r.Seq + r.Many = nxOf s.Next (s.Recent.drop (j + 1))) && rcs s.Next (s.Recent.drop (j + 1)) && tblB (l.drop (k + 1)) s.Producer) = T) := Lib.hid (by rw [← rcs_cons, ← drop_cons hy]; exact HD3.out)
        clear HD3
        have hbr := below_al wr (.cells #[.int .i64 r.Seq, .int .i64 r.Many, .int .i64 r.Offset] 103)
        have Q1 := Blk.new wr #[.int .i64 r.Seq, .int .i64 r.Many, .int .i64 r.Offset] 103
        have X4 := Lib.hid (X3.out.below hbr)
        have GR2 := Lib.hid (Row_below G4.out (below_tr hbi hbr))
        obtain ⟨Q, hQ⟩ : ∃ n, n = wr.heap.size := ⟨_, rfl⟩
        go_upto_region 13 with fail
        clear r0 r1 r2 y2 y3
        have hb3 := below_tr (below_tr hb2 hbi) hbr
        have hb5 := below_tr hbi hbr
        generalize wr.alloc (.cells #[.int .i64 r.Seq, .int .i64 r.Many, .int .i64 r.Offset] 103) = W2 at Q1 X4 GR2 hb3 hb5 ⊢
        rw [← hQ] at Q1 ⊢
        clear hQ hbr hbi X3
        have q0 : W2.cell? ⟨Q, 0, none⟩ = some (.int .i64 r.Seq) := Q1.cell 0 _ rfl
        have q1 : W2.cell? ⟨Q, 1, none⟩ = some (.int .i64 r.Many) := Q1.cell 1 _ rfl
        have q2 : W2.cell? ⟨Q, 2, none⟩ = some (.int .i64 r.Offset) := Q1.cell 2 _ rfl
        have y2 : W2.cell? ⟨J, 2, none⟩ = some (.int .i64 s.Next) := X4.out.cell 2 _ rfl
        have y3 : W2.cell? ⟨J, 3, none⟩ = some (.slice (some bd) s.Recent.length c3) := X4.out.cell 3 _ rfl
        clear Q1
        go_cut [85] (fun v wx => v = .bool !(rcOk r) ∧ wx = W2)
        case first =>
          go_wp2_with (go_at_call 51; refine (l1In_c _ _ _ _).mono ?_; rintro e w' ⟨rfl, rfl⟩)
          all_goals (go_meet; exact ⟨by simp only [Value.bool.injEq]; grind [rcOk], rfl⟩)
        obtain ⟨rfl, hwx⟩ := hcut
        subst hwx
        generalize hrc : rcOk r = vr at HD4 ⊢
        cases vr with
        | false =>
          have HF : Hid (false = T) := Lib.hid (by rw [← HD4.out]; rfl)
          go_wp2
          go_ret
          exact ⟨ret_bool HF.out, hb3⟩
        | true =>
          have hbd : 0 ≤ r.Seq ∧ r.Seq ≤ 1000000000 ∧ 1 ≤ r.Many ∧ r.Many ≤ 40 := by simp only [rcOk, inB, Bool.and_eq_true, decide_eq_true_eq] at hrc; omega
          clear hrc
          obtain ⟨hb1a, hb1b, hb1c, hb1d⟩ := hbd
          have hw1 : IntKind.i64.wrap (r.Seq + r.Many) = r.Seq + r.Many := IntWalk.i64_in _ (by omega)
          by_cases hj1 : j + 1 < s.Recent.length
          case neg =>
            have HNX : Hid (nxOf s.Next (s.Recent.drop (j + 1)) = s.Next) := Lib.hid (by rw [List.drop_eq_nil_of_le (by omega)]; rfl)
            have hji : ¬ ((j : Int) + 1 < (s.Recent.length : Int)) := by omega
            by_cases he : r.Seq + r.Many = s.Next
            case neg =>
              have HF : Hid (false = T) := Lib.hid (by rw [← HD4.out, HNX.out]; simp [he])
              go_wp2
              go_ret
              exact ⟨ret_bool HF.out, hb3⟩
            case pos =>
              have HG : Hid ((rcs s.Next (s.Recent.drop (j + 1)) && tblB (l.drop (k + 1)) s.Producer) = T) := Lib.hid (by rw [← HD4.out, HNX.out]; simp [he])
              go_wp2
              go_roundg (s.Recent.length - j - 1)
              case rel => exact ⟨j + 1, by omega, by go_num, X4, hb5, HG⟩
              case measure => omega
          case pos =>
            obtain ⟨bd', r', hB', hy', t0, _⟩ := Recent.at GR2.out (j + 1) hj1
            cases hB'
            have HNX : Hid (nxOf s.Next (s.Recent.drop (j + 1)) = r'.Seq) := Lib.hid (by rw [drop_cons hy']; rfl)
            clear hy'
            have hji : (j : Int) + 1 < (s.Recent.length : Int) := by omega
            by_cases he : r.Seq + r.Many = r'.Seq
            case neg =>
              have HF : Hid (false = T) := Lib.hid (by rw [← HD4.out, HNX.out]; simp [he])
              go_wp2
              go_ret
              exact ⟨ret_bool HF.out, hb3⟩
            case pos =>
              have HG : Hid ((rcs s.Next (s.Recent.drop (j + 1)) && tblB (l.drop (k + 1)) s.Producer) = T) := Lib.hid (by rw [← HD4.out, HNX.out]; simp [he])
              go_wp2
              go_roundg (s.Recent.length - j - 1)
              case rel => exact ⟨j + 1, by omega, by go_num, X4, hb5, HG⟩
              case measure => omega
end Go.Proofs.Ytipemgjgimpmbaa.H
