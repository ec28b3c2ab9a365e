/-
The reference's PartOk answers partOk. Conditions: the contract's own premises.
-/
import Derived.Test.YtpnjgmgnhkhapaaHPart1
import Derived.Test.YtpnjgmgnhkhapaaHQ3
import Derived.Test.YtpnjgmgnhkhapaaHRg
namespace Go.Proofs.Ytpnjgmgnhkhapaa.H
open Go.RowKit Go.Sort Go.BigFrame
set_option linter.unusedVariables false
set_option linter.unusedSimpArgs false
set_option maxRecDepth 100000
theorem l1In_g (x lo hi : Int) {w : World} {d : Nat} {os : Array Obj} {b : Bool} (h : inB x lo hi = b) : Calls Try.prog 32 #[.int .i64 x, .int .i64 lo, .int .i64 hi] (grow (redrawn w d) os) fun e w'' => e = .returned (.bool b) ∧ ∃ p : Regrown, w'' = grow (redrawn w p.d) p.os := rg_same (l1In_c x lo hi _) (congrArg Value.bool h)
def pHdrS (p : Part) : Bool := inB p.Replicas.length 1 5 && inB p.Leader (-1) ((p.Replicas.length : Int) - 1) && inB p.Epoch 0 1000000 && inB p.Least 1 5 && decide (p.Known.length = p.Replicas.length) && decide (p.Insync.length ≠ 0)
def repS (E : Int) (r : Replica) (kn : Int) : Bool := logOk r.Log && inB r.Mark r.Log.Start r.Log.Next && decide (lastE (allB r.Log) 0 ≤ E) && inB kn 0 1000000000
theorem repS_eq {E : Int} (hE : 0 ≤ E) (r : Replica) (kn : Int) : repOk E (r, kn) = repS E r kn := by
  unfold repOk repS repA
  by_cases h : logOk r.Log = true
  · have h1 : (allB r.Log).all (epOk E) = decide (lastE (allB r.Log) 0 ≤ E) := chain_all E _ (-1) 0 (logOk_chain h).1 hE
    simp only [h1]
    grind
  · simp [h]
set_option maxHeartbeats 4000000 in
theorem specPartOk_c (w : World) (x : Part) {A0 A3 A4 : Option Addr} {c0 c3 c4 : Nat} (l0 : x.Replicas.length ≤ c0) (g0 : Row kReplica w A0 x.Replicas) (l3 : x.Insync.length ≤ c3) (g3 : Row (Ki.int .i64) w A3 x.Insync) (l4 : x.Known.length ≤ c4) (g4 : Row (Ki.int .i64) w A4 x.Known) (hs : x.sm) (hw : x.wf) :
    Calls Try.prog 21 #[.agg #[.slice A0 x.Replicas.length c0, .int .i64 x.Leader, .int .i64 x.Epoch, .slice A3 x.Insync.length c3, .slice A4 x.Known.length c4, .int .i64 x.Least]] w fun e w' => e = .returned (.bool (partOk x)) ∧ Below w.heap.size w w' := by
  obtain ⟨⟨hs0, hs0'⟩, hs3, hs4⟩ := hs
  have HS0 := Lib.hid hs0'
  have HW0 : Hid (∀ r ∈ x.Replicas, r.Log.wf) := Lib.hid (fun r hr => (hw.1.2 r hr).1)
  clear hs0' hw
  have hu := Try.underlying92
  have hu2 := Try.underlying46
  have hu5 := Try.underlying41
  go_enter Try.func21, Try.ntmps21
  go_upto_region 2 with fail
  go_cut [45] (fun s wx => s = .bool !(pHdrS x) ∧ Box wx w.heap.size #[.slice A0 x.Replicas.length c0, .int .i64 x.Leader, .int .i64 x.Epoch, .slice A3 x.Insync.length c3, .slice A4 x.Known.length c4, .int .i64 x.Least] ∧ Below w.heap.size w wx)
  case first =>
    generalize hbI : decide (x.Insync.length = 0) = bI
    generalize hbK : decide (x.Known.length = x.Replicas.length) = bK
    have hI2 : ((x.Insync.length : Int) == 0) = bI := by rw [← hbI, Bool.eq_iff_iff]; simp
    have hK2 : ((x.Known.length : Int) != (x.Replicas.length : Int)) = !bK := by rw [← hbK, Bool.eq_iff_iff]; simp <;> omega
    have HbI := Lib.hid hbI
    have HbK := Lib.hid hbK
    clear hbI hbK
    go_wp2_with (go_at_call 32; refine (l1In_c _ _ _ _).mono ?_; rintro e w' ⟨rfl, rfl⟩)
    all_goals go_meet
    all_goals exact ⟨by simp only [Value.bool.injEq]; have := HbI.out; have := HbK.out; grind [pHdrS], Box.new _ _ _, below_al _ _⟩
  obtain ⟨rfl, hz, hb⟩ := hcut
  have z0 := hz 0 _ rfl
  have hgz := hz.lt rfl
  have HZ := Lib.hid hz
  clear hz
  by_cases hh : pHdrS x = true
  case neg =>
    replace hh := Bool.eq_false_iff.2 hh
    have HH := Lib.hid hh
    rw [hh]
    clear hh
    go_wp2
    go_ret
    exact ⟨ret_bool (by have := HH.out; grind [partOk, pHdr, pHdrS]), hb⟩
  have HH := Lib.hid hh
  rw [hh, show (!true) = false from rfl]
  have hn : 1 ≤ x.Replicas.length ∧ x.Replicas.length ≤ 5 ∧ x.Known.length = x.Replicas.length ∧ -1 ≤ x.Leader ∧ x.Leader ≤ (x.Replicas.length : Int) - 1 ∧ 0 ≤ x.Epoch := by simp only [pHdrS, inB, Bool.and_eq_true, decide_eq_true_eq] at hh; omega
  clear hh
  obtain ⟨hn0, hn1, hkn, hld0, hld1, hE0⟩ := hn
  have HKN := Lib.hid hkn
  clear hkn
  have HA : Hid (((x.Replicas.zip x.Known).all (repOk x.Epoch) && ascB x.Replicas.length x.Insync (-1) && leadOk x) = partOk x) := Lib.hid (by have := HH.out; grind [partOk, pHdr, pHdrS])
  clear HH
  go_wp2
  go_loopg [4] x.Replicas.length (fun g v4 wr => ∃ k : Nat, k + g = x.Replicas.length ∧ v4 = .int .i64 k ∧ Hid (Box wr w.heap.size #[.slice A0 x.Replicas.length c0, .int .i64 x.Leader, .int .i64 x.Epoch, .slice A3 x.Insync.length c3, .slice A4 x.Known.length c4, .int .i64 x.Least]) ∧ Below w.heap.size w wr ∧ Hid (((x.Replicas.zip x.Known).take k).all (repOk x.Epoch) = true))
  case atStart => exact ⟨0, by omega, rfl, HZ, hb, Lib.hid rfl⟩
  case round =>
    clear z0 HZ hb hgz
    obtain ⟨k, hk, rfl, HZ, hb, Ha⟩ := hrel
    have hgz := HZ.out.lt rfl
    have z0 := HZ.out 0 _ rfl
    by_cases hlt : k < x.Replicas.length
    case pos =>
      obtain ⟨ad, r, A6, c6, rfl, hx, p0, p1, p2, p3, p4, p5, l6, g6⟩ := Replica.at (Row_below g0 hb) k hlt
      obtain ⟨ak, kn, rfl, hxk, pk⟩ := rowInt (Row_below g4 hb) k (by have := HKN.out; omega)
      have Hx := Lib.hid (zip_at hx hxk)
      have HSr := Lib.hid (HS0.out r (List.mem_of_getElem? hx))
      have HWr := Lib.hid (HW0.out r (List.mem_of_getElem? hx))
      clear hx hxk
      have z2 := HZ.out 2 _ rfl
      have z4 := HZ.out 4 _ rfl
      have hkn2 : (k : Int) < (x.Known.length : Int) := by have := HKN.out; omega
      have hkn3 : (0 : Int) ≤ (k : Int) := by omega
      have HV := Lib.hid (repS_eq hE0 r kn)
      generalize hlo : logOk r.Log = bl
      generalize hmk : inB r.Mark r.Log.Start r.Log.Next = bm
      generalize hle : lastE (allB r.Log) 0 = le
      generalize hkk : inB kn 0 1000000000 = bk
      have Hlo := Lib.hid hlo
      have Hmk := Lib.hid hmk
      have Hle := Lib.hid hle
      have Hkk := Lib.hid hkk
      clear hlo hmk hle hkk
      have HRS : Hid (repS x.Epoch r kn = (bl && bm && decide (le ≤ x.Epoch) && bk)) := Lib.hid (by unfold repS; rw [Hlo.out, Hmk.out, Hle.out, Hkk.out])
      have hsr := HSr.out.1
      go_upto_region 8 with fail
      have X := Box.new wr #[.int .i64 r.Log.Start, .int .i64 r.Log.Next, .int .i64 r.Log.Roll, .slice A6 r.Log.Segments.length c6, .int .i64 r.Mark, .bool r.Up] 92
      have q0 := X 0 _ rfl
      have q1 := X 1 _ rfl
      have q2 := X 2 _ rfl
      have q3 := X 3 _ rfl
      have q4 := X 4 _ rfl
      have q5 := X 5 _ rfl
      clear X
      have y2 := later (below_al wr (.cells #[.int .i64 r.Log.Start, .int .i64 r.Log.Next, .int .i64 r.Log.Roll, .slice A6 r.Log.Segments.length c6, .int .i64 r.Mark, .bool r.Up] 92)) z2
      have y4 := later (below_al wr (.cells #[.int .i64 r.Log.Start, .int .i64 r.Log.Next, .int .i64 r.Log.Roll, .slice A6 r.Log.Segments.length c6, .int .i64 r.Mark, .bool r.Up] 92)) z4
      have yk := later (below_al wr (.cells #[.int .i64 r.Log.Start, .int .i64 r.Log.Next, .int .i64 r.Log.Roll, .slice A6 r.Log.Segments.length c6, .int .i64 r.Mark, .bool r.Up] 92)) pk
      have HZ8 := Lib.hid (HZ.out.later (below_al wr (.cells #[.int .i64 r.Log.Start, .int .i64 r.Log.Next, .int .i64 r.Log.Roll, .slice A6 r.Log.Segments.length c6, .int .i64 r.Mark, .bool r.Up] 92)))
      have Hb8 := below_tr hb (below_al wr (.cells #[.int .i64 r.Log.Start, .int .i64 r.Log.Next, .int .i64 r.Log.Roll, .slice A6 r.Log.Segments.length c6, .int .i64 r.Mark, .bool r.Up] 92))
      go_cut [88] (fun s wx => s = .bool !(repS x.Epoch r kn) ∧ Hid (Box wx w.heap.size #[.slice (some ad) x.Replicas.length c0, .int .i64 x.Leader, .int .i64 x.Epoch, .slice A3 x.Insync.length c3, .slice (some ak) x.Known.length c4, .int .i64 x.Least]) ∧ Below w.heap.size w wx)
      case first =>
        have hW8 := Lib.hid (below_al wr (.cells #[.int .i64 r.Log.Start, .int .i64 r.Log.Next, .int .i64 r.Log.Roll, .slice A6 r.Log.Segments.length c6, .int .i64 r.Mark, .bool r.Up] 92))
        have HB8 := Lib.hid Hb8
        clear Hb8
        generalize hgW : wr.alloc (.cells #[.int .i64 r.Log.Start, .int .i64 r.Log.Next, .int .i64 r.Log.Roll, .slice A6 r.Log.Segments.length c6, .int .i64 r.Mark, .bool r.Up] 92) = W8 at q0 q1 q2 q3 q4 q5 y2 y4 yk HZ8 HB8 hW8 ⊢
        clear hgW
        have f0 := cg q0
        have f1 := cg q1
        have f2 := cg q2
        have f3 := cg q3
        have f4 := cg q4
        have f5 := cg q5
        have j2 := cg y2
        have j4 := cg y4
        have jk := cg yk
        cases bl with
        | false =>
          refine wp_region_quiet_below (by kernel_rfl) (by kernel_rfl) ?_
          repeat (go_big_quiet_step ((first | (go_at_call 50; exact rg (specLogOk_c _ r.Log l6 (Row_below g6 (below_tr hW8.out (below_regrown _ _ _))) HSr.out HWr.out) (congrArg Value.bool Hlo.out)))))
          refine wpQuiet_nil ?_
          intro _ hw'
          obtain ⟨pp, hw''⟩ := hw'
          subst hw''
          have hbq := below_regrown W8 pp.d pp.os
          go_wp2
          all_goals (go_meet; exact ⟨by simp only [Value.bool.injEq]; rw [HRS.out]; rfl, Lib.hid (HZ8.out.later hbq), below_tr HB8.out hbq⟩)
        | true =>
          have hab := Lib.hid (logOk_all Hlo.out).1
          cases bm with
          | false =>
            refine wp_region_quiet_below (by kernel_rfl) (by kernel_rfl) ?_
            repeat (go_big_quiet_step ((first | (go_at_call 50; exact rg (specLogOk_c _ r.Log l6 (Row_below g6 (below_tr hW8.out (below_regrown _ _ _))) HSr.out HWr.out) (congrArg Value.bool Hlo.out)) | (go_at_call 32; with_reducible exact l1In_g _ _ _ Hmk.out))))
            refine wpQuiet_nil ?_
            intro _ hw'
            obtain ⟨pp, hw''⟩ := hw'
            subst hw''
            have hbq := below_regrown W8 pp.d pp.os
            go_wp2
            all_goals (go_meet; exact ⟨by simp only [Value.bool.injEq]; rw [HRS.out]; rfl, Lib.hid (HZ8.out.later hbq), below_tr HB8.out hbq⟩)
          | true =>
            by_cases hel : le ≤ x.Epoch
            case neg =>
              have he2 : decide (x.Epoch < le) = true := by simp; omega
              have HE := Lib.hid hel
              clear hel
              refine wp_region_quiet_below (by kernel_rfl) (by kernel_rfl) ?_
              repeat (go_big_quiet_step ((first | (go_at_call 50; exact rg (specLogOk_c _ r.Log l6 (Row_below g6 (below_tr hW8.out (below_regrown _ _ _))) HSr.out HWr.out) (congrArg Value.bool Hlo.out)) | (go_at_call 32; with_reducible exact l1In_g _ _ _ Hmk.out) | (go_at_call 51; exact rg (l5Epoch_c _ r.Log l6 (Row_below g6 (below_tr hW8.out (below_regrown _ _ _))) hsr (by have := hab.out; omega)) (congrArg (Value.int .i64) Hle.out)))))
              refine wpQuiet_nil ?_
              intro _ hw'
              obtain ⟨pp, hw''⟩ := hw'
              subst hw''
              have hbq := below_regrown W8 pp.d pp.os
              go_wp2
              all_goals (go_meet; exact ⟨by simp only [Value.bool.injEq]; rw [HRS.out]; simp [HE.out], Lib.hid (HZ8.out.later hbq), below_tr HB8.out hbq⟩)
            case pos =>
              have he2 : decide (x.Epoch < le) = false := by simp; omega
              have HE := Lib.hid hel
              clear hel
              refine wp_region_quiet_below (by kernel_rfl) (by kernel_rfl) ?_
              repeat (go_big_quiet_step ((first | (go_at_call 50; exact rg (specLogOk_c _ r.Log l6 (Row_below g6 (below_tr hW8.out (below_regrown _ _ _))) HSr.out HWr.out) (congrArg Value.bool Hlo.out)) | (go_at_call 32; with_reducible exact l1In_g _ _ _ Hmk.out) | (go_at_call 51; exact rg (l5Epoch_c _ r.Log l6 (Row_below g6 (below_tr hW8.out (below_regrown _ _ _))) hsr (by have := hab.out; omega)) (congrArg (Value.int .i64) Hle.out)) | (go_at_call 32; with_reducible exact l1In_g _ _ _ Hkk.out))))
              refine wpQuiet_nil ?_
              intro _ hw'
              obtain ⟨pp, hw''⟩ := hw'
              subst hw''
              have hbq := below_regrown W8 pp.d pp.os
              go_wp2
              all_goals (go_meet; exact ⟨by simp only [Value.bool.injEq]; rw [HRS.out]; simp [HE.out], Lib.hid (HZ8.out.later hbq), below_tr HB8.out hbq⟩)
      obtain ⟨rfl, HZ2, Hb⟩ := hcut
      clear p0 p1 p2 p3 p4 p5 g6 pk z2 z4 z0 HZ hb hgz q0 q1 q2 q3 q4 q5 y2 y4 yk HZ8 Hb8
      have hgz := HZ2.out.lt rfl
      generalize hA : repS x.Epoch r kn = va
      have HVA := Lib.hid hA
      clear hA
      cases va with
      | false =>
        go_wp2
        go_ret
        exact ⟨ret_bool (by rw [← HA.out, all_fail Hx.out (by rw [HV.out, HVA.out])]; rfl), Hb⟩
      | true =>
        go_wp2
        go_roundg (gk - 1)
        case rel => exact ⟨k + 1, by omega, by go_num, HZ2, Hb, Lib.hid (all_step Ha.out Hx.out (by rw [HV.out, HVA.out]))⟩
        case measure => omega
    have HR : Hid ((ascB x.Replicas.length x.Insync (-1) && leadOk x) = partOk x) := Lib.hid (by rw [← HA.out, all_full Ha.out (by rw [List.length_zip]; omega)]; rfl)
    clear HA Ha
    generalize hT : ascB x.Replicas.length x.Insync (-1) = T at HR
    have HT := Lib.hid hT
    clear hT z0
    go_wp2
    go_loopg [6] x.Insync.length (fun g v6 wi => ∃ (j : Nat) (p : Int), j + g = x.Insync.length ∧ v6 = .int .i64 j ∧ Hid (∀ q, j = q + 1 → x.Insync[q]? = some p) ∧ Hid (j = 0 → p = -1) ∧ Hid (Box wi w.heap.size #[.slice A0 x.Replicas.length c0, .int .i64 x.Leader, .int .i64 x.Epoch, .slice A3 x.Insync.length c3, .slice A4 x.Known.length c4, .int .i64 x.Least]) ∧ Below w.heap.size w wi ∧ Hid (ascB x.Replicas.length (x.Insync.drop j) p = T))
    case atStart => exact ⟨0, -1, by omega, rfl, Lib.hid (by omega), Lib.hid (by omega), HZ, hb, HT⟩
    case round =>
      clear HZ hb hgz HT
      obtain ⟨j, p, hj, rfl, HP, HP0, HZ, hb, HD⟩ := hrel
      have hgz := HZ.out.lt rfl
      have z3 := HZ.out 3 _ rfl
      by_cases hlt2 : j < x.Insync.length
      case pos =>
        have G3 := Row_below g3 hb
        obtain ⟨bd, y, rfl, hy, r0⟩ := rowInt G3 j hlt2
        have HX := Lib.hid (dropQ_cons hy)
        have Hy := Lib.hid hy
        clear hy
        have HD2 : Hid ((decide (0 ≤ y) && decide (y < x.Replicas.length) && decide (p < y) && ascB x.Replicas.length (x.Insync.drop (j + 1)) y) = T) := Lib.hid (by rw [← ascB_cons, ← HX.out]; exact HD.out)
        clear HX HD
        have HN : Hid (∀ q, j + 1 = q + 1 → x.Insync[q]? = some y) := Lib.hid (fun q hq => by rw [show q = j by omega]; exact Hy.out)
        generalize hin : inB y 0 ((x.Replicas.length : Int) - 1) = bi
        have Hin := Lib.hid hin
        clear hin
        have W1 : IntKind.i64.wrap ((x.Replicas.length : Int) - 1) = (x.Replicas.length : Int) - 1 := IntWalk.i64_in _ (by omega)
        have HW1 := Lib.hid W1
        clear W1
        cases bi with
        | false =>
          have HF : Hid (false = T) := Lib.hid (by rw [← HD2.out]; have := Hin.out; grind [inB])
          go_upto_region 13 with fail
          have W1 := HW1.out
          go_quiet ((go_at_call 32; exact Calls.quiet_of_same (l1In_v _ _ _ _ false Hin.out)))
          clear W1
          go_wp2
          go_ret
          exact ⟨ret_bool (by rw [← HR.out, ← HF.out]; rfl), below_dn hb _⟩
        | true =>
          by_cases hk0 : j = 0
          · have HF : Hid (ascB x.Replicas.length (x.Insync.drop (j + 1)) y = T) := Lib.hid (by rw [← HD2.out]; have := Hin.out; have := HP0.out hk0; grind [inB])
            have hd : decide ((0 : Int) < (j : Int)) = false := by simp; omega
            have hd2 : decide (0 < j) = false := by simp; omega
            have Hk0 := Lib.hid hk0
            clear hk0
            go_upto_region 13 with fail
            have W1 := HW1.out
            go_quiet ((go_at_call 32; exact Calls.quiet_of_same (l1In_v _ _ _ _ true Hin.out)))
            clear W1
            go_wp2
            go_roundg (gk - 1)
            case rel => exact ⟨j + 1, y, by omega, by go_num, HN, Lib.hid (by omega), Lib.hid (HZ.out.later (below_dn (Below.refl _ _) _)), below_dn hb _, HF⟩
            case measure => omega
          · obtain ⟨ad', x', hA', hx', p1⟩ := rowInt G3 (j - 1) (by omega)
            cases hA'
            obtain rfl : x' = p := by rw [HP.out (j - 1) (by omega)] at hx'; exact (Option.some.inj hx').symm
            clear hx'
            have hk1 : decide ((0 : Int) < (j : Int)) = true := by simp; omega
            have hd2 : decide (0 < j) = true := by simp; omega
            have hk2 : IntKind.i64.wrap ((j : Int) - 1) = ((j - 1 : Nat) : Int) := by rw [IntWalk.i64_in _ (by omega)]; omega
            by_cases hpy : y ≤ x'
            · have HF : Hid (false = T) := Lib.hid (by rw [← HD2.out]; grind)
              have hpy2 : decide (y ≤ x') = true := by simpa using hpy
              go_upto_region 13 with fail
              have W1 := HW1.out
              go_quiet ((go_at_call 32; exact Calls.quiet_of_same (l1In_v _ _ _ _ true Hin.out)))
              clear W1
              go_wp2
              go_ret
              exact ⟨ret_bool (by rw [← HR.out, ← HF.out]; rfl), below_dn hb _⟩
            · have HF : Hid (ascB x.Replicas.length (x.Insync.drop (j + 1)) y = T) := Lib.hid (by rw [← HD2.out]; have := Hin.out; grind [inB])
              have hpy2 : decide (y ≤ x') = false := by simpa using hpy
              go_upto_region 13 with fail
              have W1 := HW1.out
              go_quiet ((go_at_call 32; exact Calls.quiet_of_same (l1In_v _ _ _ _ true Hin.out)))
              clear W1 hk2
              go_wp2
              go_roundg (gk - 1)
              case rel => exact ⟨j + 1, y, by omega, by go_num, HN, Lib.hid (by omega), Lib.hid (HZ.out.later (below_dn (Below.refl _ _) _)), below_dn hb _, HF⟩
              case measure => omega
      have HE : Hid (leadOk x = partOk x) := Lib.hid (by have h := HD.out; rw [List.drop_eq_nil_of_le (by omega)] at h; rw [← HR.out, ← h]; rfl)
      clear HD HP HP0 HR
      have HJ : Hid (j + gk = x.Insync.length) := Lib.hid hj
      clear hj
      have z0 := HZ.out 0 _ rfl
      have z1 := HZ.out 1 _ rfl
      by_cases hL : x.Leader = -1
      · have HL := Lib.hid hL
        have hL2 : x.Leader < 0 := by omega
        clear hL
        go_wp2
        go_ret
        exact ⟨ret_bool (by rw [← HE.out]; simp [leadOk, HL.out]), hb⟩
      · have hl0 : 0 ≤ x.Leader := by omega
        have hl1 : x.Leader < (x.Replicas.length : Int) := by omega
        have HL := Lib.hid hL
        clear hL
        obtain ⟨ad, r, A6, c6, rfl, hx, p0, p1, p2, p3, p4, p5, l6, g6⟩ := Replica.at (Row_below g0 hb) x.Leader.toNat (by omega)
        have Hx := Lib.hid hx
        clear hx
        go_wp2_with (go_at_call 52; refine (l5Has_c _ x.Insync _ l3 (Row_below g3 hb) hs3).mono ?_; rintro e w1 ⟨rfl, hb1⟩)
        all_goals go_ret
        all_goals first
          | exact ⟨ret_bool (by rw [← HE.out]; unfold leadOk; rw [Hx.out]; have := HL.out; grind), below_tr hb hb1⟩
          | exact ⟨ret_bool (by rw [← HE.out]; unfold leadOk; rw [Hx.out]; have := HL.out; grind), hb⟩
end Go.Proofs.Ytpnjgmgnhkhapaa.H
