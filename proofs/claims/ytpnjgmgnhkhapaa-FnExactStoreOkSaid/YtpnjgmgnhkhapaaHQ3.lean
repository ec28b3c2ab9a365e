/-
The reference's QuorumOk answers quorumOk. Conditions: the contract's own premises.
-/
import Derived.Test.YtpnjgmgnhkhapaaHQ2
import Derived.IntWalk
namespace Go.Proofs.Ytpnjgmgnhkhapaa.H
open Go.RowKit
set_option linter.unusedVariables false
set_option linter.unusedSimpArgs false
set_option maxRecDepth 100000
theorem l1In_v (x lo hi : Int) (w : World) (b : Bool) (h : inB x lo hi = b) : Calls Try.prog 32 #[.int .i64 x, .int .i64 lo, .int .i64 hi] w fun e w' => e = .returned (.bool b) ∧ w' = w := by
  subst h
  exact (l1In_c x lo hi w).mono fun _ _ ⟨h1, h2⟩ => ⟨h1, h2.symm⟩
def vS (v : Voter) (n : Nat) : Bool := inB v.Term 0 1000000000000 && inB v.Vote (-1) ((n : Int) - 1) && inB v.Role 0 2 && (decide (v.Log.length ≤ 200) && cmdsOk v.Term v.Log 0) && inB v.Sealed 0 v.Log.length
def numS (n : Int) (v : Voter) (l : List Int) : Bool := decide ((l.length : Int) = n) && l.all (fun x => inB x 0 v.Log.length)
theorem numS_eq (n : Nat) (v : Voter) (l : List Int) : numsOk n v l = numS (if v.Role = 2 then (n : Int) else 0) v l := by
  unfold numsOk numS
  split
  · congr 1; simp; omega
  · cases l with
    | nil => simp
    | cons x r => simp; omega
theorem voter_eq (n : Nat) (v : Voter) : voterOk n v = (vS v n && ascB n v.Votes (-1) && numS (if v.Role = 2 then (n : Int) else 0) v v.Next && numS (if v.Role = 2 then (n : Int) else 0) v v.Match) := by
  unfold voterOk vA vS
  rw [numS_eq, numS_eq]
  grind
set_option maxHeartbeats 8000000 in
theorem specQuorumOk_c (w : World) (x : Quorum) {A0 A1 : Option Addr} {c0 c1 : Nat} (l0 : x.Voters.length ≤ c0) (g0 : Row kVoter w A0 x.Voters) (l1 : x.Net.length ≤ c1) (g1 : Row kMessage w A1 x.Net) (hs : x.sm) :
    Calls Try.prog 10 #[.agg #[.slice A0 x.Voters.length c0, .slice A1 x.Net.length c1]] w fun e w' => e = .returned (.bool (quorumOk x)) ∧ Below w.heap.size w w' := by
  obtain ⟨⟨hs0, hs0'⟩, hs1, hs1'⟩ := hs
  have HS0 := Lib.hid hs0'
  have HS1 := Lib.hid hs1'
  clear hs0' hs1'
  have hu := Try.underlying70
  have hu2 := Try.underlying29
  have hu3 := Try.underlying74
  have hu4 := Try.underlying30
  have hu5 := Try.underlying76
  have hu6 := Try.underlying68
  have hu7 := Try.underlying41
  go_enter Try.func10, Try.ntmps10
  go_upto_region 2 with fail
  go_cut [22] (fun s wx => s = .bool !(qHdr x) ∧ Box wx w.heap.size #[.slice A0 x.Voters.length c0, .slice A1 x.Net.length c1] ∧ Below w.heap.size w wx)
  case first =>
    go_wp2_with (go_at_call 32; refine (l1In_c _ _ _ _).mono ?_; rintro e w' ⟨rfl, rfl⟩)
    all_goals (go_meet; exact ⟨by simp only [Value.bool.injEq]; grind [qHdr, inB], Box.new _ _ _, below_al _ _⟩)
  obtain ⟨rfl, hz, hb⟩ := hcut
  have z0 := hz 0 _ rfl
  have z1 := hz 1 _ rfl
  have hgz := hz.lt rfl
  clear hz
  by_cases hh : qHdr x = true
  case neg =>
    replace hh := Bool.eq_false_iff.2 hh
    have HH := Lib.hid hh
    rw [hh]
    clear hh
    go_wp2
    go_ret
    exact ⟨ret_bool (by simp [quorumOk, HH.out]), hb⟩
  have HH := Lib.hid hh
  rw [hh]
  have hn : 1 ≤ x.Voters.length ∧ x.Voters.length ≤ 5 ∧ x.Net.length ≤ 400 := by simp only [qHdr, inB, Bool.and_eq_true, decide_eq_true_eq] at hh; omega
  clear hh
  obtain ⟨hn0, hn1, hn2⟩ := hn
  have HA : Hid ((x.Voters.all (voterOk x.Voters.length) && x.Net.all msgOk) = quorumOk x) := Lib.hid (by have := HH.out; grind [quorumOk])
  clear HH
  go_wp2
  go_loopg [4] x.Voters.length (fun g v4 wr => ∃ k : Nat, k + g = x.Voters.length ∧ v4 = .int .i64 k ∧ wr.cell? ⟨w.heap.size, 0, none⟩ = some (.slice A0 x.Voters.length c0) ∧ wr.cell? ⟨w.heap.size, 1, none⟩ = some (.slice A1 x.Net.length c1) ∧ Below w.heap.size w wr ∧ (x.Voters.take k).all (voterOk x.Voters.length) = true)
  case atStart => exact ⟨0, by omega, rfl, z0, z1, hb, rfl⟩
  case round =>
    clear z0 z1 hb hgz
    obtain ⟨k, hk, rfl, z0, z1, hb, ha⟩ := hrel
    have Ha := Lib.hid ha
    clear ha
    have hgz : w.heap.size < wr.heap.size := World.block_lt_of_cell? wr _ z1
    by_cases hlt : k < x.Voters.length
    case pos =>
      obtain ⟨ad, v, A3, c3, A4, c4, A5, c5, A6, c6, rfl, hx, p0, p1, p2, p3, p4, p5, p6, p7, l3, g3, l4, g4, l5, g5, l6, g6⟩ := Voter.at (Row_below g0 hb) k hlt
      have Hx := Lib.hid hx
      obtain ⟨s3, s4, s5, s6⟩ := HS0.out v (List.mem_of_getElem? hx)
      have HS4 := Lib.hid s4
      clear hx s4
      generalize hcm : (decide (v.Log.length ≤ 200) && cmdsOk v.Term v.Log 0) = bc
      have Hcm := Lib.hid hcm
      clear hcm
      go_upto_region 8 with fail
      go_cut [67] (fun s wx => s = .bool !(vS v x.Voters.length) ∧ wx.cell? ⟨w.heap.size, 0, none⟩ = some (.slice (some ad) x.Voters.length c0) ∧ wx.cell? ⟨w.heap.size, 1, none⟩ = some (.slice A1 x.Net.length c1) ∧ Box wx wr.heap.size #[.int .i64 v.Term, .int .i64 v.Vote, .int .i64 v.Role, .slice A3 v.Votes.length c3, .slice A4 v.Log.length c4, .slice A5 v.Next.length c5, .slice A6 v.Match.length c6, .int .i64 v.Sealed] ∧ Below w.heap.size w wx ∧ Row (Ki.int .i64) wx A3 v.Votes ∧ Row (Ki.int .i64) wx A5 v.Next ∧ Row (Ki.int .i64) wx A6 v.Match)
      case first =>
        go_wp2_with (first
          | (go_at_call 32; refine (l1In_c _ _ _ _).mono ?_; rintro e w' ⟨rfl, rfl⟩)
          | (go_at_call 33; refine (l6Commands_c _ v.Log _ _ l4 (Row_below g4 (below_al _ _)) HS4.out).mono ?_; rintro e w1 ⟨rfl, hb1⟩; rw [Hcm.out]; have X1 := (Box.new wr _ _).later hb1; have a4 := X1 4 _ rfl; have a7 := X1 7 _ rfl; have ag := X1.lt rfl; have HX1 := Lib.hid X1; clear X1))
        all_goals go_meet
        all_goals first
          | exact ⟨by simp only [Value.bool.injEq]; have := Hcm.out; grind [vS], later (below_tr (below_al _ _) hb1) z0, later (below_tr (below_al _ _) hb1) z1, HX1.out, below_tr hb (below_tr (below_al _ _) hb1), Row_below g3 (below_tr (below_al _ _) hb1), Row_below g5 (below_tr (below_al _ _) hb1), Row_below g6 (below_tr (below_al _ _) hb1)⟩
          | exact ⟨by simp only [Value.bool.injEq]; grind [vS], later (below_al _ _) z0, later (below_al _ _) z1, Box.new _ _ _, below_tr hb (below_al _ _), Row_below g3 (below_al _ _), Row_below g5 (below_al _ _), Row_below g6 (below_al _ _)⟩
      obtain ⟨rfl, y0, y1, hX, Hb, G3, G5, G6⟩ := hcut
      clear p0 p1 p2 p3 p4 p5 p6 p7 g3 g4 g5 g6 z0 z1 hb hgz Hcm
      have t2 := hX 2 _ rfl
      have t3 := hX 3 _ rfl
      have t4 := hX 4 _ rfl
      have t5 := hX 5 _ rfl
      have t6 := hX 6 _ rfl
      have tg := hX.lt rfl
      have hgw : w.heap.size < wc.heap.size := World.block_lt_of_cell? wc _ y1
      clear hX
      generalize hA : vS v x.Voters.length = va
      have HVA := Lib.hid hA
      clear hA
      cases va with
      | false =>
        go_wp2
        go_ret
        exact ⟨ret_bool (by rw [← HA.out, all_fail Hx.out (by rw [voter_eq, HVA.out]; rfl)]; rfl), Hb⟩
      | true =>
        generalize hT : ascB x.Voters.length v.Votes (-1) = T
        have HT := Lib.hid hT
        have HTT := Lib.hid hT
        clear hT
        generalize hgs : wr.heap.size = gs at t2 t3 t4 t5 t6 tg ⊢
        clear hgs
        go_wp2
        go_loopg [6] v.Votes.length (fun g v6 wi => ∃ (j : Nat) (p : Int), j + g = v.Votes.length ∧ v6 = .int .i64 j ∧ Hid (∀ q, j = q + 1 → v.Votes[q]? = some p) ∧ Hid (j = 0 → p = -1) ∧ wi.cell? ⟨w.heap.size, 0, none⟩ = some (.slice (some ad) x.Voters.length c0) ∧ wi.cell? ⟨w.heap.size, 1, none⟩ = some (.slice A1 x.Net.length c1) ∧ wi.cell? ⟨gs, 2, none⟩ = some (.int .i64 v.Role) ∧ wi.cell? ⟨gs, 3, none⟩ = some (.slice A3 v.Votes.length c3) ∧ wi.cell? ⟨gs, 4, none⟩ = some (.slice A4 v.Log.length c4) ∧ wi.cell? ⟨gs, 5, none⟩ = some (.slice A5 v.Next.length c5) ∧ wi.cell? ⟨gs, 6, none⟩ = some (.slice A6 v.Match.length c6) ∧ Below w.heap.size w wi ∧ Row (Ki.int .i64) wi A3 v.Votes ∧ Row (Ki.int .i64) wi A5 v.Next ∧ Row (Ki.int .i64) wi A6 v.Match ∧ Hid (ascB x.Voters.length (v.Votes.drop j) p = T))
        case atStart => exact ⟨0, -1, by omega, rfl, Lib.hid (by omega), Lib.hid (by omega), y0, y1, t2, t3, t4, t5, t6, Hb, G3, G5, G6, HT⟩
        case round =>
          clear y0 y1 t2 t3 t4 t5 t6 tg Hb G3 G5 G6 HT hgw
          obtain ⟨j, p, hj, rfl, HP, HP0, y0, y1, t2, t3, t4, t5, t6, hb, G3, G5, G6, HD⟩ := hrel
          have hgz : w.heap.size < wr.heap.size := World.block_lt_of_cell? wr _ y1
          have hgt : gs < wr.heap.size := World.block_lt_of_cell? wr _ t2
          by_cases hlt2 : j < v.Votes.length
          case pos =>
            obtain ⟨bd, y, rfl, hy, r0⟩ := rowInt G3 j hlt2
            have HX := Lib.hid (dropQ_cons hy)
            have Hy := Lib.hid hy
            clear hy
            have HD2 : Hid ((decide (0 ≤ y) && decide (y < x.Voters.length) && decide (p < y) && ascB x.Voters.length (v.Votes.drop (j + 1)) y) = T) := Lib.hid (by rw [← ascB_cons, ← HX.out]; exact HD.out)
            clear HX HD
            have HN : Hid (∀ q, j + 1 = q + 1 → v.Votes[q]? = some y) := Lib.hid (fun q hq => by rw [show q = j by omega]; exact Hy.out)
            generalize hin : inB y 0 ((x.Voters.length : Int) - 1) = bi
            have Hin := Lib.hid hin
            clear hin
            have W1 : IntKind.i64.wrap ((x.Voters.length : Int) - 1) = (x.Voters.length : Int) - 1 := IntWalk.i64_in _ (by omega)
            have HW1 := Lib.hid W1
            clear W1
            have hlj : v.Votes.length ≤ 1048576 := s3
            cases bi with
            | false =>
              have HF : Hid (false = T) := Lib.hid (by rw [← HD2.out]; have := Hin.out; grind [inB])
              go_upto_region 13 with fail
              have W1 := HW1.out
              go_quiet ((go_at_call 32; exact Calls.quiet_of_same (l1In_v _ _ _ _ false Hin.out)))
              clear W1
              go_wp2
              go_ret
              exact ⟨ret_bool (by rw [← HA.out, all_fail Hx.out (by rw [voter_eq, HTT.out, ← HF.out]; simp)]; rfl), below_dn hb _⟩
            | true =>
              by_cases hk0 : j = 0
              · have HF : Hid (ascB x.Voters.length (v.Votes.drop (j + 1)) y = T) := Lib.hid (by rw [← HD2.out]; have := Hin.out; have := HP0.out hk0; grind [inB])
                have hd : decide ((0 : Int) < (j : Int)) = false := by simp; omega
                have hd2 : decide (0 < j) = false := by simp; omega
                have Hk0 := Lib.hid hk0
                clear hk0
                go_upto_region 13 with fail
                have W1 := HW1.out
                go_quiet ((go_at_call 32; exact Calls.quiet_of_same (l1In_v _ _ _ _ true Hin.out)))
                clear W1
                go_wp2
                go_roundg (gk - 1)
                case rel => exact ⟨j + 1, y, by omega, by go_num, HN, Lib.hid (by omega), y0, y1, t2, t3, t4, t5, t6, below_dn hb _, Row_below G3 (below_dn (Below.refl _ _) _), Row_below G5 (below_dn (Below.refl _ _) _), Row_below G6 (below_dn (Below.refl _ _) _), HF⟩
                case measure => omega
              · obtain ⟨ad', x', hA', hx', p1⟩ := rowInt G3 (j - 1) (by omega)
                cases hA'
                obtain rfl : x' = p := by rw [HP.out (j - 1) (by omega)] at hx'; exact (Option.some.inj hx').symm
                clear hx'
                have hk1 : decide ((0 : Int) < (j : Int)) = true := by simp; omega
                have hd2 : decide (0 < j) = true := by simp; omega
                have hk2 : IntKind.i64.wrap ((j : Int) - 1) = ((j - 1 : Nat) : Int) := by rw [IntWalk.i64_in _ (by omega)]; omega
                by_cases hpy : y ≤ x'
                · have HF : Hid (false = T) := Lib.hid (by rw [← HD2.out]; grind)
                  have hpy2 : decide (y ≤ x') = true := by simpa using hpy
                  go_upto_region 13 with fail
                  have W1 := HW1.out
                  go_quiet ((go_at_call 32; exact Calls.quiet_of_same (l1In_v _ _ _ _ true Hin.out)))
                  clear W1
                  go_wp2
                  go_ret
                  exact ⟨ret_bool (by rw [← HA.out, all_fail Hx.out (by rw [voter_eq, HTT.out, ← HF.out]; simp)]; rfl), below_dn hb _⟩
                · have HF : Hid (ascB x.Voters.length (v.Votes.drop (j + 1)) y = T) := Lib.hid (by rw [← HD2.out]; have := Hin.out; grind [inB])
                  have hpy2 : decide (y ≤ x') = false := by simpa using hpy
                  go_upto_region 13 with fail
                  have W1 := HW1.out
                  go_quiet ((go_at_call 32; exact Calls.quiet_of_same (l1In_v _ _ _ _ true Hin.out)))
                  clear W1 hk2
                  go_wp2
                  go_roundg (gk - 1)
                  case rel => exact ⟨j + 1, y, by omega, by go_num, HN, Lib.hid (by omega), y0, y1, t2, t3, t4, t5, t6, below_dn hb _, Row_below G3 (below_dn (Below.refl _ _) _), Row_below G5 (below_dn (Below.refl _ _) _), Row_below G6 (below_dn (Below.refl _ _) _), HF⟩
                  case measure => omega
          have HE : Hid (ascB x.Voters.length v.Votes (-1) = true) := Lib.hid (by have h := HD.out; rw [List.drop_eq_nil_of_le (by omega)] at h; rw [HTT.out, ← h]; rfl)
          clear HD HP HP0 HTT
          have HJ : Hid (j + gk = v.Votes.length) := Lib.hid hj
          generalize hbN : numS (if v.Role = 2 then (x.Voters.length : Int) else 0) v v.Next = bN
          generalize hbM : numS (if v.Role = 2 then (x.Voters.length : Int) else 0) v v.Match = bM
          have HbN := Lib.hid hbN
          have HbM := Lib.hid hbM
          clear hbN hbM
          have HV : Hid ((bN && bM) = voterOk x.Voters.length v) := Lib.hid (by rw [voter_eq, HVA.out, HE.out, HbN.out, HbM.out]; rfl)
          clear HE HVA
          by_cases hr : v.Role = 2
          · have hr2 : (v.Role == 2) = true := by simpa using hr
            have HbN2 : Hid (numS (x.Voters.length : Int) v v.Next = bN) := Lib.hid (by rw [← HbN.out, if_pos hr])
            have HbM2 : Hid (numS (x.Voters.length : Int) v v.Match = bM) := Lib.hid (by rw [← HbM.out, if_pos hr])
            clear hr HbN HbM
            go_wp2_with (first
              | (go_at_call 34; ((with_reducible refine (l6Numbers_c _ v.Next _ _ l5 G5 s5).mono ?_); rintro e w1 ⟨rfl, hb1⟩; rw [show (decide ((v.Next.length : Int) = (x.Voters.length : Int)) && v.Next.all (fun y => inB y 0 v.Log.length)) = bN from HbN2.out]; have u0 := later hb1 y0; have u1 := later hb1 y1; have u4 := later hb1 t4; have u6 := later hb1 t6; have ug := World.block_lt_of_cell? w1 _ u4))
              | (go_at_call 34; ((with_reducible refine (l6Numbers_c _ v.Match _ _ l6 (Row_below G6 hb1) s6).mono ?_); rintro e w2 ⟨rfl, hb2⟩; rw [show (decide ((v.Match.length : Int) = (x.Voters.length : Int)) && v.Match.all (fun y => inB y 0 v.Log.length)) = bM from HbM2.out])))
            all_goals first
              | (go_ret; exact ⟨ret_bool (by rw [← HA.out, all_fail Hx.out (by rw [← HV.out]; grind)]; rfl), below_tr hb hb1⟩)
              | (go_ret; exact ⟨ret_bool (by rw [← HA.out, all_fail Hx.out (by rw [← HV.out]; grind)]; rfl), below_tr (below_tr hb hb1) hb2⟩)
              | (go_roundg (x.Voters.length - k - 1); (case rel => exact ⟨k + 1, by omega, by go_num, later hb2 u0, later hb2 u1, below_tr (below_tr hb hb1) hb2, all_step Ha.out Hx.out (by rw [← HV.out]; grind)⟩); (case measure => omega))
          · have hr2 : (v.Role == 2) = false := by simpa using hr
            have HbN2 : Hid (numS 0 v v.Next = bN) := Lib.hid (by rw [← HbN.out, if_neg hr])
            have HbM2 : Hid (numS 0 v v.Match = bM) := Lib.hid (by rw [← HbM.out, if_neg hr])
            clear hr HbN HbM
            go_wp2_with (first
              | (go_at_call 34; ((with_reducible refine (l6Numbers_c _ v.Next _ _ l5 G5 s5).mono ?_); rintro e w1 ⟨rfl, hb1⟩; rw [show (decide ((v.Next.length : Int) = 0) && v.Next.all (fun y => inB y 0 v.Log.length)) = bN from HbN2.out]; have u0 := later hb1 y0; have u1 := later hb1 y1; have u4 := later hb1 t4; have u6 := later hb1 t6; have ug := World.block_lt_of_cell? w1 _ u4))
              | (go_at_call 34; ((with_reducible refine (l6Numbers_c _ v.Match _ _ l6 (Row_below G6 hb1) s6).mono ?_); rintro e w2 ⟨rfl, hb2⟩; rw [show (decide ((v.Match.length : Int) = 0) && v.Match.all (fun y => inB y 0 v.Log.length)) = bM from HbM2.out])))
            all_goals first
              | (go_ret; exact ⟨ret_bool (by rw [← HA.out, all_fail Hx.out (by rw [← HV.out]; grind)]; rfl), below_tr hb hb1⟩)
              | (go_ret; exact ⟨ret_bool (by rw [← HA.out, all_fail Hx.out (by rw [← HV.out]; grind)]; rfl), below_tr (below_tr hb hb1) hb2⟩)
              | (go_roundg (x.Voters.length - k - 1); (case rel => exact ⟨k + 1, by omega, by go_num, later hb2 u0, later hb2 u1, below_tr (below_tr hb hb1) hb2, all_step Ha.out Hx.out (by rw [← HV.out]; grind)⟩); (case measure => omega))
    have HN : Hid (x.Net.all msgOk = quorumOk x) := Lib.hid (by rw [← HA.out, all_full Ha.out (by omega)]; rfl)
    clear HA Ha
    have hkk : k = x.Voters.length := by omega
    have Hkk := Lib.hid hkk
    clear hkk
    go_wp2
    go_loopg [8] x.Net.length (fun g v8 wi => ∃ j : Nat, j + g = x.Net.length ∧ v8 = .int .i64 j ∧ wi.cell? ⟨w.heap.size, 1, none⟩ = some (.slice A1 x.Net.length c1) ∧ Below w.heap.size w wi ∧ (x.Net.take j).all msgOk = true)
    case atStart => exact ⟨0, by omega, rfl, z1, hb, rfl⟩
    case round =>
      clear z0 z1 hb hgz
      obtain ⟨j, hj, rfl, z1, hb, ha⟩ := hrel
      have Ha := Lib.hid ha
      clear ha
      have hgz : w.heap.size < wr.heap.size := World.block_lt_of_cell? wr _ z1
      by_cases hlt2 : j < x.Net.length
      case neg =>
        go_wp2
        go_ret
        exact ⟨ret_bool (by rw [← HN.out]; exact (all_full Ha.out (by omega)).symm), hb⟩
      obtain ⟨ad, v, A6, c6, rfl, hx, p0, p1, p2, p3, p4, p5, p6, p7, p8, l6, g6⟩ := Message.at (Row_below g1 hb) j hlt2
      have Hx := Lib.hid hx
      obtain ⟨s6, s6'⟩ := HS1.out v (List.mem_of_getElem? hx)
      have HS6 := Lib.hid s6'
      clear hx s6'
      by_cases h200 : v.Commands.length ≤ 200
      case neg =>
        have H200 := Lib.hid h200
        clear h200
        have h201 : (200 : Int) < (v.Commands.length : Int) := by have := H200.out; omega
        go_wp2
        go_ret
        exact ⟨ret_bool (by rw [← HN.out, all_fail Hx.out (by unfold msgOk; have := H200.out; grind)]), hb⟩
      go_wp2
      go_loopg [10] v.Commands.length (fun g v10 wi => ∃ i : Nat, i + g = v.Commands.length ∧ v10 = .int .i64 i ∧ wi.cell? ⟨w.heap.size, 1, none⟩ = some (.slice (some ad) x.Net.length c1) ∧ Below w.heap.size w wi ∧ Row kCommand wi A6 v.Commands ∧ (v.Commands.take i).all txtOk = true)
      case atStart => exact ⟨0, by omega, rfl, z1, hb, g6, rfl⟩
      case round =>
        clear p0 p1 p2 p3 p4 p5 p6 p7 p8 g6 hb z1 hgz
        obtain ⟨i, hi, rfl, z1, hb, G6, ha⟩ := hrel
        have Ha2 := Lib.hid ha
        clear ha
        by_cases hlt3 : i < v.Commands.length
        case neg =>
          go_wp2
          go_roundg (x.Net.length - j - 1)
          case rel => exact ⟨j + 1, by omega, by go_num, z1, hb, all_step Ha.out Hx.out (by unfold msgOk; rw [all_full Ha2.out (by omega)]; simp [h200])⟩
          case measure => omega
        obtain ⟨bd, y, rfl, hy, r0, r1⟩ := Command.at G6 i hlt3
        have Hy := Lib.hid hy
        have q1 : y.Text.size ≤ 1048576 := HS6.out y (List.mem_of_getElem? hy)
        clear hy
        go_wp2
        all_goals first
          | (go_ret; exact ⟨ret_bool (by rw [← HN.out, all_fail Hx.out (by unfold msgOk; rw [all_fail Hy.out (by unfold txtOk; grind)]; simp)]), hb⟩)
          | (go_roundg (gk - 1); (case rel => exact ⟨i + 1, by omega, by go_num, z1, hb, G6, all_step Ha2.out Hy.out (by unfold txtOk; grind)⟩); (case measure => omega))
end Go.Proofs.Ytpnjgmgnhkhapaa.H
