/-
The laws' own functions held..: the marks are found again. Printed by hlaws.py (this session's own). Conditions: each contract's own premises.
-/
import Derived.Test.YtpnjgmgnhkhapaaHMkDef
import Derived.Test.YtpnjgmgnhkhapaaProg
namespace Go.Proofs.Ytpnjgmgnhkhapaa.H
open Go.RowKit
set_option linter.unusedVariables false
set_option linter.unusedSimpArgs false
set_option maxRecDepth 100000
set_option maxHeartbeats 8000000 in
theorem heldIntS_c (w : World) (l : List Int) {A : Option Addr} {c : Nat} (hc : l.length ≤ c) (hr : Row (Ki.int .i64) w A l) (k k' : Int) (hM : Mks intR l k k') (h0 : 0 ≤ k) (h1 : k' ≤ 1000000000000000) :
    Calls Try.prog 77 #[.slice A l.length c, .int .i64 k] w fun e w' => e = .returned (.int .i64 k') ∧ Below w.heap.size w w' := by
  have hl : (l.length : Int) ≤ 1000000000000000 := by have := Mks.len intR_lt hM; omega
  have HM := Lib.hid hM
  clear hM
  have hu := Try.underlying3
  have hu2 := Try.underlying41
  go_enter Try.func77, Try.ntmps77
  go_wp2
  go_loopg [1, 5] l.length (fun g v1 v5 wr => ∃ (q : Nat) (m : Int), q + g = l.length ∧ v5 = .int .i64 q ∧ v1 = .int .i64 m ∧ 0 ≤ m ∧ Hid (Mks intR (l.drop q) m k') ∧ Below w.heap.size w wr)
  case atStart => exact ⟨0, k, by omega, rfl, rfl, h0, HM, Below.refl _ _⟩
  case round =>
    clear HM h0
    obtain ⟨q, m, hq, rfl, rfl, hm0, HD, hb⟩ := hrel
    by_cases hlt : q < l.length
    case neg =>
      have HE : Hid (m = k') := Lib.hid (by have h := HD.out; rw [List.drop_eq_nil_of_le (by omega)] at h; exact h)
      go_wp2
      go_ret
      exact ⟨ret_int HE.out, hb⟩
    obtain ⟨ad, x, cs, rfl, hx, hK, hca⟩ := Row_get (Row_below hr hb) q hlt
    obtain rfl := hK
    obtain ⟨z, ⟨rfl, rfl⟩, hMr⟩ := Mks.drop HD.out hx
    have hz := Mks.le intR_lt hMr
    have HMr := Lib.hid hMr
    clear hMr hx
    have p0 : wr.cell? (ad.add q) = some (.int .i64 x) := by simpa [Ki.int, Ki.scalar] using hca 0 _ rfl
    clear hca
    go_wp2
    go_roundg (gk - 1)
    case rel => exact ⟨q + 1, x + 1, by omega, by go_num, rfl, by omega, HMr, hb⟩
    case measure => omega
set_option maxHeartbeats 8000000 in
theorem heldCommandS_c (w : World) (l : List Command) {A : Option Addr} {c : Nat} (hc : l.length ≤ c) (hr : Row kCommand w A l) (k k' : Int) (hM : Mks Command.mkR l k k') (h0 : 0 ≤ k) (h1 : k' ≤ 1000000000000000) :
    Calls Try.prog 78 #[.slice A l.length c, .int .i64 k] w fun e w' => e = .returned (.int .i64 k') ∧ Below w.heap.size w w' := by
  have hl : (l.length : Int) ≤ 1000000000000000 := by have := Mks.len Command.mkR_lt hM; omega
  have HM := Lib.hid hM
  clear hM
  have hu := Try.underlying76
  have hu2 := Try.underlying68
  go_enter Try.func78, Try.ntmps78
  go_wp2
  go_loopg [1, 5] l.length (fun g v1 v5 wr => ∃ (q : Nat) (m : Int), q + g = l.length ∧ v5 = .int .i64 q ∧ v1 = .int .i64 m ∧ 0 ≤ m ∧ Hid (Mks Command.mkR (l.drop q) m k') ∧ Below w.heap.size w wr)
  case atStart => exact ⟨0, k, by omega, rfl, rfl, h0, HM, Below.refl _ _⟩
  case round =>
    clear HM h0
    obtain ⟨q, m, hq, rfl, rfl, hm0, HD, hb⟩ := hrel
    by_cases hlt : q < l.length
    case neg =>
      have HE : Hid (m = k') := Lib.hid (by have h := HD.out; rw [List.drop_eq_nil_of_le (by omega)] at h; exact h)
      go_wp2
      go_ret
      exact ⟨ret_int HE.out, hb⟩
    obtain ⟨ad, x, rfl, hx, p0, p1⟩ := Command.at (Row_below hr hb) q hlt
    obtain ⟨z, hR, hMr⟩ := Mks.drop HD.out hx
    have hz := Mks.le Command.mkR_lt hMr
    have HMr := Lib.hid hMr
    clear hMr hx HD
    obtain ⟨h0_, h1_, hze⟩ := hR
    rw [h0_] at p0
    clear h0_
    rw [h1_] at p1
    clear h1_
    subst hze
    go_upto_region 7 with fail
    have fq := cg p1
    refine wp_region_quiet_below (by kernel_rfl) (by kernel_rfl) ?_
    repeat (go_big_quiet_step ((go_at_call 99; exact rg (markText_c _ _ (by omega)) rfl)))
    refine wpQuiet_nil ?_
    intro _ hw'
    obtain ⟨pp, hw''⟩ := hw'
    subst hw''
    have hbq := below_regrown wr pp.d pp.os
    clear fq
    generalize hgw : Go.Sort.grow (Go.redrawn wr pp.d) pp.os = w1_ at hbq ⊢
    clear hgw
    replace hb := below_tr hb hbq
    go_wp2
    go_roundg (gk - 1)
    case rel => exact ⟨q + 1, m + 1 + 1, by omega, by go_num, rfl, by omega, HMr, hb⟩
    case measure => omega
set_option maxHeartbeats 8000000 in
theorem heldVoterS_c (w : World) (l : List Voter) {A : Option Addr} {c : Nat} (hc : l.length ≤ c) (hr : Row kVoter w A l) (k k' : Int) (hM : Mks Voter.mkR l k k') (h0 : 0 ≤ k) (h1 : k' ≤ 1000000000000000) :
    Calls Try.prog 46 #[.slice A l.length c, .int .i64 k] w fun e w' => e = .returned (.int .i64 k') ∧ Below w.heap.size w w' := by
  have hl : (l.length : Int) ≤ 1000000000000000 := by have := Mks.len Voter.mkR_lt hM; omega
  have HM := Lib.hid hM
  clear hM
  have hu := Try.underlying70
  have hu2 := Try.underlying29
  go_enter Try.func46, Try.ntmps46
  go_wp2
  go_loopg [1, 5] l.length (fun g v1 v5 wr => ∃ (q : Nat) (m : Int), q + g = l.length ∧ v5 = .int .i64 q ∧ v1 = .int .i64 m ∧ 0 ≤ m ∧ Hid (Mks Voter.mkR (l.drop q) m k') ∧ Below w.heap.size w wr)
  case atStart => exact ⟨0, k, by omega, rfl, rfl, h0, HM, Below.refl _ _⟩
  case round =>
    clear HM h0
    obtain ⟨q, m, hq, rfl, rfl, hm0, HD, hb⟩ := hrel
    by_cases hlt : q < l.length
    case neg =>
      have HE : Hid (m = k') := Lib.hid (by have h := HD.out; rw [List.drop_eq_nil_of_le (by omega)] at h; exact h)
      go_wp2
      go_ret
      exact ⟨ret_int HE.out, hb⟩
    obtain ⟨ad, x, A3, c3', A4, c4', A5, c5', A6, c6', rfl, hx, p0, p1, p2, p3, p4, p5, p6, p7, l3, g3, l4, g4, l5, g5, l6, g6⟩ := Voter.at (Row_below hr hb) q hlt
    obtain ⟨z, hR, hMr⟩ := Mks.drop HD.out hx
    have hz := Mks.le Voter.mkR_lt hMr
    have HMr := Lib.hid hMr
    clear hMr hx HD
    obtain ⟨c3, c4, c5, c6, h0_, h1_, h2_, h3_, h4_, h5_, h6_, h7_, hze⟩ := hR
    rw [h0_] at p0
    clear h0_
    rw [h1_] at p1
    clear h1_
    rw [h2_] at p2
    clear h2_
    have hle3 := Mks.le intR_lt h3_
    have HM3 := Lib.hid h3_
    clear h3_
    have hle4 := Mks.le Command.mkR_lt h4_
    have HM4 := Lib.hid h4_
    clear h4_
    have hle5 := Mks.le intR_lt h5_
    have HM5 := Lib.hid h5_
    clear h5_
    have hle6 := Mks.le intR_lt h6_
    have HM6 := Lib.hid h6_
    clear h6_
    rw [h7_] at p7
    clear h7_
    subst hze
    go_upto_region 13 with fail
    go_upto_region 16 with (go_at_call 77; refine (heldIntS_c _ x.Votes l3 g3 _ _ HM3.out (by omega) (by omega)).mono ?_; rintro e w1_ ⟨rfl, hbq⟩; replace p4 := later hbq p4; replace p5 := later hbq p5; replace p6 := later hbq p6; replace p7 := later hbq p7; replace g4 := Row_below g4 hbq; replace g5 := Row_below g5 hbq; replace g6 := Row_below g6 hbq; replace hb := below_tr hb hbq)
    go_upto_region 19 with (go_at_call 78; refine (heldCommandS_c _ x.Log l4 g4 _ _ HM4.out (by omega) (by omega)).mono ?_; rintro e w2_ ⟨rfl, hbq⟩; replace p5 := later hbq p5; replace p6 := later hbq p6; replace p7 := later hbq p7; replace g5 := Row_below g5 hbq; replace g6 := Row_below g6 hbq; replace hb := below_tr hb hbq)
    go_upto_region 22 with (go_at_call 77; refine (heldIntS_c _ x.Next l5 g5 _ _ HM5.out (by omega) (by omega)).mono ?_; rintro e w3_ ⟨rfl, hbq⟩; replace p6 := later hbq p6; replace p7 := later hbq p7; replace g6 := Row_below g6 hbq; replace hb := below_tr hb hbq)
    go_wp2_with (go_at_call 77; refine (heldIntS_c _ x.Match l6 g6 _ _ HM6.out (by omega) (by omega)).mono ?_; rintro e w4_ ⟨rfl, hbq⟩; replace p7 := later hbq p7; replace hb := below_tr hb hbq)
    go_roundg (gk - 1)
    case rel => exact ⟨q + 1, c6 + 1, by omega, by go_num, rfl, by omega, HMr, hb⟩
    case measure => omega
set_option maxHeartbeats 8000000 in
theorem heldMessageS_c (w : World) (l : List Message) {A : Option Addr} {c : Nat} (hc : l.length ≤ c) (hr : Row kMessage w A l) (k k' : Int) (hM : Mks Message.mkR l k k') (h0 : 0 ≤ k) (h1 : k' ≤ 1000000000000000) :
    Calls Try.prog 47 #[.slice A l.length c, .int .i64 k] w fun e w' => e = .returned (.int .i64 k') ∧ Below w.heap.size w w' := by
  have hl : (l.length : Int) ≤ 1000000000000000 := by have := Mks.len Message.mkR_lt hM; omega
  have HM := Lib.hid hM
  clear hM
  have hu := Try.underlying74
  have hu2 := Try.underlying30
  go_enter Try.func47, Try.ntmps47
  go_wp2
  go_loopg [1, 5] l.length (fun g v1 v5 wr => ∃ (q : Nat) (m : Int), q + g = l.length ∧ v5 = .int .i64 q ∧ v1 = .int .i64 m ∧ 0 ≤ m ∧ Hid (Mks Message.mkR (l.drop q) m k') ∧ Below w.heap.size w wr)
  case atStart => exact ⟨0, k, by omega, rfl, rfl, h0, HM, Below.refl _ _⟩
  case round =>
    clear HM h0
    obtain ⟨q, m, hq, rfl, rfl, hm0, HD, hb⟩ := hrel
    by_cases hlt : q < l.length
    case neg =>
      have HE : Hid (m = k') := Lib.hid (by have h := HD.out; rw [List.drop_eq_nil_of_le (by omega)] at h; exact h)
      go_wp2
      go_ret
      exact ⟨ret_int HE.out, hb⟩
    obtain ⟨ad, x, A6, c6', rfl, hx, p0, p1, p2, p3, p4, p5, p6, p7, p8, l6, g6⟩ := Message.at (Row_below hr hb) q hlt
    obtain ⟨z, hR, hMr⟩ := Mks.drop HD.out hx
    have hz := Mks.le Message.mkR_lt hMr
    have HMr := Lib.hid hMr
    clear hMr hx HD
    obtain ⟨c6, h0_, h1_, h2_, h3_, h4_, h5_, h6_, h7_, h8_, hze⟩ := hR
    rw [h0_] at p0
    clear h0_
    rw [h1_] at p1
    clear h1_
    rw [h2_] at p2
    clear h2_
    rw [h3_] at p3
    clear h3_
    rw [h4_] at p4
    clear h4_
    rw [h5_] at p5
    clear h5_
    have hle6 := Mks.le Command.mkR_lt h6_
    have HM6 := Lib.hid h6_
    clear h6_
    rw [h7_] at p7
    clear h7_
    rw [h8_] at p8
    clear h8_
    subst hze
    go_upto_region 22 with fail
    go_wp2_with (go_at_call 78; refine (heldCommandS_c _ x.Commands l6 g6 _ _ HM6.out (by omega) (by omega)).mono ?_; rintro e w1_ ⟨rfl, hbq⟩; replace p7 := later hbq p7; replace p8 := later hbq p8; replace hb := below_tr hb hbq)
    go_roundg (gk - 1)
    case rel => exact ⟨q + 1, c6 + 1 + 1, by omega, by go_num, rfl, by omega, HMr, hb⟩
    case measure => omega
set_option maxHeartbeats 4000000 in
theorem heldQuorum_c (w : World) (x : Quorum) {A0 : Option Addr} {c0 : Nat} (l0 : x.Voters.length ≤ c0) (g0 : Row kVoter w A0 x.Voters) {A1 : Option Addr} {c1 : Nat} (l1 : x.Net.length ≤ c1) (g1 : Row kMessage w A1 x.Net) (k k' : Int) (hM : x.mkV k k') (h0 : 0 ≤ k) (h1 : k' ≤ 1000000000000000) :
    Calls Try.prog 19 #[.agg #[.slice A0 x.Voters.length c0, .slice A1 x.Net.length c1], .int .i64 k] w fun e w' => e = .returned (.int .i64 k') ∧ Below w.heap.size w w' := by
  obtain ⟨m0, m1, hM0, hM1, rfl⟩ := hM
  have hle0 := Mks.le Voter.mkR_lt hM0
  have HM0 := Lib.hid hM0
  clear hM0
  have hle1 := Mks.le Message.mkR_lt hM1
  have HM1 := Lib.hid hM1
  clear hM1
  go_enter Try.func19, Try.ntmps19
  go_upto_region 1 with fail
  go_upto_region 4 with (go_at_call 46; refine (heldVoterS_c _ x.Voters l0 (Row_below g0 (below_al w (.cells #[.slice A0 x.Voters.length c0, .slice A1 x.Net.length c1] 32))) _ _ HM0.out (by omega) (by omega)).mono ?_; rintro e w1_ ⟨rfl, hb0⟩; have E0 := below_tr (below_al w (.cells #[.slice A0 x.Voters.length c0, .slice A1 x.Net.length c1] 32)) hb0; have X0 := (Box.new w #[.slice A0 x.Voters.length c0, .slice A1 x.Net.length c1] 32).later hb0; have q0_1 := X0 1 _ rfl; have gb0 := X0.lt rfl)
  go_wp2_with (go_at_call 47; refine (heldMessageS_c _ x.Net l1 (Row_below g1 (E0)) _ _ HM1.out (by omega) (by omega)).mono ?_; rintro e w2_ ⟨rfl, hb1⟩; have E1 := below_tr (E0) hb1)
  go_ret
  exact ⟨rfl, E1⟩
end Go.Proofs.Ytpnjgmgnhkhapaa.H
