/-
The laws' own functions sz..: a bound of what a value holds. Printed by hlaws.py (this session's own). Conditions: each contract's own premises.
-/
import Derived.Test.YtpnjgmgnhkhapaaHTypes
import Derived.Test.YtpnjgmgnhkhapaaProg
namespace Go.Proofs.Ytpnjgmgnhkhapaa.H
open Go.RowKit
set_option linter.unusedVariables false
set_option linter.unusedSimpArgs false
set_option maxRecDepth 100000
def SzPost (left : Int) (n : Nat) (w : World) (e : Ending) (w' : World) : Prop := ∃ r : Int, e = .returned (.int .i64 r) ∧ -1 ≤ r ∧ r ≤ left ∧ (0 ≤ r → r + n ≤ left) ∧ Below w.heap.size w w'
theorem wfStr_lim {s : ByteArray} (h : wfStr s) : s.size ≤ 9223372036854775807 := by simp only [wfStr, maxLen] at h; omega
theorem wfList_lim {α : Type} {W : α → Prop} {xs : List α} (h : wfList W xs) : xs.length ≤ 9223372036854775807 := by have := h.1; simp only [maxLen] at this; omega
theorem szCommand_c (w : World) (x : Command) (hw : x.wf) (left : Int) (h0 : 0 ≤ left) (h1 : left ≤ 1048576) :
    Calls Try.prog 105 #[.agg #[.int .i64 x.Term, .string x.Text], .int .i64 left] w (SzPost left x.sz w) := by
  obtain ⟨_, q1⟩ := hw
  replace q1 := wfStr_lim q1
  dsimp only at q1
  go_enter Try.func105, Try.ntmps105
  go_wp2
  all_goals (go_ret; first | exact ⟨_, rfl, by omega, by omega, by intro h; unfold Command.sz; omega, below_al _ _⟩ | exact ⟨_, rfl, by omega, by omega, fun h => absurd h (by omega), below_al _ _⟩)
theorem szIntS_c (w : World) (A : Option Addr) (c : Nat) (l : List Int) (left : Int) (hr : Row (Ki.int .i64) w A l) (hc : l.length ≤ c) (hw : wfList (wfInt .i64) l) (h0 : 0 ≤ left) (h1 : left ≤ 1048576) :
    Calls Try.prog 49 #[.slice A l.length c, .int .i64 left] w (SzPost left (szL (fun _ => 0) l) w) := by
  have hl := wfList_lim hw
  go_enter Try.func49, Try.ntmps49
  go_wp2
  all_goals (go_ret; first | exact ⟨_, rfl, by omega, by omega, fun h => absurd h (by omega), Below.refl _ _⟩ | exact ⟨_, rfl, by omega, by omega, fun _ => by unfold szL; rw [sumF_zero]; omega, Below.refl _ _⟩)
theorem szCommandS_c (w : World) (A : Option Addr) (c : Nat) (l : List Command) (left : Int) (hr : Row kCommand w A l) (hc : l.length ≤ c) (hw : wfList Command.wf l) (h0 : 0 ≤ left) (h1 : left ≤ 1048576) :
    Calls Try.prog 96 #[.slice A l.length c, .int .i64 left] w (SzPost left (szL Command.sz l) w) := by
  have hl := wfList_lim hw
  have hu := Try.underlying157
  have hu2 := Try.underlying113
  by_cases h2 : left - (l.length : Int) < 0
  · go_enter Try.func96, Try.ntmps96
    go_wp2
    go_ret
    exact ⟨_, rfl, by omega, by omega, fun h => absurd h (by omega), Below.refl _ _⟩
  go_enter Try.func96, Try.ntmps96
  go_wp2
  go_loopw [1, 5] (fun t i wr => ∃ (k : Nat) (m : Int), k ≤ l.length ∧ i = .int .i64 k ∧ t = .int .i64 m ∧ 0 ≤ m ∧ m ≤ left ∧ Hid (m + sumF Command.sz (l.take k) ≤ left - l.length) ∧ Below w.heap.size w wr) (fun _ i _ => l.length - (intOf i).toNat)
  case atStart => exact ⟨0, _, Nat.zero_le _, rfl, rfl, by omega, by omega, Lib.hid (by simp [sumF]), Below.refl _ _⟩
  case round =>
    obtain ⟨k, m, hk, rfl, rfl, hm0, hm1, Hsm, hb⟩ := hrel
    by_cases hlt : k < l.length
    · obtain ⟨ad, x, rfl, hx, p0, p1⟩ := Command.at (Row_below hr hb) k hlt
      have Hx := Lib.hid (sumF_take (f := Command.sz) hx)
      have hwx := hw.2 x (List.mem_of_getElem? hx)
      clear hx
      have HW := Lib.hid hwx
      clear hwx
      go_wp2_with (go_at_call 105; refine (szCommand_c _ x HW.out m hm0 (by omega)).mono ?_; rintro e w' ⟨r, rfl, ra, rb, rs, hb2⟩; have hs := Lib.hid rs; clear rs)
      · go_ret
        exact ⟨_, rfl, by omega, by omega, fun h => absurd h (by omega), hb.trans (hb2.mono hb.size)⟩
      · go_roundw
        case rel => exact ⟨k + 1, r, by omega, by go_num, rfl, by omega, by omega, Lib.hid (by rw [Hx.out]; have := Hsm.out; have := hs.out (by omega); omega), hb.trans (hb2.mono hb.size)⟩
        case measure => simp [intOf]; omega
    · go_wp2
      go_ret
      obtain rfl : k = l.length := by omega
      exact ⟨_, rfl, by omega, hm1, fun _ => by have h := Hsm.out; rw [List.take_length] at h; unfold szL; omega, hb⟩
set_option maxHeartbeats 4000000 in
theorem szVoter_c (w : World) (x : Voter) {A3 : Option Addr} {c3 : Nat} (l3 : x.Votes.length ≤ c3) (g3 : Row (Ki.int .i64) w A3 x.Votes) {A4 : Option Addr} {c4 : Nat} (l4 : x.Log.length ≤ c4) (g4 : Row kCommand w A4 x.Log) {A5 : Option Addr} {c5 : Nat} (l5 : x.Next.length ≤ c5) (g5 : Row (Ki.int .i64) w A5 x.Next) {A6 : Option Addr} {c6 : Nat} (l6 : x.Match.length ≤ c6) (g6 : Row (Ki.int .i64) w A6 x.Match) (hw : x.wf) (left : Int) (h0 : 0 ≤ left) (h1 : left ≤ 1048576) :
    Calls Try.prog 69 #[.agg #[.int .i64 x.Term, .int .i64 x.Vote, .int .i64 x.Role, .slice A3 x.Votes.length c3, .slice A4 x.Log.length c4, .slice A5 x.Next.length c5, .slice A6 x.Match.length c6, .int .i64 x.Sealed], .int .i64 left] w (SzPost left x.sz w) := by
  obtain ⟨_, _, _, q3, q4, q5, q6, _⟩ := hw
  have Q3 := Lib.hid q3
  clear q3
  dsimp only at Q3
  have Q4 := Lib.hid q4
  clear q4
  dsimp only at Q4
  have Q5 := Lib.hid q5
  clear q5
  dsimp only at Q5
  have Q6 := Lib.hid q6
  clear q6
  dsimp only at Q6
  go_enter Try.func69, Try.ntmps69
  go_upto_region 1 with fail
  go_upto_region 4 with (go_at_call 49; refine (szIntS_c _ _ _ x.Votes _ (Row_below g3 (below_al _ _)) l3 Q3.out (by omega) (by omega)).mono ?_; rintro e w3 ⟨r3, rfl, ra3, rb3, rs3, hb3⟩; have E3 := below_tr (below_al _ _) hb3; have S3 := Lib.hid rs3; clear rs3; have X3 := (Box.new w #[.int .i64 x.Term, .int .i64 x.Vote, .int .i64 x.Role, .slice A3 x.Votes.length c3, .slice A4 x.Log.length c4, .slice A5 x.Next.length c5, .slice A6 x.Match.length c6, .int .i64 x.Sealed] _).later hb3; have u3_3 := X3 3 _ rfl; have u3_4 := X3 4 _ rfl; have u3_5 := X3 5 _ rfl; have u3_6 := X3 6 _ rfl; have gb3 := X3.lt rfl; have XX3 := Lib.hid X3)
  all_goals first | (go_ret; exact ⟨_, rfl, by omega, by omega, fun h => absurd h (by omega), E3⟩) | skip
  go_upto_region 7 with (go_at_call 96; refine (szCommandS_c _ _ _ x.Log _ (Row_below g4 (E3)) l4 Q4.out (by omega) (by omega)).mono ?_; rintro e w4 ⟨r4, rfl, ra4, rb4, rs4, hb4⟩; have E4 := below_tr (E3) hb4; have S4 := Lib.hid rs4; clear rs4; have X4 := (X3).later hb4; clear X3; have u4_4 := X4 4 _ rfl; have u4_5 := X4 5 _ rfl; have u4_6 := X4 6 _ rfl; have gb4 := X4.lt rfl; have XX4 := Lib.hid X4)
  all_goals first | (go_ret; exact ⟨_, rfl, by omega, by omega, fun h => absurd h (by omega), E4⟩) | skip
  go_upto_region 10 with (go_at_call 49; refine (szIntS_c _ _ _ x.Next _ (Row_below g5 (E4)) l5 Q5.out (by omega) (by omega)).mono ?_; rintro e w5 ⟨r5, rfl, ra5, rb5, rs5, hb5⟩; have E5 := below_tr (E4) hb5; have S5 := Lib.hid rs5; clear rs5; have X5 := (X4).later hb5; clear X4; have u5_5 := X5 5 _ rfl; have u5_6 := X5 6 _ rfl; have gb5 := X5.lt rfl; have XX5 := Lib.hid X5)
  all_goals first | (go_ret; exact ⟨_, rfl, by omega, by omega, fun h => absurd h (by omega), E5⟩) | skip
  go_wp2_with (go_at_call 49; refine (szIntS_c _ _ _ x.Match _ (Row_below g6 (E5)) l6 Q6.out (by omega) (by omega)).mono ?_; rintro e w6 ⟨r6, rfl, ra6, rb6, rs6, hb6⟩; have E6 := below_tr (E5) hb6; have S6 := Lib.hid rs6; clear rs6)
  all_goals (go_ret; first | exact ⟨_, rfl, by omega, by omega, fun h => absurd h (by omega), E6⟩ | exact ⟨_, rfl, by omega, by omega, by intro h; unfold Voter.sz; have t3 := S3.out (by omega); have t4 := S4.out (by omega); have t5 := S5.out (by omega); have t6 := S6.out (by omega); omega, E6⟩)
theorem szMessage_c (w : World) (x : Message) {A6 : Option Addr} {c6 : Nat} (l6 : x.Commands.length ≤ c6) (g6 : Row kCommand w A6 x.Commands) (hw : x.wf) (left : Int) (h0 : 0 ≤ left) (h1 : left ≤ 1048576) :
    Calls Try.prog 70 #[.agg #[.int .i64 x.Kind, .int .i64 x.From, .int .i64 x.To, .int .i64 x.Term, .int .i64 x.At, .int .i64 x.AtTerm, .slice A6 x.Commands.length c6, .int .i64 x.Sealed, .bool x.Yes], .int .i64 left] w (SzPost left x.sz w) := by
  obtain ⟨_, _, _, _, _, _, q6, _, _⟩ := hw
  have Q6 := Lib.hid q6
  clear q6
  dsimp only at Q6
  go_enter Try.func70, Try.ntmps70
  go_upto_region 1 with fail
  go_wp2_with (go_at_call 96; refine (szCommandS_c _ _ _ x.Commands _ (Row_below g6 (below_al _ _)) l6 Q6.out (by omega) (by omega)).mono ?_; rintro e w6 ⟨r6, rfl, ra6, rb6, rs6, hb6⟩; have E6 := below_tr (below_al _ _) hb6; have S6 := Lib.hid rs6; clear rs6)
  all_goals (go_ret; first | exact ⟨_, rfl, by omega, by omega, fun h => absurd h (by omega), E6⟩ | exact ⟨_, rfl, by omega, by omega, by intro h; unfold Message.sz; have t6 := S6.out (by omega); omega, E6⟩)
theorem szVoterS_c (w : World) (A : Option Addr) (c : Nat) (l : List Voter) (left : Int) (hr : Row kVoter w A l) (hc : l.length ≤ c) (hw : wfList Voter.wf l) (h0 : 0 ≤ left) (h1 : left ≤ 1048576) :
    Calls Try.prog 30 #[.slice A l.length c, .int .i64 left] w (SzPost left (szL Voter.sz l) w) := by
  have hl := wfList_lim hw
  have hu := Try.underlying115
  have hu2 := Try.underlying23
  by_cases h2 : left - (l.length : Int) < 0
  · go_enter Try.func30, Try.ntmps30
    go_wp2
    go_ret
    exact ⟨_, rfl, by omega, by omega, fun h => absurd h (by omega), Below.refl _ _⟩
  go_enter Try.func30, Try.ntmps30
  go_wp2
  go_loopw [1, 5] (fun t i wr => ∃ (k : Nat) (m : Int), k ≤ l.length ∧ i = .int .i64 k ∧ t = .int .i64 m ∧ 0 ≤ m ∧ m ≤ left ∧ Hid (m + sumF Voter.sz (l.take k) ≤ left - l.length) ∧ Below w.heap.size w wr) (fun _ i _ => l.length - (intOf i).toNat)
  case atStart => exact ⟨0, _, Nat.zero_le _, rfl, rfl, by omega, by omega, Lib.hid (by simp [sumF]), Below.refl _ _⟩
  case round =>
    obtain ⟨k, m, hk, rfl, rfl, hm0, hm1, Hsm, hb⟩ := hrel
    by_cases hlt : k < l.length
    · obtain ⟨ad, x, A3, c3, A4, c4, A5, c5, A6, c6, rfl, hx, p0, p1, p2, p3, p4, p5, p6, p7, l3, g3, l4, g4, l5, g5, l6, g6⟩ := Voter.at (Row_below hr hb) k hlt
      have Hx := Lib.hid (sumF_take (f := Voter.sz) hx)
      have hwx := hw.2 x (List.mem_of_getElem? hx)
      clear hx
      have HW := Lib.hid hwx
      clear hwx
      go_wp2_with (go_at_call 69; refine (szVoter_c _ x l3 g3 l4 g4 l5 g5 l6 g6 HW.out m hm0 (by omega)).mono ?_; rintro e w' ⟨r, rfl, ra, rb, rs, hb2⟩; have hs := Lib.hid rs; clear rs)
      · go_ret
        exact ⟨_, rfl, by omega, by omega, fun h => absurd h (by omega), hb.trans (hb2.mono hb.size)⟩
      · go_roundw
        case rel => exact ⟨k + 1, r, by omega, by go_num, rfl, by omega, by omega, Lib.hid (by rw [Hx.out]; have := Hsm.out; have := hs.out (by omega); omega), hb.trans (hb2.mono hb.size)⟩
        case measure => simp [intOf]; omega
    · go_wp2
      go_ret
      obtain rfl : k = l.length := by omega
      exact ⟨_, rfl, by omega, hm1, fun _ => by have h := Hsm.out; rw [List.take_length] at h; unfold szL; omega, hb⟩
theorem szMessageS_c (w : World) (A : Option Addr) (c : Nat) (l : List Message) (left : Int) (hr : Row kMessage w A l) (hc : l.length ≤ c) (hw : wfList Message.wf l) (h0 : 0 ≤ left) (h1 : left ≤ 1048576) :
    Calls Try.prog 31 #[.slice A l.length c, .int .i64 left] w (SzPost left (szL Message.sz l) w) := by
  have hl := wfList_lim hw
  have hu := Try.underlying118
  have hu2 := Try.underlying24
  by_cases h2 : left - (l.length : Int) < 0
  · go_enter Try.func31, Try.ntmps31
    go_wp2
    go_ret
    exact ⟨_, rfl, by omega, by omega, fun h => absurd h (by omega), Below.refl _ _⟩
  go_enter Try.func31, Try.ntmps31
  go_wp2
  go_loopw [1, 5] (fun t i wr => ∃ (k : Nat) (m : Int), k ≤ l.length ∧ i = .int .i64 k ∧ t = .int .i64 m ∧ 0 ≤ m ∧ m ≤ left ∧ Hid (m + sumF Message.sz (l.take k) ≤ left - l.length) ∧ Below w.heap.size w wr) (fun _ i _ => l.length - (intOf i).toNat)
  case atStart => exact ⟨0, _, Nat.zero_le _, rfl, rfl, by omega, by omega, Lib.hid (by simp [sumF]), Below.refl _ _⟩
  case round =>
    obtain ⟨k, m, hk, rfl, rfl, hm0, hm1, Hsm, hb⟩ := hrel
    by_cases hlt : k < l.length
    · obtain ⟨ad, x, A6, c6, rfl, hx, p0, p1, p2, p3, p4, p5, p6, p7, p8, l6, g6⟩ := Message.at (Row_below hr hb) k hlt
      have Hx := Lib.hid (sumF_take (f := Message.sz) hx)
      have hwx := hw.2 x (List.mem_of_getElem? hx)
      clear hx
      have HW := Lib.hid hwx
      clear hwx
      go_wp2_with (go_at_call 70; refine (szMessage_c _ x l6 g6 HW.out m hm0 (by omega)).mono ?_; rintro e w' ⟨r, rfl, ra, rb, rs, hb2⟩; have hs := Lib.hid rs; clear rs)
      · go_ret
        exact ⟨_, rfl, by omega, by omega, fun h => absurd h (by omega), hb.trans (hb2.mono hb.size)⟩
      · go_roundw
        case rel => exact ⟨k + 1, r, by omega, by go_num, rfl, by omega, by omega, Lib.hid (by rw [Hx.out]; have := Hsm.out; have := hs.out (by omega); omega), hb.trans (hb2.mono hb.size)⟩
        case measure => simp [intOf]; omega
    · go_wp2
      go_ret
      obtain rfl : k = l.length := by omega
      exact ⟨_, rfl, by omega, hm1, fun _ => by have h := Hsm.out; rw [List.take_length] at h; unfold szL; omega, hb⟩
set_option maxHeartbeats 4000000 in
theorem szQuorum_c (w : World) (x : Quorum) {A0 : Option Addr} {c0 : Nat} (l0 : x.Voters.length ≤ c0) (g0 : Row kVoter w A0 x.Voters) {A1 : Option Addr} {c1 : Nat} (l1 : x.Net.length ≤ c1) (g1 : Row kMessage w A1 x.Net) (hw : x.wf) (left : Int) (h0 : 0 ≤ left) (h1 : left ≤ 1048576) :
    Calls Try.prog 9 #[.agg #[.slice A0 x.Voters.length c0, .slice A1 x.Net.length c1], .int .i64 left] w (SzPost left x.sz w) := by
  obtain ⟨q0, q1⟩ := hw
  have Q0 := Lib.hid q0
  clear q0
  dsimp only at Q0
  have Q1 := Lib.hid q1
  clear q1
  dsimp only at Q1
  go_enter Try.func9, Try.ntmps9
  go_upto_region 1 with fail
  go_upto_region 4 with (go_at_call 30; refine (szVoterS_c _ _ _ x.Voters _ (Row_below g0 (below_al _ _)) l0 Q0.out (by omega) (by omega)).mono ?_; rintro e w0 ⟨r0, rfl, ra0, rb0, rs0, hb0⟩; have E0 := below_tr (below_al _ _) hb0; have S0 := Lib.hid rs0; clear rs0; have X0 := (Box.new w #[.slice A0 x.Voters.length c0, .slice A1 x.Net.length c1] _).later hb0; have u0_0 := X0 0 _ rfl; have u0_1 := X0 1 _ rfl; have gb0 := X0.lt rfl; have XX0 := Lib.hid X0)
  all_goals first | (go_ret; exact ⟨_, rfl, by omega, by omega, fun h => absurd h (by omega), E0⟩) | skip
  go_wp2_with (go_at_call 31; refine (szMessageS_c _ _ _ x.Net _ (Row_below g1 (E0)) l1 Q1.out (by omega) (by omega)).mono ?_; rintro e w1 ⟨r1, rfl, ra1, rb1, rs1, hb1⟩; have E1 := below_tr (E0) hb1; have S1 := Lib.hid rs1; clear rs1)
  all_goals (go_ret; first | exact ⟨_, rfl, by omega, by omega, fun h => absurd h (by omega), E1⟩ | exact ⟨_, rfl, by omega, by omega, by intro h; unfold Quorum.sz; have t0 := S0.out (by omega); have t1 := S1.out (by omega); omega, E1⟩)
theorem szHead_c (w : World) (x : Head) (hw : x.wf) (left : Int) (h0 : 0 ≤ left) (h1 : left ≤ 1048576) :
    Calls Try.prog 127 #[.agg #[.string x.Key, .string x.Value], .int .i64 left] w (SzPost left x.sz w) := by
  obtain ⟨q0, q1⟩ := hw
  replace q0 := wfStr_lim q0
  dsimp only at q0
  replace q1 := wfStr_lim q1
  dsimp only at q1
  go_enter Try.func127, Try.ntmps127
  go_wp2
  all_goals (go_ret; first | exact ⟨_, rfl, by omega, by omega, by intro h; unfold Head.sz; omega, below_al _ _⟩ | exact ⟨_, rfl, by omega, by omega, fun h => absurd h (by omega), below_al _ _⟩)
theorem szHeadS_c (w : World) (A : Option Addr) (c : Nat) (l : List Head) (left : Int) (hr : Row kHead w A l) (hc : l.length ≤ c) (hw : wfList Head.wf l) (h0 : 0 ≤ left) (h1 : left ≤ 1048576) :
    Calls Try.prog 124 #[.slice A l.length c, .int .i64 left] w (SzPost left (szL Head.sz l) w) := by
  have hl := wfList_lim hw
  have hu := Try.underlying191
  have hu2 := Try.underlying182
  by_cases h2 : left - (l.length : Int) < 0
  · go_enter Try.func124, Try.ntmps124
    go_wp2
    go_ret
    exact ⟨_, rfl, by omega, by omega, fun h => absurd h (by omega), Below.refl _ _⟩
  go_enter Try.func124, Try.ntmps124
  go_wp2
  go_loopw [1, 5] (fun t i wr => ∃ (k : Nat) (m : Int), k ≤ l.length ∧ i = .int .i64 k ∧ t = .int .i64 m ∧ 0 ≤ m ∧ m ≤ left ∧ Hid (m + sumF Head.sz (l.take k) ≤ left - l.length) ∧ Below w.heap.size w wr) (fun _ i _ => l.length - (intOf i).toNat)
  case atStart => exact ⟨0, _, Nat.zero_le _, rfl, rfl, by omega, by omega, Lib.hid (by simp [sumF]), Below.refl _ _⟩
  case round =>
    obtain ⟨k, m, hk, rfl, rfl, hm0, hm1, Hsm, hb⟩ := hrel
    by_cases hlt : k < l.length
    · obtain ⟨ad, x, rfl, hx, p0, p1⟩ := Head.at (Row_below hr hb) k hlt
      have Hx := Lib.hid (sumF_take (f := Head.sz) hx)
      have hwx := hw.2 x (List.mem_of_getElem? hx)
      clear hx
      have HW := Lib.hid hwx
      clear hwx
      go_wp2_with (go_at_call 127; refine (szHead_c _ x HW.out m hm0 (by omega)).mono ?_; rintro e w' ⟨r, rfl, ra, rb, rs, hb2⟩; have hs := Lib.hid rs; clear rs)
      · go_ret
        exact ⟨_, rfl, by omega, by omega, fun h => absurd h (by omega), hb.trans (hb2.mono hb.size)⟩
      · go_roundw
        case rel => exact ⟨k + 1, r, by omega, by go_num, rfl, by omega, by omega, Lib.hid (by rw [Hx.out]; have := Hsm.out; have := hs.out (by omega); omega), hb.trans (hb2.mono hb.size)⟩
        case measure => simp [intOf]; omega
    · go_wp2
      go_ret
      obtain rfl : k = l.length := by omega
      exact ⟨_, rfl, by omega, hm1, fun _ => by have h := Hsm.out; rw [List.take_length] at h; unfold szL; omega, hb⟩
theorem szRecord_c (w : World) (x : Record) {A5 : Option Addr} {c5 : Nat} (l5 : x.Heads.length ≤ c5) (g5 : Row kHead w A5 x.Heads) (hw : x.wf) (left : Int) (h0 : 0 ≤ left) (h1 : left ≤ 1048576) :
    Calls Try.prog 121 #[.agg #[.int .i64 x.Time, .bool x.Keyed, .string x.Key, .bool x.Gone, .string x.Value, .slice A5 x.Heads.length c5], .int .i64 left] w (SzPost left x.sz w) := by
  obtain ⟨_, _, q2, _, q4, q5⟩ := hw
  replace q2 := wfStr_lim q2
  dsimp only at q2
  replace q4 := wfStr_lim q4
  dsimp only at q4
  have Q5 := Lib.hid q5
  clear q5
  dsimp only at Q5
  go_enter Try.func121, Try.ntmps121
  go_upto_region 7 with fail
  all_goals first | (go_ret; exact ⟨_, rfl, by omega, by omega, fun h => absurd h (by omega), below_al _ _⟩) | skip
  go_wp2_with (go_at_call 124; refine (szHeadS_c _ _ _ x.Heads _ (Row_below g5 (below_al _ _)) l5 Q5.out (by omega) (by omega)).mono ?_; rintro e w5 ⟨r5, rfl, ra5, rb5, rs5, hb5⟩; have E5 := below_tr (below_al _ _) hb5; have S5 := Lib.hid rs5; clear rs5)
  all_goals (go_ret; first | exact ⟨_, rfl, by omega, by omega, fun h => absurd h (by omega), E5⟩ | exact ⟨_, rfl, by omega, by omega, by intro h; unfold Record.sz; have t5 := S5.out (by omega); omega, E5⟩)
theorem szRecordS_c (w : World) (A : Option Addr) (c : Nat) (l : List Record) (left : Int) (hr : Row kRecord w A l) (hc : l.length ≤ c) (hw : wfList Record.wf l) (h0 : 0 ≤ left) (h1 : left ≤ 1048576) :
    Calls Try.prog 118 #[.slice A l.length c, .int .i64 left] w (SzPost left (szL Record.sz l) w) := by
  have hl := wfList_lim hw
  have hu := Try.underlying184
  have hu2 := Try.underlying173
  by_cases h2 : left - (l.length : Int) < 0
  · go_enter Try.func118, Try.ntmps118
    go_wp2
    go_ret
    exact ⟨_, rfl, by omega, by omega, fun h => absurd h (by omega), Below.refl _ _⟩
  go_enter Try.func118, Try.ntmps118
  go_wp2
  go_loopw [1, 5] (fun t i wr => ∃ (k : Nat) (m : Int), k ≤ l.length ∧ i = .int .i64 k ∧ t = .int .i64 m ∧ 0 ≤ m ∧ m ≤ left ∧ Hid (m + sumF Record.sz (l.take k) ≤ left - l.length) ∧ Below w.heap.size w wr) (fun _ i _ => l.length - (intOf i).toNat)
  case atStart => exact ⟨0, _, Nat.zero_le _, rfl, rfl, by omega, by omega, Lib.hid (by simp [sumF]), Below.refl _ _⟩
  case round =>
    obtain ⟨k, m, hk, rfl, rfl, hm0, hm1, Hsm, hb⟩ := hrel
    by_cases hlt : k < l.length
    · obtain ⟨ad, x, A5, c5, rfl, hx, p0, p1, p2, p3, p4, p5, l5, g5⟩ := Record.at (Row_below hr hb) k hlt
      have Hx := Lib.hid (sumF_take (f := Record.sz) hx)
      have hwx := hw.2 x (List.mem_of_getElem? hx)
      clear hx
      have HW := Lib.hid hwx
      clear hwx
      go_wp2_with (go_at_call 121; refine (szRecord_c _ x l5 g5 HW.out m hm0 (by omega)).mono ?_; rintro e w' ⟨r, rfl, ra, rb, rs, hb2⟩; have hs := Lib.hid rs; clear rs)
      · go_ret
        exact ⟨_, rfl, by omega, by omega, fun h => absurd h (by omega), hb.trans (hb2.mono hb.size)⟩
      · go_roundw
        case rel => exact ⟨k + 1, r, by omega, by go_num, rfl, by omega, by omega, Lib.hid (by rw [Hx.out]; have := Hsm.out; have := hs.out (by omega); omega), hb.trans (hb2.mono hb.size)⟩
        case measure => simp [intOf]; omega
    · go_wp2
      go_ret
      obtain rfl : k = l.length := by omega
      exact ⟨_, rfl, by omega, hm1, fun _ => by have h := Hsm.out; rw [List.take_length] at h; unfold szL; omega, hb⟩
theorem szBatch_c (w : World) (x : Batch) {A6 : Option Addr} {c6 : Nat} (l6 : x.Records.length ≤ c6) (g6 : Row kRecord w A6 x.Records) (hw : x.wf) (left : Int) (h0 : 0 ≤ left) (h1 : left ≤ 1048576) :
    Calls Try.prog 115 #[.agg #[.int .i64 x.Base, .int .i64 x.Epoch, .int .i64 x.Producer, .int .i64 x.Turn, .int .i64 x.Seq, .int .i64 x.Flags, .slice A6 x.Records.length c6], .int .i64 left] w (SzPost left x.sz w) := by
  obtain ⟨_, _, _, _, _, _, q6⟩ := hw
  have Q6 := Lib.hid q6
  clear q6
  dsimp only at Q6
  go_enter Try.func115, Try.ntmps115
  go_upto_region 1 with fail
  go_wp2_with (go_at_call 118; refine (szRecordS_c _ _ _ x.Records _ (Row_below g6 (below_al _ _)) l6 Q6.out (by omega) (by omega)).mono ?_; rintro e w6 ⟨r6, rfl, ra6, rb6, rs6, hb6⟩; have E6 := below_tr (below_al _ _) hb6; have S6 := Lib.hid rs6; clear rs6)
  all_goals (go_ret; first | exact ⟨_, rfl, by omega, by omega, fun h => absurd h (by omega), E6⟩ | exact ⟨_, rfl, by omega, by omega, by intro h; unfold Batch.sz; have t6 := S6.out (by omega); omega, E6⟩)
theorem szBatchS_c (w : World) (A : Option Addr) (c : Nat) (l : List Batch) (left : Int) (hr : Row kBatch w A l) (hc : l.length ≤ c) (hw : wfList Batch.wf l) (h0 : 0 ≤ left) (h1 : left ≤ 1048576) :
    Calls Try.prog 112 #[.slice A l.length c, .int .i64 left] w (SzPost left (szL Batch.sz l) w) := by
  have hl := wfList_lim hw
  have hu := Try.underlying175
  have hu2 := Try.underlying164
  by_cases h2 : left - (l.length : Int) < 0
  · go_enter Try.func112, Try.ntmps112
    go_wp2
    go_ret
    exact ⟨_, rfl, by omega, by omega, fun h => absurd h (by omega), Below.refl _ _⟩
  go_enter Try.func112, Try.ntmps112
  go_wp2
  go_loopw [1, 5] (fun t i wr => ∃ (k : Nat) (m : Int), k ≤ l.length ∧ i = .int .i64 k ∧ t = .int .i64 m ∧ 0 ≤ m ∧ m ≤ left ∧ Hid (m + sumF Batch.sz (l.take k) ≤ left - l.length) ∧ Below w.heap.size w wr) (fun _ i _ => l.length - (intOf i).toNat)
  case atStart => exact ⟨0, _, Nat.zero_le _, rfl, rfl, by omega, by omega, Lib.hid (by simp [sumF]), Below.refl _ _⟩
  case round =>
    obtain ⟨k, m, hk, rfl, rfl, hm0, hm1, Hsm, hb⟩ := hrel
    by_cases hlt : k < l.length
    · obtain ⟨ad, x, A6, c6, rfl, hx, p0, p1, p2, p3, p4, p5, p6, l6, g6⟩ := Batch.at (Row_below hr hb) k hlt
      have Hx := Lib.hid (sumF_take (f := Batch.sz) hx)
      have hwx := hw.2 x (List.mem_of_getElem? hx)
      clear hx
      have HW := Lib.hid hwx
      clear hwx
      go_wp2_with (go_at_call 115; refine (szBatch_c _ x l6 g6 HW.out m hm0 (by omega)).mono ?_; rintro e w' ⟨r, rfl, ra, rb, rs, hb2⟩; have hs := Lib.hid rs; clear rs)
      · go_ret
        exact ⟨_, rfl, by omega, by omega, fun h => absurd h (by omega), hb.trans (hb2.mono hb.size)⟩
      · go_roundw
        case rel => exact ⟨k + 1, r, by omega, by go_num, rfl, by omega, by omega, Lib.hid (by rw [Hx.out]; have := Hsm.out; have := hs.out (by omega); omega), hb.trans (hb2.mono hb.size)⟩
        case measure => simp [intOf]; omega
    · go_wp2
      go_ret
      obtain rfl : k = l.length := by omega
      exact ⟨_, rfl, by omega, hm1, fun _ => by have h := Hsm.out; rw [List.take_length] at h; unfold szL; omega, hb⟩
theorem szSegment_c (w : World) (x : Segment) {A1 : Option Addr} {c1 : Nat} (l1 : x.Batches.length ≤ c1) (g1 : Row kBatch w A1 x.Batches) (hw : x.wf) (left : Int) (h0 : 0 ≤ left) (h1 : left ≤ 1048576) :
    Calls Try.prog 109 #[.agg #[.int .i64 x.Base, .slice A1 x.Batches.length c1], .int .i64 left] w (SzPost left x.sz w) := by
  obtain ⟨_, q1⟩ := hw
  have Q1 := Lib.hid q1
  clear q1
  dsimp only at Q1
  go_enter Try.func109, Try.ntmps109
  go_upto_region 1 with fail
  go_wp2_with (go_at_call 112; refine (szBatchS_c _ _ _ x.Batches _ (Row_below g1 (below_al _ _)) l1 Q1.out (by omega) (by omega)).mono ?_; rintro e w1 ⟨r1, rfl, ra1, rb1, rs1, hb1⟩; have E1 := below_tr (below_al _ _) hb1; have S1 := Lib.hid rs1; clear rs1)
  all_goals (go_ret; first | exact ⟨_, rfl, by omega, by omega, fun h => absurd h (by omega), E1⟩ | exact ⟨_, rfl, by omega, by omega, by intro h; unfold Segment.sz; have t1 := S1.out (by omega); omega, E1⟩)
theorem szSegmentS_c (w : World) (A : Option Addr) (c : Nat) (l : List Segment) (left : Int) (hr : Row kSegment w A l) (hc : l.length ≤ c) (hw : wfList Segment.wf l) (h0 : 0 ≤ left) (h1 : left ≤ 1048576) :
    Calls Try.prog 102 #[.slice A l.length c, .int .i64 left] w (SzPost left (szL Segment.sz l) w) := by
  have hl := wfList_lim hw
  have hu := Try.underlying166
  have hu2 := Try.underlying125
  by_cases h2 : left - (l.length : Int) < 0
  · go_enter Try.func102, Try.ntmps102
    go_wp2
    go_ret
    exact ⟨_, rfl, by omega, by omega, fun h => absurd h (by omega), Below.refl _ _⟩
  go_enter Try.func102, Try.ntmps102
  go_wp2
  go_loopw [1, 5] (fun t i wr => ∃ (k : Nat) (m : Int), k ≤ l.length ∧ i = .int .i64 k ∧ t = .int .i64 m ∧ 0 ≤ m ∧ m ≤ left ∧ Hid (m + sumF Segment.sz (l.take k) ≤ left - l.length) ∧ Below w.heap.size w wr) (fun _ i _ => l.length - (intOf i).toNat)
  case atStart => exact ⟨0, _, Nat.zero_le _, rfl, rfl, by omega, by omega, Lib.hid (by simp [sumF]), Below.refl _ _⟩
  case round =>
    obtain ⟨k, m, hk, rfl, rfl, hm0, hm1, Hsm, hb⟩ := hrel
    by_cases hlt : k < l.length
    · obtain ⟨ad, x, A1, c1, rfl, hx, p0, p1, l1, g1⟩ := Segment.at (Row_below hr hb) k hlt
      have Hx := Lib.hid (sumF_take (f := Segment.sz) hx)
      have hwx := hw.2 x (List.mem_of_getElem? hx)
      clear hx
      have HW := Lib.hid hwx
      clear hwx
      go_wp2_with (go_at_call 109; refine (szSegment_c _ x l1 g1 HW.out m hm0 (by omega)).mono ?_; rintro e w' ⟨r, rfl, ra, rb, rs, hb2⟩; have hs := Lib.hid rs; clear rs)
      · go_ret
        exact ⟨_, rfl, by omega, by omega, fun h => absurd h (by omega), hb.trans (hb2.mono hb.size)⟩
      · go_roundw
        case rel => exact ⟨k + 1, r, by omega, by go_num, rfl, by omega, by omega, Lib.hid (by rw [Hx.out]; have := Hsm.out; have := hs.out (by omega); omega), hb.trans (hb2.mono hb.size)⟩
        case measure => simp [intOf]; omega
    · go_wp2
      go_ret
      obtain rfl : k = l.length := by omega
      exact ⟨_, rfl, by omega, hm1, fun _ => by have h := Hsm.out; rw [List.take_length] at h; unfold szL; omega, hb⟩
theorem szLog_c (w : World) (x : Log) {A3 : Option Addr} {c3 : Nat} (l3 : x.Segments.length ≤ c3) (g3 : Row kSegment w A3 x.Segments) (hw : x.wf) (left : Int) (h0 : 0 ≤ left) (h1 : left ≤ 1048576) :
    Calls Try.prog 88 #[.agg #[.int .i64 x.Start, .int .i64 x.Next, .int .i64 x.Roll, .slice A3 x.Segments.length c3], .int .i64 left] w (SzPost left x.sz w) := by
  obtain ⟨_, _, _, q3⟩ := hw
  have Q3 := Lib.hid q3
  clear q3
  dsimp only at Q3
  go_enter Try.func88, Try.ntmps88
  go_upto_region 1 with fail
  go_wp2_with (go_at_call 102; refine (szSegmentS_c _ _ _ x.Segments _ (Row_below g3 (below_al _ _)) l3 Q3.out (by omega) (by omega)).mono ?_; rintro e w3 ⟨r3, rfl, ra3, rb3, rs3, hb3⟩; have E3 := below_tr (below_al _ _) hb3; have S3 := Lib.hid rs3; clear rs3)
  all_goals (go_ret; first | exact ⟨_, rfl, by omega, by omega, fun h => absurd h (by omega), E3⟩ | exact ⟨_, rfl, by omega, by omega, by intro h; unfold Log.sz; have t3 := S3.out (by omega); omega, E3⟩)
theorem szReplica_c (w : World) (x : Replica) {A3 : Option Addr} {c3 : Nat} (l3 : x.Log.Segments.length ≤ c3) (g3 : Row kSegment w A3 x.Log.Segments) (hw : x.wf) (left : Int) (h0 : 0 ≤ left) (h1 : left ≤ 1048576) :
    Calls Try.prog 79 #[.agg #[.int .i64 x.Log.Start, .int .i64 x.Log.Next, .int .i64 x.Log.Roll, .slice A3 x.Log.Segments.length c3, .int .i64 x.Mark, .bool x.Up], .int .i64 left] w (SzPost left x.sz w) := by
  obtain ⟨q0, _, _⟩ := hw
  have Q0 := Lib.hid q0
  clear q0
  dsimp only at Q0
  go_enter Try.func79, Try.ntmps79
  go_upto_region 1 with fail
  go_wp2_with (go_at_call 88; refine (szLog_c _ x.Log l3 (Row_below g3 (below_al _ _)) Q0.out _ (by omega) (by omega)).mono ?_; rintro e w0 ⟨r0, rfl, ra0, rb0, rs0, hb0⟩; have E0 := below_tr (below_al _ _) hb0; have S0 := Lib.hid rs0; clear rs0)
  all_goals (go_ret; first | exact ⟨_, rfl, by omega, by omega, fun h => absurd h (by omega), E0⟩ | exact ⟨_, rfl, by omega, by omega, by intro h; unfold Replica.sz; have t0 := S0.out (by omega); omega, E0⟩)
theorem szReplicaS_c (w : World) (A : Option Addr) (c : Nat) (l : List Replica) (left : Int) (hr : Row kReplica w A l) (hc : l.length ≤ c) (hw : wfList Replica.wf l) (h0 : 0 ≤ left) (h1 : left ≤ 1048576) :
    Calls Try.prog 48 #[.slice A l.length c, .int .i64 left] w (SzPost left (szL Replica.sz l) w) := by
  have hl := wfList_lim hw
  have hu := Try.underlying129
  have hu2 := Try.underlying40
  by_cases h2 : left - (l.length : Int) < 0
  · go_enter Try.func48, Try.ntmps48
    go_wp2
    go_ret
    exact ⟨_, rfl, by omega, by omega, fun h => absurd h (by omega), Below.refl _ _⟩
  go_enter Try.func48, Try.ntmps48
  go_wp2
  go_loopw [1, 5] (fun t i wr => ∃ (k : Nat) (m : Int), k ≤ l.length ∧ i = .int .i64 k ∧ t = .int .i64 m ∧ 0 ≤ m ∧ m ≤ left ∧ Hid (m + sumF Replica.sz (l.take k) ≤ left - l.length) ∧ Below w.heap.size w wr) (fun _ i _ => l.length - (intOf i).toNat)
  case atStart => exact ⟨0, _, Nat.zero_le _, rfl, rfl, by omega, by omega, Lib.hid (by simp [sumF]), Below.refl _ _⟩
  case round =>
    obtain ⟨k, m, hk, rfl, rfl, hm0, hm1, Hsm, hb⟩ := hrel
    by_cases hlt : k < l.length
    · obtain ⟨ad, x, A3, c3, rfl, hx, p0, p1, p2, p3, p4, p5, l3, g3⟩ := Replica.at (Row_below hr hb) k hlt
      have Hx := Lib.hid (sumF_take (f := Replica.sz) hx)
      have hwx := hw.2 x (List.mem_of_getElem? hx)
      clear hx
      have HW := Lib.hid hwx
      clear hwx
      go_wp2_with (go_at_call 79; refine (szReplica_c _ x l3 g3 HW.out m hm0 (by omega)).mono ?_; rintro e w' ⟨r, rfl, ra, rb, rs, hb2⟩; have hs := Lib.hid rs; clear rs)
      · go_ret
        exact ⟨_, rfl, by omega, by omega, fun h => absurd h (by omega), hb.trans (hb2.mono hb.size)⟩
      · go_roundw
        case rel => exact ⟨k + 1, r, by omega, by go_num, rfl, by omega, by omega, Lib.hid (by rw [Hx.out]; have := Hsm.out; have := hs.out (by omega); omega), hb.trans (hb2.mono hb.size)⟩
        case measure => simp [intOf]; omega
    · go_wp2
      go_ret
      obtain rfl : k = l.length := by omega
      exact ⟨_, rfl, by omega, hm1, fun _ => by have h := Hsm.out; rw [List.take_length] at h; unfold szL; omega, hb⟩
set_option maxHeartbeats 4000000 in
theorem szPart_c (w : World) (x : Part) {A0 : Option Addr} {c0 : Nat} (l0 : x.Replicas.length ≤ c0) (g0 : Row kReplica w A0 x.Replicas) {A3 : Option Addr} {c3 : Nat} (l3 : x.Insync.length ≤ c3) (g3 : Row (Ki.int .i64) w A3 x.Insync) {A4 : Option Addr} {c4 : Nat} (l4 : x.Known.length ≤ c4) (g4 : Row (Ki.int .i64) w A4 x.Known) (hw : x.wf) (left : Int) (h0 : 0 ≤ left) (h1 : left ≤ 1048576) :
    Calls Try.prog 20 #[.agg #[.slice A0 x.Replicas.length c0, .int .i64 x.Leader, .int .i64 x.Epoch, .slice A3 x.Insync.length c3, .slice A4 x.Known.length c4, .int .i64 x.Least], .int .i64 left] w (SzPost left x.sz w) := by
  obtain ⟨q0, _, _, q3, q4, _⟩ := hw
  have Q0 := Lib.hid q0
  clear q0
  dsimp only at Q0
  have Q3 := Lib.hid q3
  clear q3
  dsimp only at Q3
  have Q4 := Lib.hid q4
  clear q4
  dsimp only at Q4
  go_enter Try.func20, Try.ntmps20
  go_upto_region 1 with fail
  go_upto_region 4 with (go_at_call 48; refine (szReplicaS_c _ _ _ x.Replicas _ (Row_below g0 (below_al _ _)) l0 Q0.out (by omega) (by omega)).mono ?_; rintro e w0 ⟨r0, rfl, ra0, rb0, rs0, hb0⟩; have E0 := below_tr (below_al _ _) hb0; have S0 := Lib.hid rs0; clear rs0; have X0 := (Box.new w #[.slice A0 x.Replicas.length c0, .int .i64 x.Leader, .int .i64 x.Epoch, .slice A3 x.Insync.length c3, .slice A4 x.Known.length c4, .int .i64 x.Least] _).later hb0; have u0_0 := X0 0 _ rfl; have u0_3 := X0 3 _ rfl; have u0_4 := X0 4 _ rfl; have gb0 := X0.lt rfl; have XX0 := Lib.hid X0)
  all_goals first | (go_ret; exact ⟨_, rfl, by omega, by omega, fun h => absurd h (by omega), E0⟩) | skip
  go_upto_region 7 with (go_at_call 49; refine (szIntS_c _ _ _ x.Insync _ (Row_below g3 (E0)) l3 Q3.out (by omega) (by omega)).mono ?_; rintro e w3 ⟨r3, rfl, ra3, rb3, rs3, hb3⟩; have E3 := below_tr (E0) hb3; have S3 := Lib.hid rs3; clear rs3; have X3 := (X0).later hb3; clear X0; have u3_3 := X3 3 _ rfl; have u3_4 := X3 4 _ rfl; have gb3 := X3.lt rfl; have XX3 := Lib.hid X3)
  all_goals first | (go_ret; exact ⟨_, rfl, by omega, by omega, fun h => absurd h (by omega), E3⟩) | skip
  go_wp2_with (go_at_call 49; refine (szIntS_c _ _ _ x.Known _ (Row_below g4 (E3)) l4 Q4.out (by omega) (by omega)).mono ?_; rintro e w4 ⟨r4, rfl, ra4, rb4, rs4, hb4⟩; have E4 := below_tr (E3) hb4; have S4 := Lib.hid rs4; clear rs4)
  all_goals (go_ret; first | exact ⟨_, rfl, by omega, by omega, fun h => absurd h (by omega), E4⟩ | exact ⟨_, rfl, by omega, by omega, by intro h; unfold Part.sz; have t0 := S0.out (by omega); have t3 := S3.out (by omega); have t4 := S4.out (by omega); omega, E4⟩)
theorem szTxn_c (w : World) (x : Txn) {A4 : Option Addr} {c4 : Nat} (l4 : x.Parts.length ≤ c4) (g4 : Row (Ki.int .i64) w A4 x.Parts) (hw : x.wf) (left : Int) (h0 : 0 ≤ left) (h1 : left ≤ 1048576) :
    Calls Try.prog 89 #[.agg #[.string x.Name, .int .i64 x.Producer, .int .i64 x.Turn, .bool x.Open, .slice A4 x.Parts.length c4], .int .i64 left] w (SzPost left x.sz w) := by
  obtain ⟨q0, _, _, _, q4⟩ := hw
  replace q0 := wfStr_lim q0
  dsimp only at q0
  have Q4 := Lib.hid q4
  clear q4
  dsimp only at Q4
  go_enter Try.func89, Try.ntmps89
  go_upto_region 4 with fail
  all_goals first | (go_ret; exact ⟨_, rfl, by omega, by omega, fun h => absurd h (by omega), below_al _ _⟩) | skip
  go_wp2_with (go_at_call 49; refine (szIntS_c _ _ _ x.Parts _ (Row_below g4 (below_al _ _)) l4 Q4.out (by omega) (by omega)).mono ?_; rintro e w4 ⟨r4, rfl, ra4, rb4, rs4, hb4⟩; have E4 := below_tr (below_al _ _) hb4; have S4 := Lib.hid rs4; clear rs4)
  all_goals (go_ret; first | exact ⟨_, rfl, by omega, by omega, fun h => absurd h (by omega), E4⟩ | exact ⟨_, rfl, by omega, by omega, by intro h; unfold Txn.sz; have t4 := S4.out (by omega); omega, E4⟩)
theorem szLogS_c (w : World) (A : Option Addr) (c : Nat) (l : List Log) (left : Int) (hr : Row kLog w A l) (hc : l.length ≤ c) (hw : wfList Log.wf l) (h0 : 0 ≤ left) (h1 : left ≤ 1048576) :
    Calls Try.prog 61 #[.slice A l.length c, .int .i64 left] w (SzPost left (szL Log.sz l) w) := by
  have hl := wfList_lim hw
  have hu := Try.underlying127
  have hu2 := Try.underlying52
  by_cases h2 : left - (l.length : Int) < 0
  · go_enter Try.func61, Try.ntmps61
    go_wp2
    go_ret
    exact ⟨_, rfl, by omega, by omega, fun h => absurd h (by omega), Below.refl _ _⟩
  go_enter Try.func61, Try.ntmps61
  go_wp2
  go_loopw [1, 5] (fun t i wr => ∃ (k : Nat) (m : Int), k ≤ l.length ∧ i = .int .i64 k ∧ t = .int .i64 m ∧ 0 ≤ m ∧ m ≤ left ∧ Hid (m + sumF Log.sz (l.take k) ≤ left - l.length) ∧ Below w.heap.size w wr) (fun _ i _ => l.length - (intOf i).toNat)
  case atStart => exact ⟨0, _, Nat.zero_le _, rfl, rfl, by omega, by omega, Lib.hid (by simp [sumF]), Below.refl _ _⟩
  case round =>
    obtain ⟨k, m, hk, rfl, rfl, hm0, hm1, Hsm, hb⟩ := hrel
    by_cases hlt : k < l.length
    · obtain ⟨ad, x, A3, c3, rfl, hx, p0, p1, p2, p3, l3, g3⟩ := Log.at (Row_below hr hb) k hlt
      have Hx := Lib.hid (sumF_take (f := Log.sz) hx)
      have hwx := hw.2 x (List.mem_of_getElem? hx)
      clear hx
      have HW := Lib.hid hwx
      clear hwx
      go_wp2_with (go_at_call 88; refine (szLog_c _ x l3 g3 HW.out m hm0 (by omega)).mono ?_; rintro e w' ⟨r, rfl, ra, rb, rs, hb2⟩; have hs := Lib.hid rs; clear rs)
      · go_ret
        exact ⟨_, rfl, by omega, by omega, fun h => absurd h (by omega), hb.trans (hb2.mono hb.size)⟩
      · go_roundw
        case rel => exact ⟨k + 1, r, by omega, by go_num, rfl, by omega, by omega, Lib.hid (by rw [Hx.out]; have := Hsm.out; have := hs.out (by omega); omega), hb.trans (hb2.mono hb.size)⟩
        case measure => simp [intOf]; omega
    · go_wp2
      go_ret
      obtain rfl : k = l.length := by omega
      exact ⟨_, rfl, by omega, hm1, fun _ => by have h := Hsm.out; rw [List.take_length] at h; unfold szL; omega, hb⟩
theorem szTxnS_c (w : World) (A : Option Addr) (c : Nat) (l : List Txn) (left : Int) (hr : Row kTxn w A l) (hc : l.length ≤ c) (hw : wfList Txn.wf l) (h0 : 0 ≤ left) (h1 : left ≤ 1048576) :
    Calls Try.prog 62 #[.slice A l.length c, .int .i64 left] w (SzPost left (szL Txn.sz l) w) := by
  have hl := wfList_lim hw
  have hu := Try.underlying138
  have hu2 := Try.underlying53
  by_cases h2 : left - (l.length : Int) < 0
  · go_enter Try.func62, Try.ntmps62
    go_wp2
    go_ret
    exact ⟨_, rfl, by omega, by omega, fun h => absurd h (by omega), Below.refl _ _⟩
  go_enter Try.func62, Try.ntmps62
  go_wp2
  go_loopw [1, 5] (fun t i wr => ∃ (k : Nat) (m : Int), k ≤ l.length ∧ i = .int .i64 k ∧ t = .int .i64 m ∧ 0 ≤ m ∧ m ≤ left ∧ Hid (m + sumF Txn.sz (l.take k) ≤ left - l.length) ∧ Below w.heap.size w wr) (fun _ i _ => l.length - (intOf i).toNat)
  case atStart => exact ⟨0, _, Nat.zero_le _, rfl, rfl, by omega, by omega, Lib.hid (by simp [sumF]), Below.refl _ _⟩
  case round =>
    obtain ⟨k, m, hk, rfl, rfl, hm0, hm1, Hsm, hb⟩ := hrel
    by_cases hlt : k < l.length
    · obtain ⟨ad, x, A4, c4, rfl, hx, p0, p1, p2, p3, p4, l4, g4⟩ := Txn.at (Row_below hr hb) k hlt
      have Hx := Lib.hid (sumF_take (f := Txn.sz) hx)
      have hwx := hw.2 x (List.mem_of_getElem? hx)
      clear hx
      have HW := Lib.hid hwx
      clear hwx
      go_wp2_with (go_at_call 89; refine (szTxn_c _ x l4 g4 HW.out m hm0 (by omega)).mono ?_; rintro e w' ⟨r, rfl, ra, rb, rs, hb2⟩; have hs := Lib.hid rs; clear rs)
      · go_ret
        exact ⟨_, rfl, by omega, by omega, fun h => absurd h (by omega), hb.trans (hb2.mono hb.size)⟩
      · go_roundw
        case rel => exact ⟨k + 1, r, by omega, by go_num, rfl, by omega, by omega, Lib.hid (by rw [Hx.out]; have := Hsm.out; have := hs.out (by omega); omega), hb.trans (hb2.mono hb.size)⟩
        case measure => simp [intOf]; omega
    · go_wp2
      go_ret
      obtain rfl : k = l.length := by omega
      exact ⟨_, rfl, by omega, hm1, fun _ => by have h := Hsm.out; rw [List.take_length] at h; unfold szL; omega, hb⟩
set_option maxHeartbeats 4000000 in
theorem szStore_c (w : World) (x : Store) {A0 : Option Addr} {c0 : Nat} (l0 : x.Logs.length ≤ c0) (g0 : Row kLog w A0 x.Logs) {A1 : Option Addr} {c1 : Nat} (l1 : x.Txns.length ≤ c1) (g1 : Row kTxn w A1 x.Txns) (hw : x.wf) (left : Int) (h0 : 0 ≤ left) (h1 : left ≤ 1048576) :
    Calls Try.prog 25 #[.agg #[.slice A0 x.Logs.length c0, .slice A1 x.Txns.length c1, .int .i64 x.Used], .int .i64 left] w (SzPost left x.sz w) := by
  obtain ⟨q0, q1, _⟩ := hw
  have Q0 := Lib.hid q0
  clear q0
  dsimp only at Q0
  have Q1 := Lib.hid q1
  clear q1
  dsimp only at Q1
  go_enter Try.func25, Try.ntmps25
  go_upto_region 1 with fail
  go_upto_region 4 with (go_at_call 61; refine (szLogS_c _ _ _ x.Logs _ (Row_below g0 (below_al _ _)) l0 Q0.out (by omega) (by omega)).mono ?_; rintro e w0 ⟨r0, rfl, ra0, rb0, rs0, hb0⟩; have E0 := below_tr (below_al _ _) hb0; have S0 := Lib.hid rs0; clear rs0; have X0 := (Box.new w #[.slice A0 x.Logs.length c0, .slice A1 x.Txns.length c1, .int .i64 x.Used] _).later hb0; have u0_0 := X0 0 _ rfl; have u0_1 := X0 1 _ rfl; have gb0 := X0.lt rfl; have XX0 := Lib.hid X0)
  all_goals first | (go_ret; exact ⟨_, rfl, by omega, by omega, fun h => absurd h (by omega), E0⟩) | skip
  go_wp2_with (go_at_call 62; refine (szTxnS_c _ _ _ x.Txns _ (Row_below g1 (E0)) l1 Q1.out (by omega) (by omega)).mono ?_; rintro e w1 ⟨r1, rfl, ra1, rb1, rs1, hb1⟩; have E1 := below_tr (E0) hb1; have S1 := Lib.hid rs1; clear rs1)
  all_goals (go_ret; first | exact ⟨_, rfl, by omega, by omega, fun h => absurd h (by omega), E1⟩ | exact ⟨_, rfl, by omega, by omega, by intro h; unfold Store.sz; have t0 := S0.out (by omega); have t1 := S1.out (by omega); omega, E1⟩)
end Go.Proofs.Ytpnjgmgnhkhapaa.H
