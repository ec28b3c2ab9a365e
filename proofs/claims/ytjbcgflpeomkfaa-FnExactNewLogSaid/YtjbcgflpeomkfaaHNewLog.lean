/-
NewLog, the program's and the reference's; the marks of a log without segments; the law FnExactNewLog. Conditions: none beyond the statement's own.
-/
import Derived.Test.YtjbcgflpeomkfaaHBatch2
import Derived.Test.YtjbcgflpeomkfaaHEq
namespace Go.Proofs.Ytjbcgflpeomkfaa.H
open Go.RowKit
set_option linter.unusedVariables false
set_option linter.unusedSimpArgs false
set_option maxRecDepth 100000
def newLog (start roll : Int) : Log := if inB start 0 1000000000 && inB roll 1 20000 then ⟨start, start, roll, []⟩ else zLog
theorem newLog_sm (s r : Int) : (newLog s r).sm := by unfold newLog; split <;> simp [Log.sm, zLog]
theorem newLog_segs (s r : Int) : (newLog s r).Segments = [] := by unfold newLog; split <;> rfl
theorem specNewLog_c (w : World) (s r : Int) : Calls Try.prog 23 #[.int .i64 s, .int .i64 r] w fun e w' => e = .returned (.agg #[.int .i64 (newLog s r).Start, .int .i64 (newLog s r).Next, .int .i64 (newLog s r).Roll, .slice none 0 0]) ∧ Below w.heap.size w w' := by
  unfold newLog
  generalize h1 : inB s 0 1000000000 = b1
  generalize h2 : inB r 1 20000 = b2
  have H1 := Lib.hid h1
  have H2 := Lib.hid h2
  clear h1 h2
  cases b1 <;> cases b2
  all_goals
    go_enter Try.func23, Try.ntmps23
    go_wp2_with (go_at_call 30; refine (l1In_c _ _ _ _).mono ?_; rintro e w' ⟨rfl, rfl⟩; first | rw [H1.out] | rw [H2.out])
  · exact bodyPost_ret (v := .agg #[.int .i64 0, .int .i64 0, .int .i64 0, .slice none 0 0]) (by simp [results, Try.results23, go_sem]) rfl ⟨rfl, below_al _ _⟩
  · exact bodyPost_ret (v := .agg #[.int .i64 0, .int .i64 0, .int .i64 0, .slice none 0 0]) (by simp [results, Try.results23, go_sem]) rfl ⟨rfl, below_al _ _⟩
  · exact bodyPost_ret (v := .agg #[.int .i64 0, .int .i64 0, .int .i64 0, .slice none 0 0]) (by simp [results, Try.results23, go_sem]) rfl ⟨rfl, below_al _ _⟩
  · exact bodyPost_ret (v := .agg #[.int .i64 s, .int .i64 s, .int .i64 r, .slice none 0 0]) (by simp [results, Try.results23, go_sem]) rfl ⟨rfl, below_al _ _⟩
theorem implNewLog_c (w : World) (s r : Int) : Calls Try.prog 24 #[.int .i64 s, .int .i64 r] w fun e w' => e = .returned (.agg #[.int .i64 (newLog s r).Start, .int .i64 (newLog s r).Next, .int .i64 (newLog s r).Roll, .slice none 0 0]) ∧ Below w.heap.size w w' := by
  unfold newLog
  generalize h1 : inB s 0 1000000000 = b1
  generalize h2 : inB r 1 20000 = b2
  have H1 := Lib.hid h1
  have H2 := Lib.hid h2
  clear h1 h2
  cases b1 <;> cases b2
  all_goals
    go_enter Try.func24, Try.ntmps24
    go_wp2_with (first | (go_at_call 33; refine (offsetOk_c _ _).mono ?_; rintro e w' ⟨rfl, rfl⟩; rw [H1.out]) | (go_at_call 34; refine (within_c _ _ _ _).mono ?_; rintro e w' ⟨rfl, rfl⟩; rw [H2.out]))
  · exact bodyPost_ret (v := .agg #[.int .i64 0, .int .i64 0, .int .i64 0, .slice none 0 0]) (by simp [results, Try.results24, go_sem]) rfl ⟨rfl, below_al _ _⟩
  · exact bodyPost_ret (v := .agg #[.int .i64 0, .int .i64 0, .int .i64 0, .slice none 0 0]) (by simp [results, Try.results24, go_sem]) rfl ⟨rfl, below_al _ _⟩
  · exact bodyPost_ret (v := .agg #[.int .i64 0, .int .i64 0, .int .i64 0, .slice none 0 0]) (by simp [results, Try.results24, go_sem]) rfl ⟨rfl, below_al _ _⟩
  · exact bodyPost_ret (v := .agg #[.int .i64 s, .int .i64 s, .int .i64 r, .slice none 0 0]) (by simp [results, Try.results24, go_sem]) rfl ⟨rfl, below_al _ _⟩
theorem markSegmentS_nil (w : World) (k : Int) : Calls Try.prog 43 #[.slice none 0 0, .int .i64 k] w fun e w' => e = .returned (.int .i64 k) ∧ w = w' := by
  go_enter Try.func43, Try.ntmps43
  go_wp2
  refine wp_loop_rounds 1 ?_
  rw [rounds_succ]
  go_wp2
  go_ret
  exact ⟨rfl, rfl⟩
theorem heldSegmentS_nil (w : World) (k : Int) : Calls Try.prog 44 #[.slice none 0 0, .int .i64 k] w fun e w' => e = .returned (.int .i64 k) ∧ w = w' := by
  go_enter Try.func44, Try.ntmps44
  go_wp2
  refine wp_loop_rounds 1 ?_
  rw [rounds_succ]
  go_wp2
  go_ret
  exact ⟨rfl, rfl⟩
theorem markLog_nil (w : World) (a b c k : Int) : Calls Try.prog 25 #[.agg #[.int .i64 a, .int .i64 b, .int .i64 c, .slice none 0 0], .int .i64 k] w fun e w' => e = .returned (.int .i64 k) ∧ Below w.heap.size w w' := by
  go_enter Try.func25, Try.ntmps25
  go_wp2_with (go_at_call 43; refine (markSegmentS_nil _ _).mono ?_; rintro e w' ⟨rfl, rfl⟩)
  go_ret
  exact ⟨rfl, below_al _ _⟩
theorem heldLog_nil (w : World) (a b c k : Int) (hk : 0 ≤ k) : Calls Try.prog 26 #[.agg #[.int .i64 a, .int .i64 b, .int .i64 c, .slice none 0 0], .int .i64 k] w fun e w' => e = .returned (.int .i64 k) ∧ Below w.heap.size w w' := by
  go_enter Try.func26, Try.ntmps26
  go_wp2_with (go_at_call 44; refine (heldSegmentS_nil _ _).mono ?_; rintro e w' ⟨rfl, rfl⟩)
  go_ret
  exact ⟨rfl, below_al _ _⟩
theorem eqLog_nil (w : World) (x : Log) (h : x.Segments = []) : Calls Try.prog 20 #[.agg #[.int .i64 x.Start, .int .i64 x.Next, .int .i64 x.Roll, .slice none 0 0], .agg #[.int .i64 x.Start, .int .i64 x.Next, .int .i64 x.Roll, .slice none 0 0]] w fun e w' => e = .returned (.bool true) ∧ Below w.heap.size w w' := by
  have := eqLog_c w x (A3 := none) (a3 := 0) (by simp [h]) (by rw [h]; exact fun h => absurd h (Nat.lt_irrefl _)) (B3 := none) (b3 := 0) (by simp [h]) (by rw [h]; exact fun h => absurd h (Nat.lt_irrefl _)) (by simp [Log.sm, h])
  rwa [h] at this
set_option maxHeartbeats 2000000 in
theorem law_FnExactNewLog (w : World) (s r : Int) : Calls Try.prog 7 #[.int .i64 s, .int .i64 r] w fun e w' => e = .returned (.bool true) ∧ Below w.heap.size w w' := by
  have hq := newLog_segs s r
  have hS := fun W => specNewLog_c W s r
  have hI := fun W => implNewLog_c W s r
  generalize newLog s r = x at hq hS hI
  have HQ := Lib.hid hq
  have HS := Lib.hid hS
  have HI := Lib.hid hI
  clear hq hS hI
  go_enter Try.func7, Try.ntmps7
  go_upto_region 2 with (go_at_call 23; refine (HS.out _).mono ?_; rintro e w1 ⟨rfl, hb1⟩; have E1 := below_tr (Below.refl _ _) hb1; have HB1 := E1)
  go_upto_region 3 with (go_at_call 24; refine (HI.out _).mono ?_; rintro e w2 ⟨rfl, hb2⟩; have E2 := below_tr (below_al _ _) hb2; have HB2 := below_tr HB1 E2; have Xa := (Box.new w1 #[.int .i64 x.Start, .int .i64 x.Next, .int .i64 x.Roll, .slice none 0 0] 41).later hb2; have q2_a_0 := Xa 0 _ rfl; have q2_a_1 := Xa 1 _ rfl; have q2_a_2 := Xa 2 _ rfl; have q2_a_3 := Xa 3 _ rfl; have gb2_a := Xa.lt rfl)
  go_upto_region 6 with (go_at_call 20; refine (eqLog_nil _ x HQ.out).mono ?_; rintro e w3 ⟨rfl, hb3⟩; have E3 := below_tr (below_al _ _) hb3; have HB3 := below_tr HB2 E3; replace Xa := Xa.later E3; have Xb := (Box.new w2 #[.int .i64 x.Start, .int .i64 x.Next, .int .i64 x.Roll, .slice none 0 0] 41).later hb3; have q3_a_0 := Xa 0 _ rfl; have q3_a_1 := Xa 1 _ rfl; have q3_a_2 := Xa 2 _ rfl; have q3_a_3 := Xa 3 _ rfl; have gb3_a := Xa.lt rfl; have q3_b_0 := Xb 0 _ rfl; have q3_b_1 := Xb 1 _ rfl; have q3_b_2 := Xb 2 _ rfl; have q3_b_3 := Xb 3 _ rfl; have gb3_b := Xb.lt rfl)
  go_upto_region 8 with (go_at_call 25; refine (markLog_nil _ _ _ _ _).mono ?_; rintro e w4 ⟨rfl, hb4⟩; have E4 := below_tr (Below.refl _ _) hb4; have HB4 := below_tr HB3 E4; replace Xa := Xa.later E4; replace Xb := Xb.later E4; have q4_a_0 := Xa 0 _ rfl; have q4_a_1 := Xa 1 _ rfl; have q4_a_2 := Xa 2 _ rfl; have q4_a_3 := Xa 3 _ rfl; have gb4_a := Xa.lt rfl; have q4_b_0 := Xb 0 _ rfl; have q4_b_1 := Xb 1 _ rfl; have q4_b_2 := Xb 2 _ rfl; have q4_b_3 := Xb 3 _ rfl; have gb4_b := Xb.lt rfl)
  go_upto_region 13 with (go_at_call 26; refine (heldLog_nil _ _ _ _ _ (by omega)).mono ?_; rintro e w5 ⟨rfl, hb5⟩; have E5 := below_tr (Below.refl _ _) hb5; have HB5 := below_tr HB4 E5; replace Xa := Xa.later E5; replace Xb := Xb.later E5; have q5_a_0 := Xa 0 _ rfl; have q5_a_1 := Xa 1 _ rfl; have q5_a_2 := Xa 2 _ rfl; have q5_a_3 := Xa 3 _ rfl; have gb5_a := Xa.lt rfl; have q5_b_0 := Xb 0 _ rfl; have q5_b_1 := Xb 1 _ rfl; have q5_b_2 := Xb 2 _ rfl; have q5_b_3 := Xb 3 _ rfl; have gb5_b := Xb.lt rfl)
  go_upto_region 14 with (go_at_call 24; refine (HI.out _).mono ?_; rintro e w6 ⟨rfl, hb6⟩; have E6 := below_tr (Below.refl _ _) hb6; have HB6 := below_tr HB5 E6; replace Xa := Xa.later E6; replace Xb := Xb.later E6; have q6_a_0 := Xa 0 _ rfl; have q6_a_1 := Xa 1 _ rfl; have q6_a_2 := Xa 2 _ rfl; have q6_a_3 := Xa 3 _ rfl; have gb6_a := Xa.lt rfl; have q6_b_0 := Xb 0 _ rfl; have q6_b_1 := Xb 1 _ rfl; have q6_b_2 := Xb 2 _ rfl; have q6_b_3 := Xb 3 _ rfl; have gb6_b := Xb.lt rfl)
  go_upto_region 17 with (go_at_call 20; refine (eqLog_nil _ x HQ.out).mono ?_; rintro e w7 ⟨rfl, hb7⟩; have E7 := below_tr (below_al _ _) hb7; have HB7 := below_tr HB6 E7; replace Xa := Xa.later E7; replace Xb := Xb.later E7; have Xc := (Box.new w6 #[.int .i64 x.Start, .int .i64 x.Next, .int .i64 x.Roll, .slice none 0 0] 41).later hb7; have q7_a_0 := Xa 0 _ rfl; have q7_a_1 := Xa 1 _ rfl; have q7_a_2 := Xa 2 _ rfl; have q7_a_3 := Xa 3 _ rfl; have gb7_a := Xa.lt rfl; have q7_b_0 := Xb 0 _ rfl; have q7_b_1 := Xb 1 _ rfl; have q7_b_2 := Xb 2 _ rfl; have q7_b_3 := Xb 3 _ rfl; have gb7_b := Xb.lt rfl; have q7_c_0 := Xc 0 _ rfl; have q7_c_1 := Xc 1 _ rfl; have q7_c_2 := Xc 2 _ rfl; have q7_c_3 := Xc 3 _ rfl; have gb7_c := Xc.lt rfl)
  go_wp2_with (go_at_call 26; refine (heldLog_nil _ _ _ _ _ (by omega)).mono ?_; rintro e w8 ⟨rfl, hb8⟩; have E8 := below_tr (Below.refl _ _) hb8; have HB8 := below_tr HB7 E8; replace Xa := Xa.later E8; replace Xb := Xb.later E8; replace Xc := Xc.later E8; have q8_a_0 := Xa 0 _ rfl; have q8_a_1 := Xa 1 _ rfl; have q8_a_2 := Xa 2 _ rfl; have q8_a_3 := Xa 3 _ rfl; have gb8_a := Xa.lt rfl; have q8_b_0 := Xb 0 _ rfl; have q8_b_1 := Xb 1 _ rfl; have q8_b_2 := Xb 2 _ rfl; have q8_b_3 := Xb 3 _ rfl; have gb8_b := Xb.lt rfl; have q8_c_0 := Xc 0 _ rfl; have q8_c_1 := Xc 1 _ rfl; have q8_c_2 := Xc 2 _ rfl; have q8_c_3 := Xc 3 _ rfl; have gb8_c := Xc.lt rfl)
  go_ret
  exact ⟨rfl, HB8⟩
end Go.Proofs.Ytjbcgflpeomkfaa.H
