/-
FnExactLastOffset: for every batch the law answers true: the program's LastOffset answers as the reference's, and leaves its argument as it was.
Conditions: none beyond the statement's own.
(Part 4 of 5.)
-/
import Derived.Test.YtjbcgflpeomkfaaCFnExactLastOffset3
namespace Go.Proofs.Ytjbcgflpeomkfaa.F
open Go.RowKit Go.Proofs.YtjbcgflpeomkfaaW.PrintWords Go.Proofs.YtjbcgflpeomkfaaW.PrintLast Go.Proofs.YtjbcgflpeomkfaaW.PrintMore
attribute [local go_sem] max2_int min2_int max_two min_two max_three min_three max_four min_four   -- for this text's walks alone
attribute [local go_sem high] Go.Proofs.Ytjbcgflpeomkfaa.Add.string_leq Go.Proofs.Ytjbcgflpeomkfaa.Add.string_gtr
open Go.Proofs.YtjbcgflpeomkfaaW.PrintWords renaming pw_below_drewN → bDN, below_drew1 → bD1, below_alloc → bAl, blk_cell → kCe, blk_frozen → kFr
set_option linter.unusedVariables false
set_option linter.unusedSimpArgs false

/-! ### spec_LastOffset: function 14 -/
def spec_LastOffset.f (k : Nat) (a0_0 : Int) (a0_1 : Int) (a0_2 : Int) (a0_3 : Int) (a0_4 : Int) (a0_5 : Int) (l0_6 : List (S56)) : Option (Int) := (spec_BatchOk.f k a0_0 a0_1 a0_2 a0_3 a0_4 a0_5 l0_6).bind fun t239 => (if t239 = true then (some (wrap64 ((wrap64 (a0_0 + (l0_6.length : Int))) - 1))) else (some (-1)))
theorem spec_LastOffset.mono : ∀ a0 a1 a2 a3 a4 a5 a6 k, LeO (spec_LastOffset.f k a0 a1 a2 a3 a4 a5 a6) (spec_LastOffset.f (k + 1) a0 a1 a2 a3 a4 a5 a6) := by
 intro a0 a1 a2 a3 a4 a5 a6 k
 unfold spec_LastOffset.f
 repeat' first
   | (with_reducible exact spec_BatchOk.mono _ _ _ _ _ _ _ _)
   | (with_reducible exact LeO.refl _)
   | (with_reducible exact LeO.none _)
   | (with_reducible refine LeO.ite ?_ ?_)
   | (with_reducible refine LeO.bind ?_ (fun _ => ?_))
   | exact spec_BatchOk.mono _ _ _ _ _ _ _ _
   | exact LeO.none _
   | refine LeO.ite ?_ ?_
   | refine LeO.bind ?_ (fun _ => ?_)
set_option maxHeartbeats 8000000 in
set_option maxRecDepth 100000 in
theorem spec_LastOffset.calls (k : Nat) (a0_0 : Int) (a0_1 : Int) (a0_2 : Int) (a0_3 : Int) (a0_4 : Int) (a0_5 : Int) (A0_6 : Option Addr) (c0_6 : Nat) (l0_6 : List (S56)) (r : Int) (w : World) (hr0_6 : Kd.C k56 w A0_6 l0_6.length l0_6) (hc0_6 : l0_6.length ≤ c0_6) (h : spec_LastOffset.f k a0_0 a0_1 a0_2 a0_3 a0_4 a0_5 l0_6 = some r) :
  Calls Try.prog 14 #[.agg #[.int .i64 a0_0, .int .i64 a0_1, .int .i64 a0_2, .int .i64 a0_3, .int .i64 a0_4, .int .i64 a0_5, .slice A0_6 l0_6.length c0_6]] w fun e w' => e = .returned (.int .i64 r) ∧ Below w.heap.size w w' := by
 have hu29 := Try.underlying29
 have HR0_6 := Aside0.mk hr0_6
 have HC0_6 := Aside0.mk hc0_6
 clear hr0_6 hc0_6
 have HB := Aside0.mk (Below.refl w.heap.size w)
 have H : ((spec_BatchOk.f k a0_0 a0_1 a0_2 a0_3 a0_4 a0_5 l0_6).bind fun t239 => (if t239 = true then (some (wrap64 ((wrap64 (a0_0 + (l0_6.length : Int))) - 1))) else (some (-1)))) = some r := h
 clear h
 replace H := Option.bind_eq_some_iff.mp H
 obtain ⟨t239, A20, H⟩ := H
 have A2 := Aside0.mk A20
 clear A20
 by_cases c3 : t239 = true
 ·
  subst c3
  rw [if_pos rfl] at H
  obtain rfl := Option.some.inj H
  go_enter Try.func14, Try.ntmps14
  go_wp2_with (first | ((with_reducible refine gate_dst (N := 1) rfl ?_); refine box_event ?hg (N := 1) ?hd (cs := #[.int .i64 a0_0, .int .i64 a0_1, .int .i64 a0_2, .int .i64 a0_3, .int .i64 a0_4, .int .i64 a0_5, .slice A0_6 l0_6.length c0_6]) (t := 29) ?hr ?_; (case hd => rfl); (case hg => rfl); (case hr => first | (go_simp; done) | (go_simp; rfl)); intro gb238 hg w4 hbox hb; have n0_ := Aside0.mk (below_step (by repeat (first | (with_reducible first | exact HB.out | apply bAl | apply bDN | apply bD1) | exact HB.out)) hb); have n1_ := Aside0.mk (hbox); have n2_ := Aside0.mk ((by rw [hg]; exact (below_size (by repeat (first | (with_reducible first | exact HB.out | apply bAl | apply bDN | apply bD1) | exact HB.out))) : w.heap.size ≤ gb238)); have n3_ := Aside0.mk ((by rw [hg]; exact (below_size (by repeat (first | (with_reducible first | exact HB.out | apply bAl | apply bDN | apply bD1) | exact HB.out))) : w.heap.size ≤ gb238)); clear HB; have HB := n0_; have BK238 := n1_; have GW238 := n2_; have GE238 := n3_; clear n0_ n1_ n2_ n3_; clear hb hbox hg; have hcz5_0 : w4.cell? ⟨gb238, 0, none⟩ = some (.int .i64 a0_0) := (kCe BK238.out 0).trans rfl; have hcz5_1 : w4.cell? ⟨gb238, 1, none⟩ = some (.int .i64 a0_1) := (kCe BK238.out 1).trans rfl; have hcz5_2 : w4.cell? ⟨gb238, 2, none⟩ = some (.int .i64 a0_2) := (kCe BK238.out 2).trans rfl; have hcz5_3 : w4.cell? ⟨gb238, 3, none⟩ = some (.int .i64 a0_3) := (kCe BK238.out 3).trans rfl; have hcz5_4 : w4.cell? ⟨gb238, 4, none⟩ = some (.int .i64 a0_4) := (kCe BK238.out 4).trans rfl; have hcz5_5 : w4.cell? ⟨gb238, 5, none⟩ = some (.int .i64 a0_5) := (kCe BK238.out 5).trans rfl; have hcz5_6 : w4.cell? ⟨gb238, 6, none⟩ = some (.slice A0_6 l0_6.length c0_6) := (kCe BK238.out 6).trans rfl; have hfz5_0 := kFr BK238.out 0; have hfz5_1 := kFr BK238.out 1; have hfz5_2 := kFr BK238.out 2; have hfz5_3 := kFr BK238.out 3; have hfz5_4 := kFr BK238.out 4; have hfz5_5 := kFr BK238.out 5; have hfz5_6 := kFr BK238.out 6) | ((with_reducible refine gate_callee (f := 10) rfl ?_); refine goesL_ (some 4) rfl rfl Try.func10 (by kernel_rfl) rfl #[.agg #[.int .i64 a0_0, .int .i64 a0_1, .int .i64 a0_2, .int .i64 a0_3, .int .i64 a0_4, .int .i64 a0_5, .slice A0_6 l0_6.length c0_6]] rfl (by (try simp only [List.map_toArray, List.map_cons, List.map_nil]); first | done | rfl | (simp only [List.length_drop, List.length_take]; rfl)) ?_; (with_reducible refine (spec_BatchOk.calls k a0_0 a0_1 a0_2 a0_3 a0_4 a0_5 _ _ l0_6 true _ ?side1 ?side2 A2.out).mono ?_); (case side1 => repeat (first | exact (Kd.C_below HR0_6.out HB.out) | (with_reducible refine Kd.C_alloc ?_ _) | (with_reducible refine Kd.C_drewN ?_ _) | (with_reducible refine Kd.C_drew ?_))); (case side2 => exact HC0_6.out); rintro e w6 ⟨rfl, hb⟩; refine ⟨_, rfl, ?_⟩; have n0_ := Aside0.mk (blk_below (g := gb238) (o := .cells #[.int .i64 a0_0, .int .i64 a0_1, .int .i64 a0_2, .int .i64 a0_3, .int .i64 a0_4, .int .i64 a0_5, .slice A0_6 l0_6.length c0_6] 29 (0, 0)) (by (with_reducible repeat (first | refine blk_drewN ?_ _ | refine blk_drew ?_ | refine blk_alloc ?_ _)); exact BK238.out) hb); have n1_ := Aside0.mk (below_step (by repeat (first | (with_reducible first | exact HB.out | apply bAl | apply bDN | apply bD1 | refine below_set ?_ GE238.out) | exact HB.out)) hb); clear BK238; clear HB; have BK238 := n0_; have HB := n1_; clear n0_ n1_; (try clear hb); (try clear hb2); (try clear hk); (try clear hi); have hcz7_0 : w6.cell? ⟨gb238, 0, none⟩ = some (.int .i64 a0_0) := (kCe BK238.out 0).trans rfl; have hcz7_1 : w6.cell? ⟨gb238, 1, none⟩ = some (.int .i64 a0_1) := (kCe BK238.out 1).trans rfl; have hcz7_2 : w6.cell? ⟨gb238, 2, none⟩ = some (.int .i64 a0_2) := (kCe BK238.out 2).trans rfl; have hcz7_3 : w6.cell? ⟨gb238, 3, none⟩ = some (.int .i64 a0_3) := (kCe BK238.out 3).trans rfl; have hcz7_4 : w6.cell? ⟨gb238, 4, none⟩ = some (.int .i64 a0_4) := (kCe BK238.out 4).trans rfl; have hcz7_5 : w6.cell? ⟨gb238, 5, none⟩ = some (.int .i64 a0_5) := (kCe BK238.out 5).trans rfl; have hcz7_6 : w6.cell? ⟨gb238, 6, none⟩ = some (.slice A0_6 l0_6.length c0_6) := (kCe BK238.out 6).trans rfl; have hfz7_0 := kFr BK238.out 0; have hfz7_1 := kFr BK238.out 1; have hfz7_2 := kFr BK238.out 2; have hfz7_3 := kFr BK238.out 3; have hfz7_4 := kFr BK238.out 4; have hfz7_5 := kFr BK238.out 5; have hfz7_6 := kFr BK238.out 6))
  go_ret
  exact ⟨by first | rfl | (simp [errW_none, errW_some] <;> rfl) | (simp [*, errW_none, errW_some] <;> rfl), by repeat (first | (with_reducible first | exact HB.out | apply bAl | apply bDN | apply bD1 | refine below_set ?_ GE238.out) | exact HB.out)⟩
 ·
  replace c3 := Bool.eq_false_iff.mpr c3
  subst c3
  rw [if_neg (show ¬ (false = true) by decide)] at H
  obtain rfl := Option.some.inj H
  go_enter Try.func14, Try.ntmps14
  go_wp2_with (first | ((with_reducible refine gate_dst (N := 1) rfl ?_); refine box_event ?hg (N := 1) ?hd (cs := #[.int .i64 a0_0, .int .i64 a0_1, .int .i64 a0_2, .int .i64 a0_3, .int .i64 a0_4, .int .i64 a0_5, .slice A0_6 l0_6.length c0_6]) (t := 29) ?hr ?_; (case hd => rfl); (case hg => rfl); (case hr => first | (go_simp; done) | (go_simp; rfl)); intro gb238 hg w8 hbox hb; have n0_ := Aside0.mk (below_step (by repeat (first | (with_reducible first | exact HB.out | apply bAl | apply bDN | apply bD1) | exact HB.out)) hb); have n1_ := Aside0.mk (hbox); have n2_ := Aside0.mk ((by rw [hg]; exact (below_size (by repeat (first | (with_reducible first | exact HB.out | apply bAl | apply bDN | apply bD1) | exact HB.out))) : w.heap.size ≤ gb238)); have n3_ := Aside0.mk ((by rw [hg]; exact (below_size (by repeat (first | (with_reducible first | exact HB.out | apply bAl | apply bDN | apply bD1) | exact HB.out))) : w.heap.size ≤ gb238)); clear HB; have HB := n0_; have BK238 := n1_; have GW238 := n2_; have GE238 := n3_; clear n0_ n1_ n2_ n3_; clear hb hbox hg; have hcz9_0 : w8.cell? ⟨gb238, 0, none⟩ = some (.int .i64 a0_0) := (kCe BK238.out 0).trans rfl; have hcz9_1 : w8.cell? ⟨gb238, 1, none⟩ = some (.int .i64 a0_1) := (kCe BK238.out 1).trans rfl; have hcz9_2 : w8.cell? ⟨gb238, 2, none⟩ = some (.int .i64 a0_2) := (kCe BK238.out 2).trans rfl; have hcz9_3 : w8.cell? ⟨gb238, 3, none⟩ = some (.int .i64 a0_3) := (kCe BK238.out 3).trans rfl; have hcz9_4 : w8.cell? ⟨gb238, 4, none⟩ = some (.int .i64 a0_4) := (kCe BK238.out 4).trans rfl; have hcz9_5 : w8.cell? ⟨gb238, 5, none⟩ = some (.int .i64 a0_5) := (kCe BK238.out 5).trans rfl; have hcz9_6 : w8.cell? ⟨gb238, 6, none⟩ = some (.slice A0_6 l0_6.length c0_6) := (kCe BK238.out 6).trans rfl; have hfz9_0 := kFr BK238.out 0; have hfz9_1 := kFr BK238.out 1; have hfz9_2 := kFr BK238.out 2; have hfz9_3 := kFr BK238.out 3; have hfz9_4 := kFr BK238.out 4; have hfz9_5 := kFr BK238.out 5; have hfz9_6 := kFr BK238.out 6) | ((with_reducible refine gate_callee (f := 10) rfl ?_); refine goesL_ (some 4) rfl rfl Try.func10 (by kernel_rfl) rfl #[.agg #[.int .i64 a0_0, .int .i64 a0_1, .int .i64 a0_2, .int .i64 a0_3, .int .i64 a0_4, .int .i64 a0_5, .slice A0_6 l0_6.length c0_6]] rfl (by (try simp only [List.map_toArray, List.map_cons, List.map_nil]); first | done | rfl | (simp only [List.length_drop, List.length_take]; rfl)) ?_; (with_reducible refine (spec_BatchOk.calls k a0_0 a0_1 a0_2 a0_3 a0_4 a0_5 _ _ l0_6 false _ ?side1 ?side2 A2.out).mono ?_); (case side1 => repeat (first | exact (Kd.C_below HR0_6.out HB.out) | (with_reducible refine Kd.C_alloc ?_ _) | (with_reducible refine Kd.C_drewN ?_ _) | (with_reducible refine Kd.C_drew ?_))); (case side2 => exact HC0_6.out); rintro e w10 ⟨rfl, hb⟩; refine ⟨_, rfl, ?_⟩; have n0_ := Aside0.mk (blk_below (g := gb238) (o := .cells #[.int .i64 a0_0, .int .i64 a0_1, .int .i64 a0_2, .int .i64 a0_3, .int .i64 a0_4, .int .i64 a0_5, .slice A0_6 l0_6.length c0_6] 29 (0, 0)) (by (with_reducible repeat (first | refine blk_drewN ?_ _ | refine blk_drew ?_ | refine blk_alloc ?_ _)); exact BK238.out) hb); have n1_ := Aside0.mk (below_step (by repeat (first | (with_reducible first | exact HB.out | apply bAl | apply bDN | apply bD1 | refine below_set ?_ GE238.out) | exact HB.out)) hb); clear BK238; clear HB; have BK238 := n0_; have HB := n1_; clear n0_ n1_; (try clear hb); (try clear hb2); (try clear hk); (try clear hi)))
  go_ret
  exact ⟨by first | rfl | (simp [errW_none, errW_some] <;> rfl) | (simp [*, errW_none, errW_some] <;> rfl), by repeat (first | (with_reducible first | exact HB.out | apply bAl | apply bDN | apply bD1 | refine below_set ?_ GE238.out) | exact HB.out)⟩

end Go.Proofs.Ytjbcgflpeomkfaa.F

namespace Go.Proofs.Ytjbcgflpeomkfaa.F
open Go.RowKit Go.Proofs.YtjbcgflpeomkfaaW.PrintWords Go.Proofs.YtjbcgflpeomkfaaW.PrintLast Go.Proofs.YtjbcgflpeomkfaaW.PrintMore
attribute [local go_sem] max2_int min2_int max_two min_two max_three min_three max_four min_four   -- for this text's walks alone
attribute [local go_sem high] Go.Proofs.Ytjbcgflpeomkfaa.Add.string_leq Go.Proofs.Ytjbcgflpeomkfaa.Add.string_gtr
set_option linter.unusedVariables false
set_option linter.unusedSimpArgs false

/-! ### impl_offsetOk: function 33 -/
def impl_offsetOk.f (a0 : Int) : Option (Bool) := if a0 ≥ 0 then (some (decide (a0 ≤ 1000000000))) else (some false)
set_option maxHeartbeats 8000000 in
set_option maxRecDepth 100000 in
theorem impl_offsetOk.calls (a0 : Int) (r : Bool) (w : World) (h : impl_offsetOk.f a0 = some r) :
  Calls Try.prog 33 #[.int .i64 a0] w fun e w' => e = .returned (.bool r) ∧ Drawn0 w w' := by
 have H : (if a0 ≥ 0 then (some (decide (a0 ≤ 1000000000))) else (some false)) = some r := h
 clear h
 by_cases c2 : a0 ≥ 0
 ·
  rw [if_pos c2] at H
  have c2b0 : decide (0 ≤ a0) = true := decide_eq_true c2
  clear c2
  obtain rfl := Option.some.inj H
  go_enter Try.func33, Try.ntmps33
  go_wp2
  go_ret
  exact ⟨by first | rfl | (simp; done) | (simp [*]; done) | exact Go.Proofs.Ytjbcgflpeomkfaa.Add.isEmpty_bne _, by repeat (first | exact Drawn0.refl _ | apply Drawn0.step)⟩
 ·
  rw [if_neg c2] at H
  have c2b0 : decide (0 ≤ a0) = false := decide_eq_false c2
  clear c2
  obtain rfl := Option.some.inj H
  go_enter Try.func33, Try.ntmps33
  go_wp2
  go_ret
  exact ⟨by first | rfl | (simp; done) | (simp [*]; done) | exact Go.Proofs.Ytjbcgflpeomkfaa.Add.isEmpty_bne _, by repeat (first | exact Drawn0.refl _ | apply Drawn0.step)⟩

end Go.Proofs.Ytjbcgflpeomkfaa.F

namespace Go.Proofs.Ytjbcgflpeomkfaa.F
open Go.RowKit Go.Proofs.YtjbcgflpeomkfaaW.PrintWords Go.Proofs.YtjbcgflpeomkfaaW.PrintLast Go.Proofs.YtjbcgflpeomkfaaW.PrintMore
attribute [local go_sem] max2_int min2_int max_two min_two max_three min_three max_four min_four   -- for this text's walks alone
attribute [local go_sem high] Go.Proofs.Ytjbcgflpeomkfaa.Add.string_leq Go.Proofs.Ytjbcgflpeomkfaa.Add.string_gtr
set_option linter.unusedVariables false
set_option linter.unusedSimpArgs false

/-! ### impl_within: function 34 -/
def impl_within.f (a0 : Int) (a1 : Int) (a2 : Int) : Option (Bool) := if a0 ≥ a1 then (some (decide (a0 ≤ a2))) else (some false)
set_option maxHeartbeats 8000000 in
set_option maxRecDepth 100000 in
theorem impl_within.calls (a0 : Int) (a1 : Int) (a2 : Int) (r : Bool) (w : World) (h : impl_within.f a0 a1 a2 = some r) :
  Calls Try.prog 34 #[.int .i64 a0, .int .i64 a1, .int .i64 a2] w fun e w' => e = .returned (.bool r) ∧ Drawn0 w w' := by
 have H : (if a0 ≥ a1 then (some (decide (a0 ≤ a2))) else (some false)) = some r := h
 clear h
 by_cases c4 : a0 ≥ a1
 ·
  rw [if_pos c4] at H
  have c4b0 : decide (a1 ≤ a0) = true := decide_eq_true c4
  clear c4
  obtain rfl := Option.some.inj H
  go_enter Try.func34, Try.ntmps34
  go_wp2
  go_ret
  exact ⟨by first | rfl | (simp; done) | (simp [*]; done) | exact Go.Proofs.Ytjbcgflpeomkfaa.Add.isEmpty_bne _, by repeat (first | exact Drawn0.refl _ | apply Drawn0.step)⟩
 ·
  rw [if_neg c4] at H
  have c4b0 : decide (a1 ≤ a0) = false := decide_eq_false c4
  clear c4
  obtain rfl := Option.some.inj H
  go_enter Try.func34, Try.ntmps34
  go_wp2
  go_ret
  exact ⟨by first | rfl | (simp; done) | (simp [*]; done) | exact Go.Proofs.Ytjbcgflpeomkfaa.Add.isEmpty_bne _, by repeat (first | exact Drawn0.refl _ | apply Drawn0.step)⟩

end Go.Proofs.Ytjbcgflpeomkfaa.F

namespace Go.Proofs.Ytjbcgflpeomkfaa.F
open Go.RowKit Go.Proofs.YtjbcgflpeomkfaaW.PrintWords Go.Proofs.YtjbcgflpeomkfaaW.PrintLast Go.Proofs.YtjbcgflpeomkfaaW.PrintMore
attribute [local go_sem] max2_int min2_int max_two min_two max_three min_three max_four min_four   -- for this text's walks alone
attribute [local go_sem high] Go.Proofs.Ytjbcgflpeomkfaa.Add.string_leq Go.Proofs.Ytjbcgflpeomkfaa.Add.string_gtr
set_option linter.unusedVariables false
set_option linter.unusedSimpArgs false

/-! ### impl_timeOk: function 57 -/
def impl_timeOk.f (a0 : Int) : Option (Bool) := if a0 ≥ 0 then (some (decide (a0 ≤ 1000000000000))) else (some false)
set_option maxHeartbeats 8000000 in
set_option maxRecDepth 100000 in
theorem impl_timeOk.calls (a0 : Int) (r : Bool) (w : World) (h : impl_timeOk.f a0 = some r) :
  Calls Try.prog 57 #[.int .i64 a0] w fun e w' => e = .returned (.bool r) ∧ Drawn0 w w' := by
 have H : (if a0 ≥ 0 then (some (decide (a0 ≤ 1000000000000))) else (some false)) = some r := h
 clear h
 by_cases c2 : a0 ≥ 0
 ·
  rw [if_pos c2] at H
  have c2b0 : decide (0 ≤ a0) = true := decide_eq_true c2
  clear c2
  obtain rfl := Option.some.inj H
  go_enter Try.func57, Try.ntmps57
  go_wp2
  go_ret
  exact ⟨by first | rfl | (simp; done) | (simp [*]; done) | exact Go.Proofs.Ytjbcgflpeomkfaa.Add.isEmpty_bne _, by repeat (first | exact Drawn0.refl _ | apply Drawn0.step)⟩
 ·
  rw [if_neg c2] at H
  have c2b0 : decide (0 ≤ a0) = false := decide_eq_false c2
  clear c2
  obtain rfl := Option.some.inj H
  go_enter Try.func57, Try.ntmps57
  go_wp2
  go_ret
  exact ⟨by first | rfl | (simp; done) | (simp [*]; done) | exact Go.Proofs.Ytjbcgflpeomkfaa.Add.isEmpty_bne _, by repeat (first | exact Drawn0.refl _ | apply Drawn0.step)⟩

end Go.Proofs.Ytjbcgflpeomkfaa.F

namespace Go.Proofs.Ytjbcgflpeomkfaa.F
open Go.RowKit Go.Proofs.YtjbcgflpeomkfaaW.PrintWords Go.Proofs.YtjbcgflpeomkfaaW.PrintLast Go.Proofs.YtjbcgflpeomkfaaW.PrintMore
attribute [local go_sem] max2_int min2_int max_two min_two max_three min_three max_four min_four   -- for this text's walks alone
attribute [local go_sem high] Go.Proofs.Ytjbcgflpeomkfaa.Add.string_leq Go.Proofs.Ytjbcgflpeomkfaa.Add.string_gtr
set_option linter.unusedVariables false
set_option linter.unusedSimpArgs false

/-! ### impl_textOk: function 58 -/
def impl_textOk.f (a0 : ByteArray) : Option (Bool) := some (decide ((a0.size : Int) ≤ 100))
set_option maxHeartbeats 8000000 in
set_option maxRecDepth 100000 in
theorem impl_textOk.calls (a0 : ByteArray) (r : Bool) (w : World) (h : impl_textOk.f a0 = some r) :
  Calls Try.prog 58 #[.string a0] w fun e w' => e = .returned (.bool r) ∧ Drawn0 w w' := by
 have H : (some (decide ((a0.size : Int) ≤ 100))) = some r := h
 clear h
 obtain rfl := Option.some.inj H
 go_enter Try.func58, Try.ntmps58
 go_wp2
 go_ret
 exact ⟨by first | rfl | (simp; done) | (simp [*]; done) | exact Go.Proofs.Ytjbcgflpeomkfaa.Add.isEmpty_bne _, by repeat (first | exact Drawn0.refl _ | apply Drawn0.step)⟩

end Go.Proofs.Ytjbcgflpeomkfaa.F

namespace Go.Proofs.Ytjbcgflpeomkfaa.F
open Go.RowKit Go.Proofs.YtjbcgflpeomkfaaW.PrintWords Go.Proofs.YtjbcgflpeomkfaaW.PrintLast Go.Proofs.YtjbcgflpeomkfaaW.PrintMore
attribute [local go_sem] max2_int min2_int max_two min_two max_three min_three max_four min_four   -- for this text's walks alone
attribute [local go_sem high] Go.Proofs.Ytjbcgflpeomkfaa.Add.string_leq Go.Proofs.Ytjbcgflpeomkfaa.Add.string_gtr
open Go.Proofs.YtjbcgflpeomkfaaW.PrintWords renaming pw_below_drewN → bDN, below_drew1 → bD1, below_alloc → bAl, blk_drewN → kDN, blk_drew → kDr, blk_alloc → kAl, below_set → bSe, below_size → bSz, blk_cell → kCe, blk_frozen → kFr, gate_callee → gCa
set_option linter.unusedVariables false
set_option linter.unusedSimpArgs false

/-! ### impl_RecordOk: function 48 -/
mutual
def impl_RecordOk.j0 : Nat → Bool → Int → Bool → ByteArray → Bool → ByteArray → List (S74) → Option (Bool)
 | 0, _, _, _, _, _, _, _ => none
 | k + 1, x45, x162000, x162001, x162002, x162003, x162004, x162005 => if x45 = true then (some false) else (impl_RecordOk.l0 k x162005 (x162005.length : Int) 0)
def impl_RecordOk.l0 : Nat → List (S74) → Int → Int → Option (Bool)
 | 0, _, _, _ => none
 | k + 1, x47, x48, x49 => if x49 < x48 then (if 0 ≤ x49 then (if x49 < (x47.length : Int) then (if ((rd_T74 x47 x49).f0).toList = ([] : List UInt8) then (some false) else ((impl_textOk.f ((rd_T74 x47 x49).f0)).bind fun t173 => (if t173 = true then ((impl_textOk.f ((rd_T74 x47 x49).f1)).bind fun t174 => (if t174 = true then (impl_RecordOk.l0 k x47 x48 (wrap64 (x49 + 1))) else (some false))) else (some false)))) else (none)) else (none)) else (some true)
end
def impl_RecordOk.f (k : Nat) (a0_0 : Int) (a0_1 : Bool) (a0_2 : ByteArray) (a0_3 : Bool) (a0_4 : ByteArray) (l0_5 : List (S74)) : Option (Bool) := (impl_timeOk.f a0_0).bind fun t162 => (if t162 = true then (if a0_1 = true then (if a0_3 = true then (if a0_4.toList = ([] : List UInt8) then ((impl_textOk.f a0_2).bind fun t163 => (if t163 = true then ((impl_textOk.f a0_4).bind fun t164 => (if t164 = true then (impl_RecordOk.j0 k (decide ((l0_5.length : Int) > 3)) a0_0 a0_1 a0_2 a0_3 a0_4 l0_5) else (impl_RecordOk.j0 k true a0_0 a0_1 a0_2 a0_3 a0_4 l0_5))) else (impl_RecordOk.j0 k true a0_0 a0_1 a0_2 a0_3 a0_4 l0_5))) else (impl_RecordOk.j0 k true a0_0 a0_1 a0_2 a0_3 a0_4 l0_5)) else ((impl_textOk.f a0_2).bind fun t165 => (if t165 = true then ((impl_textOk.f a0_4).bind fun t166 => (if t166 = true then (impl_RecordOk.j0 k (decide ((l0_5.length : Int) > 3)) a0_0 a0_1 a0_2 a0_3 a0_4 l0_5) else (impl_RecordOk.j0 k true a0_0 a0_1 a0_2 a0_3 a0_4 l0_5))) else (impl_RecordOk.j0 k true a0_0 a0_1 a0_2 a0_3 a0_4 l0_5)))) else (if a0_2.toList = ([] : List UInt8) then (if a0_3 = true then (if a0_4.toList = ([] : List UInt8) then ((impl_textOk.f a0_2).bind fun t167 => (if t167 = true then ((impl_textOk.f a0_4).bind fun t168 => (if t168 = true then (impl_RecordOk.j0 k (decide ((l0_5.length : Int) > 3)) a0_0 a0_1 a0_2 a0_3 a0_4 l0_5) else (impl_RecordOk.j0 k true a0_0 a0_1 a0_2 a0_3 a0_4 l0_5))) else (impl_RecordOk.j0 k true a0_0 a0_1 a0_2 a0_3 a0_4 l0_5))) else (impl_RecordOk.j0 k true a0_0 a0_1 a0_2 a0_3 a0_4 l0_5)) else ((impl_textOk.f a0_2).bind fun t169 => (if t169 = true then ((impl_textOk.f a0_4).bind fun t170 => (if t170 = true then (impl_RecordOk.j0 k (decide ((l0_5.length : Int) > 3)) a0_0 a0_1 a0_2 a0_3 a0_4 l0_5) else (impl_RecordOk.j0 k true a0_0 a0_1 a0_2 a0_3 a0_4 l0_5))) else (impl_RecordOk.j0 k true a0_0 a0_1 a0_2 a0_3 a0_4 l0_5)))) else (impl_RecordOk.j0 k true a0_0 a0_1 a0_2 a0_3 a0_4 l0_5))) else (impl_RecordOk.j0 k true a0_0 a0_1 a0_2 a0_3 a0_4 l0_5))
theorem impl_RecordOk.mono_l : ∀ k, (∀ y0 y1 y2 y3 y4 y5 y6, LeO (impl_RecordOk.j0 k y0 y1 y2 y3 y4 y5 y6) (impl_RecordOk.j0 (k + 1) y0 y1 y2 y3 y4 y5 y6)) ∧ (∀ y0 y1 y2, LeO (impl_RecordOk.l0 k y0 y1 y2) (impl_RecordOk.l0 (k + 1) y0 y1 y2))
 | 0 => ⟨fun _ _ _ _ _ _ _ r h => by simp [impl_RecordOk.j0] at h, fun _ _ _ r h => by simp [impl_RecordOk.l0] at h⟩
 | k + 1 => by
  obtain ⟨ih0, ih1⟩ := impl_RecordOk.mono_l k
  refine ⟨?_, ?_⟩
  ·
   intro y0 y1 y2 y3 y4 y5 y6
   unfold impl_RecordOk.j0
   repeat' first
   | (with_reducible exact ih0 _ _ _ _ _ _ _)
   | (with_reducible exact ih1 _ _ _)
   | (with_reducible exact LeO.refl _)
   | (with_reducible exact LeO.none _)
   | (with_reducible refine LeO.ite ?_ ?_)
   | (with_reducible refine LeO.bind ?_ (fun _ => ?_))
   | exact ih0 _ _ _ _ _ _ _
   | exact ih1 _ _ _
   | exact LeO.none _
   | refine LeO.ite ?_ ?_
   | refine LeO.bind ?_ (fun _ => ?_)
  ·
   intro y0 y1 y2
   unfold impl_RecordOk.l0
   repeat' first
   | (with_reducible exact ih0 _ _ _ _ _ _ _)
   | (with_reducible exact ih1 _ _ _)
   | (with_reducible exact LeO.refl _)
   | (with_reducible exact LeO.none _)
   | (with_reducible refine LeO.ite ?_ ?_)
   | (with_reducible refine LeO.bind ?_ (fun _ => ?_))
   | exact ih0 _ _ _ _ _ _ _
   | exact ih1 _ _ _
   | exact LeO.none _
   | refine LeO.ite ?_ ?_
   | refine LeO.bind ?_ (fun _ => ?_)
theorem impl_RecordOk.mono : ∀ a0 a1 a2 a3 a4 a5 k, LeO (impl_RecordOk.f k a0 a1 a2 a3 a4 a5) (impl_RecordOk.f (k + 1) a0 a1 a2 a3 a4 a5) := by
 intro a0 a1 a2 a3 a4 a5 k
 obtain ⟨ih0, ih1⟩ := impl_RecordOk.mono_l k
 unfold impl_RecordOk.f
 repeat' first
   | (with_reducible exact ih0 _ _ _ _ _ _ _)
   | (with_reducible exact ih1 _ _ _)
   | (with_reducible exact LeO.refl _)
   | (with_reducible exact LeO.none _)
   | (with_reducible refine LeO.ite ?_ ?_)
   | (with_reducible refine LeO.bind ?_ (fun _ => ?_))
   | exact ih0 _ _ _ _ _ _ _
   | exact ih1 _ _ _
   | exact LeO.none _
   | refine LeO.ite ?_ ?_
   | refine LeO.bind ?_ (fun _ => ?_)
set_option maxHeartbeats 8000000 in
set_option maxRecDepth 100000 in
theorem impl_RecordOk.calls (k : Nat) (a0_0 : Int) (a0_1 : Bool) (a0_2 : ByteArray) (a0_3 : Bool) (a0_4 : ByteArray) (A0_5 : Option Addr) (c0_5 : Nat) (l0_5 : List (S74)) (r : Bool) (w : World) (hr0_5 : Kd.C k74 w A0_5 l0_5.length l0_5) (hc0_5 : l0_5.length ≤ c0_5) (h : impl_RecordOk.f k a0_0 a0_1 a0_2 a0_3 a0_4 l0_5 = some r) :
  Calls Try.prog 48 #[.agg #[.int .i64 a0_0, .bool a0_1, .string a0_2, .bool a0_3, .string a0_4, .slice A0_5 l0_5.length c0_5]] w fun e w' => e = .returned (.bool r) ∧ Below w.heap.size w w' := by
 have hu56 := Try.underlying56
 have hu74 := Try.underlying74
 have HR0_5 := Aside0.mk hr0_5
 have HC0_5 := Aside0.mk hc0_5
 clear hr0_5 hc0_5
 have HB := Aside0.mk (Below.refl w.heap.size w)
 have H : ((impl_timeOk.f a0_0).bind fun t162 => (if t162 = true then (if a0_1 = true then (if a0_3 = true then (if a0_4.toList = ([] : List UInt8) then ((impl_textOk.f a0_2).bind fun t163 => (if t163 = true then ((impl_textOk.f a0_4).bind fun t164 => (if t164 = true then (impl_RecordOk.j0 k (decide ((l0_5.length : Int) > 3)) a0_0 a0_1 a0_2 a0_3 a0_4 l0_5) else (impl_RecordOk.j0 k true a0_0 a0_1 a0_2 a0_3 a0_4 l0_5))) else (impl_RecordOk.j0 k true a0_0 a0_1 a0_2 a0_3 a0_4 l0_5))) else (impl_RecordOk.j0 k true a0_0 a0_1 a0_2 a0_3 a0_4 l0_5)) else ((impl_textOk.f a0_2).bind fun t165 => (if t165 = true then ((impl_textOk.f a0_4).bind fun t166 => (if t166 = true then (impl_RecordOk.j0 k (decide ((l0_5.length : Int) > 3)) a0_0 a0_1 a0_2 a0_3 a0_4 l0_5) else (impl_RecordOk.j0 k true a0_0 a0_1 a0_2 a0_3 a0_4 l0_5))) else (impl_RecordOk.j0 k true a0_0 a0_1 a0_2 a0_3 a0_4 l0_5)))) else (if a0_2.toList = ([] : List UInt8) then (if a0_3 = true then (if a0_4.toList = ([] : List UInt8) then ((impl_textOk.f a0_2).bind fun t167 => (if t167 = true then ((impl_textOk.f a0_4).bind fun t168 => (if t168 = true then (impl_RecordOk.j0 k (decide ((l0_5.length : Int) > 3)) a0_0 a0_1 a0_2 a0_3 a0_4 l0_5) else (impl_RecordOk.j0 k true a0_0 a0_1 a0_2 a0_3 a0_4 l0_5))) else (impl_RecordOk.j0 k true a0_0 a0_1 a0_2 a0_3 a0_4 l0_5))) else (impl_RecordOk.j0 k true a0_0 a0_1 a0_2 a0_3 a0_4 l0_5)) else ((impl_textOk.f a0_2).bind fun t169 => (if t169 = true then ((impl_textOk.f a0_4).bind fun t170 => (if t170 = true then (impl_RecordOk.j0 k (decide ((l0_5.length : Int) > 3)) a0_0 a0_1 a0_2 a0_3 a0_4 l0_5) else (impl_RecordOk.j0 k true a0_0 a0_1 a0_2 a0_3 a0_4 l0_5))) else (impl_RecordOk.j0 k true a0_0 a0_1 a0_2 a0_3 a0_4 l0_5)))) else (impl_RecordOk.j0 k true a0_0 a0_1 a0_2 a0_3 a0_4 l0_5))) else (impl_RecordOk.j0 k true a0_0 a0_1 a0_2 a0_3 a0_4 l0_5))) = some r := h
 clear h
 have HC2 := Aside0.mk H
 clear H
 go_enter Try.func48, Try.ntmps48
 go_upto_region 1 with (first | ((with_reducible refine gate_dst (N := 1) rfl ?_); (try (refine gate_guard (by rfl) ?_; dsimp only)); refine box_event ?hg (N := 1) ?hd (cs := #[.int .i64 a0_0, .bool a0_1, .string a0_2, .bool a0_3, .string a0_4, .slice A0_5 l0_5.length c0_5]) (t := 56) ?hr ?_; (case hd => rfl); (case hg => rfl); (case hr => first | (go_simp; done) | (go_simp; rfl)); intro gb161 hg w3 hbox hb; have n0_ := Aside0.mk (below_step (by repeat (first | (with_reducible first | exact HB.out | apply bAl | apply bDN | apply bD1) | exact HB.out)) hb); have n1_ := Aside0.mk (hbox); have n2_ := Aside0.mk ((by rw [hg]; exact (bSz (by repeat (first | (with_reducible first | exact HB.out | apply bAl | apply bDN | apply bD1) | exact HB.out))) : w.heap.size ≤ gb161)); have n3_ := Aside0.mk ((by rw [hg]; exact (bSz (by repeat (first | (with_reducible first | exact HB.out | apply bAl | apply bDN | apply bD1) | exact HB.out))) : w.heap.size ≤ gb161)); clear HB; have HB := n0_; have BK161 := n1_; have GW161 := n2_; have GE161 := n3_; clear n0_ n1_ n2_ n3_; clear hb hbox hg))
 (try simp only [Act.put, List.setIfInBounds_toArray, List.set_cons_zero, List.set_cons_succ])
 go_cut [45] (fun v45 wc => ∃ (kq : Nat) (x45_1 : Bool), v45 = .bool x45_1 ∧ Aside0 (impl_RecordOk.j0 kq x45_1 a0_0 a0_1 a0_2 a0_3 a0_4 l0_5 = some r) ∧ Aside0 (kq ≤ k) ∧ Aside0 (wc.heap[gb161]? = some (.cells #[.int .i64 a0_0, .bool a0_1, .string a0_2, .bool a0_3, .string a0_4, (.slice A0_5 l0_5.length c0_5)] 56 (0, 0))) ∧ Aside0 (Below w.heap.size w wc))
 case first =>
  have H := HC2.out
  clear HC2
  replace H := Option.bind_eq_some_iff.mp H
  obtain ⟨t162, A40, H⟩ := H
  have A4 := Aside0.mk A40
  clear A40
  by_cases c5 : t162 = true
  ·
   subst c5
   rw [if_pos rfl] at H
   by_cases c6 : a0_1 = true
   ·
    subst c6
    rw [if_pos rfl] at H
    by_cases c7 : a0_3 = true
    ·
     subst c7
     rw [if_pos rfl] at H
     by_cases c8 : a0_4.toList = ([] : List UInt8)
     ·
      rw [if_pos c8] at H
      have c8b0 : (a0_4.toList == ([] : List UInt8)) = true := beq_iff_eq.mpr c8
      have c8b1 : (a0_4.toList != ([] : List UInt8)) = false := bne_eq_false_iff_eq.mpr c8
      clear c8
      (first | rw [c8b0] | (simp only [i64_w, i32_w]; rw [c8b0]) | skip)
      replace H := Option.bind_eq_some_iff.mp H
      obtain ⟨t163, A90, H⟩ := H
      have A9 := Aside0.mk A90
      clear A90
      by_cases c10 : t163 = true
      ·
       subst c10
       rw [if_pos rfl] at H
       replace H := Option.bind_eq_some_iff.mp H
       obtain ⟨t164, A110, H⟩ := H
       have A11 := Aside0.mk A110
       clear A110
       by_cases c12 : t164 = true
       ·
        subst c12
        rw [if_pos rfl] at H
        have H' := Aside0.mk H
        clear H
        have hcz13_0 : w3.cell? ⟨gb161, 0, none⟩ = some (.int .i64 a0_0) := (kCe BK161.out 0).trans rfl
        have hcz13_1 : w3.cell? ⟨gb161, 1, none⟩ = some (.bool true) := (kCe BK161.out 1).trans rfl
        have hcz13_2 : w3.cell? ⟨gb161, 2, none⟩ = some (.string a0_2) := (kCe BK161.out 2).trans rfl
        have hcz13_3 : w3.cell? ⟨gb161, 3, none⟩ = some (.bool true) := (kCe BK161.out 3).trans rfl
        have hcz13_4 : w3.cell? ⟨gb161, 4, none⟩ = some (.string a0_4) := (kCe BK161.out 4).trans rfl
        have hcz13_5 : w3.cell? ⟨gb161, 5, none⟩ = some (.slice A0_5 l0_5.length c0_5) := (kCe BK161.out 5).trans rfl
        have hfz13_0 := kFr BK161.out 0
        have hfz13_1 := kFr BK161.out 1
        have hfz13_2 := kFr BK161.out 2
        have hfz13_3 := kFr BK161.out 3
        have hfz13_4 := kFr BK161.out 4
        have hfz13_5 := kFr BK161.out 5
        go_wp2_with (first | ((with_reducible refine gCa (f := 57) rfl ?_); refine goesL_ (some 7) rfl rfl Try.func57 (by kernel_rfl) rfl #[.int .i64 a0_0] rfl (by (try simp only [List.map_toArray, List.map_cons, List.map_nil]); first | done | rfl | (simp only [List.length_drop, List.length_take]; rfl)) ?_; (with_reducible refine (impl_timeOk.calls a0_0 true _ A4.out).mono ?_); rintro e w' ⟨rfl, ⟨nd, rfl⟩⟩; refine ⟨_, rfl, ?_⟩) | (go_at_call 58; (with_reducible refine (impl_textOk.calls a0_2 true _ A9.out).mono ?_); rintro e w' ⟨rfl, ⟨nd, rfl⟩⟩) | (go_at_call 58; (with_reducible refine (impl_textOk.calls a0_4 true _ A11.out).mono ?_); rintro e w' ⟨rfl, ⟨nd, rfl⟩⟩))
        go_meet
        case rel => exact ⟨_, (decide ((l0_5.length : Int) > 3)), (by first | rfl | (simp; done) | (simp [*]; done) | exact Go.Proofs.Ytjbcgflpeomkfaa.Add.isEmpty_bne _), H', ⟨by first | omega | exact Nat.le_refl _⟩, ⟨by (with_reducible repeat first | refine kDN ?_ _ | refine kDr ?_ | refine kAl ?_ _); exact BK161.out⟩, ⟨by repeat (first | (with_reducible first | exact HB.out | apply bAl | apply bDN | apply bD1 | refine bSe ?_ GE161.out) | exact HB.out)⟩⟩
       ·
        replace c12 := Bool.eq_false_iff.mpr c12
        subst c12
        rw [if_neg (show ¬ (false = true) by decide)] at H
        have H' := Aside0.mk H
        clear H
        have hcz14_0 : w3.cell? ⟨gb161, 0, none⟩ = some (.int .i64 a0_0) := (kCe BK161.out 0).trans rfl
        have hcz14_1 : w3.cell? ⟨gb161, 1, none⟩ = some (.bool true) := (kCe BK161.out 1).trans rfl
        have hcz14_2 : w3.cell? ⟨gb161, 2, none⟩ = some (.string a0_2) := (kCe BK161.out 2).trans rfl
        have hcz14_3 : w3.cell? ⟨gb161, 3, none⟩ = some (.bool true) := (kCe BK161.out 3).trans rfl
        have hcz14_4 : w3.cell? ⟨gb161, 4, none⟩ = some (.string a0_4) := (kCe BK161.out 4).trans rfl
        have hcz14_5 : w3.cell? ⟨gb161, 5, none⟩ = some (.slice A0_5 l0_5.length c0_5) := (kCe BK161.out 5).trans rfl
        have hfz14_0 := kFr BK161.out 0
        have hfz14_1 := kFr BK161.out 1
        have hfz14_2 := kFr BK161.out 2
        have hfz14_3 := kFr BK161.out 3
        have hfz14_4 := kFr BK161.out 4
        have hfz14_5 := kFr BK161.out 5
        go_wp2_with (first | ((with_reducible refine gCa (f := 57) rfl ?_); refine goesL_ (some 7) rfl rfl Try.func57 (by kernel_rfl) rfl #[.int .i64 a0_0] rfl (by (try simp only [List.map_toArray, List.map_cons, List.map_nil]); first | done | rfl | (simp only [List.length_drop, List.length_take]; rfl)) ?_; (with_reducible refine (impl_timeOk.calls a0_0 true _ A4.out).mono ?_); rintro e w' ⟨rfl, ⟨nd, rfl⟩⟩; refine ⟨_, rfl, ?_⟩) | (go_at_call 58; (with_reducible refine (impl_textOk.calls a0_2 true _ A9.out).mono ?_); rintro e w' ⟨rfl, ⟨nd, rfl⟩⟩) | (go_at_call 58; (with_reducible refine (impl_textOk.calls a0_4 false _ A11.out).mono ?_); rintro e w' ⟨rfl, ⟨nd, rfl⟩⟩))
        go_meet
        case rel => exact ⟨_, (true), (by first | rfl | (simp; done) | (simp [*]; done) | exact Go.Proofs.Ytjbcgflpeomkfaa.Add.isEmpty_bne _), H', ⟨by first | omega | exact Nat.le_refl _⟩, ⟨by (with_reducible repeat first | refine kDN ?_ _ | refine kDr ?_ | refine kAl ?_ _); exact BK161.out⟩, ⟨by repeat (first | (with_reducible first | exact HB.out | apply bAl | apply bDN | apply bD1 | refine bSe ?_ GE161.out) | exact HB.out)⟩⟩
      ·
       replace c10 := Bool.eq_false_iff.mpr c10
       subst c10
       rw [if_neg (show ¬ (false = true) by decide)] at H
       have H' := Aside0.mk H
       clear H
       have hcz15_0 : w3.cell? ⟨gb161, 0, none⟩ = some (.int .i64 a0_0) := (kCe BK161.out 0).trans rfl
       have hcz15_1 : w3.cell? ⟨gb161, 1, none⟩ = some (.bool true) := (kCe BK161.out 1).trans rfl
       have hcz15_2 : w3.cell? ⟨gb161, 2, none⟩ = some (.string a0_2) := (kCe BK161.out 2).trans rfl
       have hcz15_3 : w3.cell? ⟨gb161, 3, none⟩ = some (.bool true) := (kCe BK161.out 3).trans rfl
       have hcz15_4 : w3.cell? ⟨gb161, 4, none⟩ = some (.string a0_4) := (kCe BK161.out 4).trans rfl
       have hcz15_5 : w3.cell? ⟨gb161, 5, none⟩ = some (.slice A0_5 l0_5.length c0_5) := (kCe BK161.out 5).trans rfl
       have hfz15_0 := kFr BK161.out 0
       have hfz15_1 := kFr BK161.out 1
       have hfz15_2 := kFr BK161.out 2
       have hfz15_3 := kFr BK161.out 3
       have hfz15_4 := kFr BK161.out 4
       have hfz15_5 := kFr BK161.out 5
       go_wp2_with (first | ((with_reducible refine gCa (f := 57) rfl ?_); refine goesL_ (some 7) rfl rfl Try.func57 (by kernel_rfl) rfl #[.int .i64 a0_0] rfl (by (try simp only [List.map_toArray, List.map_cons, List.map_nil]); first | done | rfl | (simp only [List.length_drop, List.length_take]; rfl)) ?_; (with_reducible refine (impl_timeOk.calls a0_0 true _ A4.out).mono ?_); rintro e w' ⟨rfl, ⟨nd, rfl⟩⟩; refine ⟨_, rfl, ?_⟩) | (go_at_call 58; (with_reducible refine (impl_textOk.calls a0_2 false _ A9.out).mono ?_); rintro e w' ⟨rfl, ⟨nd, rfl⟩⟩))
       go_meet
       case rel => exact ⟨_, (true), (by first | rfl | (simp; done) | (simp [*]; done) | exact Go.Proofs.Ytjbcgflpeomkfaa.Add.isEmpty_bne _), H', ⟨by first | omega | exact Nat.le_refl _⟩, ⟨by (with_reducible repeat first | refine kDN ?_ _ | refine kDr ?_ | refine kAl ?_ _); exact BK161.out⟩, ⟨by repeat (first | (with_reducible first | exact HB.out | apply bAl | apply bDN | apply bD1 | refine bSe ?_ GE161.out) | exact HB.out)⟩⟩
     ·
      rw [if_neg c8] at H
      have c8b0 : (a0_4.toList == ([] : List UInt8)) = false := beq_eq_false_iff_ne.mpr c8
      have c8b1 : (a0_4.toList != ([] : List UInt8)) = true := bne_iff_ne.mpr c8
      (first | rw [c8b0] | (simp only [i64_w, i32_w]; rw [c8b0]) | skip)
      have H' := Aside0.mk H
      clear H
      have hcz16_0 : w3.cell? ⟨gb161, 0, none⟩ = some (.int .i64 a0_0) := (kCe BK161.out 0).trans rfl
      have hcz16_1 : w3.cell? ⟨gb161, 1, none⟩ = some (.bool true) := (kCe BK161.out 1).trans rfl
      have hcz16_2 : w3.cell? ⟨gb161, 2, none⟩ = some (.string a0_2) := (kCe BK161.out 2).trans rfl
      have hcz16_3 : w3.cell? ⟨gb161, 3, none⟩ = some (.bool true) := (kCe BK161.out 3).trans rfl
      have hcz16_4 : w3.cell? ⟨gb161, 4, none⟩ = some (.string a0_4) := (kCe BK161.out 4).trans rfl
      have hcz16_5 : w3.cell? ⟨gb161, 5, none⟩ = some (.slice A0_5 l0_5.length c0_5) := (kCe BK161.out 5).trans rfl
      have hfz16_0 := kFr BK161.out 0
      have hfz16_1 := kFr BK161.out 1
      have hfz16_2 := kFr BK161.out 2
      have hfz16_3 := kFr BK161.out 3
      have hfz16_4 := kFr BK161.out 4
      have hfz16_5 := kFr BK161.out 5
      go_wp2_with (first | ((with_reducible refine gCa (f := 57) rfl ?_); refine goesL_ (some 7) rfl rfl Try.func57 (by kernel_rfl) rfl #[.int .i64 a0_0] rfl (by (try simp only [List.map_toArray, List.map_cons, List.map_nil]); first | done | rfl | (simp only [List.length_drop, List.length_take]; rfl)) ?_; (with_reducible refine (impl_timeOk.calls a0_0 true _ A4.out).mono ?_); rintro e w' ⟨rfl, ⟨nd, rfl⟩⟩; refine ⟨_, rfl, ?_⟩))
      go_meet
      case rel => exact ⟨_, (true), (by first | rfl | (simp; done) | (simp [*]; done) | exact Go.Proofs.Ytjbcgflpeomkfaa.Add.isEmpty_bne _), H', ⟨by first | omega | exact Nat.le_refl _⟩, ⟨by (with_reducible repeat first | refine kDN ?_ _ | refine kDr ?_ | refine kAl ?_ _); exact BK161.out⟩, ⟨by repeat (first | (with_reducible first | exact HB.out | apply bAl | apply bDN | apply bD1 | refine bSe ?_ GE161.out) | exact HB.out)⟩⟩
    ·
     replace c7 := Bool.eq_false_iff.mpr c7
     subst c7
     rw [if_neg (show ¬ (false = true) by decide)] at H
     replace H := Option.bind_eq_some_iff.mp H
     obtain ⟨t165, A170, H⟩ := H
     have A17 := Aside0.mk A170
     clear A170
     by_cases c18 : t165 = true
     ·
      subst c18
      rw [if_pos rfl] at H
      replace H := Option.bind_eq_some_iff.mp H
      obtain ⟨t166, A190, H⟩ := H
      have A19 := Aside0.mk A190
      clear A190
      by_cases c20 : t166 = true
      ·
       subst c20
       rw [if_pos rfl] at H
       have H' := Aside0.mk H
       clear H
       have hcz21_0 : w3.cell? ⟨gb161, 0, none⟩ = some (.int .i64 a0_0) := (kCe BK161.out 0).trans rfl
       have hcz21_1 : w3.cell? ⟨gb161, 1, none⟩ = some (.bool true) := (kCe BK161.out 1).trans rfl
       have hcz21_2 : w3.cell? ⟨gb161, 2, none⟩ = some (.string a0_2) := (kCe BK161.out 2).trans rfl
       have hcz21_3 : w3.cell? ⟨gb161, 3, none⟩ = some (.bool false) := (kCe BK161.out 3).trans rfl
       have hcz21_4 : w3.cell? ⟨gb161, 4, none⟩ = some (.string a0_4) := (kCe BK161.out 4).trans rfl
       have hcz21_5 : w3.cell? ⟨gb161, 5, none⟩ = some (.slice A0_5 l0_5.length c0_5) := (kCe BK161.out 5).trans rfl
       have hfz21_0 := kFr BK161.out 0
       have hfz21_1 := kFr BK161.out 1
       have hfz21_2 := kFr BK161.out 2
       have hfz21_3 := kFr BK161.out 3
       have hfz21_4 := kFr BK161.out 4
       have hfz21_5 := kFr BK161.out 5
       go_wp2_with (first | ((with_reducible refine gCa (f := 57) rfl ?_); refine goesL_ (some 7) rfl rfl Try.func57 (by kernel_rfl) rfl #[.int .i64 a0_0] rfl (by (try simp only [List.map_toArray, List.map_cons, List.map_nil]); first | done | rfl | (simp only [List.length_drop, List.length_take]; rfl)) ?_; (with_reducible refine (impl_timeOk.calls a0_0 true _ A4.out).mono ?_); rintro e w' ⟨rfl, ⟨nd, rfl⟩⟩; refine ⟨_, rfl, ?_⟩) | (go_at_call 58; (with_reducible refine (impl_textOk.calls a0_2 true _ A17.out).mono ?_); rintro e w' ⟨rfl, ⟨nd, rfl⟩⟩) | (go_at_call 58; (with_reducible refine (impl_textOk.calls a0_4 true _ A19.out).mono ?_); rintro e w' ⟨rfl, ⟨nd, rfl⟩⟩))
       go_meet
       case rel => exact ⟨_, (decide ((l0_5.length : Int) > 3)), (by first | rfl | (simp; done) | (simp [*]; done) | exact Go.Proofs.Ytjbcgflpeomkfaa.Add.isEmpty_bne _), H', ⟨by first | omega | exact Nat.le_refl _⟩, ⟨by (with_reducible repeat first | refine kDN ?_ _ | refine kDr ?_ | refine kAl ?_ _); exact BK161.out⟩, ⟨by repeat (first | (with_reducible first | exact HB.out | apply bAl | apply bDN | apply bD1 | refine bSe ?_ GE161.out) | exact HB.out)⟩⟩
      ·
       replace c20 := Bool.eq_false_iff.mpr c20
       subst c20
       rw [if_neg (show ¬ (false = true) by decide)] at H
       have H' := Aside0.mk H
       clear H
       have hcz22_0 : w3.cell? ⟨gb161, 0, none⟩ = some (.int .i64 a0_0) := (kCe BK161.out 0).trans rfl
       have hcz22_1 : w3.cell? ⟨gb161, 1, none⟩ = some (.bool true) := (kCe BK161.out 1).trans rfl
       have hcz22_2 : w3.cell? ⟨gb161, 2, none⟩ = some (.string a0_2) := (kCe BK161.out 2).trans rfl
       have hcz22_3 : w3.cell? ⟨gb161, 3, none⟩ = some (.bool false) := (kCe BK161.out 3).trans rfl
       have hcz22_4 : w3.cell? ⟨gb161, 4, none⟩ = some (.string a0_4) := (kCe BK161.out 4).trans rfl
       have hcz22_5 : w3.cell? ⟨gb161, 5, none⟩ = some (.slice A0_5 l0_5.length c0_5) := (kCe BK161.out 5).trans rfl
       have hfz22_0 := kFr BK161.out 0
       have hfz22_1 := kFr BK161.out 1
       have hfz22_2 := kFr BK161.out 2
       have hfz22_3 := kFr BK161.out 3
       have hfz22_4 := kFr BK161.out 4
       have hfz22_5 := kFr BK161.out 5
       go_wp2_with (first | ((with_reducible refine gCa (f := 57) rfl ?_); refine goesL_ (some 7) rfl rfl Try.func57 (by kernel_rfl) rfl #[.int .i64 a0_0] rfl (by (try simp only [List.map_toArray, List.map_cons, List.map_nil]); first | done | rfl | (simp only [List.length_drop, List.length_take]; rfl)) ?_; (with_reducible refine (impl_timeOk.calls a0_0 true _ A4.out).mono ?_); rintro e w' ⟨rfl, ⟨nd, rfl⟩⟩; refine ⟨_, rfl, ?_⟩) | (go_at_call 58; (with_reducible refine (impl_textOk.calls a0_2 true _ A17.out).mono ?_); rintro e w' ⟨rfl, ⟨nd, rfl⟩⟩) | (go_at_call 58; (with_reducible refine (impl_textOk.calls a0_4 false _ A19.out).mono ?_); rintro e w' ⟨rfl, ⟨nd, rfl⟩⟩))
       go_meet
       case rel => exact ⟨_, (true), (by first | rfl | (simp; done) | (simp [*]; done) | exact Go.Proofs.Ytjbcgflpeomkfaa.Add.isEmpty_bne _), H', ⟨by first | omega | exact Nat.le_refl _⟩, ⟨by (with_reducible repeat first | refine kDN ?_ _ | refine kDr ?_ | refine kAl ?_ _); exact BK161.out⟩, ⟨by repeat (first | (with_reducible first | exact HB.out | apply bAl | apply bDN | apply bD1 | refine bSe ?_ GE161.out) | exact HB.out)⟩⟩
     ·
      replace c18 := Bool.eq_false_iff.mpr c18
      subst c18
      rw [if_neg (show ¬ (false = true) by decide)] at H
      have H' := Aside0.mk H
      clear H
      have hcz23_0 : w3.cell? ⟨gb161, 0, none⟩ = some (.int .i64 a0_0) := (kCe BK161.out 0).trans rfl
      have hcz23_1 : w3.cell? ⟨gb161, 1, none⟩ = some (.bool true) := (kCe BK161.out 1).trans rfl
      have hcz23_2 : w3.cell? ⟨gb161, 2, none⟩ = some (.string a0_2) := (kCe BK161.out 2).trans rfl
      have hcz23_3 : w3.cell? ⟨gb161, 3, none⟩ = some (.bool false) := (kCe BK161.out 3).trans rfl
      have hcz23_4 : w3.cell? ⟨gb161, 4, none⟩ = some (.string a0_4) := (kCe BK161.out 4).trans rfl
      have hcz23_5 : w3.cell? ⟨gb161, 5, none⟩ = some (.slice A0_5 l0_5.length c0_5) := (kCe BK161.out 5).trans rfl
      have hfz23_0 := kFr BK161.out 0
      have hfz23_1 := kFr BK161.out 1
      have hfz23_2 := kFr BK161.out 2
      have hfz23_3 := kFr BK161.out 3
      have hfz23_4 := kFr BK161.out 4
      have hfz23_5 := kFr BK161.out 5
      go_wp2_with (first | ((with_reducible refine gCa (f := 57) rfl ?_); refine goesL_ (some 7) rfl rfl Try.func57 (by kernel_rfl) rfl #[.int .i64 a0_0] rfl (by (try simp only [List.map_toArray, List.map_cons, List.map_nil]); first | done | rfl | (simp only [List.length_drop, List.length_take]; rfl)) ?_; (with_reducible refine (impl_timeOk.calls a0_0 true _ A4.out).mono ?_); rintro e w' ⟨rfl, ⟨nd, rfl⟩⟩; refine ⟨_, rfl, ?_⟩) | (go_at_call 58; (with_reducible refine (impl_textOk.calls a0_2 false _ A17.out).mono ?_); rintro e w' ⟨rfl, ⟨nd, rfl⟩⟩))
      go_meet
      case rel => exact ⟨_, (true), (by first | rfl | (simp; done) | (simp [*]; done) | exact Go.Proofs.Ytjbcgflpeomkfaa.Add.isEmpty_bne _), H', ⟨by first | omega | exact Nat.le_refl _⟩, ⟨by (with_reducible repeat first | refine kDN ?_ _ | refine kDr ?_ | refine kAl ?_ _); exact BK161.out⟩, ⟨by repeat (first | (with_reducible first | exact HB.out | apply bAl | apply bDN | apply bD1 | refine bSe ?_ GE161.out) | exact HB.out)⟩⟩
   ·
    replace c6 := Bool.eq_false_iff.mpr c6
    subst c6
    rw [if_neg (show ¬ (false = true) by decide)] at H
    by_cases c24 : a0_2.toList = ([] : List UInt8)
    ·
     rw [if_pos c24] at H
     have c24b0 : (a0_2.toList == ([] : List UInt8)) = true := beq_iff_eq.mpr c24
     have c24b1 : (a0_2.toList != ([] : List UInt8)) = false := bne_eq_false_iff_eq.mpr c24
     clear c24
     by_cases c25 : a0_3 = true
     ·
      subst c25
      rw [if_pos rfl] at H
      by_cases c26 : a0_4.toList = ([] : List UInt8)
      ·
       rw [if_pos c26] at H
       have c26b0 : (a0_4.toList == ([] : List UInt8)) = true := beq_iff_eq.mpr c26
       have c26b1 : (a0_4.toList != ([] : List UInt8)) = false := bne_eq_false_iff_eq.mpr c26
       clear c26
       replace H := Option.bind_eq_some_iff.mp H
       obtain ⟨t167, A270, H⟩ := H
       have A27 := Aside0.mk A270
       clear A270
       by_cases c28 : t167 = true
       ·
        subst c28
        rw [if_pos rfl] at H
        replace H := Option.bind_eq_some_iff.mp H
        obtain ⟨t168, A290, H⟩ := H
        have A29 := Aside0.mk A290
        clear A290
        by_cases c30 : t168 = true
        ·
         subst c30
         rw [if_pos rfl] at H
         have H' := Aside0.mk H
         clear H
         have hcz31_0 : w3.cell? ⟨gb161, 0, none⟩ = some (.int .i64 a0_0) := (kCe BK161.out 0).trans rfl
         have hcz31_1 : w3.cell? ⟨gb161, 1, none⟩ = some (.bool false) := (kCe BK161.out 1).trans rfl
         have hcz31_2 : w3.cell? ⟨gb161, 2, none⟩ = some (.string a0_2) := (kCe BK161.out 2).trans rfl
         have hcz31_3 : w3.cell? ⟨gb161, 3, none⟩ = some (.bool true) := (kCe BK161.out 3).trans rfl
         have hcz31_4 : w3.cell? ⟨gb161, 4, none⟩ = some (.string a0_4) := (kCe BK161.out 4).trans rfl
         have hcz31_5 : w3.cell? ⟨gb161, 5, none⟩ = some (.slice A0_5 l0_5.length c0_5) := (kCe BK161.out 5).trans rfl
         have hfz31_0 := kFr BK161.out 0
         have hfz31_1 := kFr BK161.out 1
         have hfz31_2 := kFr BK161.out 2
         have hfz31_3 := kFr BK161.out 3
         have hfz31_4 := kFr BK161.out 4
         have hfz31_5 := kFr BK161.out 5
         go_wp2_with (first | ((with_reducible refine gCa (f := 57) rfl ?_); refine goesL_ (some 7) rfl rfl Try.func57 (by kernel_rfl) rfl #[.int .i64 a0_0] rfl (by (try simp only [List.map_toArray, List.map_cons, List.map_nil]); first | done | rfl | (simp only [List.length_drop, List.length_take]; rfl)) ?_; (with_reducible refine (impl_timeOk.calls a0_0 true _ A4.out).mono ?_); rintro e w' ⟨rfl, ⟨nd, rfl⟩⟩; refine ⟨_, rfl, ?_⟩) | (go_at_call 58; (with_reducible refine (impl_textOk.calls a0_2 true _ A27.out).mono ?_); rintro e w' ⟨rfl, ⟨nd, rfl⟩⟩) | (go_at_call 58; (with_reducible refine (impl_textOk.calls a0_4 true _ A29.out).mono ?_); rintro e w' ⟨rfl, ⟨nd, rfl⟩⟩))
         go_meet
         case rel => exact ⟨_, (decide ((l0_5.length : Int) > 3)), (by first | rfl | (simp; done) | (simp [*]; done) | exact Go.Proofs.Ytjbcgflpeomkfaa.Add.isEmpty_bne _), H', ⟨by first | omega | exact Nat.le_refl _⟩, ⟨by (with_reducible repeat first | refine kDN ?_ _ | refine kDr ?_ | refine kAl ?_ _); exact BK161.out⟩, ⟨by repeat (first | (with_reducible first | exact HB.out | apply bAl | apply bDN | apply bD1 | refine bSe ?_ GE161.out) | exact HB.out)⟩⟩
        ·
         replace c30 := Bool.eq_false_iff.mpr c30
         subst c30
         rw [if_neg (show ¬ (false = true) by decide)] at H
         have H' := Aside0.mk H
         clear H
         have hcz32_0 : w3.cell? ⟨gb161, 0, none⟩ = some (.int .i64 a0_0) := (kCe BK161.out 0).trans rfl
         have hcz32_1 : w3.cell? ⟨gb161, 1, none⟩ = some (.bool false) := (kCe BK161.out 1).trans rfl
         have hcz32_2 : w3.cell? ⟨gb161, 2, none⟩ = some (.string a0_2) := (kCe BK161.out 2).trans rfl
         have hcz32_3 : w3.cell? ⟨gb161, 3, none⟩ = some (.bool true) := (kCe BK161.out 3).trans rfl
         have hcz32_4 : w3.cell? ⟨gb161, 4, none⟩ = some (.string a0_4) := (kCe BK161.out 4).trans rfl
         have hcz32_5 : w3.cell? ⟨gb161, 5, none⟩ = some (.slice A0_5 l0_5.length c0_5) := (kCe BK161.out 5).trans rfl
         have hfz32_0 := kFr BK161.out 0
         have hfz32_1 := kFr BK161.out 1
         have hfz32_2 := kFr BK161.out 2
         have hfz32_3 := kFr BK161.out 3
         have hfz32_4 := kFr BK161.out 4
         have hfz32_5 := kFr BK161.out 5
         go_wp2_with (first | ((with_reducible refine gCa (f := 57) rfl ?_); refine goesL_ (some 7) rfl rfl Try.func57 (by kernel_rfl) rfl #[.int .i64 a0_0] rfl (by (try simp only [List.map_toArray, List.map_cons, List.map_nil]); first | done | rfl | (simp only [List.length_drop, List.length_take]; rfl)) ?_; (with_reducible refine (impl_timeOk.calls a0_0 true _ A4.out).mono ?_); rintro e w' ⟨rfl, ⟨nd, rfl⟩⟩; refine ⟨_, rfl, ?_⟩) | (go_at_call 58; (with_reducible refine (impl_textOk.calls a0_2 true _ A27.out).mono ?_); rintro e w' ⟨rfl, ⟨nd, rfl⟩⟩) | (go_at_call 58; (with_reducible refine (impl_textOk.calls a0_4 false _ A29.out).mono ?_); rintro e w' ⟨rfl, ⟨nd, rfl⟩⟩))
         go_meet
         case rel => exact ⟨_, (true), (by first | rfl | (simp; done) | (simp [*]; done) | exact Go.Proofs.Ytjbcgflpeomkfaa.Add.isEmpty_bne _), H', ⟨by first | omega | exact Nat.le_refl _⟩, ⟨by (with_reducible repeat first | refine kDN ?_ _ | refine kDr ?_ | refine kAl ?_ _); exact BK161.out⟩, ⟨by repeat (first | (with_reducible first | exact HB.out | apply bAl | apply bDN | apply bD1 | refine bSe ?_ GE161.out) | exact HB.out)⟩⟩
       ·
        replace c28 := Bool.eq_false_iff.mpr c28
        subst c28
        rw [if_neg (show ¬ (false = true) by decide)] at H
        have H' := Aside0.mk H
        clear H
        have hcz33_0 : w3.cell? ⟨gb161, 0, none⟩ = some (.int .i64 a0_0) := (kCe BK161.out 0).trans rfl
        have hcz33_1 : w3.cell? ⟨gb161, 1, none⟩ = some (.bool false) := (kCe BK161.out 1).trans rfl
        have hcz33_2 : w3.cell? ⟨gb161, 2, none⟩ = some (.string a0_2) := (kCe BK161.out 2).trans rfl
        have hcz33_3 : w3.cell? ⟨gb161, 3, none⟩ = some (.bool true) := (kCe BK161.out 3).trans rfl
        have hcz33_4 : w3.cell? ⟨gb161, 4, none⟩ = some (.string a0_4) := (kCe BK161.out 4).trans rfl
        have hcz33_5 : w3.cell? ⟨gb161, 5, none⟩ = some (.slice A0_5 l0_5.length c0_5) := (kCe BK161.out 5).trans rfl
        have hfz33_0 := kFr BK161.out 0
        have hfz33_1 := kFr BK161.out 1
        have hfz33_2 := kFr BK161.out 2
        have hfz33_3 := kFr BK161.out 3
        have hfz33_4 := kFr BK161.out 4
        have hfz33_5 := kFr BK161.out 5
        go_wp2_with (first | ((with_reducible refine gCa (f := 57) rfl ?_); refine goesL_ (some 7) rfl rfl Try.func57 (by kernel_rfl) rfl #[.int .i64 a0_0] rfl (by (try simp only [List.map_toArray, List.map_cons, List.map_nil]); first | done | rfl | (simp only [List.length_drop, List.length_take]; rfl)) ?_; (with_reducible refine (impl_timeOk.calls a0_0 true _ A4.out).mono ?_); rintro e w' ⟨rfl, ⟨nd, rfl⟩⟩; refine ⟨_, rfl, ?_⟩) | (go_at_call 58; (with_reducible refine (impl_textOk.calls a0_2 false _ A27.out).mono ?_); rintro e w' ⟨rfl, ⟨nd, rfl⟩⟩))
        go_meet
        case rel => exact ⟨_, (true), (by first | rfl | (simp; done) | (simp [*]; done) | exact Go.Proofs.Ytjbcgflpeomkfaa.Add.isEmpty_bne _), H', ⟨by first | omega | exact Nat.le_refl _⟩, ⟨by (with_reducible repeat first | refine kDN ?_ _ | refine kDr ?_ | refine kAl ?_ _); exact BK161.out⟩, ⟨by repeat (first | (with_reducible first | exact HB.out | apply bAl | apply bDN | apply bD1 | refine bSe ?_ GE161.out) | exact HB.out)⟩⟩
      ·
       rw [if_neg c26] at H
       have c26b0 : (a0_4.toList == ([] : List UInt8)) = false := beq_eq_false_iff_ne.mpr c26
       have c26b1 : (a0_4.toList != ([] : List UInt8)) = true := bne_iff_ne.mpr c26
       have H' := Aside0.mk H
       clear H
       have hcz34_0 : w3.cell? ⟨gb161, 0, none⟩ = some (.int .i64 a0_0) := (kCe BK161.out 0).trans rfl
       have hcz34_1 : w3.cell? ⟨gb161, 1, none⟩ = some (.bool false) := (kCe BK161.out 1).trans rfl
       have hcz34_2 : w3.cell? ⟨gb161, 2, none⟩ = some (.string a0_2) := (kCe BK161.out 2).trans rfl
       have hcz34_3 : w3.cell? ⟨gb161, 3, none⟩ = some (.bool true) := (kCe BK161.out 3).trans rfl
       have hcz34_4 : w3.cell? ⟨gb161, 4, none⟩ = some (.string a0_4) := (kCe BK161.out 4).trans rfl
       have hcz34_5 : w3.cell? ⟨gb161, 5, none⟩ = some (.slice A0_5 l0_5.length c0_5) := (kCe BK161.out 5).trans rfl
       have hfz34_0 := kFr BK161.out 0
       have hfz34_1 := kFr BK161.out 1
       have hfz34_2 := kFr BK161.out 2
       have hfz34_3 := kFr BK161.out 3
       have hfz34_4 := kFr BK161.out 4
       have hfz34_5 := kFr BK161.out 5
       go_wp2_with (first | ((with_reducible refine gCa (f := 57) rfl ?_); refine goesL_ (some 7) rfl rfl Try.func57 (by kernel_rfl) rfl #[.int .i64 a0_0] rfl (by (try simp only [List.map_toArray, List.map_cons, List.map_nil]); first | done | rfl | (simp only [List.length_drop, List.length_take]; rfl)) ?_; (with_reducible refine (impl_timeOk.calls a0_0 true _ A4.out).mono ?_); rintro e w' ⟨rfl, ⟨nd, rfl⟩⟩; refine ⟨_, rfl, ?_⟩))
       go_meet
       case rel => exact ⟨_, (true), (by first | rfl | (simp; done) | (simp [*]; done) | exact Go.Proofs.Ytjbcgflpeomkfaa.Add.isEmpty_bne _), H', ⟨by first | omega | exact Nat.le_refl _⟩, ⟨by (with_reducible repeat first | refine kDN ?_ _ | refine kDr ?_ | refine kAl ?_ _); exact BK161.out⟩, ⟨by repeat (first | (with_reducible first | exact HB.out | apply bAl | apply bDN | apply bD1 | refine bSe ?_ GE161.out) | exact HB.out)⟩⟩
     ·
      replace c25 := Bool.eq_false_iff.mpr c25
      subst c25
      rw [if_neg (show ¬ (false = true) by decide)] at H
      replace H := Option.bind_eq_some_iff.mp H
      obtain ⟨t169, A350, H⟩ := H
      have A35 := Aside0.mk A350
      clear A350
      by_cases c36 : t169 = true
      ·
       subst c36
       rw [if_pos rfl] at H
       replace H := Option.bind_eq_some_iff.mp H
       obtain ⟨t170, A370, H⟩ := H
       have A37 := Aside0.mk A370
       clear A370
       by_cases c38 : t170 = true
       ·
        subst c38
        rw [if_pos rfl] at H
        have H' := Aside0.mk H
        clear H
        have hcz39_0 : w3.cell? ⟨gb161, 0, none⟩ = some (.int .i64 a0_0) := (kCe BK161.out 0).trans rfl
        have hcz39_1 : w3.cell? ⟨gb161, 1, none⟩ = some (.bool false) := (kCe BK161.out 1).trans rfl
        have hcz39_2 : w3.cell? ⟨gb161, 2, none⟩ = some (.string a0_2) := (kCe BK161.out 2).trans rfl
        have hcz39_3 : w3.cell? ⟨gb161, 3, none⟩ = some (.bool false) := (kCe BK161.out 3).trans rfl
        have hcz39_4 : w3.cell? ⟨gb161, 4, none⟩ = some (.string a0_4) := (kCe BK161.out 4).trans rfl
        have hcz39_5 : w3.cell? ⟨gb161, 5, none⟩ = some (.slice A0_5 l0_5.length c0_5) := (kCe BK161.out 5).trans rfl
        have hfz39_0 := kFr BK161.out 0
        have hfz39_1 := kFr BK161.out 1
        have hfz39_2 := kFr BK161.out 2
        have hfz39_3 := kFr BK161.out 3
        have hfz39_4 := kFr BK161.out 4
        have hfz39_5 := kFr BK161.out 5
        go_wp2_with (first | ((with_reducible refine gCa (f := 57) rfl ?_); refine goesL_ (some 7) rfl rfl Try.func57 (by kernel_rfl) rfl #[.int .i64 a0_0] rfl (by (try simp only [List.map_toArray, List.map_cons, List.map_nil]); first | done | rfl | (simp only [List.length_drop, List.length_take]; rfl)) ?_; (with_reducible refine (impl_timeOk.calls a0_0 true _ A4.out).mono ?_); rintro e w' ⟨rfl, ⟨nd, rfl⟩⟩; refine ⟨_, rfl, ?_⟩) | (go_at_call 58; (with_reducible refine (impl_textOk.calls a0_2 true _ A35.out).mono ?_); rintro e w' ⟨rfl, ⟨nd, rfl⟩⟩) | (go_at_call 58; (with_reducible refine (impl_textOk.calls a0_4 true _ A37.out).mono ?_); rintro e w' ⟨rfl, ⟨nd, rfl⟩⟩))
        go_meet
        case rel => exact ⟨_, (decide ((l0_5.length : Int) > 3)), (by first | rfl | (simp; done) | (simp [*]; done) | exact Go.Proofs.Ytjbcgflpeomkfaa.Add.isEmpty_bne _), H', ⟨by first | omega | exact Nat.le_refl _⟩, ⟨by (with_reducible repeat first | refine kDN ?_ _ | refine kDr ?_ | refine kAl ?_ _); exact BK161.out⟩, ⟨by repeat (first | (with_reducible first | exact HB.out | apply bAl | apply bDN | apply bD1 | refine bSe ?_ GE161.out) | exact HB.out)⟩⟩
       ·
        replace c38 := Bool.eq_false_iff.mpr c38
        subst c38
        rw [if_neg (show ¬ (false = true) by decide)] at H
        have H' := Aside0.mk H
        clear H
        have hcz40_0 : w3.cell? ⟨gb161, 0, none⟩ = some (.int .i64 a0_0) := (kCe BK161.out 0).trans rfl
        have hcz40_1 : w3.cell? ⟨gb161, 1, none⟩ = some (.bool false) := (kCe BK161.out 1).trans rfl
        have hcz40_2 : w3.cell? ⟨gb161, 2, none⟩ = some (.string a0_2) := (kCe BK161.out 2).trans rfl
        have hcz40_3 : w3.cell? ⟨gb161, 3, none⟩ = some (.bool false) := (kCe BK161.out 3).trans rfl
        have hcz40_4 : w3.cell? ⟨gb161, 4, none⟩ = some (.string a0_4) := (kCe BK161.out 4).trans rfl
        have hcz40_5 : w3.cell? ⟨gb161, 5, none⟩ = some (.slice A0_5 l0_5.length c0_5) := (kCe BK161.out 5).trans rfl
        have hfz40_0 := kFr BK161.out 0
        have hfz40_1 := kFr BK161.out 1
        have hfz40_2 := kFr BK161.out 2
        have hfz40_3 := kFr BK161.out 3
        have hfz40_4 := kFr BK161.out 4
        have hfz40_5 := kFr BK161.out 5
        go_wp2_with (first | ((with_reducible refine gCa (f := 57) rfl ?_); refine goesL_ (some 7) rfl rfl Try.func57 (by kernel_rfl) rfl #[.int .i64 a0_0] rfl (by (try simp only [List.map_toArray, List.map_cons, List.map_nil]); first | done | rfl | (simp only [List.length_drop, List.length_take]; rfl)) ?_; (with_reducible refine (impl_timeOk.calls a0_0 true _ A4.out).mono ?_); rintro e w' ⟨rfl, ⟨nd, rfl⟩⟩; refine ⟨_, rfl, ?_⟩) | (go_at_call 58; (with_reducible refine (impl_textOk.calls a0_2 true _ A35.out).mono ?_); rintro e w' ⟨rfl, ⟨nd, rfl⟩⟩) | (go_at_call 58; (with_reducible refine (impl_textOk.calls a0_4 false _ A37.out).mono ?_); rintro e w' ⟨rfl, ⟨nd, rfl⟩⟩))
        go_meet
        case rel => exact ⟨_, (true), (by first | rfl | (simp; done) | (simp [*]; done) | exact Go.Proofs.Ytjbcgflpeomkfaa.Add.isEmpty_bne _), H', ⟨by first | omega | exact Nat.le_refl _⟩, ⟨by (with_reducible repeat first | refine kDN ?_ _ | refine kDr ?_ | refine kAl ?_ _); exact BK161.out⟩, ⟨by repeat (first | (with_reducible first | exact HB.out | apply bAl | apply bDN | apply bD1 | refine bSe ?_ GE161.out) | exact HB.out)⟩⟩
      ·
       replace c36 := Bool.eq_false_iff.mpr c36
       subst c36
       rw [if_neg (show ¬ (false = true) by decide)] at H
       have H' := Aside0.mk H
       clear H
       have hcz41_0 : w3.cell? ⟨gb161, 0, none⟩ = some (.int .i64 a0_0) := (kCe BK161.out 0).trans rfl
       have hcz41_1 : w3.cell? ⟨gb161, 1, none⟩ = some (.bool false) := (kCe BK161.out 1).trans rfl
       have hcz41_2 : w3.cell? ⟨gb161, 2, none⟩ = some (.string a0_2) := (kCe BK161.out 2).trans rfl
       have hcz41_3 : w3.cell? ⟨gb161, 3, none⟩ = some (.bool false) := (kCe BK161.out 3).trans rfl
       have hcz41_4 : w3.cell? ⟨gb161, 4, none⟩ = some (.string a0_4) := (kCe BK161.out 4).trans rfl
       have hcz41_5 : w3.cell? ⟨gb161, 5, none⟩ = some (.slice A0_5 l0_5.length c0_5) := (kCe BK161.out 5).trans rfl
       have hfz41_0 := kFr BK161.out 0
       have hfz41_1 := kFr BK161.out 1
       have hfz41_2 := kFr BK161.out 2
       have hfz41_3 := kFr BK161.out 3
       have hfz41_4 := kFr BK161.out 4
       have hfz41_5 := kFr BK161.out 5
       go_wp2_with (first | ((with_reducible refine gCa (f := 57) rfl ?_); refine goesL_ (some 7) rfl rfl Try.func57 (by kernel_rfl) rfl #[.int .i64 a0_0] rfl (by (try simp only [List.map_toArray, List.map_cons, List.map_nil]); first | done | rfl | (simp only [List.length_drop, List.length_take]; rfl)) ?_; (with_reducible refine (impl_timeOk.calls a0_0 true _ A4.out).mono ?_); rintro e w' ⟨rfl, ⟨nd, rfl⟩⟩; refine ⟨_, rfl, ?_⟩) | (go_at_call 58; (with_reducible refine (impl_textOk.calls a0_2 false _ A35.out).mono ?_); rintro e w' ⟨rfl, ⟨nd, rfl⟩⟩))
       go_meet
       case rel => exact ⟨_, (true), (by first | rfl | (simp; done) | (simp [*]; done) | exact Go.Proofs.Ytjbcgflpeomkfaa.Add.isEmpty_bne _), H', ⟨by first | omega | exact Nat.le_refl _⟩, ⟨by (with_reducible repeat first | refine kDN ?_ _ | refine kDr ?_ | refine kAl ?_ _); exact BK161.out⟩, ⟨by repeat (first | (with_reducible first | exact HB.out | apply bAl | apply bDN | apply bD1 | refine bSe ?_ GE161.out) | exact HB.out)⟩⟩
    ·
     rw [if_neg c24] at H
     have c24b0 : (a0_2.toList == ([] : List UInt8)) = false := beq_eq_false_iff_ne.mpr c24
     have c24b1 : (a0_2.toList != ([] : List UInt8)) = true := bne_iff_ne.mpr c24
     have H' := Aside0.mk H
     clear H
     have hcz42_0 : w3.cell? ⟨gb161, 0, none⟩ = some (.int .i64 a0_0) := (kCe BK161.out 0).trans rfl
     have hcz42_1 : w3.cell? ⟨gb161, 1, none⟩ = some (.bool false) := (kCe BK161.out 1).trans rfl
     have hcz42_2 : w3.cell? ⟨gb161, 2, none⟩ = some (.string a0_2) := (kCe BK161.out 2).trans rfl
     have hcz42_3 : w3.cell? ⟨gb161, 3, none⟩ = some (.bool a0_3) := (kCe BK161.out 3).trans rfl
     have hcz42_4 : w3.cell? ⟨gb161, 4, none⟩ = some (.string a0_4) := (kCe BK161.out 4).trans rfl
     have hcz42_5 : w3.cell? ⟨gb161, 5, none⟩ = some (.slice A0_5 l0_5.length c0_5) := (kCe BK161.out 5).trans rfl
     have hfz42_0 := kFr BK161.out 0
     have hfz42_1 := kFr BK161.out 1
     have hfz42_2 := kFr BK161.out 2
     have hfz42_3 := kFr BK161.out 3
     have hfz42_4 := kFr BK161.out 4
     have hfz42_5 := kFr BK161.out 5
     go_wp2_with (first | ((with_reducible refine gCa (f := 57) rfl ?_); refine goesL_ (some 7) rfl rfl Try.func57 (by kernel_rfl) rfl #[.int .i64 a0_0] rfl (by (try simp only [List.map_toArray, List.map_cons, List.map_nil]); first | done | rfl | (simp only [List.length_drop, List.length_take]; rfl)) ?_; (with_reducible refine (impl_timeOk.calls a0_0 true _ A4.out).mono ?_); rintro e w' ⟨rfl, ⟨nd, rfl⟩⟩; refine ⟨_, rfl, ?_⟩))
     go_meet
     case rel => exact ⟨_, (true), (by first | rfl | (simp; done) | (simp [*]; done) | exact Go.Proofs.Ytjbcgflpeomkfaa.Add.isEmpty_bne _), H', ⟨by first | omega | exact Nat.le_refl _⟩, ⟨by (with_reducible repeat first | refine kDN ?_ _ | refine kDr ?_ | refine kAl ?_ _); exact BK161.out⟩, ⟨by repeat (first | (with_reducible first | exact HB.out | apply bAl | apply bDN | apply bD1 | refine bSe ?_ GE161.out) | exact HB.out)⟩⟩
  ·
   replace c5 := Bool.eq_false_iff.mpr c5
   subst c5
   rw [if_neg (show ¬ (false = true) by decide)] at H
   have H' := Aside0.mk H
   clear H
   have hcz43_0 : w3.cell? ⟨gb161, 0, none⟩ = some (.int .i64 a0_0) := (kCe BK161.out 0).trans rfl
   have hcz43_1 : w3.cell? ⟨gb161, 1, none⟩ = some (.bool a0_1) := (kCe BK161.out 1).trans rfl
   have hcz43_2 : w3.cell? ⟨gb161, 2, none⟩ = some (.string a0_2) := (kCe BK161.out 2).trans rfl
   have hcz43_3 : w3.cell? ⟨gb161, 3, none⟩ = some (.bool a0_3) := (kCe BK161.out 3).trans rfl
   have hcz43_4 : w3.cell? ⟨gb161, 4, none⟩ = some (.string a0_4) := (kCe BK161.out 4).trans rfl
   have hcz43_5 : w3.cell? ⟨gb161, 5, none⟩ = some (.slice A0_5 l0_5.length c0_5) := (kCe BK161.out 5).trans rfl
   have hfz43_0 := kFr BK161.out 0
   have hfz43_1 := kFr BK161.out 1
   have hfz43_2 := kFr BK161.out 2
   have hfz43_3 := kFr BK161.out 3
   have hfz43_4 := kFr BK161.out 4
   have hfz43_5 := kFr BK161.out 5
   go_wp2_with (first | ((with_reducible refine gCa (f := 57) rfl ?_); refine goesL_ (some 7) rfl rfl Try.func57 (by kernel_rfl) rfl #[.int .i64 a0_0] rfl (by (try simp only [List.map_toArray, List.map_cons, List.map_nil]); first | done | rfl | (simp only [List.length_drop, List.length_take]; rfl)) ?_; (with_reducible refine (impl_timeOk.calls a0_0 false _ A4.out).mono ?_); rintro e w' ⟨rfl, ⟨nd, rfl⟩⟩; refine ⟨_, rfl, ?_⟩))
   go_meet
   case rel => exact ⟨_, (true), (by first | rfl | (simp; done) | (simp [*]; done) | exact Go.Proofs.Ytjbcgflpeomkfaa.Add.isEmpty_bne _), H', ⟨by first | omega | exact Nat.le_refl _⟩, ⟨by (with_reducible repeat first | refine kDN ?_ _ | refine kDr ?_ | refine kAl ?_ _); exact BK161.out⟩, ⟨by repeat (first | (with_reducible first | exact HB.out | apply bAl | apply bDN | apply bD1 | refine bSe ?_ GE161.out) | exact HB.out)⟩⟩
 case rest =>
  clear HC2
  try clear c1
  try clear c2
  try clear p2
  try clear c3
  try clear c4
  try clear c5
  try clear c6
  try clear c7
  try clear c8
  try clear c8b0
  try clear c8b1
  try clear c10
  try clear c12
  try clear c18
  try clear c20
  try clear c24
  try clear c24b0
  try clear c24b1
  try clear c25
  try clear c26
  try clear c26b0
  try clear c26b1
  try clear c28
  try clear c30
  try clear c36
  try clear c38
  try clear hcz13_0
  try clear hcz13_1
  try clear hcz13_2
  try clear hcz13_3
  try clear hcz13_4
  try clear hcz13_5
  try clear hcz14_0
  try clear hcz14_1
  try clear hcz14_2
  try clear hcz14_3
  try clear hcz14_4
  try clear hcz14_5
  try clear hcz15_0
  try clear hcz15_1
  try clear hcz15_2
  try clear hcz15_3
  try clear hcz15_4
  try clear hcz15_5
  try clear hcz16_0
  try clear hcz16_1
  try clear hcz16_2
  try clear hcz16_3
  try clear hcz16_4
  try clear hcz16_5
  try clear hcz21_0
  try clear hcz21_1
  try clear hcz21_2
  try clear hcz21_3
  try clear hcz21_4
  try clear hcz21_5
  try clear hcz22_0
  try clear hcz22_1
  try clear hcz22_2
  try clear hcz22_3
  try clear hcz22_4
  try clear hcz22_5
  try clear hcz23_0
  try clear hcz23_1
  try clear hcz23_2
  try clear hcz23_3
  try clear hcz23_4
  try clear hcz23_5
  try clear hcz31_0
  try clear hcz31_1
  try clear hcz31_2
  try clear hcz31_3
  try clear hcz31_4
  try clear hcz31_5
  try clear hcz32_0
  try clear hcz32_1
  try clear hcz32_2
  try clear hcz32_3
  try clear hcz32_4
  try clear hcz32_5
  try clear hcz33_0
  try clear hcz33_1
  try clear hcz33_2
  try clear hcz33_3
  try clear hcz33_4
  try clear hcz33_5
  try clear hcz34_0
  try clear hcz34_1
  try clear hcz34_2
  try clear hcz34_3
  try clear hcz34_4
  try clear hcz34_5
  try clear hcz39_0
  try clear hcz39_1
  try clear hcz39_2
  try clear hcz39_3
  try clear hcz39_4
  try clear hcz39_5
  try clear hcz40_0
  try clear hcz40_1
  try clear hcz40_2
  try clear hcz40_3
  try clear hcz40_4
  try clear hcz40_5
  try clear hcz41_0
  try clear hcz41_1
  try clear hcz41_2
  try clear hcz41_3
  try clear hcz41_4
  try clear hcz41_5
  try clear hcz42_0
  try clear hcz42_1
  try clear hcz42_2
  try clear hcz42_3
  try clear hcz42_4
  try clear hcz42_5
  try clear hcz43_0
  try clear hcz43_1
  try clear hcz43_2
  try clear hcz43_3
  try clear hcz43_4
  try clear hcz43_5
  try clear hfz13_0
  try clear hfz13_1
  try clear hfz13_2
  try clear hfz13_3
  try clear hfz13_4
  try clear hfz13_5
  try clear hfz14_0
  try clear hfz14_1
  try clear hfz14_2
  try clear hfz14_3
  try clear hfz14_4
  try clear hfz14_5
  try clear hfz15_0
  try clear hfz15_1
  try clear hfz15_2
  try clear hfz15_3
  try clear hfz15_4
  try clear hfz15_5
  try clear hfz16_0
  try clear hfz16_1
  try clear hfz16_2
  try clear hfz16_3
  try clear hfz16_4
  try clear hfz16_5
  try clear hfz21_0
  try clear hfz21_1
  try clear hfz21_2
  try clear hfz21_3
  try clear hfz21_4
  try clear hfz21_5
  try clear hfz22_0
  try clear hfz22_1
  try clear hfz22_2
  try clear hfz22_3
  try clear hfz22_4
  try clear hfz22_5
  try clear hfz23_0
  try clear hfz23_1
  try clear hfz23_2
  try clear hfz23_3
  try clear hfz23_4
  try clear hfz23_5
  try clear hfz31_0
  try clear hfz31_1
  try clear hfz31_2
  try clear hfz31_3
  try clear hfz31_4
  try clear hfz31_5
  try clear hfz32_0
  try clear hfz32_1
  try clear hfz32_2
  try clear hfz32_3
  try clear hfz32_4
  try clear hfz32_5
  try clear hfz33_0
  try clear hfz33_1
  try clear hfz33_2
  try clear hfz33_3
  try clear hfz33_4
  try clear hfz33_5
  try clear hfz34_0
  try clear hfz34_1
  try clear hfz34_2
  try clear hfz34_3
  try clear hfz34_4
  try clear hfz34_5
  try clear hfz39_0
  try clear hfz39_1
  try clear hfz39_2
  try clear hfz39_3
  try clear hfz39_4
  try clear hfz39_5
  try clear hfz40_0
  try clear hfz40_1
  try clear hfz40_2
  try clear hfz40_3
  try clear hfz40_4
  try clear hfz40_5
  try clear hfz41_0
  try clear hfz41_1
  try clear hfz41_2
  try clear hfz41_3
  try clear hfz41_4
  try clear hfz41_5
  try clear hfz42_0
  try clear hfz42_1
  try clear hfz42_2
  try clear hfz42_3
  try clear hfz42_4
  try clear hfz42_5
  try clear hfz43_0
  try clear hfz43_1
  try clear hfz43_2
  try clear hfz43_3
  try clear hfz43_4
  try clear hfz43_5
  obtain ⟨kq, x45_1, rfl, HA, HJ1, BK161, HB⟩ := hcut
  cases kq with
  | zero => exact absurd HA.out (by simp [impl_RecordOk.j0])
  | succ kj1 =>
   have H := HA.out
   clear HA
   simp only [impl_RecordOk.j0] at H
   by_cases c44 : x45_1 = true
   ·
    subst c44
    rw [if_pos rfl] at H
    obtain rfl := Option.some.inj H
    go_wp2
    go_ret
    exact ⟨by first | rfl | (simp [errW_none, errW_some] <;> rfl) | (simp [*, errW_none, errW_some] <;> rfl), by repeat (first | (with_reducible first | exact HB.out | apply bAl | apply bDN | apply bD1 | refine bSe ?_ GE161.out) | exact HB.out)⟩
   ·
    replace c44 := Bool.eq_false_iff.mpr c44
    subst c44
    rw [if_neg (show ¬ (false = true) by decide)] at H
    have H' := Aside0.mk H
    clear H
    have hcz45_0 : wc.cell? ⟨gb161, 0, none⟩ = some (.int .i64 a0_0) := (kCe BK161.out 0).trans rfl
    have hcz45_1 : wc.cell? ⟨gb161, 1, none⟩ = some (.bool a0_1) := (kCe BK161.out 1).trans rfl
    have hcz45_2 : wc.cell? ⟨gb161, 2, none⟩ = some (.string a0_2) := (kCe BK161.out 2).trans rfl
    have hcz45_3 : wc.cell? ⟨gb161, 3, none⟩ = some (.bool a0_3) := (kCe BK161.out 3).trans rfl
    have hcz45_4 : wc.cell? ⟨gb161, 4, none⟩ = some (.string a0_4) := (kCe BK161.out 4).trans rfl
    have hcz45_5 : wc.cell? ⟨gb161, 5, none⟩ = some (.slice A0_5 l0_5.length c0_5) := (kCe BK161.out 5).trans rfl
    have hfz45_0 := kFr BK161.out 0
    have hfz45_1 := kFr BK161.out 1
    have hfz45_2 := kFr BK161.out 2
    have hfz45_3 := kFr BK161.out 3
    have hfz45_4 := kFr BK161.out 4
    have hfz45_5 := kFr BK161.out 5
    go_wp2
    go_loopg [49] kj1 (fun kq v49 w' => ∃ (x49_2 : Int), v49 = .int .i64 x49_2 ∧ Aside0 (impl_RecordOk.l0 kq l0_5 (l0_5.length : Int) x49_2 = some r) ∧ Aside0 (kq ≤ kj1) ∧ Aside0 (w'.heap[gb161]? = some (.cells #[.int .i64 a0_0, .bool a0_1, .string a0_2, .bool a0_3, .string a0_4, (.slice A0_5 l0_5.length c0_5)] 56 (0, 0))) ∧ Aside0 (Below w.heap.size w w'))
    case atStart => exact ⟨(0), (by first | rfl | (simp; done) | (simp [*]; done) | exact Go.Proofs.Ytjbcgflpeomkfaa.Add.isEmpty_bne _), H', ⟨Nat.le_refl _⟩, ⟨by (with_reducible repeat first | refine kDN ?_ _ | refine kDr ?_ | refine kAl ?_ _); exact BK161.out⟩, ⟨by repeat (first | (with_reducible first | exact HB.out | apply bAl | apply bDN | apply bD1 | refine bSe ?_ GE161.out) | exact HB.out)⟩⟩
    case round =>
     clear H'
     try clear c1
     try clear c2
     try clear p2
     try clear c3
     try clear c4
     try clear c5
     try clear c6
     try clear c7
     try clear c8
     try clear c8b0
     try clear c8b1
     try clear c10
     try clear c12
     try clear c18
     try clear c20
     try clear c24
     try clear c24b0
     try clear c24b1
     try clear c25
     try clear c26
     try clear c26b0
     try clear c26b1
     try clear c28
     try clear c30
     try clear c36
     try clear c38
     try clear c44
     try clear hcz13_0
     try clear hcz13_1
     try clear hcz13_2
     try clear hcz13_3
     try clear hcz13_4
     try clear hcz13_5
     try clear hcz14_0
     try clear hcz14_1
     try clear hcz14_2
     try clear hcz14_3
     try clear hcz14_4
     try clear hcz14_5
     try clear hcz15_0
     try clear hcz15_1
     try clear hcz15_2
     try clear hcz15_3
     try clear hcz15_4
     try clear hcz15_5
     try clear hcz16_0
     try clear hcz16_1
     try clear hcz16_2
     try clear hcz16_3
     try clear hcz16_4
     try clear hcz16_5
     try clear hcz21_0
     try clear hcz21_1
     try clear hcz21_2
     try clear hcz21_3
     try clear hcz21_4
     try clear hcz21_5
     try clear hcz22_0
     try clear hcz22_1
     try clear hcz22_2
     try clear hcz22_3
     try clear hcz22_4
     try clear hcz22_5
     try clear hcz23_0
     try clear hcz23_1
     try clear hcz23_2
     try clear hcz23_3
     try clear hcz23_4
     try clear hcz23_5
     try clear hcz31_0
     try clear hcz31_1
     try clear hcz31_2
     try clear hcz31_3
     try clear hcz31_4
     try clear hcz31_5
     try clear hcz32_0
     try clear hcz32_1
     try clear hcz32_2
     try clear hcz32_3
     try clear hcz32_4
     try clear hcz32_5
     try clear hcz33_0
     try clear hcz33_1
     try clear hcz33_2
     try clear hcz33_3
     try clear hcz33_4
     try clear hcz33_5
     try clear hcz34_0
     try clear hcz34_1
     try clear hcz34_2
     try clear hcz34_3
     try clear hcz34_4
     try clear hcz34_5
     try clear hcz39_0
     try clear hcz39_1
     try clear hcz39_2
     try clear hcz39_3
     try clear hcz39_4
     try clear hcz39_5
     try clear hcz40_0
     try clear hcz40_1
     try clear hcz40_2
     try clear hcz40_3
     try clear hcz40_4
     try clear hcz40_5
     try clear hcz41_0
     try clear hcz41_1
     try clear hcz41_2
     try clear hcz41_3
     try clear hcz41_4
     try clear hcz41_5
     try clear hcz42_0
     try clear hcz42_1
     try clear hcz42_2
     try clear hcz42_3
     try clear hcz42_4
     try clear hcz42_5
     try clear hcz43_0
     try clear hcz43_1
     try clear hcz43_2
     try clear hcz43_3
     try clear hcz43_4
     try clear hcz43_5
     try clear hcz45_0
     try clear hcz45_1
     try clear hcz45_2
     try clear hcz45_3
     try clear hcz45_4
     try clear hcz45_5
     try clear hfz13_0
     try clear hfz13_1
     try clear hfz13_2
     try clear hfz13_3
     try clear hfz13_4
     try clear hfz13_5
     try clear hfz14_0
     try clear hfz14_1
     try clear hfz14_2
     try clear hfz14_3
     try clear hfz14_4
     try clear hfz14_5
     try clear hfz15_0
     try clear hfz15_1
     try clear hfz15_2
     try clear hfz15_3
     try clear hfz15_4
     try clear hfz15_5
     try clear hfz16_0
     try clear hfz16_1
     try clear hfz16_2
     try clear hfz16_3
     try clear hfz16_4
     try clear hfz16_5
     try clear hfz21_0
     try clear hfz21_1
     try clear hfz21_2
     try clear hfz21_3
     try clear hfz21_4
     try clear hfz21_5
     try clear hfz22_0
     try clear hfz22_1
     try clear hfz22_2
     try clear hfz22_3
     try clear hfz22_4
     try clear hfz22_5
     try clear hfz23_0
     try clear hfz23_1
     try clear hfz23_2
     try clear hfz23_3
     try clear hfz23_4
     try clear hfz23_5
     try clear hfz31_0
     try clear hfz31_1
     try clear hfz31_2
     try clear hfz31_3
     try clear hfz31_4
     try clear hfz31_5
     try clear hfz32_0
     try clear hfz32_1
     try clear hfz32_2
     try clear hfz32_3
     try clear hfz32_4
     try clear hfz32_5
     try clear hfz33_0
     try clear hfz33_1
     try clear hfz33_2
     try clear hfz33_3
     try clear hfz33_4
     try clear hfz33_5
     try clear hfz34_0
     try clear hfz34_1
     try clear hfz34_2
     try clear hfz34_3
     try clear hfz34_4
     try clear hfz34_5
     try clear hfz39_0
     try clear hfz39_1
     try clear hfz39_2
     try clear hfz39_3
     try clear hfz39_4
     try clear hfz39_5
     try clear hfz40_0
     try clear hfz40_1
     try clear hfz40_2
     try clear hfz40_3
     try clear hfz40_4
     try clear hfz40_5
     try clear hfz41_0
     try clear hfz41_1
     try clear hfz41_2
     try clear hfz41_3
     try clear hfz41_4
     try clear hfz41_5
     try clear hfz42_0
     try clear hfz42_1
     try clear hfz42_2
     try clear hfz42_3
     try clear hfz42_4
     try clear hfz42_5
     try clear hfz43_0
     try clear hfz43_1
     try clear hfz43_2
     try clear hfz43_3
     try clear hfz43_4
     try clear hfz43_5
     try clear hfz45_0
     try clear hfz45_1
     try clear hfz45_2
     try clear hfz45_3
     try clear hfz45_4
     try clear hfz45_5
     try clear p2
     obtain ⟨x49_2, rfl, HA, HK2, BK161, HB⟩ := hrel
     cases gk with
     | zero => exact absurd HA.out (by simp [impl_RecordOk.l0])
     | succ k2 =>
      have H := HA.out
      clear HA
      simp only [impl_RecordOk.l0] at H
      by_cases c46 : x49_2 < (l0_5.length : Int)
      ·
       rw [if_pos c46] at H
       have c46b0 : decide (x49_2 < (l0_5.length : Int)) = true := decide_eq_true c46
       clear c46
       by_cases c47 : 0 ≤ x49_2
       ·
        rw [if_pos c47] at H
        have c47b0 : decide (0 ≤ x49_2) = true := decide_eq_true c47
        clear c47
        by_cases c48 : x49_2 < (l0_5.length : Int)
        ·
         rw [if_pos c48] at H
         have c48b0 : decide (x49_2 < (l0_5.length : Int)) = true := decide_eq_true c48
         clear c48
         by_cases c49 : ((rd_T74 l0_5 x49_2).f0).toList = ([] : List UInt8)
         ·
          rw [if_pos c49] at H
          have c49b0 : (((rd_T74 l0_5 x49_2).f0).toList == ([] : List UInt8)) = true := beq_iff_eq.mpr c49
          have c49b1 : (((rd_T74 l0_5 x49_2).f0).toList != ([] : List UInt8)) = false := bne_eq_false_iff_eq.mpr c49
          clear c49
          obtain rfl := Option.some.inj H
          have p171 : 0 ≤ (x49_2 : Int) := of_decide_eq_true (by first | (with_reducible assumption) | assumption)
          have q171 : x49_2 < (l0_5.length : Int) := of_decide_eq_true (by first | (with_reducible assumption) | assumption)
          obtain ⟨ad171, e171, hx171_0, hx171_1⟩ := at_T74 HR0_5.out x49_2 p171 q171
          cases e171
          replace hx171_0 := (HB.out.cell (World.block_lt_of_cell? w _ hx171_0)).trans hx171_0
          replace hx171_1 := (HB.out.cell (World.block_lt_of_cell? w _ hx171_1)).trans hx171_1
          replace p171 := eq_true p171
          replace q171 := eq_true q171
          go_wp2_with (first | ((with_reducible refine gate_dst (N := 4) rfl ?_); (try (refine gate_guard (by rfl) ?_; dsimp only)); refine box_event ?hg (N := 4) ?hd (cs := #[.string (⟨#[]⟩ : ByteArray), .string (⟨#[]⟩ : ByteArray)]) (t := 74) ?hr ?_; (case hd => rfl); (case hg => rfl); (case hr => first | (go_simp; done) | (go_simp; rfl)); intro gb172 hg w50 hbox hb; have n0_ := Aside0.mk (blk_below (g := gb161) (o := .cells #[.int .i64 a0_0, .bool a0_1, .string a0_2, .bool a0_3, .string a0_4, .slice (some ad171) l0_5.length c0_5] 56 (0, 0)) (by (with_reducible repeat first | refine kDN ?_ _ | refine kDr ?_ | refine kAl ?_ _); exact BK161.out) hb); have n1_ := Aside0.mk (below_step (by repeat (first | (with_reducible first | exact HB.out | apply bAl | apply bDN | apply bD1 | refine bSe ?_ GE161.out) | exact HB.out)) hb); have n2_ := Aside0.mk (hbox); have n3_ := Aside0.mk ((by rw [hg]; exact (bSz (by repeat (first | (with_reducible first | exact HB.out | apply bAl | apply bDN | apply bD1 | refine bSe ?_ GE161.out) | exact HB.out))) : w.heap.size ≤ gb172)); have n4_ := Aside0.mk ((by rw [hg]; exact (bSz (by repeat (first | (with_reducible first | exact HB.out | apply bAl | apply bDN | apply bD1 | refine bSe ?_ GE161.out) | exact HB.out))) : w.heap.size ≤ gb172)); have n5_ := Aside0.mk ((by rw [hg]; exact Nat.ne_of_lt (blk_lt (g := gb161) (o := .cells #[.int .i64 a0_0, .bool a0_1, .string a0_2, .bool a0_3, .string a0_4, .slice (some ad171) l0_5.length c0_5] 56 (0, 0)) (by (with_reducible repeat first | refine kDN ?_ _ | refine kDr ?_ | refine kAl ?_ _); exact BK161.out)) : gb161 ≠ gb172)); have n6_ := Aside0.mk ((by rw [hg]; exact Nat.ne_of_gt (blk_lt (g := gb161) (o := .cells #[.int .i64 a0_0, .bool a0_1, .string a0_2, .bool a0_3, .string a0_4, .slice (some ad171) l0_5.length c0_5] 56 (0, 0)) (by (with_reducible repeat first | refine kDN ?_ _ | refine kDr ?_ | refine kAl ?_ _); exact BK161.out)) : gb172 ≠ gb161)); clear BK161; clear HB; have BK161 := n0_; have HB := n1_; have BK172 := n2_; have GW172 := n3_; have GE172 := n4_; have NB161_172 := n5_; have NB172_161 := n6_; clear n0_ n1_ n2_ n3_ n4_ n5_ n6_; clear hb hbox hg; have hnb51 := NB172_161.out; have hnc51 := NB161_172.out; have hcz52_0 : w50.cell? ⟨gb172, 0, none⟩ = some (.string (⟨#[]⟩ : ByteArray)) := (kCe BK172.out 0).trans rfl; have hcz52_1 : w50.cell? ⟨gb172, 1, none⟩ = some (.string (⟨#[]⟩ : ByteArray)) := (kCe BK172.out 1).trans rfl; have hfz52_0 := kFr BK172.out 0; have hfz52_1 := kFr BK172.out 1))
          go_ret
          exact ⟨by first | rfl | (simp [errW_none, errW_some] <;> rfl) | (simp [*, errW_none, errW_some] <;> rfl), by repeat (first | (with_reducible first | exact HB.out | apply bAl | apply bDN | apply bD1 | refine bSe ?_ GE161.out | refine bSe ?_ GE172.out) | exact HB.out)⟩
         ·
          rw [if_neg c49] at H
          have c49b0 : (((rd_T74 l0_5 x49_2).f0).toList == ([] : List UInt8)) = false := beq_eq_false_iff_ne.mpr c49
          have c49b1 : (((rd_T74 l0_5 x49_2).f0).toList != ([] : List UInt8)) = true := bne_iff_ne.mpr c49
          replace H := Option.bind_eq_some_iff.mp H
          obtain ⟨t173, A530, H⟩ := H
          have A53 := Aside0.mk A530
          clear A530
          by_cases c54 : t173 = true
          ·
           subst c54
           rw [if_pos rfl] at H
           replace H := Option.bind_eq_some_iff.mp H
           obtain ⟨t174, A550, H⟩ := H
           have A55 := Aside0.mk A550
           clear A550
           by_cases c56 : t174 = true
           ·
            subst c56
            rw [if_pos rfl] at H
            have H' := Aside0.mk H
            clear H
            have p171 : 0 ≤ (x49_2 : Int) := of_decide_eq_true (by first | (with_reducible assumption) | assumption)
            have q171 : x49_2 < (l0_5.length : Int) := of_decide_eq_true (by first | (with_reducible assumption) | assumption)
            obtain ⟨ad171, e171, hx171_0, hx171_1⟩ := at_T74 HR0_5.out x49_2 p171 q171
            cases e171
            replace hx171_0 := (HB.out.cell (World.block_lt_of_cell? w _ hx171_0)).trans hx171_0
            replace hx171_1 := (HB.out.cell (World.block_lt_of_cell? w _ hx171_1)).trans hx171_1
            replace p171 := eq_true p171
            replace q171 := eq_true q171
            go_wp2_with (first | ((with_reducible refine gate_dst (N := 4) rfl ?_); (try (refine gate_guard (by rfl) ?_; dsimp only)); refine box_event ?hg (N := 4) ?hd (cs := #[.string (⟨#[]⟩ : ByteArray), .string (⟨#[]⟩ : ByteArray)]) (t := 74) ?hr ?_; (case hd => rfl); (case hg => rfl); (case hr => first | (go_simp; done) | (go_simp; rfl)); intro gb172 hg w57 hbox hb; have n0_ := Aside0.mk (blk_below (g := gb161) (o := .cells #[.int .i64 a0_0, .bool a0_1, .string a0_2, .bool a0_3, .string a0_4, .slice (some ad171) l0_5.length c0_5] 56 (0, 0)) (by (with_reducible repeat first | refine kDN ?_ _ | refine kDr ?_ | refine kAl ?_ _); exact BK161.out) hb); have n1_ := Aside0.mk (below_step (by repeat (first | (with_reducible first | exact HB.out | apply bAl | apply bDN | apply bD1 | refine bSe ?_ GE161.out) | exact HB.out)) hb); have n2_ := Aside0.mk (hbox); have n3_ := Aside0.mk ((by rw [hg]; exact (bSz (by repeat (first | (with_reducible first | exact HB.out | apply bAl | apply bDN | apply bD1 | refine bSe ?_ GE161.out) | exact HB.out))) : w.heap.size ≤ gb172)); have n4_ := Aside0.mk ((by rw [hg]; exact (bSz (by repeat (first | (with_reducible first | exact HB.out | apply bAl | apply bDN | apply bD1 | refine bSe ?_ GE161.out) | exact HB.out))) : w.heap.size ≤ gb172)); have n5_ := Aside0.mk ((by rw [hg]; exact Nat.ne_of_lt (blk_lt (g := gb161) (o := .cells #[.int .i64 a0_0, .bool a0_1, .string a0_2, .bool a0_3, .string a0_4, .slice (some ad171) l0_5.length c0_5] 56 (0, 0)) (by (with_reducible repeat first | refine kDN ?_ _ | refine kDr ?_ | refine kAl ?_ _); exact BK161.out)) : gb161 ≠ gb172)); have n6_ := Aside0.mk ((by rw [hg]; exact Nat.ne_of_gt (blk_lt (g := gb161) (o := .cells #[.int .i64 a0_0, .bool a0_1, .string a0_2, .bool a0_3, .string a0_4, .slice (some ad171) l0_5.length c0_5] 56 (0, 0)) (by (with_reducible repeat first | refine kDN ?_ _ | refine kDr ?_ | refine kAl ?_ _); exact BK161.out)) : gb172 ≠ gb161)); clear BK161; clear HB; have BK161 := n0_; have HB := n1_; have BK172 := n2_; have GW172 := n3_; have GE172 := n4_; have NB161_172 := n5_; have NB172_161 := n6_; clear n0_ n1_ n2_ n3_ n4_ n5_ n6_; clear hb hbox hg; have hnb58 := NB172_161.out; have hnc58 := NB161_172.out; have hcz59_0 : w57.cell? ⟨gb172, 0, none⟩ = some (.string (⟨#[]⟩ : ByteArray)) := (kCe BK172.out 0).trans rfl; have hcz59_1 : w57.cell? ⟨gb172, 1, none⟩ = some (.string (⟨#[]⟩ : ByteArray)) := (kCe BK172.out 1).trans rfl; have hfz59_0 := kFr BK172.out 0; have hfz59_1 := kFr BK172.out 1) | (go_at_call 58; (with_reducible refine (impl_textOk.calls ((rd_T74 l0_5 x49_2).f0) true _ A53.out).mono ?_); rintro e w' ⟨rfl, ⟨nd, rfl⟩⟩) | (go_at_call 58; (with_reducible refine (impl_textOk.calls ((rd_T74 l0_5 x49_2).f1) true _ A55.out).mono ?_); rintro e w' ⟨rfl, ⟨nd, rfl⟩⟩))
            go_roundg k2
            case measure => have := HJ1.out; have := HK2.out; omega
            case rel => exact ⟨(wrap64 (x49_2 + 1)), (by first | rfl | (simp; done) | (simp [*]; done) | exact Go.Proofs.Ytjbcgflpeomkfaa.Add.isEmpty_bne _), H', ⟨by have := HJ1.out; have := HK2.out; omega⟩, ⟨by (with_reducible repeat first | refine kDN ?_ _ | refine kDr ?_ | refine kAl ?_ _); refine blk_far ?_ NB161_172.out _; (with_reducible repeat first | refine kDN ?_ _ | refine kDr ?_ | refine kAl ?_ _); refine blk_far ?_ NB161_172.out _; (with_reducible repeat first | refine kDN ?_ _ | refine kDr ?_ | refine kAl ?_ _); exact BK161.out⟩, ⟨by repeat (first | (with_reducible first | exact HB.out | apply bAl | apply bDN | apply bD1 | refine bSe ?_ GE161.out | refine bSe ?_ GE172.out) | exact HB.out)⟩⟩
           ·
            replace c56 := Bool.eq_false_iff.mpr c56
            subst c56
            rw [if_neg (show ¬ (false = true) by decide)] at H
            obtain rfl := Option.some.inj H
            have p171 : 0 ≤ (x49_2 : Int) := of_decide_eq_true (by first | (with_reducible assumption) | assumption)
            have q171 : x49_2 < (l0_5.length : Int) := of_decide_eq_true (by first | (with_reducible assumption) | assumption)
            obtain ⟨ad171, e171, hx171_0, hx171_1⟩ := at_T74 HR0_5.out x49_2 p171 q171
            cases e171
            replace hx171_0 := (HB.out.cell (World.block_lt_of_cell? w _ hx171_0)).trans hx171_0
            replace hx171_1 := (HB.out.cell (World.block_lt_of_cell? w _ hx171_1)).trans hx171_1
            replace p171 := eq_true p171
            replace q171 := eq_true q171
            go_wp2_with (first | ((with_reducible refine gate_dst (N := 4) rfl ?_); (try (refine gate_guard (by rfl) ?_; dsimp only)); refine box_event ?hg (N := 4) ?hd (cs := #[.string (⟨#[]⟩ : ByteArray), .string (⟨#[]⟩ : ByteArray)]) (t := 74) ?hr ?_; (case hd => rfl); (case hg => rfl); (case hr => first | (go_simp; done) | (go_simp; rfl)); intro gb172 hg w60 hbox hb; have n0_ := Aside0.mk (blk_below (g := gb161) (o := .cells #[.int .i64 a0_0, .bool a0_1, .string a0_2, .bool a0_3, .string a0_4, .slice (some ad171) l0_5.length c0_5] 56 (0, 0)) (by (with_reducible repeat first | refine kDN ?_ _ | refine kDr ?_ | refine kAl ?_ _); exact BK161.out) hb); have n1_ := Aside0.mk (below_step (by repeat (first | (with_reducible first | exact HB.out | apply bAl | apply bDN | apply bD1 | refine bSe ?_ GE161.out) | exact HB.out)) hb); have n2_ := Aside0.mk (hbox); have n3_ := Aside0.mk ((by rw [hg]; exact (bSz (by repeat (first | (with_reducible first | exact HB.out | apply bAl | apply bDN | apply bD1 | refine bSe ?_ GE161.out) | exact HB.out))) : w.heap.size ≤ gb172)); have n4_ := Aside0.mk ((by rw [hg]; exact (bSz (by repeat (first | (with_reducible first | exact HB.out | apply bAl | apply bDN | apply bD1 | refine bSe ?_ GE161.out) | exact HB.out))) : w.heap.size ≤ gb172)); have n5_ := Aside0.mk ((by rw [hg]; exact Nat.ne_of_lt (blk_lt (g := gb161) (o := .cells #[.int .i64 a0_0, .bool a0_1, .string a0_2, .bool a0_3, .string a0_4, .slice (some ad171) l0_5.length c0_5] 56 (0, 0)) (by (with_reducible repeat first | refine kDN ?_ _ | refine kDr ?_ | refine kAl ?_ _); exact BK161.out)) : gb161 ≠ gb172)); have n6_ := Aside0.mk ((by rw [hg]; exact Nat.ne_of_gt (blk_lt (g := gb161) (o := .cells #[.int .i64 a0_0, .bool a0_1, .string a0_2, .bool a0_3, .string a0_4, .slice (some ad171) l0_5.length c0_5] 56 (0, 0)) (by (with_reducible repeat first | refine kDN ?_ _ | refine kDr ?_ | refine kAl ?_ _); exact BK161.out)) : gb172 ≠ gb161)); clear BK161; clear HB; have BK161 := n0_; have HB := n1_; have BK172 := n2_; have GW172 := n3_; have GE172 := n4_; have NB161_172 := n5_; have NB172_161 := n6_; clear n0_ n1_ n2_ n3_ n4_ n5_ n6_; clear hb hbox hg; have hnb61 := NB172_161.out; have hnc61 := NB161_172.out; have hcz62_0 : w60.cell? ⟨gb172, 0, none⟩ = some (.string (⟨#[]⟩ : ByteArray)) := (kCe BK172.out 0).trans rfl; have hcz62_1 : w60.cell? ⟨gb172, 1, none⟩ = some (.string (⟨#[]⟩ : ByteArray)) := (kCe BK172.out 1).trans rfl; have hfz62_0 := kFr BK172.out 0; have hfz62_1 := kFr BK172.out 1) | (go_at_call 58; (with_reducible refine (impl_textOk.calls ((rd_T74 l0_5 x49_2).f0) true _ A53.out).mono ?_); rintro e w' ⟨rfl, ⟨nd, rfl⟩⟩) | (go_at_call 58; (with_reducible refine (impl_textOk.calls ((rd_T74 l0_5 x49_2).f1) false _ A55.out).mono ?_); rintro e w' ⟨rfl, ⟨nd, rfl⟩⟩))
            go_ret
            exact ⟨by first | rfl | (simp [errW_none, errW_some] <;> rfl) | (simp [*, errW_none, errW_some] <;> rfl), by repeat (first | (with_reducible first | exact HB.out | apply bAl | apply bDN | apply bD1 | refine bSe ?_ GE161.out | refine bSe ?_ GE172.out) | exact HB.out)⟩
          ·
           replace c54 := Bool.eq_false_iff.mpr c54
           subst c54
           rw [if_neg (show ¬ (false = true) by decide)] at H
           obtain rfl := Option.some.inj H
           have p171 : 0 ≤ (x49_2 : Int) := of_decide_eq_true (by first | (with_reducible assumption) | assumption)
           have q171 : x49_2 < (l0_5.length : Int) := of_decide_eq_true (by first | (with_reducible assumption) | assumption)
           obtain ⟨ad171, e171, hx171_0, hx171_1⟩ := at_T74 HR0_5.out x49_2 p171 q171
           cases e171
           replace hx171_0 := (HB.out.cell (World.block_lt_of_cell? w _ hx171_0)).trans hx171_0
           replace hx171_1 := (HB.out.cell (World.block_lt_of_cell? w _ hx171_1)).trans hx171_1
           replace p171 := eq_true p171
           replace q171 := eq_true q171
           go_wp2_with (first | ((with_reducible refine gate_dst (N := 4) rfl ?_); (try (refine gate_guard (by rfl) ?_; dsimp only)); refine box_event ?hg (N := 4) ?hd (cs := #[.string (⟨#[]⟩ : ByteArray), .string (⟨#[]⟩ : ByteArray)]) (t := 74) ?hr ?_; (case hd => rfl); (case hg => rfl); (case hr => first | (go_simp; done) | (go_simp; rfl)); intro gb172 hg w63 hbox hb; have n0_ := Aside0.mk (blk_below (g := gb161) (o := .cells #[.int .i64 a0_0, .bool a0_1, .string a0_2, .bool a0_3, .string a0_4, .slice (some ad171) l0_5.length c0_5] 56 (0, 0)) (by (with_reducible repeat first | refine kDN ?_ _ | refine kDr ?_ | refine kAl ?_ _); exact BK161.out) hb); have n1_ := Aside0.mk (below_step (by repeat (first | (with_reducible first | exact HB.out | apply bAl | apply bDN | apply bD1 | refine bSe ?_ GE161.out) | exact HB.out)) hb); have n2_ := Aside0.mk (hbox); have n3_ := Aside0.mk ((by rw [hg]; exact (bSz (by repeat (first | (with_reducible first | exact HB.out | apply bAl | apply bDN | apply bD1 | refine bSe ?_ GE161.out) | exact HB.out))) : w.heap.size ≤ gb172)); have n4_ := Aside0.mk ((by rw [hg]; exact (bSz (by repeat (first | (with_reducible first | exact HB.out | apply bAl | apply bDN | apply bD1 | refine bSe ?_ GE161.out) | exact HB.out))) : w.heap.size ≤ gb172)); have n5_ := Aside0.mk ((by rw [hg]; exact Nat.ne_of_lt (blk_lt (g := gb161) (o := .cells #[.int .i64 a0_0, .bool a0_1, .string a0_2, .bool a0_3, .string a0_4, .slice (some ad171) l0_5.length c0_5] 56 (0, 0)) (by (with_reducible repeat first | refine kDN ?_ _ | refine kDr ?_ | refine kAl ?_ _); exact BK161.out)) : gb161 ≠ gb172)); have n6_ := Aside0.mk ((by rw [hg]; exact Nat.ne_of_gt (blk_lt (g := gb161) (o := .cells #[.int .i64 a0_0, .bool a0_1, .string a0_2, .bool a0_3, .string a0_4, .slice (some ad171) l0_5.length c0_5] 56 (0, 0)) (by (with_reducible repeat first | refine kDN ?_ _ | refine kDr ?_ | refine kAl ?_ _); exact BK161.out)) : gb172 ≠ gb161)); clear BK161; clear HB; have BK161 := n0_; have HB := n1_; have BK172 := n2_; have GW172 := n3_; have GE172 := n4_; have NB161_172 := n5_; have NB172_161 := n6_; clear n0_ n1_ n2_ n3_ n4_ n5_ n6_; clear hb hbox hg; have hnb64 := NB172_161.out; have hnc64 := NB161_172.out; have hcz65_0 : w63.cell? ⟨gb172, 0, none⟩ = some (.string (⟨#[]⟩ : ByteArray)) := (kCe BK172.out 0).trans rfl; have hcz65_1 : w63.cell? ⟨gb172, 1, none⟩ = some (.string (⟨#[]⟩ : ByteArray)) := (kCe BK172.out 1).trans rfl; have hfz65_0 := kFr BK172.out 0; have hfz65_1 := kFr BK172.out 1) | (go_at_call 58; (with_reducible refine (impl_textOk.calls ((rd_T74 l0_5 x49_2).f0) false _ A53.out).mono ?_); rintro e w' ⟨rfl, ⟨nd, rfl⟩⟩))
           go_ret
           exact ⟨by first | rfl | (simp [errW_none, errW_some] <;> rfl) | (simp [*, errW_none, errW_some] <;> rfl), by repeat (first | (with_reducible first | exact HB.out | apply bAl | apply bDN | apply bD1 | refine bSe ?_ GE161.out | refine bSe ?_ GE172.out) | exact HB.out)⟩
        ·
         rw [if_neg c48] at H
         exact absurd H (by simp)
       ·
        rw [if_neg c47] at H
        exact absurd H (by simp)
      ·
       rw [if_neg c46] at H
       have c46b0 : decide (x49_2 < (l0_5.length : Int)) = false := decide_eq_false c46
       clear c46
       obtain rfl := Option.some.inj H
       go_wp2
       go_ret
       exact ⟨by first | rfl | (simp [errW_none, errW_some] <;> rfl) | (simp [*, errW_none, errW_some] <;> rfl), by repeat (first | (with_reducible first | exact HB.out | apply bAl | apply bDN | apply bD1 | refine bSe ?_ GE161.out) | exact HB.out)⟩

end Go.Proofs.Ytjbcgflpeomkfaa.F

namespace Go.Proofs.Ytjbcgflpeomkfaa.F
open Go.RowKit Go.Proofs.YtjbcgflpeomkfaaW.PrintWords Go.Proofs.YtjbcgflpeomkfaaW.PrintLast Go.Proofs.YtjbcgflpeomkfaaW.PrintMore
attribute [local go_sem] max2_int min2_int max_two min_two max_three min_three max_four min_four   -- for this text's walks alone
attribute [local go_sem high] Go.Proofs.Ytjbcgflpeomkfaa.Add.string_leq Go.Proofs.Ytjbcgflpeomkfaa.Add.string_gtr
open Go.Proofs.YtjbcgflpeomkfaaW.PrintWords renaming pw_below_drewN → bDN, below_drew1 → bD1, below_alloc → bAl, blk_drewN → kDN, blk_drew → kDr, blk_alloc → kAl, blk_cell → kCe, blk_frozen → kFr
set_option linter.unusedVariables false
set_option linter.unusedSimpArgs false

/-! ### impl_recordsOk: function 35 -/
def impl_recordsOk.l0 : Nat → List (S56) → Int → Int → Option (Bool)
 | 0, _, _, _ => none
 | k + 1, x5, x6, x7 => if x7 < x6 then (if 0 ≤ x7 then (if x7 < (x5.length : Int) then ((impl_RecordOk.f k ((rd_T56 x5 x7).f0) ((rd_T56 x5 x7).f1) ((rd_T56 x5 x7).f2) ((rd_T56 x5 x7).f3) ((rd_T56 x5 x7).f4) ((rd_T56 x5 x7).f5)).bind fun t177 => (if t177 = true then (impl_recordsOk.l0 k x5 x6 (wrap64 (x7 + 1))) else (some false))) else (none)) else (none)) else (some true)
def impl_recordsOk.f (k : Nat) (l0 : List (S56)) : Option (Bool) := impl_recordsOk.l0 k l0 (l0.length : Int) 0
theorem impl_recordsOk.mono_l : ∀ k, (∀ y0 y1 y2, LeO (impl_recordsOk.l0 k y0 y1 y2) (impl_recordsOk.l0 (k + 1) y0 y1 y2))
 | 0 => fun _ _ _ r h => by simp [impl_recordsOk.l0] at h
 | k + 1 => by
  have ih0 := impl_recordsOk.mono_l k
  ·
   intro y0 y1 y2
   unfold impl_recordsOk.l0
   repeat' first
   | (with_reducible exact ih0 _ _ _)
   | (with_reducible exact impl_RecordOk.mono _ _ _ _ _ _ _)
   | (with_reducible exact LeO.refl _)
   | (with_reducible exact LeO.none _)
   | (with_reducible refine LeO.ite ?_ ?_)
   | (with_reducible refine LeO.bind ?_ (fun _ => ?_))
   | exact ih0 _ _ _
   | exact impl_RecordOk.mono _ _ _ _ _ _ _
   | exact LeO.none _
   | refine LeO.ite ?_ ?_
   | refine LeO.bind ?_ (fun _ => ?_)
theorem impl_recordsOk.mono : ∀ a0 k, LeO (impl_recordsOk.f k a0) (impl_recordsOk.f (k + 1) a0) := by
 intro a0 k
 have ih0 := impl_recordsOk.mono_l k
 unfold impl_recordsOk.f
 repeat' first
   | (with_reducible exact ih0 _ _ _)
   | (with_reducible exact impl_RecordOk.mono _ _ _ _ _ _ _)
   | (with_reducible exact LeO.refl _)
   | (with_reducible exact LeO.none _)
   | (with_reducible refine LeO.ite ?_ ?_)
   | (with_reducible refine LeO.bind ?_ (fun _ => ?_))
   | exact ih0 _ _ _
   | exact impl_RecordOk.mono _ _ _ _ _ _ _
   | exact LeO.none _
   | refine LeO.ite ?_ ?_
   | refine LeO.bind ?_ (fun _ => ?_)
set_option maxHeartbeats 8000000 in
set_option maxRecDepth 100000 in
theorem impl_recordsOk.calls (k : Nat) (A0 : Option Addr) (c0 : Nat) (l0 : List (S56)) (r : Bool) (w : World) (hr0 : Kd.C k56 w A0 l0.length l0) (hc0 : l0.length ≤ c0) (h : impl_recordsOk.f k l0 = some r) :
  Calls Try.prog 35 #[.slice A0 l0.length c0] w fun e w' => e = .returned (.bool r) ∧ Below w.heap.size w w' := by
 have hu56 := Try.underlying56
 have HR0 := Aside0.mk hr0
 have HC0 := Aside0.mk hc0
 clear hr0 hc0
 have HB := Aside0.mk (Below.refl w.heap.size w)
 have H : (impl_recordsOk.l0 k l0 (l0.length : Int) 0) = some r := h
 clear h
 have H' := Aside0.mk H
 clear H
 go_enter Try.func35, Try.ntmps35
 go_wp2
 go_loopg [7] k (fun kq v7 w' => ∃ (x7_1 : Int), v7 = .int .i64 x7_1 ∧ Aside0 (impl_recordsOk.l0 kq l0 (l0.length : Int) x7_1 = some r) ∧ Aside0 (kq ≤ k) ∧ Aside0 (Below w.heap.size w w'))
 case atStart => exact ⟨(0), (by first | rfl | (simp; done) | (simp [*]; done) | exact Go.Proofs.Ytjbcgflpeomkfaa.Add.isEmpty_bne _), H', ⟨Nat.le_refl _⟩, ⟨by repeat (first | (with_reducible first | exact HB.out | apply bAl | apply bDN | apply bD1) | exact HB.out)⟩⟩
 case round =>
  clear H'
  obtain ⟨x7_1, rfl, HA, HK1, HB⟩ := hrel
  cases gk with
  | zero => exact absurd HA.out (by simp [impl_recordsOk.l0])
  | succ k1 =>
   have H := HA.out
   clear HA
   simp only [impl_recordsOk.l0] at H
   by_cases c2 : x7_1 < (l0.length : Int)
   ·
    rw [if_pos c2] at H
    have c2b0 : decide (x7_1 < (l0.length : Int)) = true := decide_eq_true c2
    clear c2
    by_cases c3 : 0 ≤ x7_1
    ·
     rw [if_pos c3] at H
     have c3b0 : decide (0 ≤ x7_1) = true := decide_eq_true c3
     clear c3
     by_cases c4 : x7_1 < (l0.length : Int)
     ·
      rw [if_pos c4] at H
      have c4b0 : decide (x7_1 < (l0.length : Int)) = true := decide_eq_true c4
      clear c4
      replace H := Option.bind_eq_some_iff.mp H
      obtain ⟨t177, A50, H⟩ := H
      have A5 := Aside0.mk A50
      clear A50
      by_cases c6 : t177 = true
      ·
       subst c6
       rw [if_pos rfl] at H
       have H' := Aside0.mk H
       clear H
       have p175 : 0 ≤ (x7_1 : Int) := of_decide_eq_true (by first | (with_reducible assumption) | assumption)
       have q175 : x7_1 < (l0.length : Int) := of_decide_eq_true (by first | (with_reducible assumption) | assumption)
       obtain ⟨ad175, A175_5, c175_5, e175, hx175_0, hx175_1, hx175_2, hx175_3, hx175_4, hx175_5, hl175_5, hi175_5⟩ := at_T56 HR0.out x7_1 p175 q175
       cases e175
       replace hx175_0 := (HB.out.cell (World.block_lt_of_cell? w _ hx175_0)).trans hx175_0
       replace hx175_1 := (HB.out.cell (World.block_lt_of_cell? w _ hx175_1)).trans hx175_1
       replace hx175_2 := (HB.out.cell (World.block_lt_of_cell? w _ hx175_2)).trans hx175_2
       replace hx175_3 := (HB.out.cell (World.block_lt_of_cell? w _ hx175_3)).trans hx175_3
       replace hx175_4 := (HB.out.cell (World.block_lt_of_cell? w _ hx175_4)).trans hx175_4
       replace hx175_5 := (HB.out.cell (World.block_lt_of_cell? w _ hx175_5)).trans hx175_5
       have HR175_5 := Aside0.mk hi175_5
       have HC175_5 := Aside0.mk hl175_5
       clear hi175_5 hl175_5
       replace p175 := eq_true p175
       replace q175 := eq_true q175
       go_wp2_with (first | ((with_reducible refine gate_dst (N := 4) rfl ?_); refine box_event ?hg (N := 4) ?hd (cs := #[.int .i64 0, .bool false, .string (⟨#[]⟩ : ByteArray), .bool false, .string (⟨#[]⟩ : ByteArray), .slice none 0 0]) (t := 56) ?hr ?_; (case hd => rfl); (case hg => rfl); (case hr => first | (go_simp; done) | (go_simp; rfl)); intro gb176 hg w7 hbox hb; have n0_ := Aside0.mk (below_step (by repeat (first | (with_reducible first | exact HB.out | apply bAl | apply bDN | apply bD1) | exact HB.out)) hb); have n1_ := Aside0.mk (hbox); have n2_ := Aside0.mk ((by rw [hg]; exact (below_size (by repeat (first | (with_reducible first | exact HB.out | apply bAl | apply bDN | apply bD1) | exact HB.out))) : w.heap.size ≤ gb176)); have n3_ := Aside0.mk ((by rw [hg]; exact (below_size (by repeat (first | (with_reducible first | exact HB.out | apply bAl | apply bDN | apply bD1) | exact HB.out))) : w.heap.size ≤ gb176)); clear HB; have HB := n0_; have BK176 := n1_; have GW176 := n2_; have GE176 := n3_; clear n0_ n1_ n2_ n3_; clear hb hbox hg; have hcz8_0 : w7.cell? ⟨gb176, 0, none⟩ = some (.int .i64 0) := (kCe BK176.out 0).trans rfl; have hcz8_1 : w7.cell? ⟨gb176, 1, none⟩ = some (.bool false) := (kCe BK176.out 1).trans rfl; have hcz8_2 : w7.cell? ⟨gb176, 2, none⟩ = some (.string (⟨#[]⟩ : ByteArray)) := (kCe BK176.out 2).trans rfl; have hcz8_3 : w7.cell? ⟨gb176, 3, none⟩ = some (.bool false) := (kCe BK176.out 3).trans rfl; have hcz8_4 : w7.cell? ⟨gb176, 4, none⟩ = some (.string (⟨#[]⟩ : ByteArray)) := (kCe BK176.out 4).trans rfl; have hcz8_5 : w7.cell? ⟨gb176, 5, none⟩ = some (.slice none 0 0) := (kCe BK176.out 5).trans rfl; have hfz8_0 := kFr BK176.out 0; have hfz8_1 := kFr BK176.out 1; have hfz8_2 := kFr BK176.out 2; have hfz8_3 := kFr BK176.out 3; have hfz8_4 := kFr BK176.out 4; have hfz8_5 := kFr BK176.out 5) | ((with_reducible refine gate_callee (f := 48) rfl ?_); refine goesL_ (some 12) rfl rfl Try.func48 (by kernel_rfl) rfl #[.agg #[.int .i64 ((rd_T56 l0 x7_1).f0), .bool ((rd_T56 l0 x7_1).f1), .string ((rd_T56 l0 x7_1).f2), .bool ((rd_T56 l0 x7_1).f3), .string ((rd_T56 l0 x7_1).f4), .slice A175_5 ((rd_T56 l0 x7_1).f5).length c175_5]] rfl (by (try simp only [List.map_toArray, List.map_cons, List.map_nil]); first | done | rfl | (simp only [List.length_drop, List.length_take]; rfl)) ?_; (with_reducible refine (impl_RecordOk.calls k1 ((rd_T56 l0 x7_1).f0) ((rd_T56 l0 x7_1).f1) ((rd_T56 l0 x7_1).f2) ((rd_T56 l0 x7_1).f3) ((rd_T56 l0 x7_1).f4) _ _ ((rd_T56 l0 x7_1).f5) true _ ?side1 ?side2 A5.out).mono ?_); (case side1 => exact Kd.C_below HR175_5.out (by repeat (first | (with_reducible first | exact HB.out | apply bAl | apply bDN | apply bD1 | refine below_set ?_ GE176.out) | exact HB.out))); (case side2 => exact HC175_5.out); rintro e w9 ⟨rfl, hb⟩; refine ⟨_, rfl, ?_⟩; have n0_ := Aside0.mk (blk_below (g := gb176) (o := .cells #[.int .i64 ((rd_T56 l0 x7_1).f0), .bool ((rd_T56 l0 x7_1).f1), .string ((rd_T56 l0 x7_1).f2), .bool ((rd_T56 l0 x7_1).f3), .string ((rd_T56 l0 x7_1).f4), .slice A175_5 ((rd_T56 l0 x7_1).f5).length c175_5] 56 (0, 0)) (by (with_reducible repeat first | refine kDN ?_ _ | refine kDr ?_ | refine kAl ?_ _); refine blk_put (cs := #[.int .i64 ((rd_T56 l0 x7_1).f0), .bool ((rd_T56 l0 x7_1).f1), .string ((rd_T56 l0 x7_1).f2), .bool ((rd_T56 l0 x7_1).f3), .string ((rd_T56 l0 x7_1).f4), .slice none 0 0]) ?_ 5 _ rfl; (with_reducible repeat first | refine kDN ?_ _ | refine kDr ?_ | refine kAl ?_ _); refine blk_put (cs := #[.int .i64 ((rd_T56 l0 x7_1).f0), .bool ((rd_T56 l0 x7_1).f1), .string ((rd_T56 l0 x7_1).f2), .bool ((rd_T56 l0 x7_1).f3), .string (⟨#[]⟩ : ByteArray), .slice none 0 0]) ?_ 4 _ rfl; (with_reducible repeat first | refine kDN ?_ _ | refine kDr ?_ | refine kAl ?_ _); refine blk_put (cs := #[.int .i64 ((rd_T56 l0 x7_1).f0), .bool ((rd_T56 l0 x7_1).f1), .string ((rd_T56 l0 x7_1).f2), .bool false, .string (⟨#[]⟩ : ByteArray), .slice none 0 0]) ?_ 3 _ rfl; (with_reducible repeat first | refine kDN ?_ _ | refine kDr ?_ | refine kAl ?_ _); refine blk_put (cs := #[.int .i64 ((rd_T56 l0 x7_1).f0), .bool ((rd_T56 l0 x7_1).f1), .string (⟨#[]⟩ : ByteArray), .bool false, .string (⟨#[]⟩ : ByteArray), .slice none 0 0]) ?_ 2 _ rfl; (with_reducible repeat first | refine kDN ?_ _ | refine kDr ?_ | refine kAl ?_ _); refine blk_put (cs := #[.int .i64 ((rd_T56 l0 x7_1).f0), .bool false, .string (⟨#[]⟩ : ByteArray), .bool false, .string (⟨#[]⟩ : ByteArray), .slice none 0 0]) ?_ 1 _ rfl; (with_reducible repeat first | refine kDN ?_ _ | refine kDr ?_ | refine kAl ?_ _); refine blk_put (cs := #[.int .i64 0, .bool false, .string (⟨#[]⟩ : ByteArray), .bool false, .string (⟨#[]⟩ : ByteArray), .slice none 0 0]) ?_ 0 _ rfl; (with_reducible repeat first | refine kDN ?_ _ | refine kDr ?_ | refine kAl ?_ _); exact BK176.out) hb); have n1_ := Aside0.mk (below_step (by repeat (first | (with_reducible first | exact HB.out | apply bAl | apply bDN | apply bD1 | refine below_set ?_ GE176.out) | exact HB.out)) hb); clear BK176; clear HB; have BK176 := n0_; have HB := n1_; clear n0_ n1_; (try clear hb); (try clear hb2); (try clear hk); (try clear hi)))
       go_roundg k1
       case measure => have := HK1.out; omega
       case rel => exact ⟨(wrap64 (x7_1 + 1)), (by first | rfl | (simp; done) | (simp [*]; done) | exact Go.Proofs.Ytjbcgflpeomkfaa.Add.isEmpty_bne _), H', ⟨by have := HK1.out; omega⟩, ⟨by repeat (first | (with_reducible first | exact HB.out | apply bAl | apply bDN | apply bD1 | refine below_set ?_ GE176.out) | exact HB.out)⟩⟩
      ·
       replace c6 := Bool.eq_false_iff.mpr c6
       subst c6
       rw [if_neg (show ¬ (false = true) by decide)] at H
       obtain rfl := Option.some.inj H
       have p175 : 0 ≤ (x7_1 : Int) := of_decide_eq_true (by first | (with_reducible assumption) | assumption)
       have q175 : x7_1 < (l0.length : Int) := of_decide_eq_true (by first | (with_reducible assumption) | assumption)
       obtain ⟨ad175, A175_5, c175_5, e175, hx175_0, hx175_1, hx175_2, hx175_3, hx175_4, hx175_5, hl175_5, hi175_5⟩ := at_T56 HR0.out x7_1 p175 q175
       cases e175
       replace hx175_0 := (HB.out.cell (World.block_lt_of_cell? w _ hx175_0)).trans hx175_0
       replace hx175_1 := (HB.out.cell (World.block_lt_of_cell? w _ hx175_1)).trans hx175_1
       replace hx175_2 := (HB.out.cell (World.block_lt_of_cell? w _ hx175_2)).trans hx175_2
       replace hx175_3 := (HB.out.cell (World.block_lt_of_cell? w _ hx175_3)).trans hx175_3
       replace hx175_4 := (HB.out.cell (World.block_lt_of_cell? w _ hx175_4)).trans hx175_4
       replace hx175_5 := (HB.out.cell (World.block_lt_of_cell? w _ hx175_5)).trans hx175_5
       have HR175_5 := Aside0.mk hi175_5
       have HC175_5 := Aside0.mk hl175_5
       clear hi175_5 hl175_5
       replace p175 := eq_true p175
       replace q175 := eq_true q175
       go_wp2_with (first | ((with_reducible refine gate_dst (N := 4) rfl ?_); refine box_event ?hg (N := 4) ?hd (cs := #[.int .i64 0, .bool false, .string (⟨#[]⟩ : ByteArray), .bool false, .string (⟨#[]⟩ : ByteArray), .slice none 0 0]) (t := 56) ?hr ?_; (case hd => rfl); (case hg => rfl); (case hr => first | (go_simp; done) | (go_simp; rfl)); intro gb176 hg w10 hbox hb; have n0_ := Aside0.mk (below_step (by repeat (first | (with_reducible first | exact HB.out | apply bAl | apply bDN | apply bD1) | exact HB.out)) hb); have n1_ := Aside0.mk (hbox); have n2_ := Aside0.mk ((by rw [hg]; exact (below_size (by repeat (first | (with_reducible first | exact HB.out | apply bAl | apply bDN | apply bD1) | exact HB.out))) : w.heap.size ≤ gb176)); have n3_ := Aside0.mk ((by rw [hg]; exact (below_size (by repeat (first | (with_reducible first | exact HB.out | apply bAl | apply bDN | apply bD1) | exact HB.out))) : w.heap.size ≤ gb176)); clear HB; have HB := n0_; have BK176 := n1_; have GW176 := n2_; have GE176 := n3_; clear n0_ n1_ n2_ n3_; clear hb hbox hg; have hcz11_0 : w10.cell? ⟨gb176, 0, none⟩ = some (.int .i64 0) := (kCe BK176.out 0).trans rfl; have hcz11_1 : w10.cell? ⟨gb176, 1, none⟩ = some (.bool false) := (kCe BK176.out 1).trans rfl; have hcz11_2 : w10.cell? ⟨gb176, 2, none⟩ = some (.string (⟨#[]⟩ : ByteArray)) := (kCe BK176.out 2).trans rfl; have hcz11_3 : w10.cell? ⟨gb176, 3, none⟩ = some (.bool false) := (kCe BK176.out 3).trans rfl; have hcz11_4 : w10.cell? ⟨gb176, 4, none⟩ = some (.string (⟨#[]⟩ : ByteArray)) := (kCe BK176.out 4).trans rfl; have hcz11_5 : w10.cell? ⟨gb176, 5, none⟩ = some (.slice none 0 0) := (kCe BK176.out 5).trans rfl; have hfz11_0 := kFr BK176.out 0; have hfz11_1 := kFr BK176.out 1; have hfz11_2 := kFr BK176.out 2; have hfz11_3 := kFr BK176.out 3; have hfz11_4 := kFr BK176.out 4; have hfz11_5 := kFr BK176.out 5) | ((with_reducible refine gate_callee (f := 48) rfl ?_); refine goesL_ (some 12) rfl rfl Try.func48 (by kernel_rfl) rfl #[.agg #[.int .i64 ((rd_T56 l0 x7_1).f0), .bool ((rd_T56 l0 x7_1).f1), .string ((rd_T56 l0 x7_1).f2), .bool ((rd_T56 l0 x7_1).f3), .string ((rd_T56 l0 x7_1).f4), .slice A175_5 ((rd_T56 l0 x7_1).f5).length c175_5]] rfl (by (try simp only [List.map_toArray, List.map_cons, List.map_nil]); first | done | rfl | (simp only [List.length_drop, List.length_take]; rfl)) ?_; (with_reducible refine (impl_RecordOk.calls k1 ((rd_T56 l0 x7_1).f0) ((rd_T56 l0 x7_1).f1) ((rd_T56 l0 x7_1).f2) ((rd_T56 l0 x7_1).f3) ((rd_T56 l0 x7_1).f4) _ _ ((rd_T56 l0 x7_1).f5) false _ ?side1 ?side2 A5.out).mono ?_); (case side1 => exact Kd.C_below HR175_5.out (by repeat (first | (with_reducible first | exact HB.out | apply bAl | apply bDN | apply bD1 | refine below_set ?_ GE176.out) | exact HB.out))); (case side2 => exact HC175_5.out); rintro e w12 ⟨rfl, hb⟩; refine ⟨_, rfl, ?_⟩; have n0_ := Aside0.mk (blk_below (g := gb176) (o := .cells #[.int .i64 ((rd_T56 l0 x7_1).f0), .bool ((rd_T56 l0 x7_1).f1), .string ((rd_T56 l0 x7_1).f2), .bool ((rd_T56 l0 x7_1).f3), .string ((rd_T56 l0 x7_1).f4), .slice A175_5 ((rd_T56 l0 x7_1).f5).length c175_5] 56 (0, 0)) (by (with_reducible repeat first | refine kDN ?_ _ | refine kDr ?_ | refine kAl ?_ _); refine blk_put (cs := #[.int .i64 ((rd_T56 l0 x7_1).f0), .bool ((rd_T56 l0 x7_1).f1), .string ((rd_T56 l0 x7_1).f2), .bool ((rd_T56 l0 x7_1).f3), .string ((rd_T56 l0 x7_1).f4), .slice none 0 0]) ?_ 5 _ rfl; (with_reducible repeat first | refine kDN ?_ _ | refine kDr ?_ | refine kAl ?_ _); refine blk_put (cs := #[.int .i64 ((rd_T56 l0 x7_1).f0), .bool ((rd_T56 l0 x7_1).f1), .string ((rd_T56 l0 x7_1).f2), .bool ((rd_T56 l0 x7_1).f3), .string (⟨#[]⟩ : ByteArray), .slice none 0 0]) ?_ 4 _ rfl; (with_reducible repeat first | refine kDN ?_ _ | refine kDr ?_ | refine kAl ?_ _); refine blk_put (cs := #[.int .i64 ((rd_T56 l0 x7_1).f0), .bool ((rd_T56 l0 x7_1).f1), .string ((rd_T56 l0 x7_1).f2), .bool false, .string (⟨#[]⟩ : ByteArray), .slice none 0 0]) ?_ 3 _ rfl; (with_reducible repeat first | refine kDN ?_ _ | refine kDr ?_ | refine kAl ?_ _); refine blk_put (cs := #[.int .i64 ((rd_T56 l0 x7_1).f0), .bool ((rd_T56 l0 x7_1).f1), .string (⟨#[]⟩ : ByteArray), .bool false, .string (⟨#[]⟩ : ByteArray), .slice none 0 0]) ?_ 2 _ rfl; (with_reducible repeat first | refine kDN ?_ _ | refine kDr ?_ | refine kAl ?_ _); refine blk_put (cs := #[.int .i64 ((rd_T56 l0 x7_1).f0), .bool false, .string (⟨#[]⟩ : ByteArray), .bool false, .string (⟨#[]⟩ : ByteArray), .slice none 0 0]) ?_ 1 _ rfl; (with_reducible repeat first | refine kDN ?_ _ | refine kDr ?_ | refine kAl ?_ _); refine blk_put (cs := #[.int .i64 0, .bool false, .string (⟨#[]⟩ : ByteArray), .bool false, .string (⟨#[]⟩ : ByteArray), .slice none 0 0]) ?_ 0 _ rfl; (with_reducible repeat first | refine kDN ?_ _ | refine kDr ?_ | refine kAl ?_ _); exact BK176.out) hb); have n1_ := Aside0.mk (below_step (by repeat (first | (with_reducible first | exact HB.out | apply bAl | apply bDN | apply bD1 | refine below_set ?_ GE176.out) | exact HB.out)) hb); clear BK176; clear HB; have BK176 := n0_; have HB := n1_; clear n0_ n1_; (try clear hb); (try clear hb2); (try clear hk); (try clear hi)))
       go_ret
       exact ⟨by first | rfl | (simp [errW_none, errW_some] <;> rfl) | (simp [*, errW_none, errW_some] <;> rfl), by repeat (first | (with_reducible first | exact HB.out | apply bAl | apply bDN | apply bD1 | refine below_set ?_ GE176.out) | exact HB.out)⟩
     ·
      rw [if_neg c4] at H
      exact absurd H (by simp)
    ·
     rw [if_neg c3] at H
     exact absurd H (by simp)
   ·
    rw [if_neg c2] at H
    have c2b0 : decide (x7_1 < (l0.length : Int)) = false := decide_eq_false c2
    clear c2
    obtain rfl := Option.some.inj H
    go_wp2
    go_ret
    exact ⟨by first | rfl | (simp [errW_none, errW_some] <;> rfl) | (simp [*, errW_none, errW_some] <;> rfl), by repeat (first | (with_reducible first | exact HB.out | apply bAl | apply bDN | apply bD1) | exact HB.out)⟩

end Go.Proofs.Ytjbcgflpeomkfaa.F

namespace Go.Proofs.Ytjbcgflpeomkfaa.F
open Go.RowKit Go.Proofs.YtjbcgflpeomkfaaW.PrintWords Go.Proofs.YtjbcgflpeomkfaaW.PrintLast Go.Proofs.YtjbcgflpeomkfaaW.PrintMore
attribute [local go_sem] max2_int min2_int max_two min_two max_three min_three max_four min_four   -- for this text's walks alone
attribute [local go_sem high] Go.Proofs.Ytjbcgflpeomkfaa.Add.string_leq Go.Proofs.Ytjbcgflpeomkfaa.Add.string_gtr
open Go.Proofs.YtjbcgflpeomkfaaW.PrintWords renaming pw_below_drewN → bDN, below_drew1 → bD1, below_alloc → bAl, blk_drewN → kDN, blk_drew → kDr, blk_alloc → kAl, below_set → bSe, below_size → bSz, below_step → bSt, blk_cell → kCe, blk_frozen → kFr, blk_below → kBe, gate_callee → gCa, gate_guard → gGu, gate_dst → gDs, box_event → bEv
set_option linter.unusedVariables false
set_option linter.unusedSimpArgs false

/-! ### impl_BatchOk: function 12 -/
mutual
def impl_BatchOk.j0 : Nat → Int → Bool → Int → Int → Int → Int → Int → Int → List (S56) → Option (Bool)
 | 0, _, _, _, _, _, _, _, _, _ => none
 | k + 1, x3, x52, x179000, x179001, x179002, x179003, x179004, x179005, x179006 => if x52 = true then (some false) else ((impl_offsetOk.f (wrap64 ((wrap64 (x179000 + x3)) - 1))).bind fun t187 => (if t187 = true then ((impl_offsetOk.f (wrap64 ((wrap64 (x179004 + x3)) - 1))).bind fun t188 => (if t188 = true then (if x179002 = (-1) then (if x179003 = 0 then (if x179004 = 0 then (impl_BatchOk.j1 k x3 ((Go.bits .and .i64 x179005 2) != 0) x179000 x179001 x179002 x179003 x179004 x179005 x179006) else (impl_BatchOk.j1 k x3 true x179000 x179001 x179002 x179003 x179004 x179005 x179006)) else (impl_BatchOk.j1 k x3 true x179000 x179001 x179002 x179003 x179004 x179005 x179006)) else (impl_BatchOk.j1 k x3 false x179000 x179001 x179002 x179003 x179004 x179005 x179006)) else (impl_BatchOk.j1 k x3 true x179000 x179001 x179002 x179003 x179004 x179005 x179006))) else (impl_BatchOk.j1 k x3 true x179000 x179001 x179002 x179003 x179004 x179005 x179006)))
def impl_BatchOk.j1 : Nat → Int → Bool → Int → Int → Int → Int → Int → Int → List (S56) → Option (Bool)
 | 0, _, _, _, _, _, _, _, _, _ => none
 | k + 1, x3, x89, x179000, x179001, x179002, x179003, x179004, x179005, x179006 => if x89 = true then (some false) else (if (Go.bits .and .i64 x179005 4) = 0 then (some true) else (if 0 < (x179006.length : Int) then (if (Go.bits .and .i64 x179005 2) = 0 then (some false) else (if x3 = 1 then (if (rd_T56 x179006 0).f1 = true then (if ((rd_T56 x179006 0).f2).toList = ([99, 111, 109, 109, 105, 116] : List UInt8) then (if ((rd_T56 x179006 0).f3 = true) then (some false) else (if ((rd_T56 x179006 0).f4).toList = ([] : List UInt8) then (some ((((rd_T56 x179006 0).f5).length : Int) == 0)) else (some false))) else (if ((rd_T56 x179006 0).f2).toList = ([97, 98, 111, 114, 116] : List UInt8) then (if ((rd_T56 x179006 0).f3 = true) then (some false) else (if ((rd_T56 x179006 0).f4).toList = ([] : List UInt8) then (some ((((rd_T56 x179006 0).f5).length : Int) == 0)) else (some false))) else (some false))) else (some false)) else (some false))) else (none)))
end
def impl_BatchOk.f (k : Nat) (a0_0 : Int) (a0_1 : Int) (a0_2 : Int) (a0_3 : Int) (a0_4 : Int) (a0_5 : Int) (l0_6 : List (S56)) : Option (Bool) := (impl_offsetOk.f a0_0).bind fun t179 => (if t179 = true then ((impl_within.f a0_1 0 1000000).bind fun t180 => (if t180 = true then ((impl_within.f a0_2 (-1) 1000000000).bind fun t181 => (if t181 = true then ((impl_within.f a0_3 0 1000).bind fun t182 => (if t182 = true then ((impl_offsetOk.f a0_4).bind fun t183 => (if t183 = true then ((impl_within.f a0_5 0 7).bind fun t184 => (if t184 = true then ((impl_within.f (l0_6.length : Int) 1 40).bind fun t185 => (if t185 = true then ((impl_recordsOk.f k l0_6).bind fun t186 => (impl_BatchOk.j0 k (l0_6.length : Int) (!t186) a0_0 a0_1 a0_2 a0_3 a0_4 a0_5 l0_6)) else (impl_BatchOk.j0 k (l0_6.length : Int) true a0_0 a0_1 a0_2 a0_3 a0_4 a0_5 l0_6))) else (impl_BatchOk.j0 k (l0_6.length : Int) true a0_0 a0_1 a0_2 a0_3 a0_4 a0_5 l0_6))) else (impl_BatchOk.j0 k (l0_6.length : Int) true a0_0 a0_1 a0_2 a0_3 a0_4 a0_5 l0_6))) else (impl_BatchOk.j0 k (l0_6.length : Int) true a0_0 a0_1 a0_2 a0_3 a0_4 a0_5 l0_6))) else (impl_BatchOk.j0 k (l0_6.length : Int) true a0_0 a0_1 a0_2 a0_3 a0_4 a0_5 l0_6))) else (impl_BatchOk.j0 k (l0_6.length : Int) true a0_0 a0_1 a0_2 a0_3 a0_4 a0_5 l0_6))) else (impl_BatchOk.j0 k (l0_6.length : Int) true a0_0 a0_1 a0_2 a0_3 a0_4 a0_5 l0_6))
theorem impl_BatchOk.mono_l : ∀ k, (∀ y0 y1 y2 y3 y4 y5 y6 y7 y8, LeO (impl_BatchOk.j0 k y0 y1 y2 y3 y4 y5 y6 y7 y8) (impl_BatchOk.j0 (k + 1) y0 y1 y2 y3 y4 y5 y6 y7 y8)) ∧ (∀ y0 y1 y2 y3 y4 y5 y6 y7 y8, LeO (impl_BatchOk.j1 k y0 y1 y2 y3 y4 y5 y6 y7 y8) (impl_BatchOk.j1 (k + 1) y0 y1 y2 y3 y4 y5 y6 y7 y8))
 | 0 => ⟨fun _ _ _ _ _ _ _ _ _ r h => by simp [impl_BatchOk.j0] at h, fun _ _ _ _ _ _ _ _ _ r h => by simp [impl_BatchOk.j1] at h⟩
 | k + 1 => by
  obtain ⟨ih0, ih1⟩ := impl_BatchOk.mono_l k
  refine ⟨?_, ?_⟩
  ·
   intro y0 y1 y2 y3 y4 y5 y6 y7 y8
   unfold impl_BatchOk.j0
   repeat' first
   | (with_reducible exact ih0 _ _ _ _ _ _ _ _ _)
   | (with_reducible exact ih1 _ _ _ _ _ _ _ _ _)
   | (with_reducible exact impl_recordsOk.mono _ _)
   | (with_reducible exact LeO.refl _)
   | (with_reducible exact LeO.none _)
   | (with_reducible refine LeO.ite ?_ ?_)
   | (with_reducible refine LeO.bind ?_ (fun _ => ?_))
   | exact ih0 _ _ _ _ _ _ _ _ _
   | exact ih1 _ _ _ _ _ _ _ _ _
   | exact impl_recordsOk.mono _ _
   | exact LeO.none _
   | refine LeO.ite ?_ ?_
   | refine LeO.bind ?_ (fun _ => ?_)
  ·
   intro y0 y1 y2 y3 y4 y5 y6 y7 y8
   unfold impl_BatchOk.j1
   repeat' first
   | (with_reducible exact ih0 _ _ _ _ _ _ _ _ _)
   | (with_reducible exact ih1 _ _ _ _ _ _ _ _ _)
   | (with_reducible exact impl_recordsOk.mono _ _)
   | (with_reducible exact LeO.refl _)
   | (with_reducible exact LeO.none _)
   | (with_reducible refine LeO.ite ?_ ?_)
   | (with_reducible refine LeO.bind ?_ (fun _ => ?_))
   | exact ih0 _ _ _ _ _ _ _ _ _
   | exact ih1 _ _ _ _ _ _ _ _ _
   | exact impl_recordsOk.mono _ _
   | exact LeO.none _
   | refine LeO.ite ?_ ?_
   | refine LeO.bind ?_ (fun _ => ?_)
theorem impl_BatchOk.mono : ∀ a0 a1 a2 a3 a4 a5 a6 k, LeO (impl_BatchOk.f k a0 a1 a2 a3 a4 a5 a6) (impl_BatchOk.f (k + 1) a0 a1 a2 a3 a4 a5 a6) := by
 intro a0 a1 a2 a3 a4 a5 a6 k
 obtain ⟨ih0, ih1⟩ := impl_BatchOk.mono_l k
 unfold impl_BatchOk.f
 repeat' first
   | (with_reducible exact ih0 _ _ _ _ _ _ _ _ _)
   | (with_reducible exact ih1 _ _ _ _ _ _ _ _ _)
   | (with_reducible exact impl_recordsOk.mono _ _)
   | (with_reducible exact LeO.refl _)
   | (with_reducible exact LeO.none _)
   | (with_reducible refine LeO.ite ?_ ?_)
   | (with_reducible refine LeO.bind ?_ (fun _ => ?_))
   | exact ih0 _ _ _ _ _ _ _ _ _
   | exact ih1 _ _ _ _ _ _ _ _ _
   | exact impl_recordsOk.mono _ _
   | exact LeO.none _
   | refine LeO.ite ?_ ?_
   | refine LeO.bind ?_ (fun _ => ?_)
set_option maxHeartbeats 8000000 in
set_option maxRecDepth 100000 in
theorem impl_BatchOk.calls (k : Nat) (a0_0 : Int) (a0_1 : Int) (a0_2 : Int) (a0_3 : Int) (a0_4 : Int) (a0_5 : Int) (A0_6 : Option Addr) (c0_6 : Nat) (l0_6 : List (S56)) (r : Bool) (w : World) (hr0_6 : Kd.C k56 w A0_6 l0_6.length l0_6) (hc0_6 : l0_6.length ≤ c0_6) (h : impl_BatchOk.f k a0_0 a0_1 a0_2 a0_3 a0_4 a0_5 l0_6 = some r) :
  Calls Try.prog 12 #[.agg #[.int .i64 a0_0, .int .i64 a0_1, .int .i64 a0_2, .int .i64 a0_3, .int .i64 a0_4, .int .i64 a0_5, .slice A0_6 l0_6.length c0_6]] w fun e w' => e = .returned (.bool r) ∧ Below w.heap.size w w' := by
 have hu29 := Try.underlying29
 have hu56 := Try.underlying56
 have HR0_6 := Aside0.mk hr0_6
 have HC0_6 := Aside0.mk hc0_6
 clear hr0_6 hc0_6
 have HB := Aside0.mk (Below.refl w.heap.size w)
 have H : ((impl_offsetOk.f a0_0).bind fun t179 => (if t179 = true then ((impl_within.f a0_1 0 1000000).bind fun t180 => (if t180 = true then ((impl_within.f a0_2 (-1) 1000000000).bind fun t181 => (if t181 = true then ((impl_within.f a0_3 0 1000).bind fun t182 => (if t182 = true then ((impl_offsetOk.f a0_4).bind fun t183 => (if t183 = true then ((impl_within.f a0_5 0 7).bind fun t184 => (if t184 = true then ((impl_within.f (l0_6.length : Int) 1 40).bind fun t185 => (if t185 = true then ((impl_recordsOk.f k l0_6).bind fun t186 => (impl_BatchOk.j0 k (l0_6.length : Int) (!t186) a0_0 a0_1 a0_2 a0_3 a0_4 a0_5 l0_6)) else (impl_BatchOk.j0 k (l0_6.length : Int) true a0_0 a0_1 a0_2 a0_3 a0_4 a0_5 l0_6))) else (impl_BatchOk.j0 k (l0_6.length : Int) true a0_0 a0_1 a0_2 a0_3 a0_4 a0_5 l0_6))) else (impl_BatchOk.j0 k (l0_6.length : Int) true a0_0 a0_1 a0_2 a0_3 a0_4 a0_5 l0_6))) else (impl_BatchOk.j0 k (l0_6.length : Int) true a0_0 a0_1 a0_2 a0_3 a0_4 a0_5 l0_6))) else (impl_BatchOk.j0 k (l0_6.length : Int) true a0_0 a0_1 a0_2 a0_3 a0_4 a0_5 l0_6))) else (impl_BatchOk.j0 k (l0_6.length : Int) true a0_0 a0_1 a0_2 a0_3 a0_4 a0_5 l0_6))) else (impl_BatchOk.j0 k (l0_6.length : Int) true a0_0 a0_1 a0_2 a0_3 a0_4 a0_5 l0_6))) = some r := h
 clear h
 have HC2 := Aside0.mk H
 clear H
 go_enter Try.func12, Try.ntmps12
 go_upto_region 2 with (first | ((with_reducible refine gDs (N := 1) rfl ?_); (try (refine gGu (by rfl) ?_; dsimp only)); refine bEv ?hg (N := 1) ?hd (cs := #[.int .i64 a0_0, .int .i64 a0_1, .int .i64 a0_2, .int .i64 a0_3, .int .i64 a0_4, .int .i64 a0_5, .slice A0_6 l0_6.length c0_6]) (t := 29) ?hr ?_; (case hd => rfl); (case hg => rfl); (case hr => first | (go_simp; done) | (go_simp; rfl)); intro gb178 hg w3 hbox hb; have n0_ := Aside0.mk (bSt (by repeat (first | (with_reducible first | exact HB.out | apply bAl | apply bDN | apply bD1) | exact HB.out)) hb); have n1_ := Aside0.mk (hbox); have n2_ := Aside0.mk ((by rw [hg]; exact (bSz (by repeat (first | (with_reducible first | exact HB.out | apply bAl | apply bDN | apply bD1) | exact HB.out))) : w.heap.size ≤ gb178)); have n3_ := Aside0.mk ((by rw [hg]; exact (bSz (by repeat (first | (with_reducible first | exact HB.out | apply bAl | apply bDN | apply bD1) | exact HB.out))) : w.heap.size ≤ gb178)); clear HB; have HB := n0_; have BK178 := n1_; have GW178 := n2_; have GE178 := n3_; clear n0_ n1_ n2_ n3_; clear hb hbox hg; have hcz4_0 : w3.cell? ⟨gb178, 0, none⟩ = some (.int .i64 a0_0) := (kCe BK178.out 0).trans rfl; have hcz4_1 : w3.cell? ⟨gb178, 1, none⟩ = some (.int .i64 a0_1) := (kCe BK178.out 1).trans rfl; have hcz4_2 : w3.cell? ⟨gb178, 2, none⟩ = some (.int .i64 a0_2) := (kCe BK178.out 2).trans rfl; have hcz4_3 : w3.cell? ⟨gb178, 3, none⟩ = some (.int .i64 a0_3) := (kCe BK178.out 3).trans rfl; have hcz4_4 : w3.cell? ⟨gb178, 4, none⟩ = some (.int .i64 a0_4) := (kCe BK178.out 4).trans rfl; have hcz4_5 : w3.cell? ⟨gb178, 5, none⟩ = some (.int .i64 a0_5) := (kCe BK178.out 5).trans rfl; have hcz4_6 : w3.cell? ⟨gb178, 6, none⟩ = some (.slice A0_6 l0_6.length c0_6) := (kCe BK178.out 6).trans rfl; have hfz4_0 := kFr BK178.out 0; have hfz4_1 := kFr BK178.out 1; have hfz4_2 := kFr BK178.out 2; have hfz4_3 := kFr BK178.out 3; have hfz4_4 := kFr BK178.out 4; have hfz4_5 := kFr BK178.out 5; have hfz4_6 := kFr BK178.out 6))
 (try simp only [Act.put, List.setIfInBounds_toArray, List.set_cons_zero, List.set_cons_succ])
 go_cut [52] (fun v52 wc => ∃ (kq : Nat) (x52_1 : Bool), v52 = .bool x52_1 ∧ Aside0 (impl_BatchOk.j0 kq (l0_6.length : Int) x52_1 a0_0 a0_1 a0_2 a0_3 a0_4 a0_5 l0_6 = some r) ∧ Aside0 (kq ≤ k) ∧ Aside0 (wc.heap[gb178]? = some (.cells #[.int .i64 a0_0, .int .i64 a0_1, .int .i64 a0_2, .int .i64 a0_3, .int .i64 a0_4, .int .i64 a0_5, (.slice A0_6 l0_6.length c0_6)] 29 (0, 0))) ∧ Aside0 (Below w.heap.size w wc))
 case first =>
  have H := HC2.out
  clear HC2
  replace H := Option.bind_eq_some_iff.mp H
  obtain ⟨t179, A50, H⟩ := H
  have A5 := Aside0.mk A50
  clear A50
  by_cases c6 : t179 = true
  ·
   subst c6
   rw [if_pos rfl] at H
   replace H := Option.bind_eq_some_iff.mp H
   obtain ⟨t180, A70, H⟩ := H
   have A7 := Aside0.mk A70
   clear A70
   by_cases c8 : t180 = true
   ·
    subst c8
    rw [if_pos rfl] at H
    replace H := Option.bind_eq_some_iff.mp H
    obtain ⟨t181, A90, H⟩ := H
    have A9 := Aside0.mk A90
    clear A90
    by_cases c10 : t181 = true
    ·
     subst c10
     rw [if_pos rfl] at H
     replace H := Option.bind_eq_some_iff.mp H
     obtain ⟨t182, A110, H⟩ := H
     have A11 := Aside0.mk A110
     clear A110
     by_cases c12 : t182 = true
     ·
      subst c12
      rw [if_pos rfl] at H
      replace H := Option.bind_eq_some_iff.mp H
      obtain ⟨t183, A130, H⟩ := H
      have A13 := Aside0.mk A130
      clear A130
      by_cases c14 : t183 = true
      ·
       subst c14
       rw [if_pos rfl] at H
       replace H := Option.bind_eq_some_iff.mp H
       obtain ⟨t184, A150, H⟩ := H
       have A15 := Aside0.mk A150
       clear A150
       by_cases c16 : t184 = true
       ·
        subst c16
        rw [if_pos rfl] at H
        replace H := Option.bind_eq_some_iff.mp H
        obtain ⟨t185, A170, H⟩ := H
        have A17 := Aside0.mk A170
        clear A170
        by_cases c18 : t185 = true
        ·
         subst c18
         rw [if_pos rfl] at H
         replace H := Option.bind_eq_some_iff.mp H
         obtain ⟨t186, A190, H⟩ := H
         have A19 := Aside0.mk A190
         clear A190
         have H' := Aside0.mk H
         clear H
         have hcz20_0 : w3.cell? ⟨gb178, 0, none⟩ = some (.int .i64 a0_0) := (kCe BK178.out 0).trans rfl
         have hcz20_1 : w3.cell? ⟨gb178, 1, none⟩ = some (.int .i64 a0_1) := (kCe BK178.out 1).trans rfl
         have hcz20_2 : w3.cell? ⟨gb178, 2, none⟩ = some (.int .i64 a0_2) := (kCe BK178.out 2).trans rfl
         have hcz20_3 : w3.cell? ⟨gb178, 3, none⟩ = some (.int .i64 a0_3) := (kCe BK178.out 3).trans rfl
         have hcz20_4 : w3.cell? ⟨gb178, 4, none⟩ = some (.int .i64 a0_4) := (kCe BK178.out 4).trans rfl
         have hcz20_5 : w3.cell? ⟨gb178, 5, none⟩ = some (.int .i64 a0_5) := (kCe BK178.out 5).trans rfl
         have hcz20_6 : w3.cell? ⟨gb178, 6, none⟩ = some (.slice A0_6 l0_6.length c0_6) := (kCe BK178.out 6).trans rfl
         have hfz20_0 := kFr BK178.out 0
         have hfz20_1 := kFr BK178.out 1
         have hfz20_2 := kFr BK178.out 2
         have hfz20_3 := kFr BK178.out 3
         have hfz20_4 := kFr BK178.out 4
         have hfz20_5 := kFr BK178.out 5
         have hfz20_6 := kFr BK178.out 6
         go_wp2_with (first | ((with_reducible refine gCa (f := 33) rfl ?_); refine goesL_ (some 10) rfl rfl Try.func33 (by kernel_rfl) rfl #[.int .i64 a0_0] rfl (by (try simp only [List.map_toArray, List.map_cons, List.map_nil]); first | done | rfl | (simp only [List.length_drop, List.length_take]; rfl)) ?_; (with_reducible refine (impl_offsetOk.calls a0_0 true _ A5.out).mono ?_); rintro e w' ⟨rfl, ⟨nd, rfl⟩⟩; refine ⟨_, rfl, ?_⟩) | (go_at_call 34; (with_reducible refine (impl_within.calls a0_1 0 1000000 true _ A7.out).mono ?_); rintro e w' ⟨rfl, ⟨nd, rfl⟩⟩) | (go_at_call 34; (with_reducible refine (impl_within.calls a0_2 (-1) 1000000000 true _ A9.out).mono ?_); rintro e w' ⟨rfl, ⟨nd, rfl⟩⟩) | (go_at_call 34; (with_reducible refine (impl_within.calls a0_3 0 1000 true _ A11.out).mono ?_); rintro e w' ⟨rfl, ⟨nd, rfl⟩⟩) | (go_at_call 33; (with_reducible refine (impl_offsetOk.calls a0_4 true _ A13.out).mono ?_); rintro e w' ⟨rfl, ⟨nd, rfl⟩⟩) | (go_at_call 34; (with_reducible refine (impl_within.calls a0_5 0 7 true _ A15.out).mono ?_); rintro e w' ⟨rfl, ⟨nd, rfl⟩⟩) | (go_at_call 34; (with_reducible refine (impl_within.calls (l0_6.length : Int) 1 40 true _ A17.out).mono ?_); rintro e w' ⟨rfl, ⟨nd, rfl⟩⟩) | (go_at_call 35; (with_reducible refine (impl_recordsOk.calls k _ _ l0_6 t186 _ ?side1 ?side2 A19.out).mono ?_); (case side1 => repeat (first | exact (Kd.C_below HR0_6.out (by repeat (first | (with_reducible first | exact HB.out | apply bAl | apply bDN | apply bD1 | refine bSe ?_ GE178.out) | exact HB.out))) | (with_reducible refine Kd.C_alloc ?_ _) | (with_reducible refine Kd.C_drewN ?_ _) | (with_reducible refine Kd.C_drew ?_))); (case side2 => exact HC0_6.out); rintro e w21 ⟨rfl, hb⟩; have n0_ := Aside0.mk (kBe (g := gb178) (o := .cells #[.int .i64 a0_0, .int .i64 a0_1, .int .i64 a0_2, .int .i64 a0_3, .int .i64 a0_4, .int .i64 a0_5, .slice A0_6 l0_6.length c0_6] 29 (0, 0)) (by (with_reducible repeat first | refine kDN ?_ _ | refine kDr ?_ | refine kAl ?_ _); exact BK178.out) hb); have n1_ := Aside0.mk (bSt (by repeat (first | (with_reducible first | exact HB.out | apply bAl | apply bDN | apply bD1 | refine bSe ?_ GE178.out) | exact HB.out)) hb); clear BK178; clear HB; have BK178 := n0_; have HB := n1_; clear n0_ n1_; (try clear hb); (try clear hb2); (try clear hk); (try clear hi)))
         go_meet
         case rel => exact ⟨_, (!t186), (by first | rfl | (simp; done) | (simp [*]; done) | exact Go.Proofs.Ytjbcgflpeomkfaa.Add.isEmpty_bne _), H', ⟨by first | omega | exact Nat.le_refl _⟩, ⟨by (with_reducible repeat first | refine kDN ?_ _ | refine kDr ?_ | refine kAl ?_ _); exact BK178.out⟩, ⟨by repeat (first | (with_reducible first | exact HB.out | apply bAl | apply bDN | apply bD1 | refine bSe ?_ GE178.out) | exact HB.out)⟩⟩
        ·
         replace c18 := Bool.eq_false_iff.mpr c18
         subst c18
         rw [if_neg (show ¬ (false = true) by decide)] at H
         have H' := Aside0.mk H
         clear H
         have hcz22_0 : w3.cell? ⟨gb178, 0, none⟩ = some (.int .i64 a0_0) := (kCe BK178.out 0).trans rfl
         have hcz22_1 : w3.cell? ⟨gb178, 1, none⟩ = some (.int .i64 a0_1) := (kCe BK178.out 1).trans rfl
         have hcz22_2 : w3.cell? ⟨gb178, 2, none⟩ = some (.int .i64 a0_2) := (kCe BK178.out 2).trans rfl
         have hcz22_3 : w3.cell? ⟨gb178, 3, none⟩ = some (.int .i64 a0_3) := (kCe BK178.out 3).trans rfl
         have hcz22_4 : w3.cell? ⟨gb178, 4, none⟩ = some (.int .i64 a0_4) := (kCe BK178.out 4).trans rfl
         have hcz22_5 : w3.cell? ⟨gb178, 5, none⟩ = some (.int .i64 a0_5) := (kCe BK178.out 5).trans rfl
         have hcz22_6 : w3.cell? ⟨gb178, 6, none⟩ = some (.slice A0_6 l0_6.length c0_6) := (kCe BK178.out 6).trans rfl
         have hfz22_0 := kFr BK178.out 0
         have hfz22_1 := kFr BK178.out 1
         have hfz22_2 := kFr BK178.out 2
         have hfz22_3 := kFr BK178.out 3
         have hfz22_4 := kFr BK178.out 4
         have hfz22_5 := kFr BK178.out 5
         have hfz22_6 := kFr BK178.out 6
         go_wp2_with (first | ((with_reducible refine gCa (f := 33) rfl ?_); refine goesL_ (some 10) rfl rfl Try.func33 (by kernel_rfl) rfl #[.int .i64 a0_0] rfl (by (try simp only [List.map_toArray, List.map_cons, List.map_nil]); first | done | rfl | (simp only [List.length_drop, List.length_take]; rfl)) ?_; (with_reducible refine (impl_offsetOk.calls a0_0 true _ A5.out).mono ?_); rintro e w' ⟨rfl, ⟨nd, rfl⟩⟩; refine ⟨_, rfl, ?_⟩) | (go_at_call 34; (with_reducible refine (impl_within.calls a0_1 0 1000000 true _ A7.out).mono ?_); rintro e w' ⟨rfl, ⟨nd, rfl⟩⟩) | (go_at_call 34; (with_reducible refine (impl_within.calls a0_2 (-1) 1000000000 true _ A9.out).mono ?_); rintro e w' ⟨rfl, ⟨nd, rfl⟩⟩) | (go_at_call 34; (with_reducible refine (impl_within.calls a0_3 0 1000 true _ A11.out).mono ?_); rintro e w' ⟨rfl, ⟨nd, rfl⟩⟩) | (go_at_call 33; (with_reducible refine (impl_offsetOk.calls a0_4 true _ A13.out).mono ?_); rintro e w' ⟨rfl, ⟨nd, rfl⟩⟩) | (go_at_call 34; (with_reducible refine (impl_within.calls a0_5 0 7 true _ A15.out).mono ?_); rintro e w' ⟨rfl, ⟨nd, rfl⟩⟩) | (go_at_call 34; (with_reducible refine (impl_within.calls (l0_6.length : Int) 1 40 false _ A17.out).mono ?_); rintro e w' ⟨rfl, ⟨nd, rfl⟩⟩))
         go_meet
         case rel => exact ⟨_, (true), (by first | rfl | (simp; done) | (simp [*]; done) | exact Go.Proofs.Ytjbcgflpeomkfaa.Add.isEmpty_bne _), H', ⟨by first | omega | exact Nat.le_refl _⟩, ⟨by (with_reducible repeat first | refine kDN ?_ _ | refine kDr ?_ | refine kAl ?_ _); exact BK178.out⟩, ⟨by repeat (first | (with_reducible first | exact HB.out | apply bAl | apply bDN | apply bD1 | refine bSe ?_ GE178.out) | exact HB.out)⟩⟩
       ·
        replace c16 := Bool.eq_false_iff.mpr c16
        subst c16
        rw [if_neg (show ¬ (false = true) by decide)] at H
        have H' := Aside0.mk H
        clear H
        have hcz23_0 : w3.cell? ⟨gb178, 0, none⟩ = some (.int .i64 a0_0) := (kCe BK178.out 0).trans rfl
        have hcz23_1 : w3.cell? ⟨gb178, 1, none⟩ = some (.int .i64 a0_1) := (kCe BK178.out 1).trans rfl
        have hcz23_2 : w3.cell? ⟨gb178, 2, none⟩ = some (.int .i64 a0_2) := (kCe BK178.out 2).trans rfl
        have hcz23_3 : w3.cell? ⟨gb178, 3, none⟩ = some (.int .i64 a0_3) := (kCe BK178.out 3).trans rfl
        have hcz23_4 : w3.cell? ⟨gb178, 4, none⟩ = some (.int .i64 a0_4) := (kCe BK178.out 4).trans rfl
        have hcz23_5 : w3.cell? ⟨gb178, 5, none⟩ = some (.int .i64 a0_5) := (kCe BK178.out 5).trans rfl
        have hcz23_6 : w3.cell? ⟨gb178, 6, none⟩ = some (.slice A0_6 l0_6.length c0_6) := (kCe BK178.out 6).trans rfl
        have hfz23_0 := kFr BK178.out 0
        have hfz23_1 := kFr BK178.out 1
        have hfz23_2 := kFr BK178.out 2
        have hfz23_3 := kFr BK178.out 3
        have hfz23_4 := kFr BK178.out 4
        have hfz23_5 := kFr BK178.out 5
        have hfz23_6 := kFr BK178.out 6
        go_wp2_with (first | ((with_reducible refine gCa (f := 33) rfl ?_); refine goesL_ (some 10) rfl rfl Try.func33 (by kernel_rfl) rfl #[.int .i64 a0_0] rfl (by (try simp only [List.map_toArray, List.map_cons, List.map_nil]); first | done | rfl | (simp only [List.length_drop, List.length_take]; rfl)) ?_; (with_reducible refine (impl_offsetOk.calls a0_0 true _ A5.out).mono ?_); rintro e w' ⟨rfl, ⟨nd, rfl⟩⟩; refine ⟨_, rfl, ?_⟩) | (go_at_call 34; (with_reducible refine (impl_within.calls a0_1 0 1000000 true _ A7.out).mono ?_); rintro e w' ⟨rfl, ⟨nd, rfl⟩⟩) | (go_at_call 34; (with_reducible refine (impl_within.calls a0_2 (-1) 1000000000 true _ A9.out).mono ?_); rintro e w' ⟨rfl, ⟨nd, rfl⟩⟩) | (go_at_call 34; (with_reducible refine (impl_within.calls a0_3 0 1000 true _ A11.out).mono ?_); rintro e w' ⟨rfl, ⟨nd, rfl⟩⟩) | (go_at_call 33; (with_reducible refine (impl_offsetOk.calls a0_4 true _ A13.out).mono ?_); rintro e w' ⟨rfl, ⟨nd, rfl⟩⟩) | (go_at_call 34; (with_reducible refine (impl_within.calls a0_5 0 7 false _ A15.out).mono ?_); rintro e w' ⟨rfl, ⟨nd, rfl⟩⟩))
        go_meet
        case rel => exact ⟨_, (true), (by first | rfl | (simp; done) | (simp [*]; done) | exact Go.Proofs.Ytjbcgflpeomkfaa.Add.isEmpty_bne _), H', ⟨by first | omega | exact Nat.le_refl _⟩, ⟨by (with_reducible repeat first | refine kDN ?_ _ | refine kDr ?_ | refine kAl ?_ _); exact BK178.out⟩, ⟨by repeat (first | (with_reducible first | exact HB.out | apply bAl | apply bDN | apply bD1 | refine bSe ?_ GE178.out) | exact HB.out)⟩⟩
      ·
       replace c14 := Bool.eq_false_iff.mpr c14
       subst c14
       rw [if_neg (show ¬ (false = true) by decide)] at H
       have H' := Aside0.mk H
       clear H
       have hcz24_0 : w3.cell? ⟨gb178, 0, none⟩ = some (.int .i64 a0_0) := (kCe BK178.out 0).trans rfl
       have hcz24_1 : w3.cell? ⟨gb178, 1, none⟩ = some (.int .i64 a0_1) := (kCe BK178.out 1).trans rfl
       have hcz24_2 : w3.cell? ⟨gb178, 2, none⟩ = some (.int .i64 a0_2) := (kCe BK178.out 2).trans rfl
       have hcz24_3 : w3.cell? ⟨gb178, 3, none⟩ = some (.int .i64 a0_3) := (kCe BK178.out 3).trans rfl
       have hcz24_4 : w3.cell? ⟨gb178, 4, none⟩ = some (.int .i64 a0_4) := (kCe BK178.out 4).trans rfl
       have hcz24_5 : w3.cell? ⟨gb178, 5, none⟩ = some (.int .i64 a0_5) := (kCe BK178.out 5).trans rfl
       have hcz24_6 : w3.cell? ⟨gb178, 6, none⟩ = some (.slice A0_6 l0_6.length c0_6) := (kCe BK178.out 6).trans rfl
       have hfz24_0 := kFr BK178.out 0
       have hfz24_1 := kFr BK178.out 1
       have hfz24_2 := kFr BK178.out 2
       have hfz24_3 := kFr BK178.out 3
       have hfz24_4 := kFr BK178.out 4
       have hfz24_5 := kFr BK178.out 5
       have hfz24_6 := kFr BK178.out 6
       go_wp2_with (first | ((with_reducible refine gCa (f := 33) rfl ?_); refine goesL_ (some 10) rfl rfl Try.func33 (by kernel_rfl) rfl #[.int .i64 a0_0] rfl (by (try simp only [List.map_toArray, List.map_cons, List.map_nil]); first | done | rfl | (simp only [List.length_drop, List.length_take]; rfl)) ?_; (with_reducible refine (impl_offsetOk.calls a0_0 true _ A5.out).mono ?_); rintro e w' ⟨rfl, ⟨nd, rfl⟩⟩; refine ⟨_, rfl, ?_⟩) | (go_at_call 34; (with_reducible refine (impl_within.calls a0_1 0 1000000 true _ A7.out).mono ?_); rintro e w' ⟨rfl, ⟨nd, rfl⟩⟩) | (go_at_call 34; (with_reducible refine (impl_within.calls a0_2 (-1) 1000000000 true _ A9.out).mono ?_); rintro e w' ⟨rfl, ⟨nd, rfl⟩⟩) | (go_at_call 34; (with_reducible refine (impl_within.calls a0_3 0 1000 true _ A11.out).mono ?_); rintro e w' ⟨rfl, ⟨nd, rfl⟩⟩) | (go_at_call 33; (with_reducible refine (impl_offsetOk.calls a0_4 false _ A13.out).mono ?_); rintro e w' ⟨rfl, ⟨nd, rfl⟩⟩))
       go_meet
       case rel => exact ⟨_, (true), (by first | rfl | (simp; done) | (simp [*]; done) | exact Go.Proofs.Ytjbcgflpeomkfaa.Add.isEmpty_bne _), H', ⟨by first | omega | exact Nat.le_refl _⟩, ⟨by (with_reducible repeat first | refine kDN ?_ _ | refine kDr ?_ | refine kAl ?_ _); exact BK178.out⟩, ⟨by repeat (first | (with_reducible first | exact HB.out | apply bAl | apply bDN | apply bD1 | refine bSe ?_ GE178.out) | exact HB.out)⟩⟩
     ·
      replace c12 := Bool.eq_false_iff.mpr c12
      subst c12
      rw [if_neg (show ¬ (false = true) by decide)] at H
      have H' := Aside0.mk H
      clear H
      have hcz25_0 : w3.cell? ⟨gb178, 0, none⟩ = some (.int .i64 a0_0) := (kCe BK178.out 0).trans rfl
      have hcz25_1 : w3.cell? ⟨gb178, 1, none⟩ = some (.int .i64 a0_1) := (kCe BK178.out 1).trans rfl
      have hcz25_2 : w3.cell? ⟨gb178, 2, none⟩ = some (.int .i64 a0_2) := (kCe BK178.out 2).trans rfl
      have hcz25_3 : w3.cell? ⟨gb178, 3, none⟩ = some (.int .i64 a0_3) := (kCe BK178.out 3).trans rfl
      have hcz25_4 : w3.cell? ⟨gb178, 4, none⟩ = some (.int .i64 a0_4) := (kCe BK178.out 4).trans rfl
      have hcz25_5 : w3.cell? ⟨gb178, 5, none⟩ = some (.int .i64 a0_5) := (kCe BK178.out 5).trans rfl
      have hcz25_6 : w3.cell? ⟨gb178, 6, none⟩ = some (.slice A0_6 l0_6.length c0_6) := (kCe BK178.out 6).trans rfl
      have hfz25_0 := kFr BK178.out 0
      have hfz25_1 := kFr BK178.out 1
      have hfz25_2 := kFr BK178.out 2
      have hfz25_3 := kFr BK178.out 3
      have hfz25_4 := kFr BK178.out 4
      have hfz25_5 := kFr BK178.out 5
      have hfz25_6 := kFr BK178.out 6
      go_wp2_with (first | ((with_reducible refine gCa (f := 33) rfl ?_); refine goesL_ (some 10) rfl rfl Try.func33 (by kernel_rfl) rfl #[.int .i64 a0_0] rfl (by (try simp only [List.map_toArray, List.map_cons, List.map_nil]); first | done | rfl | (simp only [List.length_drop, List.length_take]; rfl)) ?_; (with_reducible refine (impl_offsetOk.calls a0_0 true _ A5.out).mono ?_); rintro e w' ⟨rfl, ⟨nd, rfl⟩⟩; refine ⟨_, rfl, ?_⟩) | (go_at_call 34; (with_reducible refine (impl_within.calls a0_1 0 1000000 true _ A7.out).mono ?_); rintro e w' ⟨rfl, ⟨nd, rfl⟩⟩) | (go_at_call 34; (with_reducible refine (impl_within.calls a0_2 (-1) 1000000000 true _ A9.out).mono ?_); rintro e w' ⟨rfl, ⟨nd, rfl⟩⟩) | (go_at_call 34; (with_reducible refine (impl_within.calls a0_3 0 1000 false _ A11.out).mono ?_); rintro e w' ⟨rfl, ⟨nd, rfl⟩⟩))
      go_meet
      case rel => exact ⟨_, (true), (by first | rfl | (simp; done) | (simp [*]; done) | exact Go.Proofs.Ytjbcgflpeomkfaa.Add.isEmpty_bne _), H', ⟨by first | omega | exact Nat.le_refl _⟩, ⟨by (with_reducible repeat first | refine kDN ?_ _ | refine kDr ?_ | refine kAl ?_ _); exact BK178.out⟩, ⟨by repeat (first | (with_reducible first | exact HB.out | apply bAl | apply bDN | apply bD1 | refine bSe ?_ GE178.out) | exact HB.out)⟩⟩
    ·
     replace c10 := Bool.eq_false_iff.mpr c10
     subst c10
     rw [if_neg (show ¬ (false = true) by decide)] at H
     have H' := Aside0.mk H
     clear H
     have hcz26_0 : w3.cell? ⟨gb178, 0, none⟩ = some (.int .i64 a0_0) := (kCe BK178.out 0).trans rfl
     have hcz26_1 : w3.cell? ⟨gb178, 1, none⟩ = some (.int .i64 a0_1) := (kCe BK178.out 1).trans rfl
     have hcz26_2 : w3.cell? ⟨gb178, 2, none⟩ = some (.int .i64 a0_2) := (kCe BK178.out 2).trans rfl
     have hcz26_3 : w3.cell? ⟨gb178, 3, none⟩ = some (.int .i64 a0_3) := (kCe BK178.out 3).trans rfl
     have hcz26_4 : w3.cell? ⟨gb178, 4, none⟩ = some (.int .i64 a0_4) := (kCe BK178.out 4).trans rfl
     have hcz26_5 : w3.cell? ⟨gb178, 5, none⟩ = some (.int .i64 a0_5) := (kCe BK178.out 5).trans rfl
     have hcz26_6 : w3.cell? ⟨gb178, 6, none⟩ = some (.slice A0_6 l0_6.length c0_6) := (kCe BK178.out 6).trans rfl
     have hfz26_0 := kFr BK178.out 0
     have hfz26_1 := kFr BK178.out 1
     have hfz26_2 := kFr BK178.out 2
     have hfz26_3 := kFr BK178.out 3
     have hfz26_4 := kFr BK178.out 4
     have hfz26_5 := kFr BK178.out 5
     have hfz26_6 := kFr BK178.out 6
     go_wp2_with (first | ((with_reducible refine gCa (f := 33) rfl ?_); refine goesL_ (some 10) rfl rfl Try.func33 (by kernel_rfl) rfl #[.int .i64 a0_0] rfl (by (try simp only [List.map_toArray, List.map_cons, List.map_nil]); first | done | rfl | (simp only [List.length_drop, List.length_take]; rfl)) ?_; (with_reducible refine (impl_offsetOk.calls a0_0 true _ A5.out).mono ?_); rintro e w' ⟨rfl, ⟨nd, rfl⟩⟩; refine ⟨_, rfl, ?_⟩) | (go_at_call 34; (with_reducible refine (impl_within.calls a0_1 0 1000000 true _ A7.out).mono ?_); rintro e w' ⟨rfl, ⟨nd, rfl⟩⟩) | (go_at_call 34; (with_reducible refine (impl_within.calls a0_2 (-1) 1000000000 false _ A9.out).mono ?_); rintro e w' ⟨rfl, ⟨nd, rfl⟩⟩))
     go_meet
     case rel => exact ⟨_, (true), (by first | rfl | (simp; done) | (simp [*]; done) | exact Go.Proofs.Ytjbcgflpeomkfaa.Add.isEmpty_bne _), H', ⟨by first | omega | exact Nat.le_refl _⟩, ⟨by (with_reducible repeat first | refine kDN ?_ _ | refine kDr ?_ | refine kAl ?_ _); exact BK178.out⟩, ⟨by repeat (first | (with_reducible first | exact HB.out | apply bAl | apply bDN | apply bD1 | refine bSe ?_ GE178.out) | exact HB.out)⟩⟩
   ·
    replace c8 := Bool.eq_false_iff.mpr c8
    subst c8
    rw [if_neg (show ¬ (false = true) by decide)] at H
    have H' := Aside0.mk H
    clear H
    have hcz27_0 : w3.cell? ⟨gb178, 0, none⟩ = some (.int .i64 a0_0) := (kCe BK178.out 0).trans rfl
    have hcz27_1 : w3.cell? ⟨gb178, 1, none⟩ = some (.int .i64 a0_1) := (kCe BK178.out 1).trans rfl
    have hcz27_2 : w3.cell? ⟨gb178, 2, none⟩ = some (.int .i64 a0_2) := (kCe BK178.out 2).trans rfl
    have hcz27_3 : w3.cell? ⟨gb178, 3, none⟩ = some (.int .i64 a0_3) := (kCe BK178.out 3).trans rfl
    have hcz27_4 : w3.cell? ⟨gb178, 4, none⟩ = some (.int .i64 a0_4) := (kCe BK178.out 4).trans rfl
    have hcz27_5 : w3.cell? ⟨gb178, 5, none⟩ = some (.int .i64 a0_5) := (kCe BK178.out 5).trans rfl
    have hcz27_6 : w3.cell? ⟨gb178, 6, none⟩ = some (.slice A0_6 l0_6.length c0_6) := (kCe BK178.out 6).trans rfl
    have hfz27_0 := kFr BK178.out 0
    have hfz27_1 := kFr BK178.out 1
    have hfz27_2 := kFr BK178.out 2
    have hfz27_3 := kFr BK178.out 3
    have hfz27_4 := kFr BK178.out 4
    have hfz27_5 := kFr BK178.out 5
    have hfz27_6 := kFr BK178.out 6
    go_wp2_with (first | ((with_reducible refine gCa (f := 33) rfl ?_); refine goesL_ (some 10) rfl rfl Try.func33 (by kernel_rfl) rfl #[.int .i64 a0_0] rfl (by (try simp only [List.map_toArray, List.map_cons, List.map_nil]); first | done | rfl | (simp only [List.length_drop, List.length_take]; rfl)) ?_; (with_reducible refine (impl_offsetOk.calls a0_0 true _ A5.out).mono ?_); rintro e w' ⟨rfl, ⟨nd, rfl⟩⟩; refine ⟨_, rfl, ?_⟩) | (go_at_call 34; (with_reducible refine (impl_within.calls a0_1 0 1000000 false _ A7.out).mono ?_); rintro e w' ⟨rfl, ⟨nd, rfl⟩⟩))
    go_meet
    case rel => exact ⟨_, (true), (by first | rfl | (simp; done) | (simp [*]; done) | exact Go.Proofs.Ytjbcgflpeomkfaa.Add.isEmpty_bne _), H', ⟨by first | omega | exact Nat.le_refl _⟩, ⟨by (with_reducible repeat first | refine kDN ?_ _ | refine kDr ?_ | refine kAl ?_ _); exact BK178.out⟩, ⟨by repeat (first | (with_reducible first | exact HB.out | apply bAl | apply bDN | apply bD1 | refine bSe ?_ GE178.out) | exact HB.out)⟩⟩
  ·
   replace c6 := Bool.eq_false_iff.mpr c6
   subst c6
   rw [if_neg (show ¬ (false = true) by decide)] at H
   have H' := Aside0.mk H
   clear H
   have hcz28_0 : w3.cell? ⟨gb178, 0, none⟩ = some (.int .i64 a0_0) := (kCe BK178.out 0).trans rfl
   have hcz28_1 : w3.cell? ⟨gb178, 1, none⟩ = some (.int .i64 a0_1) := (kCe BK178.out 1).trans rfl
   have hcz28_2 : w3.cell? ⟨gb178, 2, none⟩ = some (.int .i64 a0_2) := (kCe BK178.out 2).trans rfl
   have hcz28_3 : w3.cell? ⟨gb178, 3, none⟩ = some (.int .i64 a0_3) := (kCe BK178.out 3).trans rfl
   have hcz28_4 : w3.cell? ⟨gb178, 4, none⟩ = some (.int .i64 a0_4) := (kCe BK178.out 4).trans rfl
   have hcz28_5 : w3.cell? ⟨gb178, 5, none⟩ = some (.int .i64 a0_5) := (kCe BK178.out 5).trans rfl
   have hcz28_6 : w3.cell? ⟨gb178, 6, none⟩ = some (.slice A0_6 l0_6.length c0_6) := (kCe BK178.out 6).trans rfl
   have hfz28_0 := kFr BK178.out 0
   have hfz28_1 := kFr BK178.out 1
   have hfz28_2 := kFr BK178.out 2
   have hfz28_3 := kFr BK178.out 3
   have hfz28_4 := kFr BK178.out 4
   have hfz28_5 := kFr BK178.out 5
   have hfz28_6 := kFr BK178.out 6
   go_wp2_with (first | ((with_reducible refine gCa (f := 33) rfl ?_); refine goesL_ (some 10) rfl rfl Try.func33 (by kernel_rfl) rfl #[.int .i64 a0_0] rfl (by (try simp only [List.map_toArray, List.map_cons, List.map_nil]); first | done | rfl | (simp only [List.length_drop, List.length_take]; rfl)) ?_; (with_reducible refine (impl_offsetOk.calls a0_0 false _ A5.out).mono ?_); rintro e w' ⟨rfl, ⟨nd, rfl⟩⟩; refine ⟨_, rfl, ?_⟩))
   go_meet
   case rel => exact ⟨_, (true), (by first | rfl | (simp; done) | (simp [*]; done) | exact Go.Proofs.Ytjbcgflpeomkfaa.Add.isEmpty_bne _), H', ⟨by first | omega | exact Nat.le_refl _⟩, ⟨by (with_reducible repeat first | refine kDN ?_ _ | refine kDr ?_ | refine kAl ?_ _); exact BK178.out⟩, ⟨by repeat (first | (with_reducible first | exact HB.out | apply bAl | apply bDN | apply bD1 | refine bSe ?_ GE178.out) | exact HB.out)⟩⟩
 case rest =>
  clear HC2
  try clear c1
  try clear p2
  try clear c3
  try clear c6
  try clear c8
  try clear c10
  try clear c12
  try clear c14
  try clear c16
  try clear c18
  try clear hcz20_0
  try clear hcz20_1
  try clear hcz20_2
  try clear hcz20_3
  try clear hcz20_4
  try clear hcz20_5
  try clear hcz20_6
  try clear hcz22_0
  try clear hcz22_1
  try clear hcz22_2
  try clear hcz22_3
  try clear hcz22_4
  try clear hcz22_5
  try clear hcz22_6
  try clear hcz23_0
  try clear hcz23_1
  try clear hcz23_2
  try clear hcz23_3
  try clear hcz23_4
  try clear hcz23_5
  try clear hcz23_6
  try clear hcz24_0
  try clear hcz24_1
  try clear hcz24_2
  try clear hcz24_3
  try clear hcz24_4
  try clear hcz24_5
  try clear hcz24_6
  try clear hcz25_0
  try clear hcz25_1
  try clear hcz25_2
  try clear hcz25_3
  try clear hcz25_4
  try clear hcz25_5
  try clear hcz25_6
  try clear hcz26_0
  try clear hcz26_1
  try clear hcz26_2
  try clear hcz26_3
  try clear hcz26_4
  try clear hcz26_5
  try clear hcz26_6
  try clear hcz27_0
  try clear hcz27_1
  try clear hcz27_2
  try clear hcz27_3
  try clear hcz27_4
  try clear hcz27_5
  try clear hcz27_6
  try clear hcz28_0
  try clear hcz28_1
  try clear hcz28_2
  try clear hcz28_3
  try clear hcz28_4
  try clear hcz28_5
  try clear hcz28_6
  try clear hcz4_0
  try clear hcz4_1
  try clear hcz4_2
  try clear hcz4_3
  try clear hcz4_4
  try clear hcz4_5
  try clear hcz4_6
  try clear hfz20_0
  try clear hfz20_1
  try clear hfz20_2
  try clear hfz20_3
  try clear hfz20_4
  try clear hfz20_5
  try clear hfz20_6
  try clear hfz22_0
  try clear hfz22_1
  try clear hfz22_2
  try clear hfz22_3
  try clear hfz22_4
  try clear hfz22_5
  try clear hfz22_6
  try clear hfz23_0
  try clear hfz23_1
  try clear hfz23_2
  try clear hfz23_3
  try clear hfz23_4
  try clear hfz23_5
  try clear hfz23_6
  try clear hfz24_0
  try clear hfz24_1
  try clear hfz24_2
  try clear hfz24_3
  try clear hfz24_4
  try clear hfz24_5
  try clear hfz24_6
  try clear hfz25_0
  try clear hfz25_1
  try clear hfz25_2
  try clear hfz25_3
  try clear hfz25_4
  try clear hfz25_5
  try clear hfz25_6
  try clear hfz26_0
  try clear hfz26_1
  try clear hfz26_2
  try clear hfz26_3
  try clear hfz26_4
  try clear hfz26_5
  try clear hfz26_6
  try clear hfz27_0
  try clear hfz27_1
  try clear hfz27_2
  try clear hfz27_3
  try clear hfz27_4
  try clear hfz27_5
  try clear hfz27_6
  try clear hfz28_0
  try clear hfz28_1
  try clear hfz28_2
  try clear hfz28_3
  try clear hfz28_4
  try clear hfz28_5
  try clear hfz28_6
  try clear hfz4_0
  try clear hfz4_1
  try clear hfz4_2
  try clear hfz4_3
  try clear hfz4_4
  try clear hfz4_5
  try clear hfz4_6
  obtain ⟨kq, x52_1, rfl, HA, HJ1, BK178, HB⟩ := hcut
  cases kq with
  | zero => exact absurd HA.out (by simp [impl_BatchOk.j0])
  | succ kj1 =>
   have H := HA.out
   clear HA
   simp only [impl_BatchOk.j0] at H
   by_cases c29 : x52_1 = true
   ·
    subst c29
    rw [if_pos rfl] at H
    obtain rfl := Option.some.inj H
    go_wp2
    go_ret
    exact ⟨by first | rfl | (simp [errW_none, errW_some] <;> rfl) | (simp [*, errW_none, errW_some] <;> rfl), by repeat (first | (with_reducible first | exact HB.out | apply bAl | apply bDN | apply bD1 | refine bSe ?_ GE178.out) | exact HB.out)⟩
   ·
    replace c29 := Bool.eq_false_iff.mpr c29
    subst c29
    rw [if_neg (show ¬ (false = true) by decide)] at H
    have HC30 := Aside0.mk H
    clear H
    go_upto_region 4 with (fail)
    go_cut [89] (fun v89 wc => ∃ (kq : Nat) (x89_29 : Bool), v89 = .bool x89_29 ∧ Aside0 (impl_BatchOk.j1 kq (l0_6.length : Int) x89_29 a0_0 a0_1 a0_2 a0_3 a0_4 a0_5 l0_6 = some r) ∧ Aside0 (kq ≤ kj1) ∧ Aside0 (wc.heap[gb178]? = some (.cells #[.int .i64 a0_0, .int .i64 a0_1, .int .i64 a0_2, .int .i64 a0_3, .int .i64 a0_4, .int .i64 a0_5, (.slice A0_6 l0_6.length c0_6)] 29 (0, 0))) ∧ Aside0 (Below w.heap.size w wc))
    case first =>
     have H := HC30.out
     clear HC30
     replace H := Option.bind_eq_some_iff.mp H
     obtain ⟨t187, A310, H⟩ := H
     have A31 := Aside0.mk A310
     clear A310
     by_cases c32 : t187 = true
     ·
      subst c32
      rw [if_pos rfl] at H
      replace H := Option.bind_eq_some_iff.mp H
      obtain ⟨t188, A330, H⟩ := H
      have A33 := Aside0.mk A330
      clear A330
      by_cases c34 : t188 = true
      ·
       subst c34
       rw [if_pos rfl] at H
       by_cases c35 : a0_2 = (-1)
       ·
        rw [if_pos c35] at H
        have c35b0 : (a0_2 == (-1)) = true := beq_iff_eq.mpr c35
        have c35b1 : (a0_2 != (-1)) = false := bne_eq_false_iff_eq.mpr c35
        clear c35
        (first | rw [c35b0] | (simp only [i64_w, i32_w]; rw [c35b0]) | skip)
        by_cases c36 : a0_3 = 0
        ·
         rw [if_pos c36] at H
         have c36b0 : (a0_3 == 0) = true := beq_iff_eq.mpr c36
         have c36b1 : (a0_3 != 0) = false := bne_eq_false_iff_eq.mpr c36
         clear c36
         by_cases c37 : a0_4 = 0
         ·
          rw [if_pos c37] at H
          have c37b0 : (a0_4 == 0) = true := beq_iff_eq.mpr c37
          have c37b1 : (a0_4 != 0) = false := bne_eq_false_iff_eq.mpr c37
          clear c37
          have H' := Aside0.mk H
          clear H
          have hcz38_0 : wc.cell? ⟨gb178, 0, none⟩ = some (.int .i64 a0_0) := (kCe BK178.out 0).trans rfl
          have hcz38_1 : wc.cell? ⟨gb178, 1, none⟩ = some (.int .i64 a0_1) := (kCe BK178.out 1).trans rfl
          have hcz38_2 : wc.cell? ⟨gb178, 2, none⟩ = some (.int .i64 a0_2) := (kCe BK178.out 2).trans rfl
          have hcz38_3 : wc.cell? ⟨gb178, 3, none⟩ = some (.int .i64 a0_3) := (kCe BK178.out 3).trans rfl
          have hcz38_4 : wc.cell? ⟨gb178, 4, none⟩ = some (.int .i64 a0_4) := (kCe BK178.out 4).trans rfl
          have hcz38_5 : wc.cell? ⟨gb178, 5, none⟩ = some (.int .i64 a0_5) := (kCe BK178.out 5).trans rfl
          have hcz38_6 : wc.cell? ⟨gb178, 6, none⟩ = some (.slice A0_6 l0_6.length c0_6) := (kCe BK178.out 6).trans rfl
          have hfz38_0 := kFr BK178.out 0
          have hfz38_1 := kFr BK178.out 1
          have hfz38_2 := kFr BK178.out 2
          have hfz38_3 := kFr BK178.out 3
          have hfz38_4 := kFr BK178.out 4
          have hfz38_5 := kFr BK178.out 5
          have hfz38_6 := kFr BK178.out 6
          go_wp2_with (first | ((with_reducible refine gCa (f := 33) rfl ?_); refine goesL_ (some 58) rfl rfl Try.func33 (by kernel_rfl) rfl #[.int .i64 (wrap64 ((wrap64 (a0_0 + (l0_6.length : Int))) - 1))] rfl (by (try simp only [List.map_toArray, List.map_cons, List.map_nil]); first | done | rfl | (simp only [List.length_drop, List.length_take]; rfl)) ?_; (with_reducible refine (impl_offsetOk.calls (wrap64 ((wrap64 (a0_0 + (l0_6.length : Int))) - 1)) true _ A31.out).mono ?_); rintro e w' ⟨rfl, ⟨nd, rfl⟩⟩; refine ⟨_, rfl, ?_⟩) | (go_at_call 33; (with_reducible refine (impl_offsetOk.calls (wrap64 ((wrap64 (a0_4 + (l0_6.length : Int))) - 1)) true _ A33.out).mono ?_); rintro e w' ⟨rfl, ⟨nd, rfl⟩⟩))
          go_meet
          case rel => exact ⟨_, (((Go.bits .and .i64 a0_5 2) != 0)), (by first | rfl | (simp; done) | (simp [*]; done) | exact Go.Proofs.Ytjbcgflpeomkfaa.Add.isEmpty_bne _), H', ⟨by have := HJ1.out; first | omega | exact Nat.le_refl _⟩, ⟨by (with_reducible repeat first | refine kDN ?_ _ | refine kDr ?_ | refine kAl ?_ _); exact BK178.out⟩, ⟨by repeat (first | (with_reducible first | exact HB.out | apply bAl | apply bDN | apply bD1 | refine bSe ?_ GE178.out) | exact HB.out)⟩⟩
         ·
          rw [if_neg c37] at H
          have c37b0 : (a0_4 == 0) = false := beq_eq_false_iff_ne.mpr c37
          have c37b1 : (a0_4 != 0) = true := bne_iff_ne.mpr c37
          have H' := Aside0.mk H
          clear H
          have hcz39_0 : wc.cell? ⟨gb178, 0, none⟩ = some (.int .i64 a0_0) := (kCe BK178.out 0).trans rfl
          have hcz39_1 : wc.cell? ⟨gb178, 1, none⟩ = some (.int .i64 a0_1) := (kCe BK178.out 1).trans rfl
          have hcz39_2 : wc.cell? ⟨gb178, 2, none⟩ = some (.int .i64 a0_2) := (kCe BK178.out 2).trans rfl
          have hcz39_3 : wc.cell? ⟨gb178, 3, none⟩ = some (.int .i64 a0_3) := (kCe BK178.out 3).trans rfl
          have hcz39_4 : wc.cell? ⟨gb178, 4, none⟩ = some (.int .i64 a0_4) := (kCe BK178.out 4).trans rfl
          have hcz39_5 : wc.cell? ⟨gb178, 5, none⟩ = some (.int .i64 a0_5) := (kCe BK178.out 5).trans rfl
          have hcz39_6 : wc.cell? ⟨gb178, 6, none⟩ = some (.slice A0_6 l0_6.length c0_6) := (kCe BK178.out 6).trans rfl
          have hfz39_0 := kFr BK178.out 0
          have hfz39_1 := kFr BK178.out 1
          have hfz39_2 := kFr BK178.out 2
          have hfz39_3 := kFr BK178.out 3
          have hfz39_4 := kFr BK178.out 4
          have hfz39_5 := kFr BK178.out 5
          have hfz39_6 := kFr BK178.out 6
          go_wp2_with (first | ((with_reducible refine gCa (f := 33) rfl ?_); refine goesL_ (some 58) rfl rfl Try.func33 (by kernel_rfl) rfl #[.int .i64 (wrap64 ((wrap64 (a0_0 + (l0_6.length : Int))) - 1))] rfl (by (try simp only [List.map_toArray, List.map_cons, List.map_nil]); first | done | rfl | (simp only [List.length_drop, List.length_take]; rfl)) ?_; (with_reducible refine (impl_offsetOk.calls (wrap64 ((wrap64 (a0_0 + (l0_6.length : Int))) - 1)) true _ A31.out).mono ?_); rintro e w' ⟨rfl, ⟨nd, rfl⟩⟩; refine ⟨_, rfl, ?_⟩) | (go_at_call 33; (with_reducible refine (impl_offsetOk.calls (wrap64 ((wrap64 (a0_4 + (l0_6.length : Int))) - 1)) true _ A33.out).mono ?_); rintro e w' ⟨rfl, ⟨nd, rfl⟩⟩))
          go_meet
          case rel => exact ⟨_, (true), (by first | rfl | (simp; done) | (simp [*]; done) | exact Go.Proofs.Ytjbcgflpeomkfaa.Add.isEmpty_bne _), H', ⟨by have := HJ1.out; first | omega | exact Nat.le_refl _⟩, ⟨by (with_reducible repeat first | refine kDN ?_ _ | refine kDr ?_ | refine kAl ?_ _); exact BK178.out⟩, ⟨by repeat (first | (with_reducible first | exact HB.out | apply bAl | apply bDN | apply bD1 | refine bSe ?_ GE178.out) | exact HB.out)⟩⟩
        ·
         rw [if_neg c36] at H
         have c36b0 : (a0_3 == 0) = false := beq_eq_false_iff_ne.mpr c36
         have c36b1 : (a0_3 != 0) = true := bne_iff_ne.mpr c36
         have H' := Aside0.mk H
         clear H
         have hcz40_0 : wc.cell? ⟨gb178, 0, none⟩ = some (.int .i64 a0_0) := (kCe BK178.out 0).trans rfl
         have hcz40_1 : wc.cell? ⟨gb178, 1, none⟩ = some (.int .i64 a0_1) := (kCe BK178.out 1).trans rfl
         have hcz40_2 : wc.cell? ⟨gb178, 2, none⟩ = some (.int .i64 a0_2) := (kCe BK178.out 2).trans rfl
         have hcz40_3 : wc.cell? ⟨gb178, 3, none⟩ = some (.int .i64 a0_3) := (kCe BK178.out 3).trans rfl
         have hcz40_4 : wc.cell? ⟨gb178, 4, none⟩ = some (.int .i64 a0_4) := (kCe BK178.out 4).trans rfl
         have hcz40_5 : wc.cell? ⟨gb178, 5, none⟩ = some (.int .i64 a0_5) := (kCe BK178.out 5).trans rfl
         have hcz40_6 : wc.cell? ⟨gb178, 6, none⟩ = some (.slice A0_6 l0_6.length c0_6) := (kCe BK178.out 6).trans rfl
         have hfz40_0 := kFr BK178.out 0
         have hfz40_1 := kFr BK178.out 1
         have hfz40_2 := kFr BK178.out 2
         have hfz40_3 := kFr BK178.out 3
         have hfz40_4 := kFr BK178.out 4
         have hfz40_5 := kFr BK178.out 5
         have hfz40_6 := kFr BK178.out 6
         go_wp2_with (first | ((with_reducible refine gCa (f := 33) rfl ?_); refine goesL_ (some 58) rfl rfl Try.func33 (by kernel_rfl) rfl #[.int .i64 (wrap64 ((wrap64 (a0_0 + (l0_6.length : Int))) - 1))] rfl (by (try simp only [List.map_toArray, List.map_cons, List.map_nil]); first | done | rfl | (simp only [List.length_drop, List.length_take]; rfl)) ?_; (with_reducible refine (impl_offsetOk.calls (wrap64 ((wrap64 (a0_0 + (l0_6.length : Int))) - 1)) true _ A31.out).mono ?_); rintro e w' ⟨rfl, ⟨nd, rfl⟩⟩; refine ⟨_, rfl, ?_⟩) | (go_at_call 33; (with_reducible refine (impl_offsetOk.calls (wrap64 ((wrap64 (a0_4 + (l0_6.length : Int))) - 1)) true _ A33.out).mono ?_); rintro e w' ⟨rfl, ⟨nd, rfl⟩⟩))
         go_meet
         case rel => exact ⟨_, (true), (by first | rfl | (simp; done) | (simp [*]; done) | exact Go.Proofs.Ytjbcgflpeomkfaa.Add.isEmpty_bne _), H', ⟨by have := HJ1.out; first | omega | exact Nat.le_refl _⟩, ⟨by (with_reducible repeat first | refine kDN ?_ _ | refine kDr ?_ | refine kAl ?_ _); exact BK178.out⟩, ⟨by repeat (first | (with_reducible first | exact HB.out | apply bAl | apply bDN | apply bD1 | refine bSe ?_ GE178.out) | exact HB.out)⟩⟩
       ·
        rw [if_neg c35] at H
        have c35b0 : (a0_2 == (-1)) = false := beq_eq_false_iff_ne.mpr c35
        have c35b1 : (a0_2 != (-1)) = true := bne_iff_ne.mpr c35
        (first | rw [c35b0] | (simp only [i64_w, i32_w]; rw [c35b0]) | skip)
        have H' := Aside0.mk H
        clear H
        have hcz41_0 : wc.cell? ⟨gb178, 0, none⟩ = some (.int .i64 a0_0) := (kCe BK178.out 0).trans rfl
        have hcz41_1 : wc.cell? ⟨gb178, 1, none⟩ = some (.int .i64 a0_1) := (kCe BK178.out 1).trans rfl
        have hcz41_2 : wc.cell? ⟨gb178, 2, none⟩ = some (.int .i64 a0_2) := (kCe BK178.out 2).trans rfl
        have hcz41_3 : wc.cell? ⟨gb178, 3, none⟩ = some (.int .i64 a0_3) := (kCe BK178.out 3).trans rfl
        have hcz41_4 : wc.cell? ⟨gb178, 4, none⟩ = some (.int .i64 a0_4) := (kCe BK178.out 4).trans rfl
        have hcz41_5 : wc.cell? ⟨gb178, 5, none⟩ = some (.int .i64 a0_5) := (kCe BK178.out 5).trans rfl
        have hcz41_6 : wc.cell? ⟨gb178, 6, none⟩ = some (.slice A0_6 l0_6.length c0_6) := (kCe BK178.out 6).trans rfl
        have hfz41_0 := kFr BK178.out 0
        have hfz41_1 := kFr BK178.out 1
        have hfz41_2 := kFr BK178.out 2
        have hfz41_3 := kFr BK178.out 3
        have hfz41_4 := kFr BK178.out 4
        have hfz41_5 := kFr BK178.out 5
        have hfz41_6 := kFr BK178.out 6
        go_wp2_with (first | ((with_reducible refine gCa (f := 33) rfl ?_); refine goesL_ (some 58) rfl rfl Try.func33 (by kernel_rfl) rfl #[.int .i64 (wrap64 ((wrap64 (a0_0 + (l0_6.length : Int))) - 1))] rfl (by (try simp only [List.map_toArray, List.map_cons, List.map_nil]); first | done | rfl | (simp only [List.length_drop, List.length_take]; rfl)) ?_; (with_reducible refine (impl_offsetOk.calls (wrap64 ((wrap64 (a0_0 + (l0_6.length : Int))) - 1)) true _ A31.out).mono ?_); rintro e w' ⟨rfl, ⟨nd, rfl⟩⟩; refine ⟨_, rfl, ?_⟩) | (go_at_call 33; (with_reducible refine (impl_offsetOk.calls (wrap64 ((wrap64 (a0_4 + (l0_6.length : Int))) - 1)) true _ A33.out).mono ?_); rintro e w' ⟨rfl, ⟨nd, rfl⟩⟩))
        go_meet
        case rel => exact ⟨_, (false), (by first | rfl | (simp; done) | (simp [*]; done) | exact Go.Proofs.Ytjbcgflpeomkfaa.Add.isEmpty_bne _), H', ⟨by have := HJ1.out; first | omega | exact Nat.le_refl _⟩, ⟨by (with_reducible repeat first | refine kDN ?_ _ | refine kDr ?_ | refine kAl ?_ _); exact BK178.out⟩, ⟨by repeat (first | (with_reducible first | exact HB.out | apply bAl | apply bDN | apply bD1 | refine bSe ?_ GE178.out) | exact HB.out)⟩⟩
      ·
       replace c34 := Bool.eq_false_iff.mpr c34
       subst c34
       rw [if_neg (show ¬ (false = true) by decide)] at H
       have H' := Aside0.mk H
       clear H
       have hcz42_0 : wc.cell? ⟨gb178, 0, none⟩ = some (.int .i64 a0_0) := (kCe BK178.out 0).trans rfl
       have hcz42_1 : wc.cell? ⟨gb178, 1, none⟩ = some (.int .i64 a0_1) := (kCe BK178.out 1).trans rfl
       have hcz42_2 : wc.cell? ⟨gb178, 2, none⟩ = some (.int .i64 a0_2) := (kCe BK178.out 2).trans rfl
       have hcz42_3 : wc.cell? ⟨gb178, 3, none⟩ = some (.int .i64 a0_3) := (kCe BK178.out 3).trans rfl
       have hcz42_4 : wc.cell? ⟨gb178, 4, none⟩ = some (.int .i64 a0_4) := (kCe BK178.out 4).trans rfl
       have hcz42_5 : wc.cell? ⟨gb178, 5, none⟩ = some (.int .i64 a0_5) := (kCe BK178.out 5).trans rfl
       have hcz42_6 : wc.cell? ⟨gb178, 6, none⟩ = some (.slice A0_6 l0_6.length c0_6) := (kCe BK178.out 6).trans rfl
       have hfz42_0 := kFr BK178.out 0
       have hfz42_1 := kFr BK178.out 1
       have hfz42_2 := kFr BK178.out 2
       have hfz42_3 := kFr BK178.out 3
       have hfz42_4 := kFr BK178.out 4
       have hfz42_5 := kFr BK178.out 5
       have hfz42_6 := kFr BK178.out 6
       go_wp2_with (first | ((with_reducible refine gCa (f := 33) rfl ?_); refine goesL_ (some 58) rfl rfl Try.func33 (by kernel_rfl) rfl #[.int .i64 (wrap64 ((wrap64 (a0_0 + (l0_6.length : Int))) - 1))] rfl (by (try simp only [List.map_toArray, List.map_cons, List.map_nil]); first | done | rfl | (simp only [List.length_drop, List.length_take]; rfl)) ?_; (with_reducible refine (impl_offsetOk.calls (wrap64 ((wrap64 (a0_0 + (l0_6.length : Int))) - 1)) true _ A31.out).mono ?_); rintro e w' ⟨rfl, ⟨nd, rfl⟩⟩; refine ⟨_, rfl, ?_⟩) | (go_at_call 33; (with_reducible refine (impl_offsetOk.calls (wrap64 ((wrap64 (a0_4 + (l0_6.length : Int))) - 1)) false _ A33.out).mono ?_); rintro e w' ⟨rfl, ⟨nd, rfl⟩⟩))
       go_meet
       case rel => exact ⟨_, (true), (by first | rfl | (simp; done) | (simp [*]; done) | exact Go.Proofs.Ytjbcgflpeomkfaa.Add.isEmpty_bne _), H', ⟨by have := HJ1.out; first | omega | exact Nat.le_refl _⟩, ⟨by (with_reducible repeat first | refine kDN ?_ _ | refine kDr ?_ | refine kAl ?_ _); exact BK178.out⟩, ⟨by repeat (first | (with_reducible first | exact HB.out | apply bAl | apply bDN | apply bD1 | refine bSe ?_ GE178.out) | exact HB.out)⟩⟩
     ·
      replace c32 := Bool.eq_false_iff.mpr c32
      subst c32
      rw [if_neg (show ¬ (false = true) by decide)] at H
      have H' := Aside0.mk H
      clear H
      have hcz43_0 : wc.cell? ⟨gb178, 0, none⟩ = some (.int .i64 a0_0) := (kCe BK178.out 0).trans rfl
      have hcz43_1 : wc.cell? ⟨gb178, 1, none⟩ = some (.int .i64 a0_1) := (kCe BK178.out 1).trans rfl
      have hcz43_2 : wc.cell? ⟨gb178, 2, none⟩ = some (.int .i64 a0_2) := (kCe BK178.out 2).trans rfl
      have hcz43_3 : wc.cell? ⟨gb178, 3, none⟩ = some (.int .i64 a0_3) := (kCe BK178.out 3).trans rfl
      have hcz43_4 : wc.cell? ⟨gb178, 4, none⟩ = some (.int .i64 a0_4) := (kCe BK178.out 4).trans rfl
      have hcz43_5 : wc.cell? ⟨gb178, 5, none⟩ = some (.int .i64 a0_5) := (kCe BK178.out 5).trans rfl
      have hcz43_6 : wc.cell? ⟨gb178, 6, none⟩ = some (.slice A0_6 l0_6.length c0_6) := (kCe BK178.out 6).trans rfl
      have hfz43_0 := kFr BK178.out 0
      have hfz43_1 := kFr BK178.out 1
      have hfz43_2 := kFr BK178.out 2
      have hfz43_3 := kFr BK178.out 3
      have hfz43_4 := kFr BK178.out 4
      have hfz43_5 := kFr BK178.out 5
      have hfz43_6 := kFr BK178.out 6
      go_wp2_with (first | ((with_reducible refine gCa (f := 33) rfl ?_); refine goesL_ (some 58) rfl rfl Try.func33 (by kernel_rfl) rfl #[.int .i64 (wrap64 ((wrap64 (a0_0 + (l0_6.length : Int))) - 1))] rfl (by (try simp only [List.map_toArray, List.map_cons, List.map_nil]); first | done | rfl | (simp only [List.length_drop, List.length_take]; rfl)) ?_; (with_reducible refine (impl_offsetOk.calls (wrap64 ((wrap64 (a0_0 + (l0_6.length : Int))) - 1)) false _ A31.out).mono ?_); rintro e w' ⟨rfl, ⟨nd, rfl⟩⟩; refine ⟨_, rfl, ?_⟩))
      go_meet
      case rel => exact ⟨_, (true), (by first | rfl | (simp; done) | (simp [*]; done) | exact Go.Proofs.Ytjbcgflpeomkfaa.Add.isEmpty_bne _), H', ⟨by have := HJ1.out; first | omega | exact Nat.le_refl _⟩, ⟨by (with_reducible repeat first | refine kDN ?_ _ | refine kDr ?_ | refine kAl ?_ _); exact BK178.out⟩, ⟨by repeat (first | (with_reducible first | exact HB.out | apply bAl | apply bDN | apply bD1 | refine bSe ?_ GE178.out) | exact HB.out)⟩⟩
    case rest =>
     clear HC30
     try clear c1
     try clear c2
     try clear p2
     try clear c3
     try clear c6
     try clear p6
     try clear c8
     try clear c10
     try clear c12
     try clear c14
     try clear c16
     try clear c18
     try clear c29
     try clear c32
     try clear c33
     try clear c34
     try clear c35
     try clear c35b0
     try clear c35b1
     try clear c36
     try clear c36b0
     try clear c36b1
     try clear c37
     try clear c37b0
     try clear c37b1
     try clear hcz20_0
     try clear hcz20_1
     try clear hcz20_2
     try clear hcz20_3
     try clear hcz20_4
     try clear hcz20_5
     try clear hcz20_6
     try clear hcz22_0
     try clear hcz22_1
     try clear hcz22_2
     try clear hcz22_3
     try clear hcz22_4
     try clear hcz22_5
     try clear hcz22_6
     try clear hcz23_0
     try clear hcz23_1
     try clear hcz23_2
     try clear hcz23_3
     try clear hcz23_4
     try clear hcz23_5
     try clear hcz23_6
     try clear hcz24_0
     try clear hcz24_1
     try clear hcz24_2
     try clear hcz24_3
     try clear hcz24_4
     try clear hcz24_5
     try clear hcz24_6
     try clear hcz25_0
     try clear hcz25_1
     try clear hcz25_2
     try clear hcz25_3
     try clear hcz25_4
     try clear hcz25_5
     try clear hcz25_6
     try clear hcz26_0
     try clear hcz26_1
     try clear hcz26_2
     try clear hcz26_3
     try clear hcz26_4
     try clear hcz26_5
     try clear hcz26_6
     try clear hcz27_0
     try clear hcz27_1
     try clear hcz27_2
     try clear hcz27_3
     try clear hcz27_4
     try clear hcz27_5
     try clear hcz27_6
     try clear hcz28_0
     try clear hcz28_1
     try clear hcz28_2
     try clear hcz28_3
     try clear hcz28_4
     try clear hcz28_5
     try clear hcz28_6
     try clear hcz38_0
     try clear hcz38_1
     try clear hcz38_2
     try clear hcz38_3
     try clear hcz38_4
     try clear hcz38_5
     try clear hcz38_6
     try clear hcz39_0
     try clear hcz39_1
     try clear hcz39_2
     try clear hcz39_3
     try clear hcz39_4
     try clear hcz39_5
     try clear hcz39_6
     try clear hcz40_0
     try clear hcz40_1
     try clear hcz40_2
     try clear hcz40_3
     try clear hcz40_4
     try clear hcz40_5
     try clear hcz40_6
     try clear hcz41_0
     try clear hcz41_1
     try clear hcz41_2
     try clear hcz41_3
     try clear hcz41_4
     try clear hcz41_5
     try clear hcz41_6
     try clear hcz42_0
     try clear hcz42_1
     try clear hcz42_2
     try clear hcz42_3
     try clear hcz42_4
     try clear hcz42_5
     try clear hcz42_6
     try clear hcz43_0
     try clear hcz43_1
     try clear hcz43_2
     try clear hcz43_3
     try clear hcz43_4
     try clear hcz43_5
     try clear hcz43_6
     try clear hcz4_0
     try clear hcz4_1
     try clear hcz4_2
     try clear hcz4_3
     try clear hcz4_4
     try clear hcz4_5
     try clear hcz4_6
     try clear hfz20_0
     try clear hfz20_1
     try clear hfz20_2
     try clear hfz20_3
     try clear hfz20_4
     try clear hfz20_5
     try clear hfz20_6
     try clear hfz22_0
     try clear hfz22_1
     try clear hfz22_2
     try clear hfz22_3
     try clear hfz22_4
     try clear hfz22_5
     try clear hfz22_6
     try clear hfz23_0
     try clear hfz23_1
     try clear hfz23_2
     try clear hfz23_3
     try clear hfz23_4
     try clear hfz23_5
     try clear hfz23_6
     try clear hfz24_0
     try clear hfz24_1
     try clear hfz24_2
     try clear hfz24_3
     try clear hfz24_4
     try clear hfz24_5
     try clear hfz24_6
     try clear hfz25_0
     try clear hfz25_1
     try clear hfz25_2
     try clear hfz25_3
     try clear hfz25_4
     try clear hfz25_5
     try clear hfz25_6
     try clear hfz26_0
     try clear hfz26_1
     try clear hfz26_2
     try clear hfz26_3
     try clear hfz26_4
     try clear hfz26_5
     try clear hfz26_6
     try clear hfz27_0
     try clear hfz27_1
     try clear hfz27_2
     try clear hfz27_3
     try clear hfz27_4
     try clear hfz27_5
     try clear hfz27_6
     try clear hfz28_0
     try clear hfz28_1
     try clear hfz28_2
     try clear hfz28_3
     try clear hfz28_4
     try clear hfz28_5
     try clear hfz28_6
     try clear hfz38_0
     try clear hfz38_1
     try clear hfz38_2
     try clear hfz38_3
     try clear hfz38_4
     try clear hfz38_5
     try clear hfz38_6
     try clear hfz39_0
     try clear hfz39_1
     try clear hfz39_2
     try clear hfz39_3
     try clear hfz39_4
     try clear hfz39_5
     try clear hfz39_6
     try clear hfz40_0
     try clear hfz40_1
     try clear hfz40_2
     try clear hfz40_3
     try clear hfz40_4
     try clear hfz40_5
     try clear hfz40_6
     try clear hfz41_0
     try clear hfz41_1
     try clear hfz41_2
     try clear hfz41_3
     try clear hfz41_4
     try clear hfz41_5
     try clear hfz41_6
     try clear hfz42_0
     try clear hfz42_1
     try clear hfz42_2
     try clear hfz42_3
     try clear hfz42_4
     try clear hfz42_5
     try clear hfz42_6
     try clear hfz43_0
     try clear hfz43_1
     try clear hfz43_2
     try clear hfz43_3
     try clear hfz43_4
     try clear hfz43_5
     try clear hfz43_6
     try clear hfz4_0
     try clear hfz4_1
     try clear hfz4_2
     try clear hfz4_3
     try clear hfz4_4
     try clear hfz4_5
     try clear hfz4_6
     try clear p2
     obtain ⟨kq, x89_29, rfl, HA, HJ29, BK178, HB⟩ := hcut
     cases kq with
     | zero => exact absurd HA.out (by simp [impl_BatchOk.j1])
     | succ kj29 =>
      have H := HA.out
      clear HA
      simp only [impl_BatchOk.j1] at H
      by_cases c44 : x89_29 = true
      ·
       subst c44
       rw [if_pos rfl] at H
       obtain rfl := Option.some.inj H
       go_wp2
       go_ret
       exact ⟨by first | rfl | (simp [errW_none, errW_some] <;> rfl) | (simp [*, errW_none, errW_some] <;> rfl), by repeat (first | (with_reducible first | exact HB.out | apply bAl | apply bDN | apply bD1 | refine bSe ?_ GE178.out) | exact HB.out)⟩
      ·
       replace c44 := Bool.eq_false_iff.mpr c44
       subst c44
       rw [if_neg (show ¬ (false = true) by decide)] at H
       by_cases c45 : (Go.bits .and .i64 a0_5 4) = 0
       ·
        rw [if_pos c45] at H
        have c45b0 : ((Go.bits .and .i64 a0_5 4) == 0) = true := beq_iff_eq.mpr c45
        have c45b1 : ((Go.bits .and .i64 a0_5 4) != 0) = false := bne_eq_false_iff_eq.mpr c45
        clear c45
        obtain rfl := Option.some.inj H
        have hcz46_0 : wc.cell? ⟨gb178, 0, none⟩ = some (.int .i64 a0_0) := (kCe BK178.out 0).trans rfl
        have hcz46_1 : wc.cell? ⟨gb178, 1, none⟩ = some (.int .i64 a0_1) := (kCe BK178.out 1).trans rfl
        have hcz46_2 : wc.cell? ⟨gb178, 2, none⟩ = some (.int .i64 a0_2) := (kCe BK178.out 2).trans rfl
        have hcz46_3 : wc.cell? ⟨gb178, 3, none⟩ = some (.int .i64 a0_3) := (kCe BK178.out 3).trans rfl
        have hcz46_4 : wc.cell? ⟨gb178, 4, none⟩ = some (.int .i64 a0_4) := (kCe BK178.out 4).trans rfl
        have hcz46_5 : wc.cell? ⟨gb178, 5, none⟩ = some (.int .i64 a0_5) := (kCe BK178.out 5).trans rfl
        have hcz46_6 : wc.cell? ⟨gb178, 6, none⟩ = some (.slice A0_6 l0_6.length c0_6) := (kCe BK178.out 6).trans rfl
        have hfz46_0 := kFr BK178.out 0
        have hfz46_1 := kFr BK178.out 1
        have hfz46_2 := kFr BK178.out 2
        have hfz46_3 := kFr BK178.out 3
        have hfz46_4 := kFr BK178.out 4
        have hfz46_5 := kFr BK178.out 5
        have hfz46_6 := kFr BK178.out 6
        go_wp2
        go_ret
        exact ⟨by first | rfl | (simp [errW_none, errW_some] <;> rfl) | (simp [*, errW_none, errW_some] <;> rfl), by repeat (first | (with_reducible first | exact HB.out | apply bAl | apply bDN | apply bD1 | refine bSe ?_ GE178.out) | exact HB.out)⟩
       ·
        rw [if_neg c45] at H
        have c45b0 : ((Go.bits .and .i64 a0_5 4) == 0) = false := beq_eq_false_iff_ne.mpr c45
        have c45b1 : ((Go.bits .and .i64 a0_5 4) != 0) = true := bne_iff_ne.mpr c45
        by_cases c47 : 0 < (l0_6.length : Int)
        ·
         rw [if_pos c47] at H
         have c47b0 : decide (0 < (l0_6.length : Int)) = true := decide_eq_true c47
         have c47b1 : decide (0 < l0_6.length) = true := decide_eq_true (by omega)
         clear c47
         by_cases c48 : (Go.bits .and .i64 a0_5 2) = 0
         ·
          rw [if_pos c48] at H
          have c48b0 : ((Go.bits .and .i64 a0_5 2) == 0) = true := beq_iff_eq.mpr c48
          have c48b1 : ((Go.bits .and .i64 a0_5 2) != 0) = false := bne_eq_false_iff_eq.mpr c48
          clear c48
          obtain rfl := Option.some.inj H
          have hcz49_0 : wc.cell? ⟨gb178, 0, none⟩ = some (.int .i64 a0_0) := (kCe BK178.out 0).trans rfl
          have hcz49_1 : wc.cell? ⟨gb178, 1, none⟩ = some (.int .i64 a0_1) := (kCe BK178.out 1).trans rfl
          have hcz49_2 : wc.cell? ⟨gb178, 2, none⟩ = some (.int .i64 a0_2) := (kCe BK178.out 2).trans rfl
          have hcz49_3 : wc.cell? ⟨gb178, 3, none⟩ = some (.int .i64 a0_3) := (kCe BK178.out 3).trans rfl
          have hcz49_4 : wc.cell? ⟨gb178, 4, none⟩ = some (.int .i64 a0_4) := (kCe BK178.out 4).trans rfl
          have hcz49_5 : wc.cell? ⟨gb178, 5, none⟩ = some (.int .i64 a0_5) := (kCe BK178.out 5).trans rfl
          have hcz49_6 : wc.cell? ⟨gb178, 6, none⟩ = some (.slice A0_6 l0_6.length c0_6) := (kCe BK178.out 6).trans rfl
          have hfz49_0 := kFr BK178.out 0
          have hfz49_1 := kFr BK178.out 1
          have hfz49_2 := kFr BK178.out 2
          have hfz49_3 := kFr BK178.out 3
          have hfz49_4 := kFr BK178.out 4
          have hfz49_5 := kFr BK178.out 5
          have hfz49_6 := kFr BK178.out 6
          have p189 : 0 ≤ (0 : Int) := (by omega)
          have q189 : 0 < (l0_6.length : Int) := of_decide_eq_true (by first | (with_reducible assumption) | assumption)
          obtain ⟨ad189, A189_5, c189_5, e189, hx189_0, hx189_1, hx189_2, hx189_3, hx189_4, hx189_5, hl189_5, hi189_5⟩ := at_T56 HR0_6.out 0 p189 q189
          cases e189
          have qi189 : (0 < l0_6.length) = True := eq_true (by omega)
          (try rw [show ((0 : Int)).toNat = 0 from rfl] at hx189_0)
          (try rw [show 0 * 6 = 0 from rfl] at hx189_0)
          (try rw [Addr.add_zero'] at hx189_0)
          (try rw [show ((0 : Int)).toNat = 0 from rfl] at hx189_1)
          (try rw [show 0 * 6 = 0 from rfl] at hx189_1)
          (try rw [Addr.add_zero'] at hx189_1)
          (try rw [show ((0 : Int)).toNat = 0 from rfl] at hx189_2)
          (try rw [show 0 * 6 = 0 from rfl] at hx189_2)
          (try rw [Addr.add_zero'] at hx189_2)
          (try rw [show ((0 : Int)).toNat = 0 from rfl] at hx189_3)
          (try rw [show 0 * 6 = 0 from rfl] at hx189_3)
          (try rw [Addr.add_zero'] at hx189_3)
          (try rw [show ((0 : Int)).toNat = 0 from rfl] at hx189_4)
          (try rw [show 0 * 6 = 0 from rfl] at hx189_4)
          (try rw [Addr.add_zero'] at hx189_4)
          (try rw [show ((0 : Int)).toNat = 0 from rfl] at hx189_5)
          (try rw [show 0 * 6 = 0 from rfl] at hx189_5)
          (try rw [Addr.add_zero'] at hx189_5)
          replace hx189_0 := (HB.out.cell (World.block_lt_of_cell? w _ hx189_0)).trans hx189_0
          replace hx189_1 := (HB.out.cell (World.block_lt_of_cell? w _ hx189_1)).trans hx189_1
          replace hx189_2 := (HB.out.cell (World.block_lt_of_cell? w _ hx189_2)).trans hx189_2
          replace hx189_3 := (HB.out.cell (World.block_lt_of_cell? w _ hx189_3)).trans hx189_3
          replace hx189_4 := (HB.out.cell (World.block_lt_of_cell? w _ hx189_4)).trans hx189_4
          replace hx189_5 := (HB.out.cell (World.block_lt_of_cell? w _ hx189_5)).trans hx189_5
          have HR189_5 := Aside0.mk hi189_5
          have HC189_5 := Aside0.mk hl189_5
          clear hi189_5 hl189_5
          replace p189 := eq_true p189
          replace q189 := eq_true q189
          go_wp2_with (first | ((with_reducible refine gDs (N := 4) rfl ?_); (try (refine gGu (by rfl) ?_; dsimp only)); refine bEv ?hg (N := 4) ?hd (cs := #[.int .i64 0, .bool false, .string (⟨#[]⟩ : ByteArray), .bool false, .string (⟨#[]⟩ : ByteArray), .slice none 0 0]) (t := 56) ?hr ?_; (case hd => rfl); (case hg => rfl); (case hr => first | (go_simp; done) | (go_simp; rfl)); intro gb190 hg w50 hbox hb; have n0_ := Aside0.mk (kBe (g := gb178) (o := .cells #[.int .i64 a0_0, .int .i64 a0_1, .int .i64 a0_2, .int .i64 a0_3, .int .i64 a0_4, .int .i64 a0_5, .slice (some ad189) l0_6.length c0_6] 29 (0, 0)) (by (with_reducible repeat first | refine kDN ?_ _ | refine kDr ?_ | refine kAl ?_ _); exact BK178.out) hb); have n1_ := Aside0.mk (bSt (by repeat (first | (with_reducible first | exact HB.out | apply bAl | apply bDN | apply bD1 | refine bSe ?_ GE178.out) | exact HB.out)) hb); have n2_ := Aside0.mk (hbox); have n3_ := Aside0.mk ((by rw [hg]; exact (bSz (by repeat (first | (with_reducible first | exact HB.out | apply bAl | apply bDN | apply bD1 | refine bSe ?_ GE178.out) | exact HB.out))) : w.heap.size ≤ gb190)); have n4_ := Aside0.mk ((by rw [hg]; exact (bSz (by repeat (first | (with_reducible first | exact HB.out | apply bAl | apply bDN | apply bD1 | refine bSe ?_ GE178.out) | exact HB.out))) : w.heap.size ≤ gb190)); have n5_ := Aside0.mk ((by rw [hg]; exact Nat.ne_of_lt (blk_lt (g := gb178) (o := .cells #[.int .i64 a0_0, .int .i64 a0_1, .int .i64 a0_2, .int .i64 a0_3, .int .i64 a0_4, .int .i64 a0_5, .slice (some ad189) l0_6.length c0_6] 29 (0, 0)) (by (with_reducible repeat first | refine kDN ?_ _ | refine kDr ?_ | refine kAl ?_ _); exact BK178.out)) : gb178 ≠ gb190)); have n6_ := Aside0.mk ((by rw [hg]; exact Nat.ne_of_gt (blk_lt (g := gb178) (o := .cells #[.int .i64 a0_0, .int .i64 a0_1, .int .i64 a0_2, .int .i64 a0_3, .int .i64 a0_4, .int .i64 a0_5, .slice (some ad189) l0_6.length c0_6] 29 (0, 0)) (by (with_reducible repeat first | refine kDN ?_ _ | refine kDr ?_ | refine kAl ?_ _); exact BK178.out)) : gb190 ≠ gb178)); clear BK178; clear HB; have BK178 := n0_; have HB := n1_; have BK190 := n2_; have GW190 := n3_; have GE190 := n4_; have NB178_190 := n5_; have NB190_178 := n6_; clear n0_ n1_ n2_ n3_ n4_ n5_ n6_; clear hb hbox hg; have hnb51 := NB190_178.out; have hnc51 := NB178_190.out; have hcz52_0 : w50.cell? ⟨gb190, 0, none⟩ = some (.int .i64 0) := (kCe BK190.out 0).trans rfl; have hcz52_1 : w50.cell? ⟨gb190, 1, none⟩ = some (.bool false) := (kCe BK190.out 1).trans rfl; have hcz52_2 : w50.cell? ⟨gb190, 2, none⟩ = some (.string (⟨#[]⟩ : ByteArray)) := (kCe BK190.out 2).trans rfl; have hcz52_3 : w50.cell? ⟨gb190, 3, none⟩ = some (.bool false) := (kCe BK190.out 3).trans rfl; have hcz52_4 : w50.cell? ⟨gb190, 4, none⟩ = some (.string (⟨#[]⟩ : ByteArray)) := (kCe BK190.out 4).trans rfl; have hcz52_5 : w50.cell? ⟨gb190, 5, none⟩ = some (.slice none 0 0) := (kCe BK190.out 5).trans rfl; have hfz52_0 := kFr BK190.out 0; have hfz52_1 := kFr BK190.out 1; have hfz52_2 := kFr BK190.out 2; have hfz52_3 := kFr BK190.out 3; have hfz52_4 := kFr BK190.out 4; have hfz52_5 := kFr BK190.out 5; have hcz53_0 : w50.cell? ⟨gb178, 0, none⟩ = some (.int .i64 a0_0) := (kCe BK178.out 0).trans rfl; have hcz53_1 : w50.cell? ⟨gb178, 1, none⟩ = some (.int .i64 a0_1) := (kCe BK178.out 1).trans rfl; have hcz53_2 : w50.cell? ⟨gb178, 2, none⟩ = some (.int .i64 a0_2) := (kCe BK178.out 2).trans rfl; have hcz53_3 : w50.cell? ⟨gb178, 3, none⟩ = some (.int .i64 a0_3) := (kCe BK178.out 3).trans rfl; have hcz53_4 : w50.cell? ⟨gb178, 4, none⟩ = some (.int .i64 a0_4) := (kCe BK178.out 4).trans rfl; have hcz53_5 : w50.cell? ⟨gb178, 5, none⟩ = some (.int .i64 a0_5) := (kCe BK178.out 5).trans rfl; have hcz53_6 : w50.cell? ⟨gb178, 6, none⟩ = some (.slice (some ad189) l0_6.length c0_6) := (kCe BK178.out 6).trans rfl; have hfz53_0 := kFr BK178.out 0; have hfz53_1 := kFr BK178.out 1; have hfz53_2 := kFr BK178.out 2; have hfz53_3 := kFr BK178.out 3; have hfz53_4 := kFr BK178.out 4; have hfz53_5 := kFr BK178.out 5; have hfz53_6 := kFr BK178.out 6))
          go_ret
          exact ⟨by first | rfl | (simp [errW_none, errW_some] <;> rfl) | (simp [*, errW_none, errW_some] <;> rfl), by repeat (first | (with_reducible first | exact HB.out | apply bAl | apply bDN | apply bD1 | refine bSe ?_ GE178.out | refine bSe ?_ GE190.out) | exact HB.out)⟩
         ·
          rw [if_neg c48] at H
          have c48b0 : ((Go.bits .and .i64 a0_5 2) == 0) = false := beq_eq_false_iff_ne.mpr c48
          have c48b1 : ((Go.bits .and .i64 a0_5 2) != 0) = true := bne_iff_ne.mpr c48
          by_cases c54 : (l0_6.length : Int) = 1
          ·
           rw [if_pos c54] at H
           have c54b0 : ((l0_6.length : Int) == 1) = true := beq_iff_eq.mpr c54
           have c54b1 : ((l0_6.length : Int) != 1) = false := bne_eq_false_iff_eq.mpr c54
           clear c54
           obtain ⟨bq55, hbq55⟩ : ∃ b_ : Bool, b_ = ((rd_T56 l0_6 0).f1) := ⟨_, rfl⟩
           replace H : (if bq55 = true then (if ((rd_T56 l0_6 0).f2).toList = ([99, 111, 109, 109, 105, 116] : List UInt8) then (if ((rd_T56 l0_6 0).f3 = true) then (some false) else (if ((rd_T56 l0_6 0).f4).toList = ([] : List UInt8) then (some ((((rd_T56 l0_6 0).f5).length : Int) == 0)) else (some false))) else (if ((rd_T56 l0_6 0).f2).toList = ([97, 98, 111, 114, 116] : List UInt8) then (if ((rd_T56 l0_6 0).f3 = true) then (some false) else (if ((rd_T56 l0_6 0).f4).toList = ([] : List UInt8) then (some ((((rd_T56 l0_6 0).f5).length : Int) == 0)) else (some false))) else (some false))) else (some false)) = some r := by rw [← hbq55] at H; exact H
           have Nbq55 := Aside0.mk hbq55
           clear hbq55
           by_cases c56 : bq55 = true
           ·
            subst c56
            rw [if_pos rfl] at H
            by_cases c57 : ((rd_T56 l0_6 0).f2).toList = ([99, 111, 109, 109, 105, 116] : List UInt8)
            ·
             rw [if_pos c57] at H
             have c57b0 : (((rd_T56 l0_6 0).f2).toList == ([99, 111, 109, 109, 105, 116] : List UInt8)) = true := beq_iff_eq.mpr c57
             have c57b1 : (((rd_T56 l0_6 0).f2).toList != ([99, 111, 109, 109, 105, 116] : List UInt8)) = false := bne_eq_false_iff_eq.mpr c57
             clear c57
             obtain ⟨bq58, hbq58⟩ : ∃ b_ : Bool, b_ = ((rd_T56 l0_6 0).f3) := ⟨_, rfl⟩
             replace H : (if (bq58 = true) then (some false) else (if ((rd_T56 l0_6 0).f4).toList = ([] : List UInt8) then (some ((((rd_T56 l0_6 0).f5).length : Int) == 0)) else (some false))) = some r := by rw [← hbq58] at H; exact H
             have Nbq58 := Aside0.mk hbq58
             clear hbq58
             by_cases c59 : (bq58 = true)
             ·
              subst c59
              rw [if_pos rfl] at H
              obtain rfl := Option.some.inj H
              have hcz60_0 : wc.cell? ⟨gb178, 0, none⟩ = some (.int .i64 a0_0) := (kCe BK178.out 0).trans rfl
              have hcz60_1 : wc.cell? ⟨gb178, 1, none⟩ = some (.int .i64 a0_1) := (kCe BK178.out 1).trans rfl
              have hcz60_2 : wc.cell? ⟨gb178, 2, none⟩ = some (.int .i64 a0_2) := (kCe BK178.out 2).trans rfl
              have hcz60_3 : wc.cell? ⟨gb178, 3, none⟩ = some (.int .i64 a0_3) := (kCe BK178.out 3).trans rfl
              have hcz60_4 : wc.cell? ⟨gb178, 4, none⟩ = some (.int .i64 a0_4) := (kCe BK178.out 4).trans rfl
              have hcz60_5 : wc.cell? ⟨gb178, 5, none⟩ = some (.int .i64 a0_5) := (kCe BK178.out 5).trans rfl
              have hcz60_6 : wc.cell? ⟨gb178, 6, none⟩ = some (.slice A0_6 l0_6.length c0_6) := (kCe BK178.out 6).trans rfl
              have hfz60_0 := kFr BK178.out 0
              have hfz60_1 := kFr BK178.out 1
              have hfz60_2 := kFr BK178.out 2
              have hfz60_3 := kFr BK178.out 3
              have hfz60_4 := kFr BK178.out 4
              have hfz60_5 := kFr BK178.out 5
              have hfz60_6 := kFr BK178.out 6
              have p189 : 0 ≤ (0 : Int) := (by omega)
              have q189 : 0 < (l0_6.length : Int) := of_decide_eq_true (by first | (with_reducible assumption) | assumption)
              obtain ⟨ad189, A189_5, c189_5, e189, hx189_0, hx189_1, hx189_2, hx189_3, hx189_4, hx189_5, hl189_5, hi189_5⟩ := at_T56 HR0_6.out 0 p189 q189
              (try rw [← Nbq55.out] at hx189_1)
              (try rw [← Nbq58.out] at hx189_1)
              (try rw [← Nbq55.out] at hx189_3)
              (try rw [← Nbq58.out] at hx189_3)
              cases e189
              have qi189 : (0 < l0_6.length) = True := eq_true (by omega)
              (try rw [show ((0 : Int)).toNat = 0 from rfl] at hx189_0)
              (try rw [show 0 * 6 = 0 from rfl] at hx189_0)
              (try rw [Addr.add_zero'] at hx189_0)
              (try rw [show ((0 : Int)).toNat = 0 from rfl] at hx189_1)
              (try rw [show 0 * 6 = 0 from rfl] at hx189_1)
              (try rw [Addr.add_zero'] at hx189_1)
              (try rw [show ((0 : Int)).toNat = 0 from rfl] at hx189_2)
              (try rw [show 0 * 6 = 0 from rfl] at hx189_2)
              (try rw [Addr.add_zero'] at hx189_2)
              (try rw [show ((0 : Int)).toNat = 0 from rfl] at hx189_3)
              (try rw [show 0 * 6 = 0 from rfl] at hx189_3)
              (try rw [Addr.add_zero'] at hx189_3)
              (try rw [show ((0 : Int)).toNat = 0 from rfl] at hx189_4)
              (try rw [show 0 * 6 = 0 from rfl] at hx189_4)
              (try rw [Addr.add_zero'] at hx189_4)
              (try rw [show ((0 : Int)).toNat = 0 from rfl] at hx189_5)
              (try rw [show 0 * 6 = 0 from rfl] at hx189_5)
              (try rw [Addr.add_zero'] at hx189_5)
              replace hx189_0 := (HB.out.cell (World.block_lt_of_cell? w _ hx189_0)).trans hx189_0
              replace hx189_1 := (HB.out.cell (World.block_lt_of_cell? w _ hx189_1)).trans hx189_1
              replace hx189_2 := (HB.out.cell (World.block_lt_of_cell? w _ hx189_2)).trans hx189_2
              replace hx189_3 := (HB.out.cell (World.block_lt_of_cell? w _ hx189_3)).trans hx189_3
              replace hx189_4 := (HB.out.cell (World.block_lt_of_cell? w _ hx189_4)).trans hx189_4
              replace hx189_5 := (HB.out.cell (World.block_lt_of_cell? w _ hx189_5)).trans hx189_5
              have HR189_5 := Aside0.mk hi189_5
              have HC189_5 := Aside0.mk hl189_5
              clear hi189_5 hl189_5
              replace p189 := eq_true p189
              replace q189 := eq_true q189
              go_wp2_with (first | ((with_reducible refine gDs (N := 4) rfl ?_); (try (refine gGu (by rfl) ?_; dsimp only)); refine bEv ?hg (N := 4) ?hd (cs := #[.int .i64 0, .bool false, .string (⟨#[]⟩ : ByteArray), .bool false, .string (⟨#[]⟩ : ByteArray), .slice none 0 0]) (t := 56) ?hr ?_; (case hd => rfl); (case hg => rfl); (case hr => first | (go_simp; done) | (go_simp; rfl)); intro gb190 hg w61 hbox hb; have n0_ := Aside0.mk (kBe (g := gb178) (o := .cells #[.int .i64 a0_0, .int .i64 a0_1, .int .i64 a0_2, .int .i64 a0_3, .int .i64 a0_4, .int .i64 a0_5, .slice (some ad189) l0_6.length c0_6] 29 (0, 0)) (by (with_reducible repeat first | refine kDN ?_ _ | refine kDr ?_ | refine kAl ?_ _); exact BK178.out) hb); have n1_ := Aside0.mk (bSt (by repeat (first | (with_reducible first | exact HB.out | apply bAl | apply bDN | apply bD1 | refine bSe ?_ GE178.out) | exact HB.out)) hb); have n2_ := Aside0.mk (hbox); have n3_ := Aside0.mk ((by rw [hg]; exact (bSz (by repeat (first | (with_reducible first | exact HB.out | apply bAl | apply bDN | apply bD1 | refine bSe ?_ GE178.out) | exact HB.out))) : w.heap.size ≤ gb190)); have n4_ := Aside0.mk ((by rw [hg]; exact (bSz (by repeat (first | (with_reducible first | exact HB.out | apply bAl | apply bDN | apply bD1 | refine bSe ?_ GE178.out) | exact HB.out))) : w.heap.size ≤ gb190)); have n5_ := Aside0.mk ((by rw [hg]; exact Nat.ne_of_lt (blk_lt (g := gb178) (o := .cells #[.int .i64 a0_0, .int .i64 a0_1, .int .i64 a0_2, .int .i64 a0_3, .int .i64 a0_4, .int .i64 a0_5, .slice (some ad189) l0_6.length c0_6] 29 (0, 0)) (by (with_reducible repeat first | refine kDN ?_ _ | refine kDr ?_ | refine kAl ?_ _); exact BK178.out)) : gb178 ≠ gb190)); have n6_ := Aside0.mk ((by rw [hg]; exact Nat.ne_of_gt (blk_lt (g := gb178) (o := .cells #[.int .i64 a0_0, .int .i64 a0_1, .int .i64 a0_2, .int .i64 a0_3, .int .i64 a0_4, .int .i64 a0_5, .slice (some ad189) l0_6.length c0_6] 29 (0, 0)) (by (with_reducible repeat first | refine kDN ?_ _ | refine kDr ?_ | refine kAl ?_ _); exact BK178.out)) : gb190 ≠ gb178)); clear BK178; clear HB; have BK178 := n0_; have HB := n1_; have BK190 := n2_; have GW190 := n3_; have GE190 := n4_; have NB178_190 := n5_; have NB190_178 := n6_; clear n0_ n1_ n2_ n3_ n4_ n5_ n6_; clear hb hbox hg; have hnb62 := NB190_178.out; have hnc62 := NB178_190.out; have hcz63_0 : w61.cell? ⟨gb190, 0, none⟩ = some (.int .i64 0) := (kCe BK190.out 0).trans rfl; have hcz63_1 : w61.cell? ⟨gb190, 1, none⟩ = some (.bool false) := (kCe BK190.out 1).trans rfl; have hcz63_2 : w61.cell? ⟨gb190, 2, none⟩ = some (.string (⟨#[]⟩ : ByteArray)) := (kCe BK190.out 2).trans rfl; have hcz63_3 : w61.cell? ⟨gb190, 3, none⟩ = some (.bool false) := (kCe BK190.out 3).trans rfl; have hcz63_4 : w61.cell? ⟨gb190, 4, none⟩ = some (.string (⟨#[]⟩ : ByteArray)) := (kCe BK190.out 4).trans rfl; have hcz63_5 : w61.cell? ⟨gb190, 5, none⟩ = some (.slice none 0 0) := (kCe BK190.out 5).trans rfl; have hfz63_0 := kFr BK190.out 0; have hfz63_1 := kFr BK190.out 1; have hfz63_2 := kFr BK190.out 2; have hfz63_3 := kFr BK190.out 3; have hfz63_4 := kFr BK190.out 4; have hfz63_5 := kFr BK190.out 5; have hcz64_0 : w61.cell? ⟨gb178, 0, none⟩ = some (.int .i64 a0_0) := (kCe BK178.out 0).trans rfl; have hcz64_1 : w61.cell? ⟨gb178, 1, none⟩ = some (.int .i64 a0_1) := (kCe BK178.out 1).trans rfl; have hcz64_2 : w61.cell? ⟨gb178, 2, none⟩ = some (.int .i64 a0_2) := (kCe BK178.out 2).trans rfl; have hcz64_3 : w61.cell? ⟨gb178, 3, none⟩ = some (.int .i64 a0_3) := (kCe BK178.out 3).trans rfl; have hcz64_4 : w61.cell? ⟨gb178, 4, none⟩ = some (.int .i64 a0_4) := (kCe BK178.out 4).trans rfl; have hcz64_5 : w61.cell? ⟨gb178, 5, none⟩ = some (.int .i64 a0_5) := (kCe BK178.out 5).trans rfl; have hcz64_6 : w61.cell? ⟨gb178, 6, none⟩ = some (.slice (some ad189) l0_6.length c0_6) := (kCe BK178.out 6).trans rfl; have hfz64_0 := kFr BK178.out 0; have hfz64_1 := kFr BK178.out 1; have hfz64_2 := kFr BK178.out 2; have hfz64_3 := kFr BK178.out 3; have hfz64_4 := kFr BK178.out 4; have hfz64_5 := kFr BK178.out 5; have hfz64_6 := kFr BK178.out 6))
              go_ret
              exact ⟨by first | rfl | (simp [errW_none, errW_some] <;> rfl) | (simp [*, errW_none, errW_some] <;> rfl), by repeat (first | (with_reducible first | exact HB.out | apply bAl | apply bDN | apply bD1 | refine bSe ?_ GE178.out | refine bSe ?_ GE190.out) | exact HB.out)⟩
             ·
              replace c59 := Bool.eq_false_iff.mpr c59
              subst c59
              rw [if_neg (show ¬ (false = true) by decide)] at H
              by_cases c65 : ((rd_T56 l0_6 0).f4).toList = ([] : List UInt8)
              ·
               rw [if_pos c65] at H
               have c65b0 : (((rd_T56 l0_6 0).f4).toList == ([] : List UInt8)) = true := beq_iff_eq.mpr c65
               have c65b1 : (((rd_T56 l0_6 0).f4).toList != ([] : List UInt8)) = false := bne_eq_false_iff_eq.mpr c65
               clear c65
               obtain rfl := Option.some.inj H
               have hcz66_0 : wc.cell? ⟨gb178, 0, none⟩ = some (.int .i64 a0_0) := (kCe BK178.out 0).trans rfl
               have hcz66_1 : wc.cell? ⟨gb178, 1, none⟩ = some (.int .i64 a0_1) := (kCe BK178.out 1).trans rfl
               have hcz66_2 : wc.cell? ⟨gb178, 2, none⟩ = some (.int .i64 a0_2) := (kCe BK178.out 2).trans rfl
               have hcz66_3 : wc.cell? ⟨gb178, 3, none⟩ = some (.int .i64 a0_3) := (kCe BK178.out 3).trans rfl
               have hcz66_4 : wc.cell? ⟨gb178, 4, none⟩ = some (.int .i64 a0_4) := (kCe BK178.out 4).trans rfl
               have hcz66_5 : wc.cell? ⟨gb178, 5, none⟩ = some (.int .i64 a0_5) := (kCe BK178.out 5).trans rfl
               have hcz66_6 : wc.cell? ⟨gb178, 6, none⟩ = some (.slice A0_6 l0_6.length c0_6) := (kCe BK178.out 6).trans rfl
               have hfz66_0 := kFr BK178.out 0
               have hfz66_1 := kFr BK178.out 1
               have hfz66_2 := kFr BK178.out 2
               have hfz66_3 := kFr BK178.out 3
               have hfz66_4 := kFr BK178.out 4
               have hfz66_5 := kFr BK178.out 5
               have hfz66_6 := kFr BK178.out 6
               have p189 : 0 ≤ (0 : Int) := (by omega)
               have q189 : 0 < (l0_6.length : Int) := of_decide_eq_true (by first | (with_reducible assumption) | assumption)
               obtain ⟨ad189, A189_5, c189_5, e189, hx189_0, hx189_1, hx189_2, hx189_3, hx189_4, hx189_5, hl189_5, hi189_5⟩ := at_T56 HR0_6.out 0 p189 q189
               (try rw [← Nbq55.out] at hx189_1)
               (try rw [← Nbq58.out] at hx189_1)
               (try rw [← Nbq55.out] at hx189_3)
               (try rw [← Nbq58.out] at hx189_3)
               cases e189
               have qi189 : (0 < l0_6.length) = True := eq_true (by omega)
               (try rw [show ((0 : Int)).toNat = 0 from rfl] at hx189_0)
               (try rw [show 0 * 6 = 0 from rfl] at hx189_0)
               (try rw [Addr.add_zero'] at hx189_0)
               (try rw [show ((0 : Int)).toNat = 0 from rfl] at hx189_1)
               (try rw [show 0 * 6 = 0 from rfl] at hx189_1)
               (try rw [Addr.add_zero'] at hx189_1)
               (try rw [show ((0 : Int)).toNat = 0 from rfl] at hx189_2)
               (try rw [show 0 * 6 = 0 from rfl] at hx189_2)
               (try rw [Addr.add_zero'] at hx189_2)
               (try rw [show ((0 : Int)).toNat = 0 from rfl] at hx189_3)
               (try rw [show 0 * 6 = 0 from rfl] at hx189_3)
               (try rw [Addr.add_zero'] at hx189_3)
               (try rw [show ((0 : Int)).toNat = 0 from rfl] at hx189_4)
               (try rw [show 0 * 6 = 0 from rfl] at hx189_4)
               (try rw [Addr.add_zero'] at hx189_4)
               (try rw [show ((0 : Int)).toNat = 0 from rfl] at hx189_5)
               (try rw [show 0 * 6 = 0 from rfl] at hx189_5)
               (try rw [Addr.add_zero'] at hx189_5)
               replace hx189_0 := (HB.out.cell (World.block_lt_of_cell? w _ hx189_0)).trans hx189_0
               replace hx189_1 := (HB.out.cell (World.block_lt_of_cell? w _ hx189_1)).trans hx189_1
               replace hx189_2 := (HB.out.cell (World.block_lt_of_cell? w _ hx189_2)).trans hx189_2
               replace hx189_3 := (HB.out.cell (World.block_lt_of_cell? w _ hx189_3)).trans hx189_3
               replace hx189_4 := (HB.out.cell (World.block_lt_of_cell? w _ hx189_4)).trans hx189_4
               replace hx189_5 := (HB.out.cell (World.block_lt_of_cell? w _ hx189_5)).trans hx189_5
               have HR189_5 := Aside0.mk hi189_5
               have HC189_5 := Aside0.mk hl189_5
               clear hi189_5 hl189_5
               replace p189 := eq_true p189
               replace q189 := eq_true q189
               go_wp2_with (first | ((with_reducible refine gDs (N := 4) rfl ?_); (try (refine gGu (by rfl) ?_; dsimp only)); refine bEv ?hg (N := 4) ?hd (cs := #[.int .i64 0, .bool false, .string (⟨#[]⟩ : ByteArray), .bool false, .string (⟨#[]⟩ : ByteArray), .slice none 0 0]) (t := 56) ?hr ?_; (case hd => rfl); (case hg => rfl); (case hr => first | (go_simp; done) | (go_simp; rfl)); intro gb190 hg w67 hbox hb; have n0_ := Aside0.mk (kBe (g := gb178) (o := .cells #[.int .i64 a0_0, .int .i64 a0_1, .int .i64 a0_2, .int .i64 a0_3, .int .i64 a0_4, .int .i64 a0_5, .slice (some ad189) l0_6.length c0_6] 29 (0, 0)) (by (with_reducible repeat first | refine kDN ?_ _ | refine kDr ?_ | refine kAl ?_ _); exact BK178.out) hb); have n1_ := Aside0.mk (bSt (by repeat (first | (with_reducible first | exact HB.out | apply bAl | apply bDN | apply bD1 | refine bSe ?_ GE178.out) | exact HB.out)) hb); have n2_ := Aside0.mk (hbox); have n3_ := Aside0.mk ((by rw [hg]; exact (bSz (by repeat (first | (with_reducible first | exact HB.out | apply bAl | apply bDN | apply bD1 | refine bSe ?_ GE178.out) | exact HB.out))) : w.heap.size ≤ gb190)); have n4_ := Aside0.mk ((by rw [hg]; exact (bSz (by repeat (first | (with_reducible first | exact HB.out | apply bAl | apply bDN | apply bD1 | refine bSe ?_ GE178.out) | exact HB.out))) : w.heap.size ≤ gb190)); have n5_ := Aside0.mk ((by rw [hg]; exact Nat.ne_of_lt (blk_lt (g := gb178) (o := .cells #[.int .i64 a0_0, .int .i64 a0_1, .int .i64 a0_2, .int .i64 a0_3, .int .i64 a0_4, .int .i64 a0_5, .slice (some ad189) l0_6.length c0_6] 29 (0, 0)) (by (with_reducible repeat first | refine kDN ?_ _ | refine kDr ?_ | refine kAl ?_ _); exact BK178.out)) : gb178 ≠ gb190)); have n6_ := Aside0.mk ((by rw [hg]; exact Nat.ne_of_gt (blk_lt (g := gb178) (o := .cells #[.int .i64 a0_0, .int .i64 a0_1, .int .i64 a0_2, .int .i64 a0_3, .int .i64 a0_4, .int .i64 a0_5, .slice (some ad189) l0_6.length c0_6] 29 (0, 0)) (by (with_reducible repeat first | refine kDN ?_ _ | refine kDr ?_ | refine kAl ?_ _); exact BK178.out)) : gb190 ≠ gb178)); clear BK178; clear HB; have BK178 := n0_; have HB := n1_; have BK190 := n2_; have GW190 := n3_; have GE190 := n4_; have NB178_190 := n5_; have NB190_178 := n6_; clear n0_ n1_ n2_ n3_ n4_ n5_ n6_; clear hb hbox hg; have hnb68 := NB190_178.out; have hnc68 := NB178_190.out; have hcz69_0 : w67.cell? ⟨gb190, 0, none⟩ = some (.int .i64 0) := (kCe BK190.out 0).trans rfl; have hcz69_1 : w67.cell? ⟨gb190, 1, none⟩ = some (.bool false) := (kCe BK190.out 1).trans rfl; have hcz69_2 : w67.cell? ⟨gb190, 2, none⟩ = some (.string (⟨#[]⟩ : ByteArray)) := (kCe BK190.out 2).trans rfl; have hcz69_3 : w67.cell? ⟨gb190, 3, none⟩ = some (.bool false) := (kCe BK190.out 3).trans rfl; have hcz69_4 : w67.cell? ⟨gb190, 4, none⟩ = some (.string (⟨#[]⟩ : ByteArray)) := (kCe BK190.out 4).trans rfl; have hcz69_5 : w67.cell? ⟨gb190, 5, none⟩ = some (.slice none 0 0) := (kCe BK190.out 5).trans rfl; have hfz69_0 := kFr BK190.out 0; have hfz69_1 := kFr BK190.out 1; have hfz69_2 := kFr BK190.out 2; have hfz69_3 := kFr BK190.out 3; have hfz69_4 := kFr BK190.out 4; have hfz69_5 := kFr BK190.out 5; have hcz70_0 : w67.cell? ⟨gb178, 0, none⟩ = some (.int .i64 a0_0) := (kCe BK178.out 0).trans rfl; have hcz70_1 : w67.cell? ⟨gb178, 1, none⟩ = some (.int .i64 a0_1) := (kCe BK178.out 1).trans rfl; have hcz70_2 : w67.cell? ⟨gb178, 2, none⟩ = some (.int .i64 a0_2) := (kCe BK178.out 2).trans rfl; have hcz70_3 : w67.cell? ⟨gb178, 3, none⟩ = some (.int .i64 a0_3) := (kCe BK178.out 3).trans rfl; have hcz70_4 : w67.cell? ⟨gb178, 4, none⟩ = some (.int .i64 a0_4) := (kCe BK178.out 4).trans rfl; have hcz70_5 : w67.cell? ⟨gb178, 5, none⟩ = some (.int .i64 a0_5) := (kCe BK178.out 5).trans rfl; have hcz70_6 : w67.cell? ⟨gb178, 6, none⟩ = some (.slice (some ad189) l0_6.length c0_6) := (kCe BK178.out 6).trans rfl; have hfz70_0 := kFr BK178.out 0; have hfz70_1 := kFr BK178.out 1; have hfz70_2 := kFr BK178.out 2; have hfz70_3 := kFr BK178.out 3; have hfz70_4 := kFr BK178.out 4; have hfz70_5 := kFr BK178.out 5; have hfz70_6 := kFr BK178.out 6))
               go_ret
               exact ⟨by first | rfl | (simp [errW_none, errW_some] <;> rfl) | (simp [*, errW_none, errW_some] <;> rfl), by repeat (first | (with_reducible first | exact HB.out | apply bAl | apply bDN | apply bD1 | refine bSe ?_ GE178.out | refine bSe ?_ GE190.out) | exact HB.out)⟩
              ·
               rw [if_neg c65] at H
               have c65b0 : (((rd_T56 l0_6 0).f4).toList == ([] : List UInt8)) = false := beq_eq_false_iff_ne.mpr c65
               have c65b1 : (((rd_T56 l0_6 0).f4).toList != ([] : List UInt8)) = true := bne_iff_ne.mpr c65
               obtain rfl := Option.some.inj H
               have hcz71_0 : wc.cell? ⟨gb178, 0, none⟩ = some (.int .i64 a0_0) := (kCe BK178.out 0).trans rfl
               have hcz71_1 : wc.cell? ⟨gb178, 1, none⟩ = some (.int .i64 a0_1) := (kCe BK178.out 1).trans rfl
               have hcz71_2 : wc.cell? ⟨gb178, 2, none⟩ = some (.int .i64 a0_2) := (kCe BK178.out 2).trans rfl
               have hcz71_3 : wc.cell? ⟨gb178, 3, none⟩ = some (.int .i64 a0_3) := (kCe BK178.out 3).trans rfl
               have hcz71_4 : wc.cell? ⟨gb178, 4, none⟩ = some (.int .i64 a0_4) := (kCe BK178.out 4).trans rfl
               have hcz71_5 : wc.cell? ⟨gb178, 5, none⟩ = some (.int .i64 a0_5) := (kCe BK178.out 5).trans rfl
               have hcz71_6 : wc.cell? ⟨gb178, 6, none⟩ = some (.slice A0_6 l0_6.length c0_6) := (kCe BK178.out 6).trans rfl
               have hfz71_0 := kFr BK178.out 0
               have hfz71_1 := kFr BK178.out 1
               have hfz71_2 := kFr BK178.out 2
               have hfz71_3 := kFr BK178.out 3
               have hfz71_4 := kFr BK178.out 4
               have hfz71_5 := kFr BK178.out 5
               have hfz71_6 := kFr BK178.out 6
               have p189 : 0 ≤ (0 : Int) := (by omega)
               have q189 : 0 < (l0_6.length : Int) := of_decide_eq_true (by first | (with_reducible assumption) | assumption)
               obtain ⟨ad189, A189_5, c189_5, e189, hx189_0, hx189_1, hx189_2, hx189_3, hx189_4, hx189_5, hl189_5, hi189_5⟩ := at_T56 HR0_6.out 0 p189 q189
               (try rw [← Nbq55.out] at hx189_1)
               (try rw [← Nbq58.out] at hx189_1)
               (try rw [← Nbq55.out] at hx189_3)
               (try rw [← Nbq58.out] at hx189_3)
               cases e189
               have qi189 : (0 < l0_6.length) = True := eq_true (by omega)
               (try rw [show ((0 : Int)).toNat = 0 from rfl] at hx189_0)
               (try rw [show 0 * 6 = 0 from rfl] at hx189_0)
               (try rw [Addr.add_zero'] at hx189_0)
               (try rw [show ((0 : Int)).toNat = 0 from rfl] at hx189_1)
               (try rw [show 0 * 6 = 0 from rfl] at hx189_1)
               (try rw [Addr.add_zero'] at hx189_1)
               (try rw [show ((0 : Int)).toNat = 0 from rfl] at hx189_2)
               (try rw [show 0 * 6 = 0 from rfl] at hx189_2)
               (try rw [Addr.add_zero'] at hx189_2)
               (try rw [show ((0 : Int)).toNat = 0 from rfl] at hx189_3)
               (try rw [show 0 * 6 = 0 from rfl] at hx189_3)
               (try rw [Addr.add_zero'] at hx189_3)
               (try rw [show ((0 : Int)).toNat = 0 from rfl] at hx189_4)
               (try rw [show 0 * 6 = 0 from rfl] at hx189_4)
               (try rw [Addr.add_zero'] at hx189_4)
               (try rw [show ((0 : Int)).toNat = 0 from rfl] at hx189_5)
               (try rw [show 0 * 6 = 0 from rfl] at hx189_5)
               (try rw [Addr.add_zero'] at hx189_5)
               replace hx189_0 := (HB.out.cell (World.block_lt_of_cell? w _ hx189_0)).trans hx189_0
               replace hx189_1 := (HB.out.cell (World.block_lt_of_cell? w _ hx189_1)).trans hx189_1
               replace hx189_2 := (HB.out.cell (World.block_lt_of_cell? w _ hx189_2)).trans hx189_2
               replace hx189_3 := (HB.out.cell (World.block_lt_of_cell? w _ hx189_3)).trans hx189_3
               replace hx189_4 := (HB.out.cell (World.block_lt_of_cell? w _ hx189_4)).trans hx189_4
               replace hx189_5 := (HB.out.cell (World.block_lt_of_cell? w _ hx189_5)).trans hx189_5
               have HR189_5 := Aside0.mk hi189_5
               have HC189_5 := Aside0.mk hl189_5
               clear hi189_5 hl189_5
               replace p189 := eq_true p189
               replace q189 := eq_true q189
               go_wp2_with (first | ((with_reducible refine gDs (N := 4) rfl ?_); (try (refine gGu (by rfl) ?_; dsimp only)); refine bEv ?hg (N := 4) ?hd (cs := #[.int .i64 0, .bool false, .string (⟨#[]⟩ : ByteArray), .bool false, .string (⟨#[]⟩ : ByteArray), .slice none 0 0]) (t := 56) ?hr ?_; (case hd => rfl); (case hg => rfl); (case hr => first | (go_simp; done) | (go_simp; rfl)); intro gb190 hg w72 hbox hb; have n0_ := Aside0.mk (kBe (g := gb178) (o := .cells #[.int .i64 a0_0, .int .i64 a0_1, .int .i64 a0_2, .int .i64 a0_3, .int .i64 a0_4, .int .i64 a0_5, .slice (some ad189) l0_6.length c0_6] 29 (0, 0)) (by (with_reducible repeat first | refine kDN ?_ _ | refine kDr ?_ | refine kAl ?_ _); exact BK178.out) hb); have n1_ := Aside0.mk (bSt (by repeat (first | (with_reducible first | exact HB.out | apply bAl | apply bDN | apply bD1 | refine bSe ?_ GE178.out) | exact HB.out)) hb); have n2_ := Aside0.mk (hbox); have n3_ := Aside0.mk ((by rw [hg]; exact (bSz (by repeat (first | (with_reducible first | exact HB.out | apply bAl | apply bDN | apply bD1 | refine bSe ?_ GE178.out) | exact HB.out))) : w.heap.size ≤ gb190)); have n4_ := Aside0.mk ((by rw [hg]; exact (bSz (by repeat (first | (with_reducible first | exact HB.out | apply bAl | apply bDN | apply bD1 | refine bSe ?_ GE178.out) | exact HB.out))) : w.heap.size ≤ gb190)); have n5_ := Aside0.mk ((by rw [hg]; exact Nat.ne_of_lt (blk_lt (g := gb178) (o := .cells #[.int .i64 a0_0, .int .i64 a0_1, .int .i64 a0_2, .int .i64 a0_3, .int .i64 a0_4, .int .i64 a0_5, .slice (some ad189) l0_6.length c0_6] 29 (0, 0)) (by (with_reducible repeat first | refine kDN ?_ _ | refine kDr ?_ | refine kAl ?_ _); exact BK178.out)) : gb178 ≠ gb190)); have n6_ := Aside0.mk ((by rw [hg]; exact Nat.ne_of_gt (blk_lt (g := gb178) (o := .cells #[.int .i64 a0_0, .int .i64 a0_1, .int .i64 a0_2, .int .i64 a0_3, .int .i64 a0_4, .int .i64 a0_5, .slice (some ad189) l0_6.length c0_6] 29 (0, 0)) (by (with_reducible repeat first | refine kDN ?_ _ | refine kDr ?_ | refine kAl ?_ _); exact BK178.out)) : gb190 ≠ gb178)); clear BK178; clear HB; have BK178 := n0_; have HB := n1_; have BK190 := n2_; have GW190 := n3_; have GE190 := n4_; have NB178_190 := n5_; have NB190_178 := n6_; clear n0_ n1_ n2_ n3_ n4_ n5_ n6_; clear hb hbox hg; have hnb73 := NB190_178.out; have hnc73 := NB178_190.out; have hcz74_0 : w72.cell? ⟨gb190, 0, none⟩ = some (.int .i64 0) := (kCe BK190.out 0).trans rfl; have hcz74_1 : w72.cell? ⟨gb190, 1, none⟩ = some (.bool false) := (kCe BK190.out 1).trans rfl; have hcz74_2 : w72.cell? ⟨gb190, 2, none⟩ = some (.string (⟨#[]⟩ : ByteArray)) := (kCe BK190.out 2).trans rfl; have hcz74_3 : w72.cell? ⟨gb190, 3, none⟩ = some (.bool false) := (kCe BK190.out 3).trans rfl; have hcz74_4 : w72.cell? ⟨gb190, 4, none⟩ = some (.string (⟨#[]⟩ : ByteArray)) := (kCe BK190.out 4).trans rfl; have hcz74_5 : w72.cell? ⟨gb190, 5, none⟩ = some (.slice none 0 0) := (kCe BK190.out 5).trans rfl; have hfz74_0 := kFr BK190.out 0; have hfz74_1 := kFr BK190.out 1; have hfz74_2 := kFr BK190.out 2; have hfz74_3 := kFr BK190.out 3; have hfz74_4 := kFr BK190.out 4; have hfz74_5 := kFr BK190.out 5; have hcz75_0 : w72.cell? ⟨gb178, 0, none⟩ = some (.int .i64 a0_0) := (kCe BK178.out 0).trans rfl; have hcz75_1 : w72.cell? ⟨gb178, 1, none⟩ = some (.int .i64 a0_1) := (kCe BK178.out 1).trans rfl; have hcz75_2 : w72.cell? ⟨gb178, 2, none⟩ = some (.int .i64 a0_2) := (kCe BK178.out 2).trans rfl; have hcz75_3 : w72.cell? ⟨gb178, 3, none⟩ = some (.int .i64 a0_3) := (kCe BK178.out 3).trans rfl; have hcz75_4 : w72.cell? ⟨gb178, 4, none⟩ = some (.int .i64 a0_4) := (kCe BK178.out 4).trans rfl; have hcz75_5 : w72.cell? ⟨gb178, 5, none⟩ = some (.int .i64 a0_5) := (kCe BK178.out 5).trans rfl; have hcz75_6 : w72.cell? ⟨gb178, 6, none⟩ = some (.slice (some ad189) l0_6.length c0_6) := (kCe BK178.out 6).trans rfl; have hfz75_0 := kFr BK178.out 0; have hfz75_1 := kFr BK178.out 1; have hfz75_2 := kFr BK178.out 2; have hfz75_3 := kFr BK178.out 3; have hfz75_4 := kFr BK178.out 4; have hfz75_5 := kFr BK178.out 5; have hfz75_6 := kFr BK178.out 6))
               go_ret
               exact ⟨by first | rfl | (simp [errW_none, errW_some] <;> rfl) | (simp [*, errW_none, errW_some] <;> rfl), by repeat (first | (with_reducible first | exact HB.out | apply bAl | apply bDN | apply bD1 | refine bSe ?_ GE178.out | refine bSe ?_ GE190.out) | exact HB.out)⟩
            ·
             rw [if_neg c57] at H
             have c57b0 : (((rd_T56 l0_6 0).f2).toList == ([99, 111, 109, 109, 105, 116] : List UInt8)) = false := beq_eq_false_iff_ne.mpr c57
             have c57b1 : (((rd_T56 l0_6 0).f2).toList != ([99, 111, 109, 109, 105, 116] : List UInt8)) = true := bne_iff_ne.mpr c57
             by_cases c76 : ((rd_T56 l0_6 0).f2).toList = ([97, 98, 111, 114, 116] : List UInt8)
             ·
              rw [if_pos c76] at H
              have c76b0 : (((rd_T56 l0_6 0).f2).toList == ([97, 98, 111, 114, 116] : List UInt8)) = true := beq_iff_eq.mpr c76
              have c76b1 : (((rd_T56 l0_6 0).f2).toList != ([97, 98, 111, 114, 116] : List UInt8)) = false := bne_eq_false_iff_eq.mpr c76
              clear c76
              obtain ⟨bq77, hbq77⟩ : ∃ b_ : Bool, b_ = ((rd_T56 l0_6 0).f3) := ⟨_, rfl⟩
              replace H : (if (bq77 = true) then (some false) else (if ((rd_T56 l0_6 0).f4).toList = ([] : List UInt8) then (some ((((rd_T56 l0_6 0).f5).length : Int) == 0)) else (some false))) = some r := by rw [← hbq77] at H; exact H
              have Nbq77 := Aside0.mk hbq77
              clear hbq77
              by_cases c78 : (bq77 = true)
              ·
               subst c78
               rw [if_pos rfl] at H
               obtain rfl := Option.some.inj H
               have hcz79_0 : wc.cell? ⟨gb178, 0, none⟩ = some (.int .i64 a0_0) := (kCe BK178.out 0).trans rfl
               have hcz79_1 : wc.cell? ⟨gb178, 1, none⟩ = some (.int .i64 a0_1) := (kCe BK178.out 1).trans rfl
               have hcz79_2 : wc.cell? ⟨gb178, 2, none⟩ = some (.int .i64 a0_2) := (kCe BK178.out 2).trans rfl
               have hcz79_3 : wc.cell? ⟨gb178, 3, none⟩ = some (.int .i64 a0_3) := (kCe BK178.out 3).trans rfl
               have hcz79_4 : wc.cell? ⟨gb178, 4, none⟩ = some (.int .i64 a0_4) := (kCe BK178.out 4).trans rfl
               have hcz79_5 : wc.cell? ⟨gb178, 5, none⟩ = some (.int .i64 a0_5) := (kCe BK178.out 5).trans rfl
               have hcz79_6 : wc.cell? ⟨gb178, 6, none⟩ = some (.slice A0_6 l0_6.length c0_6) := (kCe BK178.out 6).trans rfl
               have hfz79_0 := kFr BK178.out 0
               have hfz79_1 := kFr BK178.out 1
               have hfz79_2 := kFr BK178.out 2
               have hfz79_3 := kFr BK178.out 3
               have hfz79_4 := kFr BK178.out 4
               have hfz79_5 := kFr BK178.out 5
               have hfz79_6 := kFr BK178.out 6
               have p189 : 0 ≤ (0 : Int) := (by omega)
               have q189 : 0 < (l0_6.length : Int) := of_decide_eq_true (by first | (with_reducible assumption) | assumption)
               obtain ⟨ad189, A189_5, c189_5, e189, hx189_0, hx189_1, hx189_2, hx189_3, hx189_4, hx189_5, hl189_5, hi189_5⟩ := at_T56 HR0_6.out 0 p189 q189
               (try rw [← Nbq55.out] at hx189_1)
               (try rw [← Nbq77.out] at hx189_1)
               (try rw [← Nbq55.out] at hx189_3)
               (try rw [← Nbq77.out] at hx189_3)
               cases e189
               have qi189 : (0 < l0_6.length) = True := eq_true (by omega)
               (try rw [show ((0 : Int)).toNat = 0 from rfl] at hx189_0)
               (try rw [show 0 * 6 = 0 from rfl] at hx189_0)
               (try rw [Addr.add_zero'] at hx189_0)
               (try rw [show ((0 : Int)).toNat = 0 from rfl] at hx189_1)
               (try rw [show 0 * 6 = 0 from rfl] at hx189_1)
               (try rw [Addr.add_zero'] at hx189_1)
               (try rw [show ((0 : Int)).toNat = 0 from rfl] at hx189_2)
               (try rw [show 0 * 6 = 0 from rfl] at hx189_2)
               (try rw [Addr.add_zero'] at hx189_2)
               (try rw [show ((0 : Int)).toNat = 0 from rfl] at hx189_3)
               (try rw [show 0 * 6 = 0 from rfl] at hx189_3)
               (try rw [Addr.add_zero'] at hx189_3)
               (try rw [show ((0 : Int)).toNat = 0 from rfl] at hx189_4)
               (try rw [show 0 * 6 = 0 from rfl] at hx189_4)
               (try rw [Addr.add_zero'] at hx189_4)
               (try rw [show ((0 : Int)).toNat = 0 from rfl] at hx189_5)
               (try rw [show 0 * 6 = 0 from rfl] at hx189_5)
               (try rw [Addr.add_zero'] at hx189_5)
               replace hx189_0 := (HB.out.cell (World.block_lt_of_cell? w _ hx189_0)).trans hx189_0
               replace hx189_1 := (HB.out.cell (World.block_lt_of_cell? w _ hx189_1)).trans hx189_1
               replace hx189_2 := (HB.out.cell (World.block_lt_of_cell? w _ hx189_2)).trans hx189_2
               replace hx189_3 := (HB.out.cell (World.block_lt_of_cell? w _ hx189_3)).trans hx189_3
               replace hx189_4 := (HB.out.cell (World.block_lt_of_cell? w _ hx189_4)).trans hx189_4
               replace hx189_5 := (HB.out.cell (World.block_lt_of_cell? w _ hx189_5)).trans hx189_5
               have HR189_5 := Aside0.mk hi189_5
               have HC189_5 := Aside0.mk hl189_5
               clear hi189_5 hl189_5
               replace p189 := eq_true p189
               replace q189 := eq_true q189
               go_wp2_with (first | ((with_reducible refine gDs (N := 4) rfl ?_); (try (refine gGu (by rfl) ?_; dsimp only)); refine bEv ?hg (N := 4) ?hd (cs := #[.int .i64 0, .bool false, .string (⟨#[]⟩ : ByteArray), .bool false, .string (⟨#[]⟩ : ByteArray), .slice none 0 0]) (t := 56) ?hr ?_; (case hd => rfl); (case hg => rfl); (case hr => first | (go_simp; done) | (go_simp; rfl)); intro gb190 hg w80 hbox hb; have n0_ := Aside0.mk (kBe (g := gb178) (o := .cells #[.int .i64 a0_0, .int .i64 a0_1, .int .i64 a0_2, .int .i64 a0_3, .int .i64 a0_4, .int .i64 a0_5, .slice (some ad189) l0_6.length c0_6] 29 (0, 0)) (by (with_reducible repeat first | refine kDN ?_ _ | refine kDr ?_ | refine kAl ?_ _); exact BK178.out) hb); have n1_ := Aside0.mk (bSt (by repeat (first | (with_reducible first | exact HB.out | apply bAl | apply bDN | apply bD1 | refine bSe ?_ GE178.out) | exact HB.out)) hb); have n2_ := Aside0.mk (hbox); have n3_ := Aside0.mk ((by rw [hg]; exact (bSz (by repeat (first | (with_reducible first | exact HB.out | apply bAl | apply bDN | apply bD1 | refine bSe ?_ GE178.out) | exact HB.out))) : w.heap.size ≤ gb190)); have n4_ := Aside0.mk ((by rw [hg]; exact (bSz (by repeat (first | (with_reducible first | exact HB.out | apply bAl | apply bDN | apply bD1 | refine bSe ?_ GE178.out) | exact HB.out))) : w.heap.size ≤ gb190)); have n5_ := Aside0.mk ((by rw [hg]; exact Nat.ne_of_lt (blk_lt (g := gb178) (o := .cells #[.int .i64 a0_0, .int .i64 a0_1, .int .i64 a0_2, .int .i64 a0_3, .int .i64 a0_4, .int .i64 a0_5, .slice (some ad189) l0_6.length c0_6] 29 (0, 0)) (by (with_reducible repeat first | refine kDN ?_ _ | refine kDr ?_ | refine kAl ?_ _); exact BK178.out)) : gb178 ≠ gb190)); have n6_ := Aside0.mk ((by rw [hg]; exact Nat.ne_of_gt (blk_lt (g := gb178) (o := .cells #[.int .i64 a0_0, .int .i64 a0_1, .int .i64 a0_2, .int .i64 a0_3, .int .i64 a0_4, .int .i64 a0_5, .slice (some ad189) l0_6.length c0_6] 29 (0, 0)) (by (with_reducible repeat first | refine kDN ?_ _ | refine kDr ?_ | refine kAl ?_ _); exact BK178.out)) : gb190 ≠ gb178)); clear BK178; clear HB; have BK178 := n0_; have HB := n1_; have BK190 := n2_; have GW190 := n3_; have GE190 := n4_; have NB178_190 := n5_; have NB190_178 := n6_; clear n0_ n1_ n2_ n3_ n4_ n5_ n6_; clear hb hbox hg; have hnb81 := NB190_178.out; have hnc81 := NB178_190.out; have hcz82_0 : w80.cell? ⟨gb190, 0, none⟩ = some (.int .i64 0) := (kCe BK190.out 0).trans rfl; have hcz82_1 : w80.cell? ⟨gb190, 1, none⟩ = some (.bool false) := (kCe BK190.out 1).trans rfl; have hcz82_2 : w80.cell? ⟨gb190, 2, none⟩ = some (.string (⟨#[]⟩ : ByteArray)) := (kCe BK190.out 2).trans rfl; have hcz82_3 : w80.cell? ⟨gb190, 3, none⟩ = some (.bool false) := (kCe BK190.out 3).trans rfl; have hcz82_4 : w80.cell? ⟨gb190, 4, none⟩ = some (.string (⟨#[]⟩ : ByteArray)) := (kCe BK190.out 4).trans rfl; have hcz82_5 : w80.cell? ⟨gb190, 5, none⟩ = some (.slice none 0 0) := (kCe BK190.out 5).trans rfl; have hfz82_0 := kFr BK190.out 0; have hfz82_1 := kFr BK190.out 1; have hfz82_2 := kFr BK190.out 2; have hfz82_3 := kFr BK190.out 3; have hfz82_4 := kFr BK190.out 4; have hfz82_5 := kFr BK190.out 5; have hcz83_0 : w80.cell? ⟨gb178, 0, none⟩ = some (.int .i64 a0_0) := (kCe BK178.out 0).trans rfl; have hcz83_1 : w80.cell? ⟨gb178, 1, none⟩ = some (.int .i64 a0_1) := (kCe BK178.out 1).trans rfl; have hcz83_2 : w80.cell? ⟨gb178, 2, none⟩ = some (.int .i64 a0_2) := (kCe BK178.out 2).trans rfl; have hcz83_3 : w80.cell? ⟨gb178, 3, none⟩ = some (.int .i64 a0_3) := (kCe BK178.out 3).trans rfl; have hcz83_4 : w80.cell? ⟨gb178, 4, none⟩ = some (.int .i64 a0_4) := (kCe BK178.out 4).trans rfl; have hcz83_5 : w80.cell? ⟨gb178, 5, none⟩ = some (.int .i64 a0_5) := (kCe BK178.out 5).trans rfl; have hcz83_6 : w80.cell? ⟨gb178, 6, none⟩ = some (.slice (some ad189) l0_6.length c0_6) := (kCe BK178.out 6).trans rfl; have hfz83_0 := kFr BK178.out 0; have hfz83_1 := kFr BK178.out 1; have hfz83_2 := kFr BK178.out 2; have hfz83_3 := kFr BK178.out 3; have hfz83_4 := kFr BK178.out 4; have hfz83_5 := kFr BK178.out 5; have hfz83_6 := kFr BK178.out 6))
               go_ret
               exact ⟨by first | rfl | (simp [errW_none, errW_some] <;> rfl) | (simp [*, errW_none, errW_some] <;> rfl), by repeat (first | (with_reducible first | exact HB.out | apply bAl | apply bDN | apply bD1 | refine bSe ?_ GE178.out | refine bSe ?_ GE190.out) | exact HB.out)⟩
              ·
               replace c78 := Bool.eq_false_iff.mpr c78
               subst c78
               rw [if_neg (show ¬ (false = true) by decide)] at H
               by_cases c84 : ((rd_T56 l0_6 0).f4).toList = ([] : List UInt8)
               ·
                rw [if_pos c84] at H
                have c84b0 : (((rd_T56 l0_6 0).f4).toList == ([] : List UInt8)) = true := beq_iff_eq.mpr c84
                have c84b1 : (((rd_T56 l0_6 0).f4).toList != ([] : List UInt8)) = false := bne_eq_false_iff_eq.mpr c84
                clear c84
                obtain rfl := Option.some.inj H
                have hcz85_0 : wc.cell? ⟨gb178, 0, none⟩ = some (.int .i64 a0_0) := (kCe BK178.out 0).trans rfl
                have hcz85_1 : wc.cell? ⟨gb178, 1, none⟩ = some (.int .i64 a0_1) := (kCe BK178.out 1).trans rfl
                have hcz85_2 : wc.cell? ⟨gb178, 2, none⟩ = some (.int .i64 a0_2) := (kCe BK178.out 2).trans rfl
                have hcz85_3 : wc.cell? ⟨gb178, 3, none⟩ = some (.int .i64 a0_3) := (kCe BK178.out 3).trans rfl
                have hcz85_4 : wc.cell? ⟨gb178, 4, none⟩ = some (.int .i64 a0_4) := (kCe BK178.out 4).trans rfl
                have hcz85_5 : wc.cell? ⟨gb178, 5, none⟩ = some (.int .i64 a0_5) := (kCe BK178.out 5).trans rfl
                have hcz85_6 : wc.cell? ⟨gb178, 6, none⟩ = some (.slice A0_6 l0_6.length c0_6) := (kCe BK178.out 6).trans rfl
                have hfz85_0 := kFr BK178.out 0
                have hfz85_1 := kFr BK178.out 1
                have hfz85_2 := kFr BK178.out 2
                have hfz85_3 := kFr BK178.out 3
                have hfz85_4 := kFr BK178.out 4
                have hfz85_5 := kFr BK178.out 5
                have hfz85_6 := kFr BK178.out 6
                have p189 : 0 ≤ (0 : Int) := (by omega)
                have q189 : 0 < (l0_6.length : Int) := of_decide_eq_true (by first | (with_reducible assumption) | assumption)
                obtain ⟨ad189, A189_5, c189_5, e189, hx189_0, hx189_1, hx189_2, hx189_3, hx189_4, hx189_5, hl189_5, hi189_5⟩ := at_T56 HR0_6.out 0 p189 q189
                (try rw [← Nbq55.out] at hx189_1)
                (try rw [← Nbq77.out] at hx189_1)
                (try rw [← Nbq55.out] at hx189_3)
                (try rw [← Nbq77.out] at hx189_3)
                cases e189
                have qi189 : (0 < l0_6.length) = True := eq_true (by omega)
                (try rw [show ((0 : Int)).toNat = 0 from rfl] at hx189_0)
                (try rw [show 0 * 6 = 0 from rfl] at hx189_0)
                (try rw [Addr.add_zero'] at hx189_0)
                (try rw [show ((0 : Int)).toNat = 0 from rfl] at hx189_1)
                (try rw [show 0 * 6 = 0 from rfl] at hx189_1)
                (try rw [Addr.add_zero'] at hx189_1)
                (try rw [show ((0 : Int)).toNat = 0 from rfl] at hx189_2)
                (try rw [show 0 * 6 = 0 from rfl] at hx189_2)
                (try rw [Addr.add_zero'] at hx189_2)
                (try rw [show ((0 : Int)).toNat = 0 from rfl] at hx189_3)
                (try rw [show 0 * 6 = 0 from rfl] at hx189_3)
                (try rw [Addr.add_zero'] at hx189_3)
                (try rw [show ((0 : Int)).toNat = 0 from rfl] at hx189_4)
                (try rw [show 0 * 6 = 0 from rfl] at hx189_4)
                (try rw [Addr.add_zero'] at hx189_4)
                (try rw [show ((0 : Int)).toNat = 0 from rfl] at hx189_5)
                (try rw [show 0 * 6 = 0 from rfl] at hx189_5)
                (try rw [Addr.add_zero'] at hx189_5)
                replace hx189_0 := (HB.out.cell (World.block_lt_of_cell? w _ hx189_0)).trans hx189_0
                replace hx189_1 := (HB.out.cell (World.block_lt_of_cell? w _ hx189_1)).trans hx189_1
                replace hx189_2 := (HB.out.cell (World.block_lt_of_cell? w _ hx189_2)).trans hx189_2
                replace hx189_3 := (HB.out.cell (World.block_lt_of_cell? w _ hx189_3)).trans hx189_3
                replace hx189_4 := (HB.out.cell (World.block_lt_of_cell? w _ hx189_4)).trans hx189_4
                replace hx189_5 := (HB.out.cell (World.block_lt_of_cell? w _ hx189_5)).trans hx189_5
                have HR189_5 := Aside0.mk hi189_5
                have HC189_5 := Aside0.mk hl189_5
                clear hi189_5 hl189_5
                replace p189 := eq_true p189
                replace q189 := eq_true q189
                go_wp2_with (first | ((with_reducible refine gDs (N := 4) rfl ?_); (try (refine gGu (by rfl) ?_; dsimp only)); refine bEv ?hg (N := 4) ?hd (cs := #[.int .i64 0, .bool false, .string (⟨#[]⟩ : ByteArray), .bool false, .string (⟨#[]⟩ : ByteArray), .slice none 0 0]) (t := 56) ?hr ?_; (case hd => rfl); (case hg => rfl); (case hr => first | (go_simp; done) | (go_simp; rfl)); intro gb190 hg w86 hbox hb; have n0_ := Aside0.mk (kBe (g := gb178) (o := .cells #[.int .i64 a0_0, .int .i64 a0_1, .int .i64 a0_2, .int .i64 a0_3, .int .i64 a0_4, .int .i64 a0_5, .slice (some ad189) l0_6.length c0_6] 29 (0, 0)) (by (with_reducible repeat first | refine kDN ?_ _ | refine kDr ?_ | refine kAl ?_ _); exact BK178.out) hb); have n1_ := Aside0.mk (bSt (by repeat (first | (with_reducible first | exact HB.out | apply bAl | apply bDN | apply bD1 | refine bSe ?_ GE178.out) | exact HB.out)) hb); have n2_ := Aside0.mk (hbox); have n3_ := Aside0.mk ((by rw [hg]; exact (bSz (by repeat (first | (with_reducible first | exact HB.out | apply bAl | apply bDN | apply bD1 | refine bSe ?_ GE178.out) | exact HB.out))) : w.heap.size ≤ gb190)); have n4_ := Aside0.mk ((by rw [hg]; exact (bSz (by repeat (first | (with_reducible first | exact HB.out | apply bAl | apply bDN | apply bD1 | refine bSe ?_ GE178.out) | exact HB.out))) : w.heap.size ≤ gb190)); have n5_ := Aside0.mk ((by rw [hg]; exact Nat.ne_of_lt (blk_lt (g := gb178) (o := .cells #[.int .i64 a0_0, .int .i64 a0_1, .int .i64 a0_2, .int .i64 a0_3, .int .i64 a0_4, .int .i64 a0_5, .slice (some ad189) l0_6.length c0_6] 29 (0, 0)) (by (with_reducible repeat first | refine kDN ?_ _ | refine kDr ?_ | refine kAl ?_ _); exact BK178.out)) : gb178 ≠ gb190)); have n6_ := Aside0.mk ((by rw [hg]; exact Nat.ne_of_gt (blk_lt (g := gb178) (o := .cells #[.int .i64 a0_0, .int .i64 a0_1, .int .i64 a0_2, .int .i64 a0_3, .int .i64 a0_4, .int .i64 a0_5, .slice (some ad189) l0_6.length c0_6] 29 (0, 0)) (by (with_reducible repeat first | refine kDN ?_ _ | refine kDr ?_ | refine kAl ?_ _); exact BK178.out)) : gb190 ≠ gb178)); clear BK178; clear HB; have BK178 := n0_; have HB := n1_; have BK190 := n2_; have GW190 := n3_; have GE190 := n4_; have NB178_190 := n5_; have NB190_178 := n6_; clear n0_ n1_ n2_ n3_ n4_ n5_ n6_; clear hb hbox hg; have hnb87 := NB190_178.out; have hnc87 := NB178_190.out; have hcz88_0 : w86.cell? ⟨gb190, 0, none⟩ = some (.int .i64 0) := (kCe BK190.out 0).trans rfl; have hcz88_1 : w86.cell? ⟨gb190, 1, none⟩ = some (.bool false) := (kCe BK190.out 1).trans rfl; have hcz88_2 : w86.cell? ⟨gb190, 2, none⟩ = some (.string (⟨#[]⟩ : ByteArray)) := (kCe BK190.out 2).trans rfl; have hcz88_3 : w86.cell? ⟨gb190, 3, none⟩ = some (.bool false) := (kCe BK190.out 3).trans rfl; have hcz88_4 : w86.cell? ⟨gb190, 4, none⟩ = some (.string (⟨#[]⟩ : ByteArray)) := (kCe BK190.out 4).trans rfl; have hcz88_5 : w86.cell? ⟨gb190, 5, none⟩ = some (.slice none 0 0) := (kCe BK190.out 5).trans rfl; have hfz88_0 := kFr BK190.out 0; have hfz88_1 := kFr BK190.out 1; have hfz88_2 := kFr BK190.out 2; have hfz88_3 := kFr BK190.out 3; have hfz88_4 := kFr BK190.out 4; have hfz88_5 := kFr BK190.out 5; have hcz89_0 : w86.cell? ⟨gb178, 0, none⟩ = some (.int .i64 a0_0) := (kCe BK178.out 0).trans rfl; have hcz89_1 : w86.cell? ⟨gb178, 1, none⟩ = some (.int .i64 a0_1) := (kCe BK178.out 1).trans rfl; have hcz89_2 : w86.cell? ⟨gb178, 2, none⟩ = some (.int .i64 a0_2) := (kCe BK178.out 2).trans rfl; have hcz89_3 : w86.cell? ⟨gb178, 3, none⟩ = some (.int .i64 a0_3) := (kCe BK178.out 3).trans rfl; have hcz89_4 : w86.cell? ⟨gb178, 4, none⟩ = some (.int .i64 a0_4) := (kCe BK178.out 4).trans rfl; have hcz89_5 : w86.cell? ⟨gb178, 5, none⟩ = some (.int .i64 a0_5) := (kCe BK178.out 5).trans rfl; have hcz89_6 : w86.cell? ⟨gb178, 6, none⟩ = some (.slice (some ad189) l0_6.length c0_6) := (kCe BK178.out 6).trans rfl; have hfz89_0 := kFr BK178.out 0; have hfz89_1 := kFr BK178.out 1; have hfz89_2 := kFr BK178.out 2; have hfz89_3 := kFr BK178.out 3; have hfz89_4 := kFr BK178.out 4; have hfz89_5 := kFr BK178.out 5; have hfz89_6 := kFr BK178.out 6))
                go_ret
                exact ⟨by first | rfl | (simp [errW_none, errW_some] <;> rfl) | (simp [*, errW_none, errW_some] <;> rfl), by repeat (first | (with_reducible first | exact HB.out | apply bAl | apply bDN | apply bD1 | refine bSe ?_ GE178.out | refine bSe ?_ GE190.out) | exact HB.out)⟩
               ·
                rw [if_neg c84] at H
                have c84b0 : (((rd_T56 l0_6 0).f4).toList == ([] : List UInt8)) = false := beq_eq_false_iff_ne.mpr c84
                have c84b1 : (((rd_T56 l0_6 0).f4).toList != ([] : List UInt8)) = true := bne_iff_ne.mpr c84
                obtain rfl := Option.some.inj H
                have hcz90_0 : wc.cell? ⟨gb178, 0, none⟩ = some (.int .i64 a0_0) := (kCe BK178.out 0).trans rfl
                have hcz90_1 : wc.cell? ⟨gb178, 1, none⟩ = some (.int .i64 a0_1) := (kCe BK178.out 1).trans rfl
                have hcz90_2 : wc.cell? ⟨gb178, 2, none⟩ = some (.int .i64 a0_2) := (kCe BK178.out 2).trans rfl
                have hcz90_3 : wc.cell? ⟨gb178, 3, none⟩ = some (.int .i64 a0_3) := (kCe BK178.out 3).trans rfl
                have hcz90_4 : wc.cell? ⟨gb178, 4, none⟩ = some (.int .i64 a0_4) := (kCe BK178.out 4).trans rfl
                have hcz90_5 : wc.cell? ⟨gb178, 5, none⟩ = some (.int .i64 a0_5) := (kCe BK178.out 5).trans rfl
                have hcz90_6 : wc.cell? ⟨gb178, 6, none⟩ = some (.slice A0_6 l0_6.length c0_6) := (kCe BK178.out 6).trans rfl
                have hfz90_0 := kFr BK178.out 0
                have hfz90_1 := kFr BK178.out 1
                have hfz90_2 := kFr BK178.out 2
                have hfz90_3 := kFr BK178.out 3
                have hfz90_4 := kFr BK178.out 4
                have hfz90_5 := kFr BK178.out 5
                have hfz90_6 := kFr BK178.out 6
                have p189 : 0 ≤ (0 : Int) := (by omega)
                have q189 : 0 < (l0_6.length : Int) := of_decide_eq_true (by first | (with_reducible assumption) | assumption)
                obtain ⟨ad189, A189_5, c189_5, e189, hx189_0, hx189_1, hx189_2, hx189_3, hx189_4, hx189_5, hl189_5, hi189_5⟩ := at_T56 HR0_6.out 0 p189 q189
                (try rw [← Nbq55.out] at hx189_1)
                (try rw [← Nbq77.out] at hx189_1)
                (try rw [← Nbq55.out] at hx189_3)
                (try rw [← Nbq77.out] at hx189_3)
                cases e189
                have qi189 : (0 < l0_6.length) = True := eq_true (by omega)
                (try rw [show ((0 : Int)).toNat = 0 from rfl] at hx189_0)
                (try rw [show 0 * 6 = 0 from rfl] at hx189_0)
                (try rw [Addr.add_zero'] at hx189_0)
                (try rw [show ((0 : Int)).toNat = 0 from rfl] at hx189_1)
                (try rw [show 0 * 6 = 0 from rfl] at hx189_1)
                (try rw [Addr.add_zero'] at hx189_1)
                (try rw [show ((0 : Int)).toNat = 0 from rfl] at hx189_2)
                (try rw [show 0 * 6 = 0 from rfl] at hx189_2)
                (try rw [Addr.add_zero'] at hx189_2)
                (try rw [show ((0 : Int)).toNat = 0 from rfl] at hx189_3)
                (try rw [show 0 * 6 = 0 from rfl] at hx189_3)
                (try rw [Addr.add_zero'] at hx189_3)
                (try rw [show ((0 : Int)).toNat = 0 from rfl] at hx189_4)
                (try rw [show 0 * 6 = 0 from rfl] at hx189_4)
                (try rw [Addr.add_zero'] at hx189_4)
                (try rw [show ((0 : Int)).toNat = 0 from rfl] at hx189_5)
                (try rw [show 0 * 6 = 0 from rfl] at hx189_5)
                (try rw [Addr.add_zero'] at hx189_5)
                replace hx189_0 := (HB.out.cell (World.block_lt_of_cell? w _ hx189_0)).trans hx189_0
                replace hx189_1 := (HB.out.cell (World.block_lt_of_cell? w _ hx189_1)).trans hx189_1
                replace hx189_2 := (HB.out.cell (World.block_lt_of_cell? w _ hx189_2)).trans hx189_2
                replace hx189_3 := (HB.out.cell (World.block_lt_of_cell? w _ hx189_3)).trans hx189_3
                replace hx189_4 := (HB.out.cell (World.block_lt_of_cell? w _ hx189_4)).trans hx189_4
                replace hx189_5 := (HB.out.cell (World.block_lt_of_cell? w _ hx189_5)).trans hx189_5
                have HR189_5 := Aside0.mk hi189_5
                have HC189_5 := Aside0.mk hl189_5
                clear hi189_5 hl189_5
                replace p189 := eq_true p189
                replace q189 := eq_true q189
                go_wp2_with (first | ((with_reducible refine gDs (N := 4) rfl ?_); (try (refine gGu (by rfl) ?_; dsimp only)); refine bEv ?hg (N := 4) ?hd (cs := #[.int .i64 0, .bool false, .string (⟨#[]⟩ : ByteArray), .bool false, .string (⟨#[]⟩ : ByteArray), .slice none 0 0]) (t := 56) ?hr ?_; (case hd => rfl); (case hg => rfl); (case hr => first | (go_simp; done) | (go_simp; rfl)); intro gb190 hg w91 hbox hb; have n0_ := Aside0.mk (kBe (g := gb178) (o := .cells #[.int .i64 a0_0, .int .i64 a0_1, .int .i64 a0_2, .int .i64 a0_3, .int .i64 a0_4, .int .i64 a0_5, .slice (some ad189) l0_6.length c0_6] 29 (0, 0)) (by (with_reducible repeat first | refine kDN ?_ _ | refine kDr ?_ | refine kAl ?_ _); exact BK178.out) hb); have n1_ := Aside0.mk (bSt (by repeat (first | (with_reducible first | exact HB.out | apply bAl | apply bDN | apply bD1 | refine bSe ?_ GE178.out) | exact HB.out)) hb); have n2_ := Aside0.mk (hbox); have n3_ := Aside0.mk ((by rw [hg]; exact (bSz (by repeat (first | (with_reducible first | exact HB.out | apply bAl | apply bDN | apply bD1 | refine bSe ?_ GE178.out) | exact HB.out))) : w.heap.size ≤ gb190)); have n4_ := Aside0.mk ((by rw [hg]; exact (bSz (by repeat (first | (with_reducible first | exact HB.out | apply bAl | apply bDN | apply bD1 | refine bSe ?_ GE178.out) | exact HB.out))) : w.heap.size ≤ gb190)); have n5_ := Aside0.mk ((by rw [hg]; exact Nat.ne_of_lt (blk_lt (g := gb178) (o := .cells #[.int .i64 a0_0, .int .i64 a0_1, .int .i64 a0_2, .int .i64 a0_3, .int .i64 a0_4, .int .i64 a0_5, .slice (some ad189) l0_6.length c0_6] 29 (0, 0)) (by (with_reducible repeat first | refine kDN ?_ _ | refine kDr ?_ | refine kAl ?_ _); exact BK178.out)) : gb178 ≠ gb190)); have n6_ := Aside0.mk ((by rw [hg]; exact Nat.ne_of_gt (blk_lt (g := gb178) (o := .cells #[.int .i64 a0_0, .int .i64 a0_1, .int .i64 a0_2, .int .i64 a0_3, .int .i64 a0_4, .int .i64 a0_5, .slice (some ad189) l0_6.length c0_6] 29 (0, 0)) (by (with_reducible repeat first | refine kDN ?_ _ | refine kDr ?_ | refine kAl ?_ _); exact BK178.out)) : gb190 ≠ gb178)); clear BK178; clear HB; have BK178 := n0_; have HB := n1_; have BK190 := n2_; have GW190 := n3_; have GE190 := n4_; have NB178_190 := n5_; have NB190_178 := n6_; clear n0_ n1_ n2_ n3_ n4_ n5_ n6_; clear hb hbox hg; have hnb92 := NB190_178.out; have hnc92 := NB178_190.out; have hcz93_0 : w91.cell? ⟨gb190, 0, none⟩ = some (.int .i64 0) := (kCe BK190.out 0).trans rfl; have hcz93_1 : w91.cell? ⟨gb190, 1, none⟩ = some (.bool false) := (kCe BK190.out 1).trans rfl; have hcz93_2 : w91.cell? ⟨gb190, 2, none⟩ = some (.string (⟨#[]⟩ : ByteArray)) := (kCe BK190.out 2).trans rfl; have hcz93_3 : w91.cell? ⟨gb190, 3, none⟩ = some (.bool false) := (kCe BK190.out 3).trans rfl; have hcz93_4 : w91.cell? ⟨gb190, 4, none⟩ = some (.string (⟨#[]⟩ : ByteArray)) := (kCe BK190.out 4).trans rfl; have hcz93_5 : w91.cell? ⟨gb190, 5, none⟩ = some (.slice none 0 0) := (kCe BK190.out 5).trans rfl; have hfz93_0 := kFr BK190.out 0; have hfz93_1 := kFr BK190.out 1; have hfz93_2 := kFr BK190.out 2; have hfz93_3 := kFr BK190.out 3; have hfz93_4 := kFr BK190.out 4; have hfz93_5 := kFr BK190.out 5; have hcz94_0 : w91.cell? ⟨gb178, 0, none⟩ = some (.int .i64 a0_0) := (kCe BK178.out 0).trans rfl; have hcz94_1 : w91.cell? ⟨gb178, 1, none⟩ = some (.int .i64 a0_1) := (kCe BK178.out 1).trans rfl; have hcz94_2 : w91.cell? ⟨gb178, 2, none⟩ = some (.int .i64 a0_2) := (kCe BK178.out 2).trans rfl; have hcz94_3 : w91.cell? ⟨gb178, 3, none⟩ = some (.int .i64 a0_3) := (kCe BK178.out 3).trans rfl; have hcz94_4 : w91.cell? ⟨gb178, 4, none⟩ = some (.int .i64 a0_4) := (kCe BK178.out 4).trans rfl; have hcz94_5 : w91.cell? ⟨gb178, 5, none⟩ = some (.int .i64 a0_5) := (kCe BK178.out 5).trans rfl; have hcz94_6 : w91.cell? ⟨gb178, 6, none⟩ = some (.slice (some ad189) l0_6.length c0_6) := (kCe BK178.out 6).trans rfl; have hfz94_0 := kFr BK178.out 0; have hfz94_1 := kFr BK178.out 1; have hfz94_2 := kFr BK178.out 2; have hfz94_3 := kFr BK178.out 3; have hfz94_4 := kFr BK178.out 4; have hfz94_5 := kFr BK178.out 5; have hfz94_6 := kFr BK178.out 6))
                go_ret
                exact ⟨by first | rfl | (simp [errW_none, errW_some] <;> rfl) | (simp [*, errW_none, errW_some] <;> rfl), by repeat (first | (with_reducible first | exact HB.out | apply bAl | apply bDN | apply bD1 | refine bSe ?_ GE178.out | refine bSe ?_ GE190.out) | exact HB.out)⟩
             ·
              rw [if_neg c76] at H
              have c76b0 : (((rd_T56 l0_6 0).f2).toList == ([97, 98, 111, 114, 116] : List UInt8)) = false := beq_eq_false_iff_ne.mpr c76
              have c76b1 : (((rd_T56 l0_6 0).f2).toList != ([97, 98, 111, 114, 116] : List UInt8)) = true := bne_iff_ne.mpr c76
              obtain rfl := Option.some.inj H
              have hcz95_0 : wc.cell? ⟨gb178, 0, none⟩ = some (.int .i64 a0_0) := (kCe BK178.out 0).trans rfl
              have hcz95_1 : wc.cell? ⟨gb178, 1, none⟩ = some (.int .i64 a0_1) := (kCe BK178.out 1).trans rfl
              have hcz95_2 : wc.cell? ⟨gb178, 2, none⟩ = some (.int .i64 a0_2) := (kCe BK178.out 2).trans rfl
              have hcz95_3 : wc.cell? ⟨gb178, 3, none⟩ = some (.int .i64 a0_3) := (kCe BK178.out 3).trans rfl
              have hcz95_4 : wc.cell? ⟨gb178, 4, none⟩ = some (.int .i64 a0_4) := (kCe BK178.out 4).trans rfl
              have hcz95_5 : wc.cell? ⟨gb178, 5, none⟩ = some (.int .i64 a0_5) := (kCe BK178.out 5).trans rfl
              have hcz95_6 : wc.cell? ⟨gb178, 6, none⟩ = some (.slice A0_6 l0_6.length c0_6) := (kCe BK178.out 6).trans rfl
              have hfz95_0 := kFr BK178.out 0
              have hfz95_1 := kFr BK178.out 1
              have hfz95_2 := kFr BK178.out 2
              have hfz95_3 := kFr BK178.out 3
              have hfz95_4 := kFr BK178.out 4
              have hfz95_5 := kFr BK178.out 5
              have hfz95_6 := kFr BK178.out 6
              have p189 : 0 ≤ (0 : Int) := (by omega)
              have q189 : 0 < (l0_6.length : Int) := of_decide_eq_true (by first | (with_reducible assumption) | assumption)
              obtain ⟨ad189, A189_5, c189_5, e189, hx189_0, hx189_1, hx189_2, hx189_3, hx189_4, hx189_5, hl189_5, hi189_5⟩ := at_T56 HR0_6.out 0 p189 q189
              (try rw [← Nbq55.out] at hx189_1)
              (try rw [← Nbq55.out] at hx189_3)
              cases e189
              have qi189 : (0 < l0_6.length) = True := eq_true (by omega)
              (try rw [show ((0 : Int)).toNat = 0 from rfl] at hx189_0)
              (try rw [show 0 * 6 = 0 from rfl] at hx189_0)
              (try rw [Addr.add_zero'] at hx189_0)
              (try rw [show ((0 : Int)).toNat = 0 from rfl] at hx189_1)
              (try rw [show 0 * 6 = 0 from rfl] at hx189_1)
              (try rw [Addr.add_zero'] at hx189_1)
              (try rw [show ((0 : Int)).toNat = 0 from rfl] at hx189_2)
              (try rw [show 0 * 6 = 0 from rfl] at hx189_2)
              (try rw [Addr.add_zero'] at hx189_2)
              (try rw [show ((0 : Int)).toNat = 0 from rfl] at hx189_3)
              (try rw [show 0 * 6 = 0 from rfl] at hx189_3)
              (try rw [Addr.add_zero'] at hx189_3)
              (try rw [show ((0 : Int)).toNat = 0 from rfl] at hx189_4)
              (try rw [show 0 * 6 = 0 from rfl] at hx189_4)
              (try rw [Addr.add_zero'] at hx189_4)
              (try rw [show ((0 : Int)).toNat = 0 from rfl] at hx189_5)
              (try rw [show 0 * 6 = 0 from rfl] at hx189_5)
              (try rw [Addr.add_zero'] at hx189_5)
              replace hx189_0 := (HB.out.cell (World.block_lt_of_cell? w _ hx189_0)).trans hx189_0
              replace hx189_1 := (HB.out.cell (World.block_lt_of_cell? w _ hx189_1)).trans hx189_1
              replace hx189_2 := (HB.out.cell (World.block_lt_of_cell? w _ hx189_2)).trans hx189_2
              replace hx189_3 := (HB.out.cell (World.block_lt_of_cell? w _ hx189_3)).trans hx189_3
              replace hx189_4 := (HB.out.cell (World.block_lt_of_cell? w _ hx189_4)).trans hx189_4
              replace hx189_5 := (HB.out.cell (World.block_lt_of_cell? w _ hx189_5)).trans hx189_5
              have HR189_5 := Aside0.mk hi189_5
              have HC189_5 := Aside0.mk hl189_5
              clear hi189_5 hl189_5
              replace p189 := eq_true p189
              replace q189 := eq_true q189
              go_wp2_with (first | ((with_reducible refine gDs (N := 4) rfl ?_); (try (refine gGu (by rfl) ?_; dsimp only)); refine bEv ?hg (N := 4) ?hd (cs := #[.int .i64 0, .bool false, .string (⟨#[]⟩ : ByteArray), .bool false, .string (⟨#[]⟩ : ByteArray), .slice none 0 0]) (t := 56) ?hr ?_; (case hd => rfl); (case hg => rfl); (case hr => first | (go_simp; done) | (go_simp; rfl)); intro gb190 hg w96 hbox hb; have n0_ := Aside0.mk (kBe (g := gb178) (o := .cells #[.int .i64 a0_0, .int .i64 a0_1, .int .i64 a0_2, .int .i64 a0_3, .int .i64 a0_4, .int .i64 a0_5, .slice (some ad189) l0_6.length c0_6] 29 (0, 0)) (by (with_reducible repeat first | refine kDN ?_ _ | refine kDr ?_ | refine kAl ?_ _); exact BK178.out) hb); have n1_ := Aside0.mk (bSt (by repeat (first | (with_reducible first | exact HB.out | apply bAl | apply bDN | apply bD1 | refine bSe ?_ GE178.out) | exact HB.out)) hb); have n2_ := Aside0.mk (hbox); have n3_ := Aside0.mk ((by rw [hg]; exact (bSz (by repeat (first | (with_reducible first | exact HB.out | apply bAl | apply bDN | apply bD1 | refine bSe ?_ GE178.out) | exact HB.out))) : w.heap.size ≤ gb190)); have n4_ := Aside0.mk ((by rw [hg]; exact (bSz (by repeat (first | (with_reducible first | exact HB.out | apply bAl | apply bDN | apply bD1 | refine bSe ?_ GE178.out) | exact HB.out))) : w.heap.size ≤ gb190)); have n5_ := Aside0.mk ((by rw [hg]; exact Nat.ne_of_lt (blk_lt (g := gb178) (o := .cells #[.int .i64 a0_0, .int .i64 a0_1, .int .i64 a0_2, .int .i64 a0_3, .int .i64 a0_4, .int .i64 a0_5, .slice (some ad189) l0_6.length c0_6] 29 (0, 0)) (by (with_reducible repeat first | refine kDN ?_ _ | refine kDr ?_ | refine kAl ?_ _); exact BK178.out)) : gb178 ≠ gb190)); have n6_ := Aside0.mk ((by rw [hg]; exact Nat.ne_of_gt (blk_lt (g := gb178) (o := .cells #[.int .i64 a0_0, .int .i64 a0_1, .int .i64 a0_2, .int .i64 a0_3, .int .i64 a0_4, .int .i64 a0_5, .slice (some ad189) l0_6.length c0_6] 29 (0, 0)) (by (with_reducible repeat first | refine kDN ?_ _ | refine kDr ?_ | refine kAl ?_ _); exact BK178.out)) : gb190 ≠ gb178)); clear BK178; clear HB; have BK178 := n0_; have HB := n1_; have BK190 := n2_; have GW190 := n3_; have GE190 := n4_; have NB178_190 := n5_; have NB190_178 := n6_; clear n0_ n1_ n2_ n3_ n4_ n5_ n6_; clear hb hbox hg; have hnb97 := NB190_178.out; have hnc97 := NB178_190.out; have hcz98_0 : w96.cell? ⟨gb190, 0, none⟩ = some (.int .i64 0) := (kCe BK190.out 0).trans rfl; have hcz98_1 : w96.cell? ⟨gb190, 1, none⟩ = some (.bool false) := (kCe BK190.out 1).trans rfl; have hcz98_2 : w96.cell? ⟨gb190, 2, none⟩ = some (.string (⟨#[]⟩ : ByteArray)) := (kCe BK190.out 2).trans rfl; have hcz98_3 : w96.cell? ⟨gb190, 3, none⟩ = some (.bool false) := (kCe BK190.out 3).trans rfl; have hcz98_4 : w96.cell? ⟨gb190, 4, none⟩ = some (.string (⟨#[]⟩ : ByteArray)) := (kCe BK190.out 4).trans rfl; have hcz98_5 : w96.cell? ⟨gb190, 5, none⟩ = some (.slice none 0 0) := (kCe BK190.out 5).trans rfl; have hfz98_0 := kFr BK190.out 0; have hfz98_1 := kFr BK190.out 1; have hfz98_2 := kFr BK190.out 2; have hfz98_3 := kFr BK190.out 3; have hfz98_4 := kFr BK190.out 4; have hfz98_5 := kFr BK190.out 5; have hcz99_0 : w96.cell? ⟨gb178, 0, none⟩ = some (.int .i64 a0_0) := (kCe BK178.out 0).trans rfl; have hcz99_1 : w96.cell? ⟨gb178, 1, none⟩ = some (.int .i64 a0_1) := (kCe BK178.out 1).trans rfl; have hcz99_2 : w96.cell? ⟨gb178, 2, none⟩ = some (.int .i64 a0_2) := (kCe BK178.out 2).trans rfl; have hcz99_3 : w96.cell? ⟨gb178, 3, none⟩ = some (.int .i64 a0_3) := (kCe BK178.out 3).trans rfl; have hcz99_4 : w96.cell? ⟨gb178, 4, none⟩ = some (.int .i64 a0_4) := (kCe BK178.out 4).trans rfl; have hcz99_5 : w96.cell? ⟨gb178, 5, none⟩ = some (.int .i64 a0_5) := (kCe BK178.out 5).trans rfl; have hcz99_6 : w96.cell? ⟨gb178, 6, none⟩ = some (.slice (some ad189) l0_6.length c0_6) := (kCe BK178.out 6).trans rfl; have hfz99_0 := kFr BK178.out 0; have hfz99_1 := kFr BK178.out 1; have hfz99_2 := kFr BK178.out 2; have hfz99_3 := kFr BK178.out 3; have hfz99_4 := kFr BK178.out 4; have hfz99_5 := kFr BK178.out 5; have hfz99_6 := kFr BK178.out 6))
              go_ret
              exact ⟨by first | rfl | (simp [errW_none, errW_some] <;> rfl) | (simp [*, errW_none, errW_some] <;> rfl), by repeat (first | (with_reducible first | exact HB.out | apply bAl | apply bDN | apply bD1 | refine bSe ?_ GE178.out | refine bSe ?_ GE190.out) | exact HB.out)⟩
           ·
            replace c56 := Bool.eq_false_iff.mpr c56
            subst c56
            rw [if_neg (show ¬ (false = true) by decide)] at H
            obtain rfl := Option.some.inj H
            have hcz100_0 : wc.cell? ⟨gb178, 0, none⟩ = some (.int .i64 a0_0) := (kCe BK178.out 0).trans rfl
            have hcz100_1 : wc.cell? ⟨gb178, 1, none⟩ = some (.int .i64 a0_1) := (kCe BK178.out 1).trans rfl
            have hcz100_2 : wc.cell? ⟨gb178, 2, none⟩ = some (.int .i64 a0_2) := (kCe BK178.out 2).trans rfl
            have hcz100_3 : wc.cell? ⟨gb178, 3, none⟩ = some (.int .i64 a0_3) := (kCe BK178.out 3).trans rfl
            have hcz100_4 : wc.cell? ⟨gb178, 4, none⟩ = some (.int .i64 a0_4) := (kCe BK178.out 4).trans rfl
            have hcz100_5 : wc.cell? ⟨gb178, 5, none⟩ = some (.int .i64 a0_5) := (kCe BK178.out 5).trans rfl
            have hcz100_6 : wc.cell? ⟨gb178, 6, none⟩ = some (.slice A0_6 l0_6.length c0_6) := (kCe BK178.out 6).trans rfl
            have hfz100_0 := kFr BK178.out 0
            have hfz100_1 := kFr BK178.out 1
            have hfz100_2 := kFr BK178.out 2
            have hfz100_3 := kFr BK178.out 3
            have hfz100_4 := kFr BK178.out 4
            have hfz100_5 := kFr BK178.out 5
            have hfz100_6 := kFr BK178.out 6
            have p189 : 0 ≤ (0 : Int) := (by omega)
            have q189 : 0 < (l0_6.length : Int) := of_decide_eq_true (by first | (with_reducible assumption) | assumption)
            obtain ⟨ad189, A189_5, c189_5, e189, hx189_0, hx189_1, hx189_2, hx189_3, hx189_4, hx189_5, hl189_5, hi189_5⟩ := at_T56 HR0_6.out 0 p189 q189
            (try rw [← Nbq55.out] at hx189_1)
            (try rw [← Nbq55.out] at hx189_3)
            cases e189
            have qi189 : (0 < l0_6.length) = True := eq_true (by omega)
            (try rw [show ((0 : Int)).toNat = 0 from rfl] at hx189_0)
            (try rw [show 0 * 6 = 0 from rfl] at hx189_0)
            (try rw [Addr.add_zero'] at hx189_0)
            (try rw [show ((0 : Int)).toNat = 0 from rfl] at hx189_1)
            (try rw [show 0 * 6 = 0 from rfl] at hx189_1)
            (try rw [Addr.add_zero'] at hx189_1)
            (try rw [show ((0 : Int)).toNat = 0 from rfl] at hx189_2)
            (try rw [show 0 * 6 = 0 from rfl] at hx189_2)
            (try rw [Addr.add_zero'] at hx189_2)
            (try rw [show ((0 : Int)).toNat = 0 from rfl] at hx189_3)
            (try rw [show 0 * 6 = 0 from rfl] at hx189_3)
            (try rw [Addr.add_zero'] at hx189_3)
            (try rw [show ((0 : Int)).toNat = 0 from rfl] at hx189_4)
            (try rw [show 0 * 6 = 0 from rfl] at hx189_4)
            (try rw [Addr.add_zero'] at hx189_4)
            (try rw [show ((0 : Int)).toNat = 0 from rfl] at hx189_5)
            (try rw [show 0 * 6 = 0 from rfl] at hx189_5)
            (try rw [Addr.add_zero'] at hx189_5)
            replace hx189_0 := (HB.out.cell (World.block_lt_of_cell? w _ hx189_0)).trans hx189_0
            replace hx189_1 := (HB.out.cell (World.block_lt_of_cell? w _ hx189_1)).trans hx189_1
            replace hx189_2 := (HB.out.cell (World.block_lt_of_cell? w _ hx189_2)).trans hx189_2
            replace hx189_3 := (HB.out.cell (World.block_lt_of_cell? w _ hx189_3)).trans hx189_3
            replace hx189_4 := (HB.out.cell (World.block_lt_of_cell? w _ hx189_4)).trans hx189_4
            replace hx189_5 := (HB.out.cell (World.block_lt_of_cell? w _ hx189_5)).trans hx189_5
            have HR189_5 := Aside0.mk hi189_5
            have HC189_5 := Aside0.mk hl189_5
            clear hi189_5 hl189_5
            replace p189 := eq_true p189
            replace q189 := eq_true q189
            go_wp2_with (first | ((with_reducible refine gDs (N := 4) rfl ?_); (try (refine gGu (by rfl) ?_; dsimp only)); refine bEv ?hg (N := 4) ?hd (cs := #[.int .i64 0, .bool false, .string (⟨#[]⟩ : ByteArray), .bool false, .string (⟨#[]⟩ : ByteArray), .slice none 0 0]) (t := 56) ?hr ?_; (case hd => rfl); (case hg => rfl); (case hr => first | (go_simp; done) | (go_simp; rfl)); intro gb190 hg w101 hbox hb; have n0_ := Aside0.mk (kBe (g := gb178) (o := .cells #[.int .i64 a0_0, .int .i64 a0_1, .int .i64 a0_2, .int .i64 a0_3, .int .i64 a0_4, .int .i64 a0_5, .slice (some ad189) l0_6.length c0_6] 29 (0, 0)) (by (with_reducible repeat first | refine kDN ?_ _ | refine kDr ?_ | refine kAl ?_ _); exact BK178.out) hb); have n1_ := Aside0.mk (bSt (by repeat (first | (with_reducible first | exact HB.out | apply bAl | apply bDN | apply bD1 | refine bSe ?_ GE178.out) | exact HB.out)) hb); have n2_ := Aside0.mk (hbox); have n3_ := Aside0.mk ((by rw [hg]; exact (bSz (by repeat (first | (with_reducible first | exact HB.out | apply bAl | apply bDN | apply bD1 | refine bSe ?_ GE178.out) | exact HB.out))) : w.heap.size ≤ gb190)); have n4_ := Aside0.mk ((by rw [hg]; exact (bSz (by repeat (first | (with_reducible first | exact HB.out | apply bAl | apply bDN | apply bD1 | refine bSe ?_ GE178.out) | exact HB.out))) : w.heap.size ≤ gb190)); have n5_ := Aside0.mk ((by rw [hg]; exact Nat.ne_of_lt (blk_lt (g := gb178) (o := .cells #[.int .i64 a0_0, .int .i64 a0_1, .int .i64 a0_2, .int .i64 a0_3, .int .i64 a0_4, .int .i64 a0_5, .slice (some ad189) l0_6.length c0_6] 29 (0, 0)) (by (with_reducible repeat first | refine kDN ?_ _ | refine kDr ?_ | refine kAl ?_ _); exact BK178.out)) : gb178 ≠ gb190)); have n6_ := Aside0.mk ((by rw [hg]; exact Nat.ne_of_gt (blk_lt (g := gb178) (o := .cells #[.int .i64 a0_0, .int .i64 a0_1, .int .i64 a0_2, .int .i64 a0_3, .int .i64 a0_4, .int .i64 a0_5, .slice (some ad189) l0_6.length c0_6] 29 (0, 0)) (by (with_reducible repeat first | refine kDN ?_ _ | refine kDr ?_ | refine kAl ?_ _); exact BK178.out)) : gb190 ≠ gb178)); clear BK178; clear HB; have BK178 := n0_; have HB := n1_; have BK190 := n2_; have GW190 := n3_; have GE190 := n4_; have NB178_190 := n5_; have NB190_178 := n6_; clear n0_ n1_ n2_ n3_ n4_ n5_ n6_; clear hb hbox hg; have hnb102 := NB190_178.out; have hnc102 := NB178_190.out; have hcz103_0 : w101.cell? ⟨gb190, 0, none⟩ = some (.int .i64 0) := (kCe BK190.out 0).trans rfl; have hcz103_1 : w101.cell? ⟨gb190, 1, none⟩ = some (.bool false) := (kCe BK190.out 1).trans rfl; have hcz103_2 : w101.cell? ⟨gb190, 2, none⟩ = some (.string (⟨#[]⟩ : ByteArray)) := (kCe BK190.out 2).trans rfl; have hcz103_3 : w101.cell? ⟨gb190, 3, none⟩ = some (.bool false) := (kCe BK190.out 3).trans rfl; have hcz103_4 : w101.cell? ⟨gb190, 4, none⟩ = some (.string (⟨#[]⟩ : ByteArray)) := (kCe BK190.out 4).trans rfl; have hcz103_5 : w101.cell? ⟨gb190, 5, none⟩ = some (.slice none 0 0) := (kCe BK190.out 5).trans rfl; have hfz103_0 := kFr BK190.out 0; have hfz103_1 := kFr BK190.out 1; have hfz103_2 := kFr BK190.out 2; have hfz103_3 := kFr BK190.out 3; have hfz103_4 := kFr BK190.out 4; have hfz103_5 := kFr BK190.out 5; have hcz104_0 : w101.cell? ⟨gb178, 0, none⟩ = some (.int .i64 a0_0) := (kCe BK178.out 0).trans rfl; have hcz104_1 : w101.cell? ⟨gb178, 1, none⟩ = some (.int .i64 a0_1) := (kCe BK178.out 1).trans rfl; have hcz104_2 : w101.cell? ⟨gb178, 2, none⟩ = some (.int .i64 a0_2) := (kCe BK178.out 2).trans rfl; have hcz104_3 : w101.cell? ⟨gb178, 3, none⟩ = some (.int .i64 a0_3) := (kCe BK178.out 3).trans rfl; have hcz104_4 : w101.cell? ⟨gb178, 4, none⟩ = some (.int .i64 a0_4) := (kCe BK178.out 4).trans rfl; have hcz104_5 : w101.cell? ⟨gb178, 5, none⟩ = some (.int .i64 a0_5) := (kCe BK178.out 5).trans rfl; have hcz104_6 : w101.cell? ⟨gb178, 6, none⟩ = some (.slice (some ad189) l0_6.length c0_6) := (kCe BK178.out 6).trans rfl; have hfz104_0 := kFr BK178.out 0; have hfz104_1 := kFr BK178.out 1; have hfz104_2 := kFr BK178.out 2; have hfz104_3 := kFr BK178.out 3; have hfz104_4 := kFr BK178.out 4; have hfz104_5 := kFr BK178.out 5; have hfz104_6 := kFr BK178.out 6))
            go_ret
            exact ⟨by first | rfl | (simp [errW_none, errW_some] <;> rfl) | (simp [*, errW_none, errW_some] <;> rfl), by repeat (first | (with_reducible first | exact HB.out | apply bAl | apply bDN | apply bD1 | refine bSe ?_ GE178.out | refine bSe ?_ GE190.out) | exact HB.out)⟩
          ·
           rw [if_neg c54] at H
           have c54b0 : ((l0_6.length : Int) == 1) = false := beq_eq_false_iff_ne.mpr c54
           have c54b1 : ((l0_6.length : Int) != 1) = true := bne_iff_ne.mpr c54
           obtain rfl := Option.some.inj H
           have hcz105_0 : wc.cell? ⟨gb178, 0, none⟩ = some (.int .i64 a0_0) := (kCe BK178.out 0).trans rfl
           have hcz105_1 : wc.cell? ⟨gb178, 1, none⟩ = some (.int .i64 a0_1) := (kCe BK178.out 1).trans rfl
           have hcz105_2 : wc.cell? ⟨gb178, 2, none⟩ = some (.int .i64 a0_2) := (kCe BK178.out 2).trans rfl
           have hcz105_3 : wc.cell? ⟨gb178, 3, none⟩ = some (.int .i64 a0_3) := (kCe BK178.out 3).trans rfl
           have hcz105_4 : wc.cell? ⟨gb178, 4, none⟩ = some (.int .i64 a0_4) := (kCe BK178.out 4).trans rfl
           have hcz105_5 : wc.cell? ⟨gb178, 5, none⟩ = some (.int .i64 a0_5) := (kCe BK178.out 5).trans rfl
           have hcz105_6 : wc.cell? ⟨gb178, 6, none⟩ = some (.slice A0_6 l0_6.length c0_6) := (kCe BK178.out 6).trans rfl
           have hfz105_0 := kFr BK178.out 0
           have hfz105_1 := kFr BK178.out 1
           have hfz105_2 := kFr BK178.out 2
           have hfz105_3 := kFr BK178.out 3
           have hfz105_4 := kFr BK178.out 4
           have hfz105_5 := kFr BK178.out 5
           have hfz105_6 := kFr BK178.out 6
           have p189 : 0 ≤ (0 : Int) := (by omega)
           have q189 : 0 < (l0_6.length : Int) := of_decide_eq_true (by first | (with_reducible assumption) | assumption)
           obtain ⟨ad189, A189_5, c189_5, e189, hx189_0, hx189_1, hx189_2, hx189_3, hx189_4, hx189_5, hl189_5, hi189_5⟩ := at_T56 HR0_6.out 0 p189 q189
           cases e189
           have qi189 : (0 < l0_6.length) = True := eq_true (by omega)
           (try rw [show ((0 : Int)).toNat = 0 from rfl] at hx189_0)
           (try rw [show 0 * 6 = 0 from rfl] at hx189_0)
           (try rw [Addr.add_zero'] at hx189_0)
           (try rw [show ((0 : Int)).toNat = 0 from rfl] at hx189_1)
           (try rw [show 0 * 6 = 0 from rfl] at hx189_1)
           (try rw [Addr.add_zero'] at hx189_1)
           (try rw [show ((0 : Int)).toNat = 0 from rfl] at hx189_2)
           (try rw [show 0 * 6 = 0 from rfl] at hx189_2)
           (try rw [Addr.add_zero'] at hx189_2)
           (try rw [show ((0 : Int)).toNat = 0 from rfl] at hx189_3)
           (try rw [show 0 * 6 = 0 from rfl] at hx189_3)
           (try rw [Addr.add_zero'] at hx189_3)
           (try rw [show ((0 : Int)).toNat = 0 from rfl] at hx189_4)
           (try rw [show 0 * 6 = 0 from rfl] at hx189_4)
           (try rw [Addr.add_zero'] at hx189_4)
           (try rw [show ((0 : Int)).toNat = 0 from rfl] at hx189_5)
           (try rw [show 0 * 6 = 0 from rfl] at hx189_5)
           (try rw [Addr.add_zero'] at hx189_5)
           replace hx189_0 := (HB.out.cell (World.block_lt_of_cell? w _ hx189_0)).trans hx189_0
           replace hx189_1 := (HB.out.cell (World.block_lt_of_cell? w _ hx189_1)).trans hx189_1
           replace hx189_2 := (HB.out.cell (World.block_lt_of_cell? w _ hx189_2)).trans hx189_2
           replace hx189_3 := (HB.out.cell (World.block_lt_of_cell? w _ hx189_3)).trans hx189_3
           replace hx189_4 := (HB.out.cell (World.block_lt_of_cell? w _ hx189_4)).trans hx189_4
           replace hx189_5 := (HB.out.cell (World.block_lt_of_cell? w _ hx189_5)).trans hx189_5
           have HR189_5 := Aside0.mk hi189_5
           have HC189_5 := Aside0.mk hl189_5
           clear hi189_5 hl189_5
           replace p189 := eq_true p189
           replace q189 := eq_true q189
           go_wp2_with (first | ((with_reducible refine gDs (N := 4) rfl ?_); (try (refine gGu (by rfl) ?_; dsimp only)); refine bEv ?hg (N := 4) ?hd (cs := #[.int .i64 0, .bool false, .string (⟨#[]⟩ : ByteArray), .bool false, .string (⟨#[]⟩ : ByteArray), .slice none 0 0]) (t := 56) ?hr ?_; (case hd => rfl); (case hg => rfl); (case hr => first | (go_simp; done) | (go_simp; rfl)); intro gb190 hg w106 hbox hb; have n0_ := Aside0.mk (kBe (g := gb178) (o := .cells #[.int .i64 a0_0, .int .i64 a0_1, .int .i64 a0_2, .int .i64 a0_3, .int .i64 a0_4, .int .i64 a0_5, .slice (some ad189) l0_6.length c0_6] 29 (0, 0)) (by (with_reducible repeat first | refine kDN ?_ _ | refine kDr ?_ | refine kAl ?_ _); exact BK178.out) hb); have n1_ := Aside0.mk (bSt (by repeat (first | (with_reducible first | exact HB.out | apply bAl | apply bDN | apply bD1 | refine bSe ?_ GE178.out) | exact HB.out)) hb); have n2_ := Aside0.mk (hbox); have n3_ := Aside0.mk ((by rw [hg]; exact (bSz (by repeat (first | (with_reducible first | exact HB.out | apply bAl | apply bDN | apply bD1 | refine bSe ?_ GE178.out) | exact HB.out))) : w.heap.size ≤ gb190)); have n4_ := Aside0.mk ((by rw [hg]; exact (bSz (by repeat (first | (with_reducible first | exact HB.out | apply bAl | apply bDN | apply bD1 | refine bSe ?_ GE178.out) | exact HB.out))) : w.heap.size ≤ gb190)); have n5_ := Aside0.mk ((by rw [hg]; exact Nat.ne_of_lt (blk_lt (g := gb178) (o := .cells #[.int .i64 a0_0, .int .i64 a0_1, .int .i64 a0_2, .int .i64 a0_3, .int .i64 a0_4, .int .i64 a0_5, .slice (some ad189) l0_6.length c0_6] 29 (0, 0)) (by (with_reducible repeat first | refine kDN ?_ _ | refine kDr ?_ | refine kAl ?_ _); exact BK178.out)) : gb178 ≠ gb190)); have n6_ := Aside0.mk ((by rw [hg]; exact Nat.ne_of_gt (blk_lt (g := gb178) (o := .cells #[.int .i64 a0_0, .int .i64 a0_1, .int .i64 a0_2, .int .i64 a0_3, .int .i64 a0_4, .int .i64 a0_5, .slice (some ad189) l0_6.length c0_6] 29 (0, 0)) (by (with_reducible repeat first | refine kDN ?_ _ | refine kDr ?_ | refine kAl ?_ _); exact BK178.out)) : gb190 ≠ gb178)); clear BK178; clear HB; have BK178 := n0_; have HB := n1_; have BK190 := n2_; have GW190 := n3_; have GE190 := n4_; have NB178_190 := n5_; have NB190_178 := n6_; clear n0_ n1_ n2_ n3_ n4_ n5_ n6_; clear hb hbox hg; have hnb107 := NB190_178.out; have hnc107 := NB178_190.out; have hcz108_0 : w106.cell? ⟨gb190, 0, none⟩ = some (.int .i64 0) := (kCe BK190.out 0).trans rfl; have hcz108_1 : w106.cell? ⟨gb190, 1, none⟩ = some (.bool false) := (kCe BK190.out 1).trans rfl; have hcz108_2 : w106.cell? ⟨gb190, 2, none⟩ = some (.string (⟨#[]⟩ : ByteArray)) := (kCe BK190.out 2).trans rfl; have hcz108_3 : w106.cell? ⟨gb190, 3, none⟩ = some (.bool false) := (kCe BK190.out 3).trans rfl; have hcz108_4 : w106.cell? ⟨gb190, 4, none⟩ = some (.string (⟨#[]⟩ : ByteArray)) := (kCe BK190.out 4).trans rfl; have hcz108_5 : w106.cell? ⟨gb190, 5, none⟩ = some (.slice none 0 0) := (kCe BK190.out 5).trans rfl; have hfz108_0 := kFr BK190.out 0; have hfz108_1 := kFr BK190.out 1; have hfz108_2 := kFr BK190.out 2; have hfz108_3 := kFr BK190.out 3; have hfz108_4 := kFr BK190.out 4; have hfz108_5 := kFr BK190.out 5; have hcz109_0 : w106.cell? ⟨gb178, 0, none⟩ = some (.int .i64 a0_0) := (kCe BK178.out 0).trans rfl; have hcz109_1 : w106.cell? ⟨gb178, 1, none⟩ = some (.int .i64 a0_1) := (kCe BK178.out 1).trans rfl; have hcz109_2 : w106.cell? ⟨gb178, 2, none⟩ = some (.int .i64 a0_2) := (kCe BK178.out 2).trans rfl; have hcz109_3 : w106.cell? ⟨gb178, 3, none⟩ = some (.int .i64 a0_3) := (kCe BK178.out 3).trans rfl; have hcz109_4 : w106.cell? ⟨gb178, 4, none⟩ = some (.int .i64 a0_4) := (kCe BK178.out 4).trans rfl; have hcz109_5 : w106.cell? ⟨gb178, 5, none⟩ = some (.int .i64 a0_5) := (kCe BK178.out 5).trans rfl; have hcz109_6 : w106.cell? ⟨gb178, 6, none⟩ = some (.slice (some ad189) l0_6.length c0_6) := (kCe BK178.out 6).trans rfl; have hfz109_0 := kFr BK178.out 0; have hfz109_1 := kFr BK178.out 1; have hfz109_2 := kFr BK178.out 2; have hfz109_3 := kFr BK178.out 3; have hfz109_4 := kFr BK178.out 4; have hfz109_5 := kFr BK178.out 5; have hfz109_6 := kFr BK178.out 6))
           go_ret
           exact ⟨by first | rfl | (simp [errW_none, errW_some] <;> rfl) | (simp [*, errW_none, errW_some] <;> rfl), by repeat (first | (with_reducible first | exact HB.out | apply bAl | apply bDN | apply bD1 | refine bSe ?_ GE178.out | refine bSe ?_ GE190.out) | exact HB.out)⟩
        ·
         rw [if_neg c47] at H
         exact absurd H (by simp)

end Go.Proofs.Ytjbcgflpeomkfaa.F

namespace Go.Proofs.Ytjbcgflpeomkfaa.F
open Go.RowKit Go.Proofs.YtjbcgflpeomkfaaW.PrintWords Go.Proofs.YtjbcgflpeomkfaaW.PrintLast Go.Proofs.YtjbcgflpeomkfaaW.PrintMore
attribute [local go_sem] max2_int min2_int max_two min_two max_three min_three max_four min_four   -- for this text's walks alone
attribute [local go_sem high] Go.Proofs.Ytjbcgflpeomkfaa.Add.string_leq Go.Proofs.Ytjbcgflpeomkfaa.Add.string_gtr
open Go.Proofs.YtjbcgflpeomkfaaW.PrintWords renaming blk_cell → kCe, blk_frozen → kFr
set_option linter.unusedVariables false
set_option linter.unusedSimpArgs false

/-! ### impl_lastOf: function 37 -/
def impl_lastOf.f (a0_0 : Int) (a0_1 : Int) (a0_2 : Int) (a0_3 : Int) (a0_4 : Int) (a0_5 : Int) (l0_6 : List (S56)) : Option (Int) := some (wrap64 ((wrap64 (a0_0 + (l0_6.length : Int))) - 1))
set_option maxHeartbeats 8000000 in
set_option maxRecDepth 100000 in
theorem impl_lastOf.calls (a0_0 : Int) (a0_1 : Int) (a0_2 : Int) (a0_3 : Int) (a0_4 : Int) (a0_5 : Int) (A0_6 : Option Addr) (c0_6 : Nat) (l0_6 : List (S56)) (r : Int) (w : World) (hr0_6 : Kd.C k56 w A0_6 l0_6.length l0_6) (hc0_6 : l0_6.length ≤ c0_6) (h : impl_lastOf.f a0_0 a0_1 a0_2 a0_3 a0_4 a0_5 l0_6 = some r) :
  Calls Try.prog 37 #[.agg #[.int .i64 a0_0, .int .i64 a0_1, .int .i64 a0_2, .int .i64 a0_3, .int .i64 a0_4, .int .i64 a0_5, .slice A0_6 l0_6.length c0_6]] w fun e w' => e = .returned (.int .i64 r) ∧ Below w.heap.size w w' := by
 have hu29 := Try.underlying29
 have HR0_6 := Aside0.mk hr0_6
 have HC0_6 := Aside0.mk hc0_6
 clear hr0_6 hc0_6
 have HB := Aside0.mk (Below.refl w.heap.size w)
 have H : (some (wrap64 ((wrap64 (a0_0 + (l0_6.length : Int))) - 1))) = some r := h
 clear h
 obtain rfl := Option.some.inj H
 go_enter Try.func37, Try.ntmps37
 go_wp2_with (first | ((with_reducible refine gate_dst (N := 1) rfl ?_); refine box_event ?hg (N := 1) ?hd (cs := #[.int .i64 a0_0, .int .i64 a0_1, .int .i64 a0_2, .int .i64 a0_3, .int .i64 a0_4, .int .i64 a0_5, .slice A0_6 l0_6.length c0_6]) (t := 29) ?hr ?_; (case hd => rfl); (case hg => rfl); (case hr => first | (go_simp; done) | (go_simp; rfl)); intro gb240 hg w2 hbox hb; have n0_ := Aside0.mk (below_step (by repeat (first | (with_reducible first | exact HB.out | apply below_alloc | apply pw_below_drewN | apply below_drew1) | exact HB.out)) hb); have n1_ := Aside0.mk (hbox); have n2_ := Aside0.mk ((by rw [hg]; exact (below_size (by repeat (first | (with_reducible first | exact HB.out | apply below_alloc | apply pw_below_drewN | apply below_drew1) | exact HB.out))) : w.heap.size ≤ gb240)); have n3_ := Aside0.mk ((by rw [hg]; exact (below_size (by repeat (first | (with_reducible first | exact HB.out | apply below_alloc | apply pw_below_drewN | apply below_drew1) | exact HB.out))) : w.heap.size ≤ gb240)); clear HB; have HB := n0_; have BK240 := n1_; have GW240 := n2_; have GE240 := n3_; clear n0_ n1_ n2_ n3_; clear hb hbox hg; have hcz3_0 : w2.cell? ⟨gb240, 0, none⟩ = some (.int .i64 a0_0) := (kCe BK240.out 0).trans rfl; have hcz3_1 : w2.cell? ⟨gb240, 1, none⟩ = some (.int .i64 a0_1) := (kCe BK240.out 1).trans rfl; have hcz3_2 : w2.cell? ⟨gb240, 2, none⟩ = some (.int .i64 a0_2) := (kCe BK240.out 2).trans rfl; have hcz3_3 : w2.cell? ⟨gb240, 3, none⟩ = some (.int .i64 a0_3) := (kCe BK240.out 3).trans rfl; have hcz3_4 : w2.cell? ⟨gb240, 4, none⟩ = some (.int .i64 a0_4) := (kCe BK240.out 4).trans rfl; have hcz3_5 : w2.cell? ⟨gb240, 5, none⟩ = some (.int .i64 a0_5) := (kCe BK240.out 5).trans rfl; have hcz3_6 : w2.cell? ⟨gb240, 6, none⟩ = some (.slice A0_6 l0_6.length c0_6) := (kCe BK240.out 6).trans rfl; have hfz3_0 := kFr BK240.out 0; have hfz3_1 := kFr BK240.out 1; have hfz3_2 := kFr BK240.out 2; have hfz3_3 := kFr BK240.out 3; have hfz3_4 := kFr BK240.out 4; have hfz3_5 := kFr BK240.out 5; have hfz3_6 := kFr BK240.out 6))
 go_ret
 exact ⟨by first | rfl | (simp [errW_none, errW_some] <;> rfl) | (simp [*, errW_none, errW_some] <;> rfl), by repeat (first | (with_reducible first | exact HB.out | apply below_alloc | apply pw_below_drewN | apply below_drew1 | refine below_set ?_ GE240.out) | exact HB.out)⟩

end Go.Proofs.Ytjbcgflpeomkfaa.F

namespace Go.Proofs.Ytjbcgflpeomkfaa.F
open Go.RowKit Go.Proofs.YtjbcgflpeomkfaaW.PrintWords Go.Proofs.YtjbcgflpeomkfaaW.PrintLast Go.Proofs.YtjbcgflpeomkfaaW.PrintMore
attribute [local go_sem] max2_int min2_int max_two min_two max_three min_three max_four min_four   -- for this text's walks alone
attribute [local go_sem high] Go.Proofs.Ytjbcgflpeomkfaa.Add.string_leq Go.Proofs.Ytjbcgflpeomkfaa.Add.string_gtr
open Go.Proofs.YtjbcgflpeomkfaaW.PrintWords renaming pw_below_drewN → bDN, below_drew1 → bD1, below_alloc → bAl, blk_cell → kCe, blk_frozen → kFr
set_option linter.unusedVariables false
set_option linter.unusedSimpArgs false

/-! ### impl_LastOffset: function 15 -/
def impl_LastOffset.f (k : Nat) (a0_0 : Int) (a0_1 : Int) (a0_2 : Int) (a0_3 : Int) (a0_4 : Int) (a0_5 : Int) (l0_6 : List (S56)) : Option (Int) := (impl_BatchOk.f k a0_0 a0_1 a0_2 a0_3 a0_4 a0_5 l0_6).bind fun t242 => (if t242 = true then ((impl_lastOf.f a0_0 a0_1 a0_2 a0_3 a0_4 a0_5 l0_6).bind fun t243 => (some t243)) else (some (-1)))
theorem impl_LastOffset.mono : ∀ a0 a1 a2 a3 a4 a5 a6 k, LeO (impl_LastOffset.f k a0 a1 a2 a3 a4 a5 a6) (impl_LastOffset.f (k + 1) a0 a1 a2 a3 a4 a5 a6) := by
 intro a0 a1 a2 a3 a4 a5 a6 k
 unfold impl_LastOffset.f
 repeat' first
   | (with_reducible exact impl_BatchOk.mono _ _ _ _ _ _ _ _)
   | (with_reducible exact LeO.refl _)
   | (with_reducible exact LeO.none _)
   | (with_reducible refine LeO.ite ?_ ?_)
   | (with_reducible refine LeO.bind ?_ (fun _ => ?_))
   | exact impl_BatchOk.mono _ _ _ _ _ _ _ _
   | exact LeO.none _
   | refine LeO.ite ?_ ?_
   | refine LeO.bind ?_ (fun _ => ?_)
set_option maxHeartbeats 8000000 in
set_option maxRecDepth 100000 in
theorem impl_LastOffset.calls (k : Nat) (a0_0 : Int) (a0_1 : Int) (a0_2 : Int) (a0_3 : Int) (a0_4 : Int) (a0_5 : Int) (A0_6 : Option Addr) (c0_6 : Nat) (l0_6 : List (S56)) (r : Int) (w : World) (hr0_6 : Kd.C k56 w A0_6 l0_6.length l0_6) (hc0_6 : l0_6.length ≤ c0_6) (h : impl_LastOffset.f k a0_0 a0_1 a0_2 a0_3 a0_4 a0_5 l0_6 = some r) :
  Calls Try.prog 15 #[.agg #[.int .i64 a0_0, .int .i64 a0_1, .int .i64 a0_2, .int .i64 a0_3, .int .i64 a0_4, .int .i64 a0_5, .slice A0_6 l0_6.length c0_6]] w fun e w' => e = .returned (.int .i64 r) ∧ Below w.heap.size w w' := by
 have hu29 := Try.underlying29
 have HR0_6 := Aside0.mk hr0_6
 have HC0_6 := Aside0.mk hc0_6
 clear hr0_6 hc0_6
 have HB := Aside0.mk (Below.refl w.heap.size w)
 have H : ((impl_BatchOk.f k a0_0 a0_1 a0_2 a0_3 a0_4 a0_5 l0_6).bind fun t242 => (if t242 = true then ((impl_lastOf.f a0_0 a0_1 a0_2 a0_3 a0_4 a0_5 l0_6).bind fun t243 => (some t243)) else (some (-1)))) = some r := h
 clear h
 replace H := Option.bind_eq_some_iff.mp H
 obtain ⟨t242, A20, H⟩ := H
 have A2 := Aside0.mk A20
 clear A20
 by_cases c3 : t242 = true
 ·
  subst c3
  rw [if_pos rfl] at H
  replace H := Option.bind_eq_some_iff.mp H
  obtain ⟨t243, A40, H⟩ := H
  have A4 := Aside0.mk A40
  clear A40
  obtain rfl := Option.some.inj H
  go_enter Try.func15, Try.ntmps15
  go_wp2_with (first | ((with_reducible refine gate_dst (N := 1) rfl ?_); refine box_event ?hg (N := 1) ?hd (cs := #[.int .i64 a0_0, .int .i64 a0_1, .int .i64 a0_2, .int .i64 a0_3, .int .i64 a0_4, .int .i64 a0_5, .slice A0_6 l0_6.length c0_6]) (t := 29) ?hr ?_; (case hd => rfl); (case hg => rfl); (case hr => first | (go_simp; done) | (go_simp; rfl)); intro gb241 hg w5 hbox hb; have n0_ := Aside0.mk (below_step (by repeat (first | (with_reducible first | exact HB.out | apply bAl | apply bDN | apply bD1) | exact HB.out)) hb); have n1_ := Aside0.mk (hbox); have n2_ := Aside0.mk ((by rw [hg]; exact (below_size (by repeat (first | (with_reducible first | exact HB.out | apply bAl | apply bDN | apply bD1) | exact HB.out))) : w.heap.size ≤ gb241)); have n3_ := Aside0.mk ((by rw [hg]; exact (below_size (by repeat (first | (with_reducible first | exact HB.out | apply bAl | apply bDN | apply bD1) | exact HB.out))) : w.heap.size ≤ gb241)); clear HB; have HB := n0_; have BK241 := n1_; have GW241 := n2_; have GE241 := n3_; clear n0_ n1_ n2_ n3_; clear hb hbox hg; have hcz6_0 : w5.cell? ⟨gb241, 0, none⟩ = some (.int .i64 a0_0) := (kCe BK241.out 0).trans rfl; have hcz6_1 : w5.cell? ⟨gb241, 1, none⟩ = some (.int .i64 a0_1) := (kCe BK241.out 1).trans rfl; have hcz6_2 : w5.cell? ⟨gb241, 2, none⟩ = some (.int .i64 a0_2) := (kCe BK241.out 2).trans rfl; have hcz6_3 : w5.cell? ⟨gb241, 3, none⟩ = some (.int .i64 a0_3) := (kCe BK241.out 3).trans rfl; have hcz6_4 : w5.cell? ⟨gb241, 4, none⟩ = some (.int .i64 a0_4) := (kCe BK241.out 4).trans rfl; have hcz6_5 : w5.cell? ⟨gb241, 5, none⟩ = some (.int .i64 a0_5) := (kCe BK241.out 5).trans rfl; have hcz6_6 : w5.cell? ⟨gb241, 6, none⟩ = some (.slice A0_6 l0_6.length c0_6) := (kCe BK241.out 6).trans rfl; have hfz6_0 := kFr BK241.out 0; have hfz6_1 := kFr BK241.out 1; have hfz6_2 := kFr BK241.out 2; have hfz6_3 := kFr BK241.out 3; have hfz6_4 := kFr BK241.out 4; have hfz6_5 := kFr BK241.out 5; have hfz6_6 := kFr BK241.out 6) | ((with_reducible refine gate_callee (f := 12) rfl ?_); refine goesL_ (some 4) rfl rfl Try.func12 (by kernel_rfl) rfl #[.agg #[.int .i64 a0_0, .int .i64 a0_1, .int .i64 a0_2, .int .i64 a0_3, .int .i64 a0_4, .int .i64 a0_5, .slice A0_6 l0_6.length c0_6]] rfl (by (try simp only [List.map_toArray, List.map_cons, List.map_nil]); first | done | rfl | (simp only [List.length_drop, List.length_take]; rfl)) ?_; (with_reducible refine (impl_BatchOk.calls k a0_0 a0_1 a0_2 a0_3 a0_4 a0_5 _ _ l0_6 true _ ?side1 ?side2 A2.out).mono ?_); (case side1 => repeat (first | exact (Kd.C_below HR0_6.out HB.out) | (with_reducible refine Kd.C_alloc ?_ _) | (with_reducible refine Kd.C_drewN ?_ _) | (with_reducible refine Kd.C_drew ?_))); (case side2 => exact HC0_6.out); rintro e w7 ⟨rfl, hb⟩; refine ⟨_, rfl, ?_⟩; have n0_ := Aside0.mk (blk_below (g := gb241) (o := .cells #[.int .i64 a0_0, .int .i64 a0_1, .int .i64 a0_2, .int .i64 a0_3, .int .i64 a0_4, .int .i64 a0_5, .slice A0_6 l0_6.length c0_6] 29 (0, 0)) (by (with_reducible repeat (first | refine blk_drewN ?_ _ | refine blk_drew ?_ | refine blk_alloc ?_ _)); exact BK241.out) hb); have n1_ := Aside0.mk (below_step (by repeat (first | (with_reducible first | exact HB.out | apply bAl | apply bDN | apply bD1 | refine below_set ?_ GE241.out) | exact HB.out)) hb); clear BK241; clear HB; have BK241 := n0_; have HB := n1_; clear n0_ n1_; (try clear hb); (try clear hb2); (try clear hk); (try clear hi); have hcz8_0 : w7.cell? ⟨gb241, 0, none⟩ = some (.int .i64 a0_0) := (kCe BK241.out 0).trans rfl; have hcz8_1 : w7.cell? ⟨gb241, 1, none⟩ = some (.int .i64 a0_1) := (kCe BK241.out 1).trans rfl; have hcz8_2 : w7.cell? ⟨gb241, 2, none⟩ = some (.int .i64 a0_2) := (kCe BK241.out 2).trans rfl; have hcz8_3 : w7.cell? ⟨gb241, 3, none⟩ = some (.int .i64 a0_3) := (kCe BK241.out 3).trans rfl; have hcz8_4 : w7.cell? ⟨gb241, 4, none⟩ = some (.int .i64 a0_4) := (kCe BK241.out 4).trans rfl; have hcz8_5 : w7.cell? ⟨gb241, 5, none⟩ = some (.int .i64 a0_5) := (kCe BK241.out 5).trans rfl; have hcz8_6 : w7.cell? ⟨gb241, 6, none⟩ = some (.slice A0_6 l0_6.length c0_6) := (kCe BK241.out 6).trans rfl; have hfz8_0 := kFr BK241.out 0; have hfz8_1 := kFr BK241.out 1; have hfz8_2 := kFr BK241.out 2; have hfz8_3 := kFr BK241.out 3; have hfz8_4 := kFr BK241.out 4; have hfz8_5 := kFr BK241.out 5; have hfz8_6 := kFr BK241.out 6) | ((with_reducible refine gate_callee (f := 37) rfl ?_); refine goesL_ (some 7) rfl rfl Try.func37 (by kernel_rfl) rfl #[.agg #[.int .i64 a0_0, .int .i64 a0_1, .int .i64 a0_2, .int .i64 a0_3, .int .i64 a0_4, .int .i64 a0_5, .slice A0_6 l0_6.length c0_6]] rfl (by (try simp only [List.map_toArray, List.map_cons, List.map_nil]); first | done | rfl | (simp only [List.length_drop, List.length_take]; rfl)) ?_; (with_reducible refine (impl_lastOf.calls a0_0 a0_1 a0_2 a0_3 a0_4 a0_5 _ _ l0_6 t243 _ ?side1 ?side2 A4.out).mono ?_); (case side1 => repeat (first | exact (Kd.C_below HR0_6.out HB.out) | (with_reducible refine Kd.C_alloc ?_ _) | (with_reducible refine Kd.C_drewN ?_ _) | (with_reducible refine Kd.C_drew ?_))); (case side2 => exact HC0_6.out); rintro e w9 ⟨rfl, hb⟩; refine ⟨_, rfl, ?_⟩; have n0_ := Aside0.mk (blk_below (g := gb241) (o := .cells #[.int .i64 a0_0, .int .i64 a0_1, .int .i64 a0_2, .int .i64 a0_3, .int .i64 a0_4, .int .i64 a0_5, .slice A0_6 l0_6.length c0_6] 29 (0, 0)) (by (with_reducible repeat (first | refine blk_drewN ?_ _ | refine blk_drew ?_ | refine blk_alloc ?_ _)); exact BK241.out) hb); have n1_ := Aside0.mk (below_step (by repeat (first | (with_reducible first | exact HB.out | apply bAl | apply bDN | apply bD1 | refine below_set ?_ GE241.out) | exact HB.out)) hb); clear BK241; clear HB; have BK241 := n0_; have HB := n1_; clear n0_ n1_; (try clear hb); (try clear hb2); (try clear hk); (try clear hi)))
  go_ret
  exact ⟨by first | rfl | (simp [errW_none, errW_some] <;> rfl) | (simp [*, errW_none, errW_some] <;> rfl), by repeat (first | (with_reducible first | exact HB.out | apply bAl | apply bDN | apply bD1 | refine below_set ?_ GE241.out) | exact HB.out)⟩
 ·
  replace c3 := Bool.eq_false_iff.mpr c3
  subst c3
  rw [if_neg (show ¬ (false = true) by decide)] at H
  obtain rfl := Option.some.inj H
  go_enter Try.func15, Try.ntmps15
  go_wp2_with (first | ((with_reducible refine gate_dst (N := 1) rfl ?_); refine box_event ?hg (N := 1) ?hd (cs := #[.int .i64 a0_0, .int .i64 a0_1, .int .i64 a0_2, .int .i64 a0_3, .int .i64 a0_4, .int .i64 a0_5, .slice A0_6 l0_6.length c0_6]) (t := 29) ?hr ?_; (case hd => rfl); (case hg => rfl); (case hr => first | (go_simp; done) | (go_simp; rfl)); intro gb241 hg w10 hbox hb; have n0_ := Aside0.mk (below_step (by repeat (first | (with_reducible first | exact HB.out | apply bAl | apply bDN | apply bD1) | exact HB.out)) hb); have n1_ := Aside0.mk (hbox); have n2_ := Aside0.mk ((by rw [hg]; exact (below_size (by repeat (first | (with_reducible first | exact HB.out | apply bAl | apply bDN | apply bD1) | exact HB.out))) : w.heap.size ≤ gb241)); have n3_ := Aside0.mk ((by rw [hg]; exact (below_size (by repeat (first | (with_reducible first | exact HB.out | apply bAl | apply bDN | apply bD1) | exact HB.out))) : w.heap.size ≤ gb241)); clear HB; have HB := n0_; have BK241 := n1_; have GW241 := n2_; have GE241 := n3_; clear n0_ n1_ n2_ n3_; clear hb hbox hg; have hcz11_0 : w10.cell? ⟨gb241, 0, none⟩ = some (.int .i64 a0_0) := (kCe BK241.out 0).trans rfl; have hcz11_1 : w10.cell? ⟨gb241, 1, none⟩ = some (.int .i64 a0_1) := (kCe BK241.out 1).trans rfl; have hcz11_2 : w10.cell? ⟨gb241, 2, none⟩ = some (.int .i64 a0_2) := (kCe BK241.out 2).trans rfl; have hcz11_3 : w10.cell? ⟨gb241, 3, none⟩ = some (.int .i64 a0_3) := (kCe BK241.out 3).trans rfl; have hcz11_4 : w10.cell? ⟨gb241, 4, none⟩ = some (.int .i64 a0_4) := (kCe BK241.out 4).trans rfl; have hcz11_5 : w10.cell? ⟨gb241, 5, none⟩ = some (.int .i64 a0_5) := (kCe BK241.out 5).trans rfl; have hcz11_6 : w10.cell? ⟨gb241, 6, none⟩ = some (.slice A0_6 l0_6.length c0_6) := (kCe BK241.out 6).trans rfl; have hfz11_0 := kFr BK241.out 0; have hfz11_1 := kFr BK241.out 1; have hfz11_2 := kFr BK241.out 2; have hfz11_3 := kFr BK241.out 3; have hfz11_4 := kFr BK241.out 4; have hfz11_5 := kFr BK241.out 5; have hfz11_6 := kFr BK241.out 6) | ((with_reducible refine gate_callee (f := 12) rfl ?_); refine goesL_ (some 4) rfl rfl Try.func12 (by kernel_rfl) rfl #[.agg #[.int .i64 a0_0, .int .i64 a0_1, .int .i64 a0_2, .int .i64 a0_3, .int .i64 a0_4, .int .i64 a0_5, .slice A0_6 l0_6.length c0_6]] rfl (by (try simp only [List.map_toArray, List.map_cons, List.map_nil]); first | done | rfl | (simp only [List.length_drop, List.length_take]; rfl)) ?_; (with_reducible refine (impl_BatchOk.calls k a0_0 a0_1 a0_2 a0_3 a0_4 a0_5 _ _ l0_6 false _ ?side1 ?side2 A2.out).mono ?_); (case side1 => repeat (first | exact (Kd.C_below HR0_6.out HB.out) | (with_reducible refine Kd.C_alloc ?_ _) | (with_reducible refine Kd.C_drewN ?_ _) | (with_reducible refine Kd.C_drew ?_))); (case side2 => exact HC0_6.out); rintro e w12 ⟨rfl, hb⟩; refine ⟨_, rfl, ?_⟩; have n0_ := Aside0.mk (blk_below (g := gb241) (o := .cells #[.int .i64 a0_0, .int .i64 a0_1, .int .i64 a0_2, .int .i64 a0_3, .int .i64 a0_4, .int .i64 a0_5, .slice A0_6 l0_6.length c0_6] 29 (0, 0)) (by (with_reducible repeat (first | refine blk_drewN ?_ _ | refine blk_drew ?_ | refine blk_alloc ?_ _)); exact BK241.out) hb); have n1_ := Aside0.mk (below_step (by repeat (first | (with_reducible first | exact HB.out | apply bAl | apply bDN | apply bD1 | refine below_set ?_ GE241.out) | exact HB.out)) hb); clear BK241; clear HB; have BK241 := n0_; have HB := n1_; clear n0_ n1_; (try clear hb); (try clear hb2); (try clear hk); (try clear hi)))
  go_ret
  exact ⟨by first | rfl | (simp [errW_none, errW_some] <;> rfl) | (simp [*, errW_none, errW_some] <;> rfl), by repeat (first | (with_reducible first | exact HB.out | apply bAl | apply bDN | apply bD1 | refine below_set ?_ GE241.out) | exact HB.out)⟩

end Go.Proofs.Ytjbcgflpeomkfaa.F
