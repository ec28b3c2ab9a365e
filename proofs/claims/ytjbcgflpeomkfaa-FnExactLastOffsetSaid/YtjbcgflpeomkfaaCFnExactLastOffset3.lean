/-
FnExactLastOffset: for every batch the law answers true: the program's LastOffset answers as the reference's, and leaves its argument as it was.
Conditions: none beyond the statement's own.
(Part 3 of 5.)
-/
import Derived.Test.YtjbcgflpeomkfaaCFnExactLastOffset2
namespace Go.Proofs.Ytjbcgflpeomkfaa.F
open Go.RowKit Go.Proofs.YtjbcgflpeomkfaaW.PrintWords Go.Proofs.YtjbcgflpeomkfaaW.PrintLast Go.Proofs.YtjbcgflpeomkfaaW.PrintMore
attribute [local go_sem] max2_int min2_int max_two min_two max_three min_three max_four min_four   -- for this text's walks alone
attribute [local go_sem high] Go.Proofs.Ytjbcgflpeomkfaa.Add.string_leq Go.Proofs.Ytjbcgflpeomkfaa.Add.string_gtr
open Go.Proofs.YtjbcgflpeomkfaaW.PrintWords renaming pw_below_drewN → bDN, below_drew1 → bD1, below_alloc → bAl, blk_drewN → kDN, blk_drew → kDr, blk_alloc → kAl, below_set → bSe, below_size → bSz, below_step → bSt, blk_cell → kCe, blk_frozen → kFr, blk_below → kBe, gate_dst → gDs, box_event → bEv
set_option linter.unusedVariables false
set_option linter.unusedSimpArgs false

/-! ### laws_eqBatch: function 13 -/
def laws_eqBatch.f (k : Nat) (a0_0 : Int) (a0_1 : Int) (a0_2 : Int) (a0_3 : Int) (a0_4 : Int) (a0_5 : Int) (l0_6 : List (S56)) (a1_0 : Int) (a1_1 : Int) (a1_2 : Int) (a1_3 : Int) (a1_4 : Int) (a1_5 : Int) (l1_6 : List (S56)) : Option (Bool) := if a0_0 = a1_0 then (if a0_1 = a1_1 then (if a0_2 = a1_2 then (if a0_3 = a1_3 then (if a0_4 = a1_4 then (if a0_5 = a1_5 then ((laws_eqRecordS.f k l0_6 l1_6).bind fun t204 => (if t204 = true then (some true) else (some false))) else (some false)) else (some false)) else (some false)) else (some false)) else (some false)) else (some false)
theorem laws_eqBatch.mono : ∀ a0 a1 a2 a3 a4 a5 a6 a7 a8 a9 a10 a11 a12 a13 k, LeO (laws_eqBatch.f k a0 a1 a2 a3 a4 a5 a6 a7 a8 a9 a10 a11 a12 a13) (laws_eqBatch.f (k + 1) a0 a1 a2 a3 a4 a5 a6 a7 a8 a9 a10 a11 a12 a13) := by
 intro a0 a1 a2 a3 a4 a5 a6 a7 a8 a9 a10 a11 a12 a13 k
 unfold laws_eqBatch.f
 repeat' first
   | (with_reducible exact laws_eqRecordS.mono _ _ _)
   | (with_reducible exact LeO.refl _)
   | (with_reducible exact LeO.none _)
   | (with_reducible refine LeO.ite ?_ ?_)
   | (with_reducible refine LeO.bind ?_ (fun _ => ?_))
   | exact laws_eqRecordS.mono _ _ _
   | exact LeO.none _
   | refine LeO.ite ?_ ?_
   | refine LeO.bind ?_ (fun _ => ?_)
set_option maxHeartbeats 8000000 in
set_option maxRecDepth 100000 in
theorem laws_eqBatch.calls (k : Nat) (a0_0 : Int) (a0_1 : Int) (a0_2 : Int) (a0_3 : Int) (a0_4 : Int) (a0_5 : Int) (A0_6 : Option Addr) (c0_6 : Nat) (l0_6 : List (S56)) (a1_0 : Int) (a1_1 : Int) (a1_2 : Int) (a1_3 : Int) (a1_4 : Int) (a1_5 : Int) (A1_6 : Option Addr) (c1_6 : Nat) (l1_6 : List (S56)) (r : Bool) (w : World) (hr0_6 : Kd.C k56 w A0_6 l0_6.length l0_6) (hc0_6 : l0_6.length ≤ c0_6) (hr1_6 : Kd.C k56 w A1_6 l1_6.length l1_6) (hc1_6 : l1_6.length ≤ c1_6) (h : laws_eqBatch.f k a0_0 a0_1 a0_2 a0_3 a0_4 a0_5 l0_6 a1_0 a1_1 a1_2 a1_3 a1_4 a1_5 l1_6 = some r) :
  Calls Try.prog 13 #[.agg #[.int .i64 a0_0, .int .i64 a0_1, .int .i64 a0_2, .int .i64 a0_3, .int .i64 a0_4, .int .i64 a0_5, .slice A0_6 l0_6.length c0_6], .agg #[.int .i64 a1_0, .int .i64 a1_1, .int .i64 a1_2, .int .i64 a1_3, .int .i64 a1_4, .int .i64 a1_5, .slice A1_6 l1_6.length c1_6]] w fun e w' => e = .returned (.bool r) ∧ Below w.heap.size w w' := by
 have hu29 := Try.underlying29
 have HR0_6 := Aside0.mk hr0_6
 have HC0_6 := Aside0.mk hc0_6
 clear hr0_6 hc0_6
 have HR1_6 := Aside0.mk hr1_6
 have HC1_6 := Aside0.mk hc1_6
 clear hr1_6 hc1_6
 have HB := Aside0.mk (Below.refl w.heap.size w)
 have H : (if a0_0 = a1_0 then (if a0_1 = a1_1 then (if a0_2 = a1_2 then (if a0_3 = a1_3 then (if a0_4 = a1_4 then (if a0_5 = a1_5 then ((laws_eqRecordS.f k l0_6 l1_6).bind fun t204 => (if t204 = true then (some true) else (some false))) else (some false)) else (some false)) else (some false)) else (some false)) else (some false)) else (some false)) = some r := h
 clear h
 by_cases c3 : a0_0 = a1_0
 ·
  rw [if_pos c3] at H
  have c3b0 : (a0_0 == a1_0) = true := beq_iff_eq.mpr c3
  have c3b1 : (a0_0 != a1_0) = false := bne_eq_false_iff_eq.mpr c3
  clear c3
  by_cases c4 : a0_1 = a1_1
  ·
   rw [if_pos c4] at H
   have c4b0 : (a0_1 == a1_1) = true := beq_iff_eq.mpr c4
   have c4b1 : (a0_1 != a1_1) = false := bne_eq_false_iff_eq.mpr c4
   clear c4
   by_cases c5 : a0_2 = a1_2
   ·
    rw [if_pos c5] at H
    have c5b0 : (a0_2 == a1_2) = true := beq_iff_eq.mpr c5
    have c5b1 : (a0_2 != a1_2) = false := bne_eq_false_iff_eq.mpr c5
    clear c5
    by_cases c6 : a0_3 = a1_3
    ·
     rw [if_pos c6] at H
     have c6b0 : (a0_3 == a1_3) = true := beq_iff_eq.mpr c6
     have c6b1 : (a0_3 != a1_3) = false := bne_eq_false_iff_eq.mpr c6
     clear c6
     by_cases c7 : a0_4 = a1_4
     ·
      rw [if_pos c7] at H
      have c7b0 : (a0_4 == a1_4) = true := beq_iff_eq.mpr c7
      have c7b1 : (a0_4 != a1_4) = false := bne_eq_false_iff_eq.mpr c7
      clear c7
      by_cases c8 : a0_5 = a1_5
      ·
       rw [if_pos c8] at H
       have c8b0 : (a0_5 == a1_5) = true := beq_iff_eq.mpr c8
       have c8b1 : (a0_5 != a1_5) = false := bne_eq_false_iff_eq.mpr c8
       clear c8
       replace H := Option.bind_eq_some_iff.mp H
       obtain ⟨t204, A90, H⟩ := H
       have A9 := Aside0.mk A90
       clear A90
       by_cases c10 : t204 = true
       ·
        subst c10
        rw [if_pos rfl] at H
        obtain rfl := Option.some.inj H
        go_enter Try.func13, Try.ntmps13
        go_wp2_with (first | ((with_reducible refine gDs (N := 2) rfl ?_); refine bEv ?hg (N := 2) ?hd (cs := #[.int .i64 a0_0, .int .i64 a0_1, .int .i64 a0_2, .int .i64 a0_3, .int .i64 a0_4, .int .i64 a0_5, .slice A0_6 l0_6.length c0_6]) (t := 29) ?hr ?_; (case hd => rfl); (case hg => rfl); (case hr => first | (go_simp; done) | (go_simp; rfl)); intro gb202 hg w11 hbox hb; have n0_ := Aside0.mk (bSt (by repeat (first | (with_reducible first | exact HB.out | apply bAl | apply bDN | apply bD1) | exact HB.out)) hb); have n1_ := Aside0.mk (hbox); have n2_ := Aside0.mk ((by rw [hg]; exact (bSz (by repeat (first | (with_reducible first | exact HB.out | apply bAl | apply bDN | apply bD1) | exact HB.out))) : w.heap.size ≤ gb202)); have n3_ := Aside0.mk ((by rw [hg]; exact (bSz (by repeat (first | (with_reducible first | exact HB.out | apply bAl | apply bDN | apply bD1) | exact HB.out))) : w.heap.size ≤ gb202)); clear HB; have HB := n0_; have BK202 := n1_; have GW202 := n2_; have GE202 := n3_; clear n0_ n1_ n2_ n3_; clear hb hbox hg) | ((with_reducible refine gDs (N := 3) rfl ?_); refine bEv ?hg (N := 3) ?hd (cs := #[.int .i64 a1_0, .int .i64 a1_1, .int .i64 a1_2, .int .i64 a1_3, .int .i64 a1_4, .int .i64 a1_5, .slice A1_6 l1_6.length c1_6]) (t := 29) ?hr ?_; (case hd => rfl); (case hg => rfl); (case hr => first | (go_simp; done) | (go_simp; rfl)); intro gb203 hg w12 hbox hb; have n0_ := Aside0.mk (kBe (g := gb202) (o := .cells #[.int .i64 a0_0, .int .i64 a0_1, .int .i64 a0_2, .int .i64 a0_3, .int .i64 a0_4, .int .i64 a0_5, .slice A0_6 l0_6.length c0_6] 29 (0, 0)) (by (with_reducible repeat first | refine kDN ?_ _ | refine kDr ?_ | refine kAl ?_ _); exact BK202.out) hb); have n1_ := Aside0.mk (bSt (by repeat (first | (with_reducible first | exact HB.out | apply bAl | apply bDN | apply bD1 | refine bSe ?_ GE202.out) | exact HB.out)) hb); have n2_ := Aside0.mk (hbox); have n3_ := Aside0.mk ((by rw [hg]; exact (bSz (by repeat (first | (with_reducible first | exact HB.out | apply bAl | apply bDN | apply bD1 | refine bSe ?_ GE202.out) | exact HB.out))) : w.heap.size ≤ gb203)); have n4_ := Aside0.mk ((by rw [hg]; exact (bSz (by repeat (first | (with_reducible first | exact HB.out | apply bAl | apply bDN | apply bD1 | refine bSe ?_ GE202.out) | exact HB.out))) : w.heap.size ≤ gb203)); have n5_ := Aside0.mk ((by rw [hg]; exact Nat.ne_of_lt (blk_lt (g := gb202) (o := .cells #[.int .i64 a0_0, .int .i64 a0_1, .int .i64 a0_2, .int .i64 a0_3, .int .i64 a0_4, .int .i64 a0_5, .slice A0_6 l0_6.length c0_6] 29 (0, 0)) (by (with_reducible repeat first | refine kDN ?_ _ | refine kDr ?_ | refine kAl ?_ _); exact BK202.out)) : gb202 ≠ gb203)); have n6_ := Aside0.mk ((by rw [hg]; exact Nat.ne_of_gt (blk_lt (g := gb202) (o := .cells #[.int .i64 a0_0, .int .i64 a0_1, .int .i64 a0_2, .int .i64 a0_3, .int .i64 a0_4, .int .i64 a0_5, .slice A0_6 l0_6.length c0_6] 29 (0, 0)) (by (with_reducible repeat first | refine kDN ?_ _ | refine kDr ?_ | refine kAl ?_ _); exact BK202.out)) : gb203 ≠ gb202)); clear BK202; clear HB; have BK202 := n0_; have HB := n1_; have BK203 := n2_; have GW203 := n3_; have GE203 := n4_; have NB202_203 := n5_; have NB203_202 := n6_; clear n0_ n1_ n2_ n3_ n4_ n5_ n6_; clear hb hbox hg; have hnb13 := NB202_203.out; have hnc13 := NB203_202.out; have hcz14_0 : w12.cell? ⟨gb202, 0, none⟩ = some (.int .i64 a0_0) := (kCe BK202.out 0).trans rfl; have hcz14_1 : w12.cell? ⟨gb202, 1, none⟩ = some (.int .i64 a0_1) := (kCe BK202.out 1).trans rfl; have hcz14_2 : w12.cell? ⟨gb202, 2, none⟩ = some (.int .i64 a0_2) := (kCe BK202.out 2).trans rfl; have hcz14_3 : w12.cell? ⟨gb202, 3, none⟩ = some (.int .i64 a0_3) := (kCe BK202.out 3).trans rfl; have hcz14_4 : w12.cell? ⟨gb202, 4, none⟩ = some (.int .i64 a0_4) := (kCe BK202.out 4).trans rfl; have hcz14_5 : w12.cell? ⟨gb202, 5, none⟩ = some (.int .i64 a0_5) := (kCe BK202.out 5).trans rfl; have hcz14_6 : w12.cell? ⟨gb202, 6, none⟩ = some (.slice A0_6 l0_6.length c0_6) := (kCe BK202.out 6).trans rfl; have hfz14_0 := kFr BK202.out 0; have hfz14_1 := kFr BK202.out 1; have hfz14_2 := kFr BK202.out 2; have hfz14_3 := kFr BK202.out 3; have hfz14_4 := kFr BK202.out 4; have hfz14_5 := kFr BK202.out 5; have hfz14_6 := kFr BK202.out 6; have hcz15_0 : w12.cell? ⟨gb203, 0, none⟩ = some (.int .i64 a1_0) := (kCe BK203.out 0).trans rfl; have hcz15_1 : w12.cell? ⟨gb203, 1, none⟩ = some (.int .i64 a1_1) := (kCe BK203.out 1).trans rfl; have hcz15_2 : w12.cell? ⟨gb203, 2, none⟩ = some (.int .i64 a1_2) := (kCe BK203.out 2).trans rfl; have hcz15_3 : w12.cell? ⟨gb203, 3, none⟩ = some (.int .i64 a1_3) := (kCe BK203.out 3).trans rfl; have hcz15_4 : w12.cell? ⟨gb203, 4, none⟩ = some (.int .i64 a1_4) := (kCe BK203.out 4).trans rfl; have hcz15_5 : w12.cell? ⟨gb203, 5, none⟩ = some (.int .i64 a1_5) := (kCe BK203.out 5).trans rfl; have hcz15_6 : w12.cell? ⟨gb203, 6, none⟩ = some (.slice A1_6 l1_6.length c1_6) := (kCe BK203.out 6).trans rfl; have hfz15_0 := kFr BK203.out 0; have hfz15_1 := kFr BK203.out 1; have hfz15_2 := kFr BK203.out 2; have hfz15_3 := kFr BK203.out 3; have hfz15_4 := kFr BK203.out 4; have hfz15_5 := kFr BK203.out 5; have hfz15_6 := kFr BK203.out 6) | ((with_reducible refine gate_callee (f := 36) rfl ?_); refine goesL_ (some 39) rfl rfl Try.func36 (by kernel_rfl) rfl #[.slice A0_6 l0_6.length c0_6, .slice A1_6 l1_6.length c1_6] rfl (by (try simp only [List.map_toArray, List.map_cons, List.map_nil]); first | done | rfl | (simp only [List.length_drop, List.length_take]; rfl)) ?_; (with_reducible refine (laws_eqRecordS.calls k _ _ l0_6 _ _ l1_6 true _ ?side1 ?side2 ?side3 ?side4 A9.out).mono ?_); (case side1 => repeat (first | exact (Kd.C_below HR0_6.out HB.out) | (with_reducible refine Kd.C_alloc ?_ _) | (with_reducible refine Kd.C_drewN ?_ _) | (with_reducible refine Kd.C_drew ?_))); (case side2 => exact HC0_6.out); (case side3 => repeat (first | exact (Kd.C_below HR1_6.out HB.out) | (with_reducible refine Kd.C_alloc ?_ _) | (with_reducible refine Kd.C_drewN ?_ _) | (with_reducible refine Kd.C_drew ?_))); (case side4 => exact HC1_6.out); rintro e w16 ⟨rfl, hb⟩; refine ⟨_, rfl, ?_⟩; have n0_ := Aside0.mk (kBe (g := gb202) (o := .cells #[.int .i64 a0_0, .int .i64 a0_1, .int .i64 a0_2, .int .i64 a0_3, .int .i64 a0_4, .int .i64 a0_5, .slice A0_6 l0_6.length c0_6] 29 (0, 0)) (by (with_reducible repeat first | refine kDN ?_ _ | refine kDr ?_ | refine kAl ?_ _); exact BK202.out) hb); have n1_ := Aside0.mk (kBe (g := gb203) (o := .cells #[.int .i64 a1_0, .int .i64 a1_1, .int .i64 a1_2, .int .i64 a1_3, .int .i64 a1_4, .int .i64 a1_5, .slice A1_6 l1_6.length c1_6] 29 (0, 0)) (by (with_reducible repeat first | refine kDN ?_ _ | refine kDr ?_ | refine kAl ?_ _); exact BK203.out) hb); have n2_ := Aside0.mk (bSt (by repeat (first | (with_reducible first | exact HB.out | apply bAl | apply bDN | apply bD1 | refine bSe ?_ GE202.out | refine bSe ?_ GE203.out) | exact HB.out)) hb); clear BK202; clear BK203; clear HB; have BK202 := n0_; have BK203 := n1_; have HB := n2_; clear n0_ n1_ n2_; (try clear hb); (try clear hb2); (try clear hk); (try clear hi)))
        go_ret
        exact ⟨by first | rfl | (simp [errW_none, errW_some] <;> rfl) | (simp [*, errW_none, errW_some] <;> rfl), by repeat (first | (with_reducible first | exact HB.out | apply bAl | apply bDN | apply bD1 | refine bSe ?_ GE202.out | refine bSe ?_ GE203.out) | exact HB.out)⟩
       ·
        replace c10 := Bool.eq_false_iff.mpr c10
        subst c10
        rw [if_neg (show ¬ (false = true) by decide)] at H
        obtain rfl := Option.some.inj H
        go_enter Try.func13, Try.ntmps13
        go_wp2_with (first | ((with_reducible refine gDs (N := 2) rfl ?_); refine bEv ?hg (N := 2) ?hd (cs := #[.int .i64 a0_0, .int .i64 a0_1, .int .i64 a0_2, .int .i64 a0_3, .int .i64 a0_4, .int .i64 a0_5, .slice A0_6 l0_6.length c0_6]) (t := 29) ?hr ?_; (case hd => rfl); (case hg => rfl); (case hr => first | (go_simp; done) | (go_simp; rfl)); intro gb202 hg w17 hbox hb; have n0_ := Aside0.mk (bSt (by repeat (first | (with_reducible first | exact HB.out | apply bAl | apply bDN | apply bD1) | exact HB.out)) hb); have n1_ := Aside0.mk (hbox); have n2_ := Aside0.mk ((by rw [hg]; exact (bSz (by repeat (first | (with_reducible first | exact HB.out | apply bAl | apply bDN | apply bD1) | exact HB.out))) : w.heap.size ≤ gb202)); have n3_ := Aside0.mk ((by rw [hg]; exact (bSz (by repeat (first | (with_reducible first | exact HB.out | apply bAl | apply bDN | apply bD1) | exact HB.out))) : w.heap.size ≤ gb202)); clear HB; have HB := n0_; have BK202 := n1_; have GW202 := n2_; have GE202 := n3_; clear n0_ n1_ n2_ n3_; clear hb hbox hg) | ((with_reducible refine gDs (N := 3) rfl ?_); refine bEv ?hg (N := 3) ?hd (cs := #[.int .i64 a1_0, .int .i64 a1_1, .int .i64 a1_2, .int .i64 a1_3, .int .i64 a1_4, .int .i64 a1_5, .slice A1_6 l1_6.length c1_6]) (t := 29) ?hr ?_; (case hd => rfl); (case hg => rfl); (case hr => first | (go_simp; done) | (go_simp; rfl)); intro gb203 hg w18 hbox hb; have n0_ := Aside0.mk (kBe (g := gb202) (o := .cells #[.int .i64 a0_0, .int .i64 a0_1, .int .i64 a0_2, .int .i64 a0_3, .int .i64 a0_4, .int .i64 a0_5, .slice A0_6 l0_6.length c0_6] 29 (0, 0)) (by (with_reducible repeat first | refine kDN ?_ _ | refine kDr ?_ | refine kAl ?_ _); exact BK202.out) hb); have n1_ := Aside0.mk (bSt (by repeat (first | (with_reducible first | exact HB.out | apply bAl | apply bDN | apply bD1 | refine bSe ?_ GE202.out) | exact HB.out)) hb); have n2_ := Aside0.mk (hbox); have n3_ := Aside0.mk ((by rw [hg]; exact (bSz (by repeat (first | (with_reducible first | exact HB.out | apply bAl | apply bDN | apply bD1 | refine bSe ?_ GE202.out) | exact HB.out))) : w.heap.size ≤ gb203)); have n4_ := Aside0.mk ((by rw [hg]; exact (bSz (by repeat (first | (with_reducible first | exact HB.out | apply bAl | apply bDN | apply bD1 | refine bSe ?_ GE202.out) | exact HB.out))) : w.heap.size ≤ gb203)); have n5_ := Aside0.mk ((by rw [hg]; exact Nat.ne_of_lt (blk_lt (g := gb202) (o := .cells #[.int .i64 a0_0, .int .i64 a0_1, .int .i64 a0_2, .int .i64 a0_3, .int .i64 a0_4, .int .i64 a0_5, .slice A0_6 l0_6.length c0_6] 29 (0, 0)) (by (with_reducible repeat first | refine kDN ?_ _ | refine kDr ?_ | refine kAl ?_ _); exact BK202.out)) : gb202 ≠ gb203)); have n6_ := Aside0.mk ((by rw [hg]; exact Nat.ne_of_gt (blk_lt (g := gb202) (o := .cells #[.int .i64 a0_0, .int .i64 a0_1, .int .i64 a0_2, .int .i64 a0_3, .int .i64 a0_4, .int .i64 a0_5, .slice A0_6 l0_6.length c0_6] 29 (0, 0)) (by (with_reducible repeat first | refine kDN ?_ _ | refine kDr ?_ | refine kAl ?_ _); exact BK202.out)) : gb203 ≠ gb202)); clear BK202; clear HB; have BK202 := n0_; have HB := n1_; have BK203 := n2_; have GW203 := n3_; have GE203 := n4_; have NB202_203 := n5_; have NB203_202 := n6_; clear n0_ n1_ n2_ n3_ n4_ n5_ n6_; clear hb hbox hg; have hnb19 := NB202_203.out; have hnc19 := NB203_202.out; have hcz20_0 : w18.cell? ⟨gb202, 0, none⟩ = some (.int .i64 a0_0) := (kCe BK202.out 0).trans rfl; have hcz20_1 : w18.cell? ⟨gb202, 1, none⟩ = some (.int .i64 a0_1) := (kCe BK202.out 1).trans rfl; have hcz20_2 : w18.cell? ⟨gb202, 2, none⟩ = some (.int .i64 a0_2) := (kCe BK202.out 2).trans rfl; have hcz20_3 : w18.cell? ⟨gb202, 3, none⟩ = some (.int .i64 a0_3) := (kCe BK202.out 3).trans rfl; have hcz20_4 : w18.cell? ⟨gb202, 4, none⟩ = some (.int .i64 a0_4) := (kCe BK202.out 4).trans rfl; have hcz20_5 : w18.cell? ⟨gb202, 5, none⟩ = some (.int .i64 a0_5) := (kCe BK202.out 5).trans rfl; have hcz20_6 : w18.cell? ⟨gb202, 6, none⟩ = some (.slice A0_6 l0_6.length c0_6) := (kCe BK202.out 6).trans rfl; have hfz20_0 := kFr BK202.out 0; have hfz20_1 := kFr BK202.out 1; have hfz20_2 := kFr BK202.out 2; have hfz20_3 := kFr BK202.out 3; have hfz20_4 := kFr BK202.out 4; have hfz20_5 := kFr BK202.out 5; have hfz20_6 := kFr BK202.out 6; have hcz21_0 : w18.cell? ⟨gb203, 0, none⟩ = some (.int .i64 a1_0) := (kCe BK203.out 0).trans rfl; have hcz21_1 : w18.cell? ⟨gb203, 1, none⟩ = some (.int .i64 a1_1) := (kCe BK203.out 1).trans rfl; have hcz21_2 : w18.cell? ⟨gb203, 2, none⟩ = some (.int .i64 a1_2) := (kCe BK203.out 2).trans rfl; have hcz21_3 : w18.cell? ⟨gb203, 3, none⟩ = some (.int .i64 a1_3) := (kCe BK203.out 3).trans rfl; have hcz21_4 : w18.cell? ⟨gb203, 4, none⟩ = some (.int .i64 a1_4) := (kCe BK203.out 4).trans rfl; have hcz21_5 : w18.cell? ⟨gb203, 5, none⟩ = some (.int .i64 a1_5) := (kCe BK203.out 5).trans rfl; have hcz21_6 : w18.cell? ⟨gb203, 6, none⟩ = some (.slice A1_6 l1_6.length c1_6) := (kCe BK203.out 6).trans rfl; have hfz21_0 := kFr BK203.out 0; have hfz21_1 := kFr BK203.out 1; have hfz21_2 := kFr BK203.out 2; have hfz21_3 := kFr BK203.out 3; have hfz21_4 := kFr BK203.out 4; have hfz21_5 := kFr BK203.out 5; have hfz21_6 := kFr BK203.out 6) | ((with_reducible refine gate_callee (f := 36) rfl ?_); refine goesL_ (some 39) rfl rfl Try.func36 (by kernel_rfl) rfl #[.slice A0_6 l0_6.length c0_6, .slice A1_6 l1_6.length c1_6] rfl (by (try simp only [List.map_toArray, List.map_cons, List.map_nil]); first | done | rfl | (simp only [List.length_drop, List.length_take]; rfl)) ?_; (with_reducible refine (laws_eqRecordS.calls k _ _ l0_6 _ _ l1_6 false _ ?side1 ?side2 ?side3 ?side4 A9.out).mono ?_); (case side1 => repeat (first | exact (Kd.C_below HR0_6.out HB.out) | (with_reducible refine Kd.C_alloc ?_ _) | (with_reducible refine Kd.C_drewN ?_ _) | (with_reducible refine Kd.C_drew ?_))); (case side2 => exact HC0_6.out); (case side3 => repeat (first | exact (Kd.C_below HR1_6.out HB.out) | (with_reducible refine Kd.C_alloc ?_ _) | (with_reducible refine Kd.C_drewN ?_ _) | (with_reducible refine Kd.C_drew ?_))); (case side4 => exact HC1_6.out); rintro e w22 ⟨rfl, hb⟩; refine ⟨_, rfl, ?_⟩; have n0_ := Aside0.mk (kBe (g := gb202) (o := .cells #[.int .i64 a0_0, .int .i64 a0_1, .int .i64 a0_2, .int .i64 a0_3, .int .i64 a0_4, .int .i64 a0_5, .slice A0_6 l0_6.length c0_6] 29 (0, 0)) (by (with_reducible repeat first | refine kDN ?_ _ | refine kDr ?_ | refine kAl ?_ _); exact BK202.out) hb); have n1_ := Aside0.mk (kBe (g := gb203) (o := .cells #[.int .i64 a1_0, .int .i64 a1_1, .int .i64 a1_2, .int .i64 a1_3, .int .i64 a1_4, .int .i64 a1_5, .slice A1_6 l1_6.length c1_6] 29 (0, 0)) (by (with_reducible repeat first | refine kDN ?_ _ | refine kDr ?_ | refine kAl ?_ _); exact BK203.out) hb); have n2_ := Aside0.mk (bSt (by repeat (first | (with_reducible first | exact HB.out | apply bAl | apply bDN | apply bD1 | refine bSe ?_ GE202.out | refine bSe ?_ GE203.out) | exact HB.out)) hb); clear BK202; clear BK203; clear HB; have BK202 := n0_; have BK203 := n1_; have HB := n2_; clear n0_ n1_ n2_; (try clear hb); (try clear hb2); (try clear hk); (try clear hi)))
        go_ret
        exact ⟨by first | rfl | (simp [errW_none, errW_some] <;> rfl) | (simp [*, errW_none, errW_some] <;> rfl), by repeat (first | (with_reducible first | exact HB.out | apply bAl | apply bDN | apply bD1 | refine bSe ?_ GE202.out | refine bSe ?_ GE203.out) | exact HB.out)⟩
      ·
       rw [if_neg c8] at H
       have c8b0 : (a0_5 == a1_5) = false := beq_eq_false_iff_ne.mpr c8
       have c8b1 : (a0_5 != a1_5) = true := bne_iff_ne.mpr c8
       obtain rfl := Option.some.inj H
       go_enter Try.func13, Try.ntmps13
       go_wp2_with (first | ((with_reducible refine gDs (N := 2) rfl ?_); refine bEv ?hg (N := 2) ?hd (cs := #[.int .i64 a0_0, .int .i64 a0_1, .int .i64 a0_2, .int .i64 a0_3, .int .i64 a0_4, .int .i64 a0_5, .slice A0_6 l0_6.length c0_6]) (t := 29) ?hr ?_; (case hd => rfl); (case hg => rfl); (case hr => first | (go_simp; done) | (go_simp; rfl)); intro gb202 hg w23 hbox hb; have n0_ := Aside0.mk (bSt (by repeat (first | (with_reducible first | exact HB.out | apply bAl | apply bDN | apply bD1) | exact HB.out)) hb); have n1_ := Aside0.mk (hbox); have n2_ := Aside0.mk ((by rw [hg]; exact (bSz (by repeat (first | (with_reducible first | exact HB.out | apply bAl | apply bDN | apply bD1) | exact HB.out))) : w.heap.size ≤ gb202)); have n3_ := Aside0.mk ((by rw [hg]; exact (bSz (by repeat (first | (with_reducible first | exact HB.out | apply bAl | apply bDN | apply bD1) | exact HB.out))) : w.heap.size ≤ gb202)); clear HB; have HB := n0_; have BK202 := n1_; have GW202 := n2_; have GE202 := n3_; clear n0_ n1_ n2_ n3_; clear hb hbox hg) | ((with_reducible refine gDs (N := 3) rfl ?_); refine bEv ?hg (N := 3) ?hd (cs := #[.int .i64 a1_0, .int .i64 a1_1, .int .i64 a1_2, .int .i64 a1_3, .int .i64 a1_4, .int .i64 a1_5, .slice A1_6 l1_6.length c1_6]) (t := 29) ?hr ?_; (case hd => rfl); (case hg => rfl); (case hr => first | (go_simp; done) | (go_simp; rfl)); intro gb203 hg w24 hbox hb; have n0_ := Aside0.mk (kBe (g := gb202) (o := .cells #[.int .i64 a0_0, .int .i64 a0_1, .int .i64 a0_2, .int .i64 a0_3, .int .i64 a0_4, .int .i64 a0_5, .slice A0_6 l0_6.length c0_6] 29 (0, 0)) (by (with_reducible repeat first | refine kDN ?_ _ | refine kDr ?_ | refine kAl ?_ _); exact BK202.out) hb); have n1_ := Aside0.mk (bSt (by repeat (first | (with_reducible first | exact HB.out | apply bAl | apply bDN | apply bD1 | refine bSe ?_ GE202.out) | exact HB.out)) hb); have n2_ := Aside0.mk (hbox); have n3_ := Aside0.mk ((by rw [hg]; exact (bSz (by repeat (first | (with_reducible first | exact HB.out | apply bAl | apply bDN | apply bD1 | refine bSe ?_ GE202.out) | exact HB.out))) : w.heap.size ≤ gb203)); have n4_ := Aside0.mk ((by rw [hg]; exact (bSz (by repeat (first | (with_reducible first | exact HB.out | apply bAl | apply bDN | apply bD1 | refine bSe ?_ GE202.out) | exact HB.out))) : w.heap.size ≤ gb203)); have n5_ := Aside0.mk ((by rw [hg]; exact Nat.ne_of_lt (blk_lt (g := gb202) (o := .cells #[.int .i64 a0_0, .int .i64 a0_1, .int .i64 a0_2, .int .i64 a0_3, .int .i64 a0_4, .int .i64 a0_5, .slice A0_6 l0_6.length c0_6] 29 (0, 0)) (by (with_reducible repeat first | refine kDN ?_ _ | refine kDr ?_ | refine kAl ?_ _); exact BK202.out)) : gb202 ≠ gb203)); have n6_ := Aside0.mk ((by rw [hg]; exact Nat.ne_of_gt (blk_lt (g := gb202) (o := .cells #[.int .i64 a0_0, .int .i64 a0_1, .int .i64 a0_2, .int .i64 a0_3, .int .i64 a0_4, .int .i64 a0_5, .slice A0_6 l0_6.length c0_6] 29 (0, 0)) (by (with_reducible repeat first | refine kDN ?_ _ | refine kDr ?_ | refine kAl ?_ _); exact BK202.out)) : gb203 ≠ gb202)); clear BK202; clear HB; have BK202 := n0_; have HB := n1_; have BK203 := n2_; have GW203 := n3_; have GE203 := n4_; have NB202_203 := n5_; have NB203_202 := n6_; clear n0_ n1_ n2_ n3_ n4_ n5_ n6_; clear hb hbox hg; have hnb25 := NB202_203.out; have hnc25 := NB203_202.out; have hcz26_0 : w24.cell? ⟨gb202, 0, none⟩ = some (.int .i64 a0_0) := (kCe BK202.out 0).trans rfl; have hcz26_1 : w24.cell? ⟨gb202, 1, none⟩ = some (.int .i64 a0_1) := (kCe BK202.out 1).trans rfl; have hcz26_2 : w24.cell? ⟨gb202, 2, none⟩ = some (.int .i64 a0_2) := (kCe BK202.out 2).trans rfl; have hcz26_3 : w24.cell? ⟨gb202, 3, none⟩ = some (.int .i64 a0_3) := (kCe BK202.out 3).trans rfl; have hcz26_4 : w24.cell? ⟨gb202, 4, none⟩ = some (.int .i64 a0_4) := (kCe BK202.out 4).trans rfl; have hcz26_5 : w24.cell? ⟨gb202, 5, none⟩ = some (.int .i64 a0_5) := (kCe BK202.out 5).trans rfl; have hcz26_6 : w24.cell? ⟨gb202, 6, none⟩ = some (.slice A0_6 l0_6.length c0_6) := (kCe BK202.out 6).trans rfl; have hfz26_0 := kFr BK202.out 0; have hfz26_1 := kFr BK202.out 1; have hfz26_2 := kFr BK202.out 2; have hfz26_3 := kFr BK202.out 3; have hfz26_4 := kFr BK202.out 4; have hfz26_5 := kFr BK202.out 5; have hfz26_6 := kFr BK202.out 6; have hcz27_0 : w24.cell? ⟨gb203, 0, none⟩ = some (.int .i64 a1_0) := (kCe BK203.out 0).trans rfl; have hcz27_1 : w24.cell? ⟨gb203, 1, none⟩ = some (.int .i64 a1_1) := (kCe BK203.out 1).trans rfl; have hcz27_2 : w24.cell? ⟨gb203, 2, none⟩ = some (.int .i64 a1_2) := (kCe BK203.out 2).trans rfl; have hcz27_3 : w24.cell? ⟨gb203, 3, none⟩ = some (.int .i64 a1_3) := (kCe BK203.out 3).trans rfl; have hcz27_4 : w24.cell? ⟨gb203, 4, none⟩ = some (.int .i64 a1_4) := (kCe BK203.out 4).trans rfl; have hcz27_5 : w24.cell? ⟨gb203, 5, none⟩ = some (.int .i64 a1_5) := (kCe BK203.out 5).trans rfl; have hcz27_6 : w24.cell? ⟨gb203, 6, none⟩ = some (.slice A1_6 l1_6.length c1_6) := (kCe BK203.out 6).trans rfl; have hfz27_0 := kFr BK203.out 0; have hfz27_1 := kFr BK203.out 1; have hfz27_2 := kFr BK203.out 2; have hfz27_3 := kFr BK203.out 3; have hfz27_4 := kFr BK203.out 4; have hfz27_5 := kFr BK203.out 5; have hfz27_6 := kFr BK203.out 6))
       go_ret
       exact ⟨by first | rfl | (simp [errW_none, errW_some] <;> rfl) | (simp [*, errW_none, errW_some] <;> rfl), by repeat (first | (with_reducible first | exact HB.out | apply bAl | apply bDN | apply bD1 | refine bSe ?_ GE202.out | refine bSe ?_ GE203.out) | exact HB.out)⟩
     ·
      rw [if_neg c7] at H
      have c7b0 : (a0_4 == a1_4) = false := beq_eq_false_iff_ne.mpr c7
      have c7b1 : (a0_4 != a1_4) = true := bne_iff_ne.mpr c7
      obtain rfl := Option.some.inj H
      go_enter Try.func13, Try.ntmps13
      go_wp2_with (first | ((with_reducible refine gDs (N := 2) rfl ?_); refine bEv ?hg (N := 2) ?hd (cs := #[.int .i64 a0_0, .int .i64 a0_1, .int .i64 a0_2, .int .i64 a0_3, .int .i64 a0_4, .int .i64 a0_5, .slice A0_6 l0_6.length c0_6]) (t := 29) ?hr ?_; (case hd => rfl); (case hg => rfl); (case hr => first | (go_simp; done) | (go_simp; rfl)); intro gb202 hg w28 hbox hb; have n0_ := Aside0.mk (bSt (by repeat (first | (with_reducible first | exact HB.out | apply bAl | apply bDN | apply bD1) | exact HB.out)) hb); have n1_ := Aside0.mk (hbox); have n2_ := Aside0.mk ((by rw [hg]; exact (bSz (by repeat (first | (with_reducible first | exact HB.out | apply bAl | apply bDN | apply bD1) | exact HB.out))) : w.heap.size ≤ gb202)); have n3_ := Aside0.mk ((by rw [hg]; exact (bSz (by repeat (first | (with_reducible first | exact HB.out | apply bAl | apply bDN | apply bD1) | exact HB.out))) : w.heap.size ≤ gb202)); clear HB; have HB := n0_; have BK202 := n1_; have GW202 := n2_; have GE202 := n3_; clear n0_ n1_ n2_ n3_; clear hb hbox hg) | ((with_reducible refine gDs (N := 3) rfl ?_); refine bEv ?hg (N := 3) ?hd (cs := #[.int .i64 a1_0, .int .i64 a1_1, .int .i64 a1_2, .int .i64 a1_3, .int .i64 a1_4, .int .i64 a1_5, .slice A1_6 l1_6.length c1_6]) (t := 29) ?hr ?_; (case hd => rfl); (case hg => rfl); (case hr => first | (go_simp; done) | (go_simp; rfl)); intro gb203 hg w29 hbox hb; have n0_ := Aside0.mk (kBe (g := gb202) (o := .cells #[.int .i64 a0_0, .int .i64 a0_1, .int .i64 a0_2, .int .i64 a0_3, .int .i64 a0_4, .int .i64 a0_5, .slice A0_6 l0_6.length c0_6] 29 (0, 0)) (by (with_reducible repeat first | refine kDN ?_ _ | refine kDr ?_ | refine kAl ?_ _); exact BK202.out) hb); have n1_ := Aside0.mk (bSt (by repeat (first | (with_reducible first | exact HB.out | apply bAl | apply bDN | apply bD1 | refine bSe ?_ GE202.out) | exact HB.out)) hb); have n2_ := Aside0.mk (hbox); have n3_ := Aside0.mk ((by rw [hg]; exact (bSz (by repeat (first | (with_reducible first | exact HB.out | apply bAl | apply bDN | apply bD1 | refine bSe ?_ GE202.out) | exact HB.out))) : w.heap.size ≤ gb203)); have n4_ := Aside0.mk ((by rw [hg]; exact (bSz (by repeat (first | (with_reducible first | exact HB.out | apply bAl | apply bDN | apply bD1 | refine bSe ?_ GE202.out) | exact HB.out))) : w.heap.size ≤ gb203)); have n5_ := Aside0.mk ((by rw [hg]; exact Nat.ne_of_lt (blk_lt (g := gb202) (o := .cells #[.int .i64 a0_0, .int .i64 a0_1, .int .i64 a0_2, .int .i64 a0_3, .int .i64 a0_4, .int .i64 a0_5, .slice A0_6 l0_6.length c0_6] 29 (0, 0)) (by (with_reducible repeat first | refine kDN ?_ _ | refine kDr ?_ | refine kAl ?_ _); exact BK202.out)) : gb202 ≠ gb203)); have n6_ := Aside0.mk ((by rw [hg]; exact Nat.ne_of_gt (blk_lt (g := gb202) (o := .cells #[.int .i64 a0_0, .int .i64 a0_1, .int .i64 a0_2, .int .i64 a0_3, .int .i64 a0_4, .int .i64 a0_5, .slice A0_6 l0_6.length c0_6] 29 (0, 0)) (by (with_reducible repeat first | refine kDN ?_ _ | refine kDr ?_ | refine kAl ?_ _); exact BK202.out)) : gb203 ≠ gb202)); clear BK202; clear HB; have BK202 := n0_; have HB := n1_; have BK203 := n2_; have GW203 := n3_; have GE203 := n4_; have NB202_203 := n5_; have NB203_202 := n6_; clear n0_ n1_ n2_ n3_ n4_ n5_ n6_; clear hb hbox hg; have hnb30 := NB202_203.out; have hnc30 := NB203_202.out; have hcz31_0 : w29.cell? ⟨gb202, 0, none⟩ = some (.int .i64 a0_0) := (kCe BK202.out 0).trans rfl; have hcz31_1 : w29.cell? ⟨gb202, 1, none⟩ = some (.int .i64 a0_1) := (kCe BK202.out 1).trans rfl; have hcz31_2 : w29.cell? ⟨gb202, 2, none⟩ = some (.int .i64 a0_2) := (kCe BK202.out 2).trans rfl; have hcz31_3 : w29.cell? ⟨gb202, 3, none⟩ = some (.int .i64 a0_3) := (kCe BK202.out 3).trans rfl; have hcz31_4 : w29.cell? ⟨gb202, 4, none⟩ = some (.int .i64 a0_4) := (kCe BK202.out 4).trans rfl; have hcz31_5 : w29.cell? ⟨gb202, 5, none⟩ = some (.int .i64 a0_5) := (kCe BK202.out 5).trans rfl; have hcz31_6 : w29.cell? ⟨gb202, 6, none⟩ = some (.slice A0_6 l0_6.length c0_6) := (kCe BK202.out 6).trans rfl; have hfz31_0 := kFr BK202.out 0; have hfz31_1 := kFr BK202.out 1; have hfz31_2 := kFr BK202.out 2; have hfz31_3 := kFr BK202.out 3; have hfz31_4 := kFr BK202.out 4; have hfz31_5 := kFr BK202.out 5; have hfz31_6 := kFr BK202.out 6; have hcz32_0 : w29.cell? ⟨gb203, 0, none⟩ = some (.int .i64 a1_0) := (kCe BK203.out 0).trans rfl; have hcz32_1 : w29.cell? ⟨gb203, 1, none⟩ = some (.int .i64 a1_1) := (kCe BK203.out 1).trans rfl; have hcz32_2 : w29.cell? ⟨gb203, 2, none⟩ = some (.int .i64 a1_2) := (kCe BK203.out 2).trans rfl; have hcz32_3 : w29.cell? ⟨gb203, 3, none⟩ = some (.int .i64 a1_3) := (kCe BK203.out 3).trans rfl; have hcz32_4 : w29.cell? ⟨gb203, 4, none⟩ = some (.int .i64 a1_4) := (kCe BK203.out 4).trans rfl; have hcz32_5 : w29.cell? ⟨gb203, 5, none⟩ = some (.int .i64 a1_5) := (kCe BK203.out 5).trans rfl; have hcz32_6 : w29.cell? ⟨gb203, 6, none⟩ = some (.slice A1_6 l1_6.length c1_6) := (kCe BK203.out 6).trans rfl; have hfz32_0 := kFr BK203.out 0; have hfz32_1 := kFr BK203.out 1; have hfz32_2 := kFr BK203.out 2; have hfz32_3 := kFr BK203.out 3; have hfz32_4 := kFr BK203.out 4; have hfz32_5 := kFr BK203.out 5; have hfz32_6 := kFr BK203.out 6))
      go_ret
      exact ⟨by first | rfl | (simp [errW_none, errW_some] <;> rfl) | (simp [*, errW_none, errW_some] <;> rfl), by repeat (first | (with_reducible first | exact HB.out | apply bAl | apply bDN | apply bD1 | refine bSe ?_ GE202.out | refine bSe ?_ GE203.out) | exact HB.out)⟩
    ·
     rw [if_neg c6] at H
     have c6b0 : (a0_3 == a1_3) = false := beq_eq_false_iff_ne.mpr c6
     have c6b1 : (a0_3 != a1_3) = true := bne_iff_ne.mpr c6
     obtain rfl := Option.some.inj H
     go_enter Try.func13, Try.ntmps13
     go_wp2_with (first | ((with_reducible refine gDs (N := 2) rfl ?_); refine bEv ?hg (N := 2) ?hd (cs := #[.int .i64 a0_0, .int .i64 a0_1, .int .i64 a0_2, .int .i64 a0_3, .int .i64 a0_4, .int .i64 a0_5, .slice A0_6 l0_6.length c0_6]) (t := 29) ?hr ?_; (case hd => rfl); (case hg => rfl); (case hr => first | (go_simp; done) | (go_simp; rfl)); intro gb202 hg w33 hbox hb; have n0_ := Aside0.mk (bSt (by repeat (first | (with_reducible first | exact HB.out | apply bAl | apply bDN | apply bD1) | exact HB.out)) hb); have n1_ := Aside0.mk (hbox); have n2_ := Aside0.mk ((by rw [hg]; exact (bSz (by repeat (first | (with_reducible first | exact HB.out | apply bAl | apply bDN | apply bD1) | exact HB.out))) : w.heap.size ≤ gb202)); have n3_ := Aside0.mk ((by rw [hg]; exact (bSz (by repeat (first | (with_reducible first | exact HB.out | apply bAl | apply bDN | apply bD1) | exact HB.out))) : w.heap.size ≤ gb202)); clear HB; have HB := n0_; have BK202 := n1_; have GW202 := n2_; have GE202 := n3_; clear n0_ n1_ n2_ n3_; clear hb hbox hg) | ((with_reducible refine gDs (N := 3) rfl ?_); refine bEv ?hg (N := 3) ?hd (cs := #[.int .i64 a1_0, .int .i64 a1_1, .int .i64 a1_2, .int .i64 a1_3, .int .i64 a1_4, .int .i64 a1_5, .slice A1_6 l1_6.length c1_6]) (t := 29) ?hr ?_; (case hd => rfl); (case hg => rfl); (case hr => first | (go_simp; done) | (go_simp; rfl)); intro gb203 hg w34 hbox hb; have n0_ := Aside0.mk (kBe (g := gb202) (o := .cells #[.int .i64 a0_0, .int .i64 a0_1, .int .i64 a0_2, .int .i64 a0_3, .int .i64 a0_4, .int .i64 a0_5, .slice A0_6 l0_6.length c0_6] 29 (0, 0)) (by (with_reducible repeat first | refine kDN ?_ _ | refine kDr ?_ | refine kAl ?_ _); exact BK202.out) hb); have n1_ := Aside0.mk (bSt (by repeat (first | (with_reducible first | exact HB.out | apply bAl | apply bDN | apply bD1 | refine bSe ?_ GE202.out) | exact HB.out)) hb); have n2_ := Aside0.mk (hbox); have n3_ := Aside0.mk ((by rw [hg]; exact (bSz (by repeat (first | (with_reducible first | exact HB.out | apply bAl | apply bDN | apply bD1 | refine bSe ?_ GE202.out) | exact HB.out))) : w.heap.size ≤ gb203)); have n4_ := Aside0.mk ((by rw [hg]; exact (bSz (by repeat (first | (with_reducible first | exact HB.out | apply bAl | apply bDN | apply bD1 | refine bSe ?_ GE202.out) | exact HB.out))) : w.heap.size ≤ gb203)); have n5_ := Aside0.mk ((by rw [hg]; exact Nat.ne_of_lt (blk_lt (g := gb202) (o := .cells #[.int .i64 a0_0, .int .i64 a0_1, .int .i64 a0_2, .int .i64 a0_3, .int .i64 a0_4, .int .i64 a0_5, .slice A0_6 l0_6.length c0_6] 29 (0, 0)) (by (with_reducible repeat first | refine kDN ?_ _ | refine kDr ?_ | refine kAl ?_ _); exact BK202.out)) : gb202 ≠ gb203)); have n6_ := Aside0.mk ((by rw [hg]; exact Nat.ne_of_gt (blk_lt (g := gb202) (o := .cells #[.int .i64 a0_0, .int .i64 a0_1, .int .i64 a0_2, .int .i64 a0_3, .int .i64 a0_4, .int .i64 a0_5, .slice A0_6 l0_6.length c0_6] 29 (0, 0)) (by (with_reducible repeat first | refine kDN ?_ _ | refine kDr ?_ | refine kAl ?_ _); exact BK202.out)) : gb203 ≠ gb202)); clear BK202; clear HB; have BK202 := n0_; have HB := n1_; have BK203 := n2_; have GW203 := n3_; have GE203 := n4_; have NB202_203 := n5_; have NB203_202 := n6_; clear n0_ n1_ n2_ n3_ n4_ n5_ n6_; clear hb hbox hg; have hnb35 := NB202_203.out; have hnc35 := NB203_202.out; have hcz36_0 : w34.cell? ⟨gb202, 0, none⟩ = some (.int .i64 a0_0) := (kCe BK202.out 0).trans rfl; have hcz36_1 : w34.cell? ⟨gb202, 1, none⟩ = some (.int .i64 a0_1) := (kCe BK202.out 1).trans rfl; have hcz36_2 : w34.cell? ⟨gb202, 2, none⟩ = some (.int .i64 a0_2) := (kCe BK202.out 2).trans rfl; have hcz36_3 : w34.cell? ⟨gb202, 3, none⟩ = some (.int .i64 a0_3) := (kCe BK202.out 3).trans rfl; have hcz36_4 : w34.cell? ⟨gb202, 4, none⟩ = some (.int .i64 a0_4) := (kCe BK202.out 4).trans rfl; have hcz36_5 : w34.cell? ⟨gb202, 5, none⟩ = some (.int .i64 a0_5) := (kCe BK202.out 5).trans rfl; have hcz36_6 : w34.cell? ⟨gb202, 6, none⟩ = some (.slice A0_6 l0_6.length c0_6) := (kCe BK202.out 6).trans rfl; have hfz36_0 := kFr BK202.out 0; have hfz36_1 := kFr BK202.out 1; have hfz36_2 := kFr BK202.out 2; have hfz36_3 := kFr BK202.out 3; have hfz36_4 := kFr BK202.out 4; have hfz36_5 := kFr BK202.out 5; have hfz36_6 := kFr BK202.out 6; have hcz37_0 : w34.cell? ⟨gb203, 0, none⟩ = some (.int .i64 a1_0) := (kCe BK203.out 0).trans rfl; have hcz37_1 : w34.cell? ⟨gb203, 1, none⟩ = some (.int .i64 a1_1) := (kCe BK203.out 1).trans rfl; have hcz37_2 : w34.cell? ⟨gb203, 2, none⟩ = some (.int .i64 a1_2) := (kCe BK203.out 2).trans rfl; have hcz37_3 : w34.cell? ⟨gb203, 3, none⟩ = some (.int .i64 a1_3) := (kCe BK203.out 3).trans rfl; have hcz37_4 : w34.cell? ⟨gb203, 4, none⟩ = some (.int .i64 a1_4) := (kCe BK203.out 4).trans rfl; have hcz37_5 : w34.cell? ⟨gb203, 5, none⟩ = some (.int .i64 a1_5) := (kCe BK203.out 5).trans rfl; have hcz37_6 : w34.cell? ⟨gb203, 6, none⟩ = some (.slice A1_6 l1_6.length c1_6) := (kCe BK203.out 6).trans rfl; have hfz37_0 := kFr BK203.out 0; have hfz37_1 := kFr BK203.out 1; have hfz37_2 := kFr BK203.out 2; have hfz37_3 := kFr BK203.out 3; have hfz37_4 := kFr BK203.out 4; have hfz37_5 := kFr BK203.out 5; have hfz37_6 := kFr BK203.out 6))
     go_ret
     exact ⟨by first | rfl | (simp [errW_none, errW_some] <;> rfl) | (simp [*, errW_none, errW_some] <;> rfl), by repeat (first | (with_reducible first | exact HB.out | apply bAl | apply bDN | apply bD1 | refine bSe ?_ GE202.out | refine bSe ?_ GE203.out) | exact HB.out)⟩
   ·
    rw [if_neg c5] at H
    have c5b0 : (a0_2 == a1_2) = false := beq_eq_false_iff_ne.mpr c5
    have c5b1 : (a0_2 != a1_2) = true := bne_iff_ne.mpr c5
    obtain rfl := Option.some.inj H
    go_enter Try.func13, Try.ntmps13
    go_wp2_with (first | ((with_reducible refine gDs (N := 2) rfl ?_); refine bEv ?hg (N := 2) ?hd (cs := #[.int .i64 a0_0, .int .i64 a0_1, .int .i64 a0_2, .int .i64 a0_3, .int .i64 a0_4, .int .i64 a0_5, .slice A0_6 l0_6.length c0_6]) (t := 29) ?hr ?_; (case hd => rfl); (case hg => rfl); (case hr => first | (go_simp; done) | (go_simp; rfl)); intro gb202 hg w38 hbox hb; have n0_ := Aside0.mk (bSt (by repeat (first | (with_reducible first | exact HB.out | apply bAl | apply bDN | apply bD1) | exact HB.out)) hb); have n1_ := Aside0.mk (hbox); have n2_ := Aside0.mk ((by rw [hg]; exact (bSz (by repeat (first | (with_reducible first | exact HB.out | apply bAl | apply bDN | apply bD1) | exact HB.out))) : w.heap.size ≤ gb202)); have n3_ := Aside0.mk ((by rw [hg]; exact (bSz (by repeat (first | (with_reducible first | exact HB.out | apply bAl | apply bDN | apply bD1) | exact HB.out))) : w.heap.size ≤ gb202)); clear HB; have HB := n0_; have BK202 := n1_; have GW202 := n2_; have GE202 := n3_; clear n0_ n1_ n2_ n3_; clear hb hbox hg) | ((with_reducible refine gDs (N := 3) rfl ?_); refine bEv ?hg (N := 3) ?hd (cs := #[.int .i64 a1_0, .int .i64 a1_1, .int .i64 a1_2, .int .i64 a1_3, .int .i64 a1_4, .int .i64 a1_5, .slice A1_6 l1_6.length c1_6]) (t := 29) ?hr ?_; (case hd => rfl); (case hg => rfl); (case hr => first | (go_simp; done) | (go_simp; rfl)); intro gb203 hg w39 hbox hb; have n0_ := Aside0.mk (kBe (g := gb202) (o := .cells #[.int .i64 a0_0, .int .i64 a0_1, .int .i64 a0_2, .int .i64 a0_3, .int .i64 a0_4, .int .i64 a0_5, .slice A0_6 l0_6.length c0_6] 29 (0, 0)) (by (with_reducible repeat first | refine kDN ?_ _ | refine kDr ?_ | refine kAl ?_ _); exact BK202.out) hb); have n1_ := Aside0.mk (bSt (by repeat (first | (with_reducible first | exact HB.out | apply bAl | apply bDN | apply bD1 | refine bSe ?_ GE202.out) | exact HB.out)) hb); have n2_ := Aside0.mk (hbox); have n3_ := Aside0.mk ((by rw [hg]; exact (bSz (by repeat (first | (with_reducible first | exact HB.out | apply bAl | apply bDN | apply bD1 | refine bSe ?_ GE202.out) | exact HB.out))) : w.heap.size ≤ gb203)); have n4_ := Aside0.mk ((by rw [hg]; exact (bSz (by repeat (first | (with_reducible first | exact HB.out | apply bAl | apply bDN | apply bD1 | refine bSe ?_ GE202.out) | exact HB.out))) : w.heap.size ≤ gb203)); have n5_ := Aside0.mk ((by rw [hg]; exact Nat.ne_of_lt (blk_lt (g := gb202) (o := .cells #[.int .i64 a0_0, .int .i64 a0_1, .int .i64 a0_2, .int .i64 a0_3, .int .i64 a0_4, .int .i64 a0_5, .slice A0_6 l0_6.length c0_6] 29 (0, 0)) (by (with_reducible repeat first | refine kDN ?_ _ | refine kDr ?_ | refine kAl ?_ _); exact BK202.out)) : gb202 ≠ gb203)); have n6_ := Aside0.mk ((by rw [hg]; exact Nat.ne_of_gt (blk_lt (g := gb202) (o := .cells #[.int .i64 a0_0, .int .i64 a0_1, .int .i64 a0_2, .int .i64 a0_3, .int .i64 a0_4, .int .i64 a0_5, .slice A0_6 l0_6.length c0_6] 29 (0, 0)) (by (with_reducible repeat first | refine kDN ?_ _ | refine kDr ?_ | refine kAl ?_ _); exact BK202.out)) : gb203 ≠ gb202)); clear BK202; clear HB; have BK202 := n0_; have HB := n1_; have BK203 := n2_; have GW203 := n3_; have GE203 := n4_; have NB202_203 := n5_; have NB203_202 := n6_; clear n0_ n1_ n2_ n3_ n4_ n5_ n6_; clear hb hbox hg; have hnb40 := NB202_203.out; have hnc40 := NB203_202.out; have hcz41_0 : w39.cell? ⟨gb202, 0, none⟩ = some (.int .i64 a0_0) := (kCe BK202.out 0).trans rfl; have hcz41_1 : w39.cell? ⟨gb202, 1, none⟩ = some (.int .i64 a0_1) := (kCe BK202.out 1).trans rfl; have hcz41_2 : w39.cell? ⟨gb202, 2, none⟩ = some (.int .i64 a0_2) := (kCe BK202.out 2).trans rfl; have hcz41_3 : w39.cell? ⟨gb202, 3, none⟩ = some (.int .i64 a0_3) := (kCe BK202.out 3).trans rfl; have hcz41_4 : w39.cell? ⟨gb202, 4, none⟩ = some (.int .i64 a0_4) := (kCe BK202.out 4).trans rfl; have hcz41_5 : w39.cell? ⟨gb202, 5, none⟩ = some (.int .i64 a0_5) := (kCe BK202.out 5).trans rfl; have hcz41_6 : w39.cell? ⟨gb202, 6, none⟩ = some (.slice A0_6 l0_6.length c0_6) := (kCe BK202.out 6).trans rfl; have hfz41_0 := kFr BK202.out 0; have hfz41_1 := kFr BK202.out 1; have hfz41_2 := kFr BK202.out 2; have hfz41_3 := kFr BK202.out 3; have hfz41_4 := kFr BK202.out 4; have hfz41_5 := kFr BK202.out 5; have hfz41_6 := kFr BK202.out 6; have hcz42_0 : w39.cell? ⟨gb203, 0, none⟩ = some (.int .i64 a1_0) := (kCe BK203.out 0).trans rfl; have hcz42_1 : w39.cell? ⟨gb203, 1, none⟩ = some (.int .i64 a1_1) := (kCe BK203.out 1).trans rfl; have hcz42_2 : w39.cell? ⟨gb203, 2, none⟩ = some (.int .i64 a1_2) := (kCe BK203.out 2).trans rfl; have hcz42_3 : w39.cell? ⟨gb203, 3, none⟩ = some (.int .i64 a1_3) := (kCe BK203.out 3).trans rfl; have hcz42_4 : w39.cell? ⟨gb203, 4, none⟩ = some (.int .i64 a1_4) := (kCe BK203.out 4).trans rfl; have hcz42_5 : w39.cell? ⟨gb203, 5, none⟩ = some (.int .i64 a1_5) := (kCe BK203.out 5).trans rfl; have hcz42_6 : w39.cell? ⟨gb203, 6, none⟩ = some (.slice A1_6 l1_6.length c1_6) := (kCe BK203.out 6).trans rfl; have hfz42_0 := kFr BK203.out 0; have hfz42_1 := kFr BK203.out 1; have hfz42_2 := kFr BK203.out 2; have hfz42_3 := kFr BK203.out 3; have hfz42_4 := kFr BK203.out 4; have hfz42_5 := kFr BK203.out 5; have hfz42_6 := kFr BK203.out 6))
    go_ret
    exact ⟨by first | rfl | (simp [errW_none, errW_some] <;> rfl) | (simp [*, errW_none, errW_some] <;> rfl), by repeat (first | (with_reducible first | exact HB.out | apply bAl | apply bDN | apply bD1 | refine bSe ?_ GE202.out | refine bSe ?_ GE203.out) | exact HB.out)⟩
  ·
   rw [if_neg c4] at H
   have c4b0 : (a0_1 == a1_1) = false := beq_eq_false_iff_ne.mpr c4
   have c4b1 : (a0_1 != a1_1) = true := bne_iff_ne.mpr c4
   obtain rfl := Option.some.inj H
   go_enter Try.func13, Try.ntmps13
   go_wp2_with (first | ((with_reducible refine gDs (N := 2) rfl ?_); refine bEv ?hg (N := 2) ?hd (cs := #[.int .i64 a0_0, .int .i64 a0_1, .int .i64 a0_2, .int .i64 a0_3, .int .i64 a0_4, .int .i64 a0_5, .slice A0_6 l0_6.length c0_6]) (t := 29) ?hr ?_; (case hd => rfl); (case hg => rfl); (case hr => first | (go_simp; done) | (go_simp; rfl)); intro gb202 hg w43 hbox hb; have n0_ := Aside0.mk (bSt (by repeat (first | (with_reducible first | exact HB.out | apply bAl | apply bDN | apply bD1) | exact HB.out)) hb); have n1_ := Aside0.mk (hbox); have n2_ := Aside0.mk ((by rw [hg]; exact (bSz (by repeat (first | (with_reducible first | exact HB.out | apply bAl | apply bDN | apply bD1) | exact HB.out))) : w.heap.size ≤ gb202)); have n3_ := Aside0.mk ((by rw [hg]; exact (bSz (by repeat (first | (with_reducible first | exact HB.out | apply bAl | apply bDN | apply bD1) | exact HB.out))) : w.heap.size ≤ gb202)); clear HB; have HB := n0_; have BK202 := n1_; have GW202 := n2_; have GE202 := n3_; clear n0_ n1_ n2_ n3_; clear hb hbox hg) | ((with_reducible refine gDs (N := 3) rfl ?_); refine bEv ?hg (N := 3) ?hd (cs := #[.int .i64 a1_0, .int .i64 a1_1, .int .i64 a1_2, .int .i64 a1_3, .int .i64 a1_4, .int .i64 a1_5, .slice A1_6 l1_6.length c1_6]) (t := 29) ?hr ?_; (case hd => rfl); (case hg => rfl); (case hr => first | (go_simp; done) | (go_simp; rfl)); intro gb203 hg w44 hbox hb; have n0_ := Aside0.mk (kBe (g := gb202) (o := .cells #[.int .i64 a0_0, .int .i64 a0_1, .int .i64 a0_2, .int .i64 a0_3, .int .i64 a0_4, .int .i64 a0_5, .slice A0_6 l0_6.length c0_6] 29 (0, 0)) (by (with_reducible repeat first | refine kDN ?_ _ | refine kDr ?_ | refine kAl ?_ _); exact BK202.out) hb); have n1_ := Aside0.mk (bSt (by repeat (first | (with_reducible first | exact HB.out | apply bAl | apply bDN | apply bD1 | refine bSe ?_ GE202.out) | exact HB.out)) hb); have n2_ := Aside0.mk (hbox); have n3_ := Aside0.mk ((by rw [hg]; exact (bSz (by repeat (first | (with_reducible first | exact HB.out | apply bAl | apply bDN | apply bD1 | refine bSe ?_ GE202.out) | exact HB.out))) : w.heap.size ≤ gb203)); have n4_ := Aside0.mk ((by rw [hg]; exact (bSz (by repeat (first | (with_reducible first | exact HB.out | apply bAl | apply bDN | apply bD1 | refine bSe ?_ GE202.out) | exact HB.out))) : w.heap.size ≤ gb203)); have n5_ := Aside0.mk ((by rw [hg]; exact Nat.ne_of_lt (blk_lt (g := gb202) (o := .cells #[.int .i64 a0_0, .int .i64 a0_1, .int .i64 a0_2, .int .i64 a0_3, .int .i64 a0_4, .int .i64 a0_5, .slice A0_6 l0_6.length c0_6] 29 (0, 0)) (by (with_reducible repeat first | refine kDN ?_ _ | refine kDr ?_ | refine kAl ?_ _); exact BK202.out)) : gb202 ≠ gb203)); have n6_ := Aside0.mk ((by rw [hg]; exact Nat.ne_of_gt (blk_lt (g := gb202) (o := .cells #[.int .i64 a0_0, .int .i64 a0_1, .int .i64 a0_2, .int .i64 a0_3, .int .i64 a0_4, .int .i64 a0_5, .slice A0_6 l0_6.length c0_6] 29 (0, 0)) (by (with_reducible repeat first | refine kDN ?_ _ | refine kDr ?_ | refine kAl ?_ _); exact BK202.out)) : gb203 ≠ gb202)); clear BK202; clear HB; have BK202 := n0_; have HB := n1_; have BK203 := n2_; have GW203 := n3_; have GE203 := n4_; have NB202_203 := n5_; have NB203_202 := n6_; clear n0_ n1_ n2_ n3_ n4_ n5_ n6_; clear hb hbox hg; have hnb45 := NB202_203.out; have hnc45 := NB203_202.out; have hcz46_0 : w44.cell? ⟨gb202, 0, none⟩ = some (.int .i64 a0_0) := (kCe BK202.out 0).trans rfl; have hcz46_1 : w44.cell? ⟨gb202, 1, none⟩ = some (.int .i64 a0_1) := (kCe BK202.out 1).trans rfl; have hcz46_2 : w44.cell? ⟨gb202, 2, none⟩ = some (.int .i64 a0_2) := (kCe BK202.out 2).trans rfl; have hcz46_3 : w44.cell? ⟨gb202, 3, none⟩ = some (.int .i64 a0_3) := (kCe BK202.out 3).trans rfl; have hcz46_4 : w44.cell? ⟨gb202, 4, none⟩ = some (.int .i64 a0_4) := (kCe BK202.out 4).trans rfl; have hcz46_5 : w44.cell? ⟨gb202, 5, none⟩ = some (.int .i64 a0_5) := (kCe BK202.out 5).trans rfl; have hcz46_6 : w44.cell? ⟨gb202, 6, none⟩ = some (.slice A0_6 l0_6.length c0_6) := (kCe BK202.out 6).trans rfl; have hfz46_0 := kFr BK202.out 0; have hfz46_1 := kFr BK202.out 1; have hfz46_2 := kFr BK202.out 2; have hfz46_3 := kFr BK202.out 3; have hfz46_4 := kFr BK202.out 4; have hfz46_5 := kFr BK202.out 5; have hfz46_6 := kFr BK202.out 6; have hcz47_0 : w44.cell? ⟨gb203, 0, none⟩ = some (.int .i64 a1_0) := (kCe BK203.out 0).trans rfl; have hcz47_1 : w44.cell? ⟨gb203, 1, none⟩ = some (.int .i64 a1_1) := (kCe BK203.out 1).trans rfl; have hcz47_2 : w44.cell? ⟨gb203, 2, none⟩ = some (.int .i64 a1_2) := (kCe BK203.out 2).trans rfl; have hcz47_3 : w44.cell? ⟨gb203, 3, none⟩ = some (.int .i64 a1_3) := (kCe BK203.out 3).trans rfl; have hcz47_4 : w44.cell? ⟨gb203, 4, none⟩ = some (.int .i64 a1_4) := (kCe BK203.out 4).trans rfl; have hcz47_5 : w44.cell? ⟨gb203, 5, none⟩ = some (.int .i64 a1_5) := (kCe BK203.out 5).trans rfl; have hcz47_6 : w44.cell? ⟨gb203, 6, none⟩ = some (.slice A1_6 l1_6.length c1_6) := (kCe BK203.out 6).trans rfl; have hfz47_0 := kFr BK203.out 0; have hfz47_1 := kFr BK203.out 1; have hfz47_2 := kFr BK203.out 2; have hfz47_3 := kFr BK203.out 3; have hfz47_4 := kFr BK203.out 4; have hfz47_5 := kFr BK203.out 5; have hfz47_6 := kFr BK203.out 6))
   go_ret
   exact ⟨by first | rfl | (simp [errW_none, errW_some] <;> rfl) | (simp [*, errW_none, errW_some] <;> rfl), by repeat (first | (with_reducible first | exact HB.out | apply bAl | apply bDN | apply bD1 | refine bSe ?_ GE202.out | refine bSe ?_ GE203.out) | exact HB.out)⟩
 ·
  rw [if_neg c3] at H
  have c3b0 : (a0_0 == a1_0) = false := beq_eq_false_iff_ne.mpr c3
  have c3b1 : (a0_0 != a1_0) = true := bne_iff_ne.mpr c3
  obtain rfl := Option.some.inj H
  go_enter Try.func13, Try.ntmps13
  go_wp2_with (first | ((with_reducible refine gDs (N := 2) rfl ?_); refine bEv ?hg (N := 2) ?hd (cs := #[.int .i64 a0_0, .int .i64 a0_1, .int .i64 a0_2, .int .i64 a0_3, .int .i64 a0_4, .int .i64 a0_5, .slice A0_6 l0_6.length c0_6]) (t := 29) ?hr ?_; (case hd => rfl); (case hg => rfl); (case hr => first | (go_simp; done) | (go_simp; rfl)); intro gb202 hg w48 hbox hb; have n0_ := Aside0.mk (bSt (by repeat (first | (with_reducible first | exact HB.out | apply bAl | apply bDN | apply bD1) | exact HB.out)) hb); have n1_ := Aside0.mk (hbox); have n2_ := Aside0.mk ((by rw [hg]; exact (bSz (by repeat (first | (with_reducible first | exact HB.out | apply bAl | apply bDN | apply bD1) | exact HB.out))) : w.heap.size ≤ gb202)); have n3_ := Aside0.mk ((by rw [hg]; exact (bSz (by repeat (first | (with_reducible first | exact HB.out | apply bAl | apply bDN | apply bD1) | exact HB.out))) : w.heap.size ≤ gb202)); clear HB; have HB := n0_; have BK202 := n1_; have GW202 := n2_; have GE202 := n3_; clear n0_ n1_ n2_ n3_; clear hb hbox hg) | ((with_reducible refine gDs (N := 3) rfl ?_); refine bEv ?hg (N := 3) ?hd (cs := #[.int .i64 a1_0, .int .i64 a1_1, .int .i64 a1_2, .int .i64 a1_3, .int .i64 a1_4, .int .i64 a1_5, .slice A1_6 l1_6.length c1_6]) (t := 29) ?hr ?_; (case hd => rfl); (case hg => rfl); (case hr => first | (go_simp; done) | (go_simp; rfl)); intro gb203 hg w49 hbox hb; have n0_ := Aside0.mk (kBe (g := gb202) (o := .cells #[.int .i64 a0_0, .int .i64 a0_1, .int .i64 a0_2, .int .i64 a0_3, .int .i64 a0_4, .int .i64 a0_5, .slice A0_6 l0_6.length c0_6] 29 (0, 0)) (by (with_reducible repeat first | refine kDN ?_ _ | refine kDr ?_ | refine kAl ?_ _); exact BK202.out) hb); have n1_ := Aside0.mk (bSt (by repeat (first | (with_reducible first | exact HB.out | apply bAl | apply bDN | apply bD1 | refine bSe ?_ GE202.out) | exact HB.out)) hb); have n2_ := Aside0.mk (hbox); have n3_ := Aside0.mk ((by rw [hg]; exact (bSz (by repeat (first | (with_reducible first | exact HB.out | apply bAl | apply bDN | apply bD1 | refine bSe ?_ GE202.out) | exact HB.out))) : w.heap.size ≤ gb203)); have n4_ := Aside0.mk ((by rw [hg]; exact (bSz (by repeat (first | (with_reducible first | exact HB.out | apply bAl | apply bDN | apply bD1 | refine bSe ?_ GE202.out) | exact HB.out))) : w.heap.size ≤ gb203)); have n5_ := Aside0.mk ((by rw [hg]; exact Nat.ne_of_lt (blk_lt (g := gb202) (o := .cells #[.int .i64 a0_0, .int .i64 a0_1, .int .i64 a0_2, .int .i64 a0_3, .int .i64 a0_4, .int .i64 a0_5, .slice A0_6 l0_6.length c0_6] 29 (0, 0)) (by (with_reducible repeat first | refine kDN ?_ _ | refine kDr ?_ | refine kAl ?_ _); exact BK202.out)) : gb202 ≠ gb203)); have n6_ := Aside0.mk ((by rw [hg]; exact Nat.ne_of_gt (blk_lt (g := gb202) (o := .cells #[.int .i64 a0_0, .int .i64 a0_1, .int .i64 a0_2, .int .i64 a0_3, .int .i64 a0_4, .int .i64 a0_5, .slice A0_6 l0_6.length c0_6] 29 (0, 0)) (by (with_reducible repeat first | refine kDN ?_ _ | refine kDr ?_ | refine kAl ?_ _); exact BK202.out)) : gb203 ≠ gb202)); clear BK202; clear HB; have BK202 := n0_; have HB := n1_; have BK203 := n2_; have GW203 := n3_; have GE203 := n4_; have NB202_203 := n5_; have NB203_202 := n6_; clear n0_ n1_ n2_ n3_ n4_ n5_ n6_; clear hb hbox hg; have hnb50 := NB202_203.out; have hnc50 := NB203_202.out; have hcz51_0 : w49.cell? ⟨gb202, 0, none⟩ = some (.int .i64 a0_0) := (kCe BK202.out 0).trans rfl; have hcz51_1 : w49.cell? ⟨gb202, 1, none⟩ = some (.int .i64 a0_1) := (kCe BK202.out 1).trans rfl; have hcz51_2 : w49.cell? ⟨gb202, 2, none⟩ = some (.int .i64 a0_2) := (kCe BK202.out 2).trans rfl; have hcz51_3 : w49.cell? ⟨gb202, 3, none⟩ = some (.int .i64 a0_3) := (kCe BK202.out 3).trans rfl; have hcz51_4 : w49.cell? ⟨gb202, 4, none⟩ = some (.int .i64 a0_4) := (kCe BK202.out 4).trans rfl; have hcz51_5 : w49.cell? ⟨gb202, 5, none⟩ = some (.int .i64 a0_5) := (kCe BK202.out 5).trans rfl; have hcz51_6 : w49.cell? ⟨gb202, 6, none⟩ = some (.slice A0_6 l0_6.length c0_6) := (kCe BK202.out 6).trans rfl; have hfz51_0 := kFr BK202.out 0; have hfz51_1 := kFr BK202.out 1; have hfz51_2 := kFr BK202.out 2; have hfz51_3 := kFr BK202.out 3; have hfz51_4 := kFr BK202.out 4; have hfz51_5 := kFr BK202.out 5; have hfz51_6 := kFr BK202.out 6; have hcz52_0 : w49.cell? ⟨gb203, 0, none⟩ = some (.int .i64 a1_0) := (kCe BK203.out 0).trans rfl; have hcz52_1 : w49.cell? ⟨gb203, 1, none⟩ = some (.int .i64 a1_1) := (kCe BK203.out 1).trans rfl; have hcz52_2 : w49.cell? ⟨gb203, 2, none⟩ = some (.int .i64 a1_2) := (kCe BK203.out 2).trans rfl; have hcz52_3 : w49.cell? ⟨gb203, 3, none⟩ = some (.int .i64 a1_3) := (kCe BK203.out 3).trans rfl; have hcz52_4 : w49.cell? ⟨gb203, 4, none⟩ = some (.int .i64 a1_4) := (kCe BK203.out 4).trans rfl; have hcz52_5 : w49.cell? ⟨gb203, 5, none⟩ = some (.int .i64 a1_5) := (kCe BK203.out 5).trans rfl; have hcz52_6 : w49.cell? ⟨gb203, 6, none⟩ = some (.slice A1_6 l1_6.length c1_6) := (kCe BK203.out 6).trans rfl; have hfz52_0 := kFr BK203.out 0; have hfz52_1 := kFr BK203.out 1; have hfz52_2 := kFr BK203.out 2; have hfz52_3 := kFr BK203.out 3; have hfz52_4 := kFr BK203.out 4; have hfz52_5 := kFr BK203.out 5; have hfz52_6 := kFr BK203.out 6))
  go_ret
  exact ⟨by first | rfl | (simp [errW_none, errW_some] <;> rfl) | (simp [*, errW_none, errW_some] <;> rfl), by repeat (first | (with_reducible first | exact HB.out | apply bAl | apply bDN | apply bD1 | refine bSe ?_ GE202.out | refine bSe ?_ GE203.out) | exact HB.out)⟩

end Go.Proofs.Ytjbcgflpeomkfaa.F

namespace Go.Proofs.Ytjbcgflpeomkfaa.F
open Go.RowKit Go.Proofs.YtjbcgflpeomkfaaW.PrintWords Go.Proofs.YtjbcgflpeomkfaaW.PrintLast Go.Proofs.YtjbcgflpeomkfaaW.PrintMore
attribute [local go_sem] max2_int min2_int max_two min_two max_three min_three max_four min_four   -- for this text's walks alone
attribute [local go_sem high] Go.Proofs.Ytjbcgflpeomkfaa.Add.string_leq Go.Proofs.Ytjbcgflpeomkfaa.Add.string_gtr
set_option linter.unusedVariables false
set_option linter.unusedSimpArgs false

/-! ### spec_l1In: function 30 -/
def spec_l1In.f (a0 : Int) (a1 : Int) (a2 : Int) : Option (Bool) := if a0 ≥ a1 then (some (decide (a0 ≤ a2))) else (some false)
set_option maxHeartbeats 8000000 in
set_option maxRecDepth 100000 in
theorem spec_l1In.calls (a0 : Int) (a1 : Int) (a2 : Int) (r : Bool) (w : World) (h : spec_l1In.f a0 a1 a2 = some r) :
  Calls Try.prog 30 #[.int .i64 a0, .int .i64 a1, .int .i64 a2] w fun e w' => e = .returned (.bool r) ∧ Drawn0 w w' := by
 have H : (if a0 ≥ a1 then (some (decide (a0 ≤ a2))) else (some false)) = some r := h
 clear h
 by_cases c4 : a0 ≥ a1
 ·
  rw [if_pos c4] at H
  have c4b0 : decide (a1 ≤ a0) = true := decide_eq_true c4
  clear c4
  obtain rfl := Option.some.inj H
  go_enter Try.func30, Try.ntmps30
  go_wp2
  go_ret
  exact ⟨by first | rfl | (simp; done) | (simp [*]; done) | exact Go.Proofs.Ytjbcgflpeomkfaa.Add.isEmpty_bne _, by repeat (first | exact Drawn0.refl _ | apply Drawn0.step)⟩
 ·
  rw [if_neg c4] at H
  have c4b0 : decide (a1 ≤ a0) = false := decide_eq_false c4
  clear c4
  obtain rfl := Option.some.inj H
  go_enter Try.func30, Try.ntmps30
  go_wp2
  go_ret
  exact ⟨by first | rfl | (simp; done) | (simp [*]; done) | exact Go.Proofs.Ytjbcgflpeomkfaa.Add.isEmpty_bne _, by repeat (first | exact Drawn0.refl _ | apply Drawn0.step)⟩

end Go.Proofs.Ytjbcgflpeomkfaa.F

namespace Go.Proofs.Ytjbcgflpeomkfaa.F
open Go.RowKit Go.Proofs.YtjbcgflpeomkfaaW.PrintWords Go.Proofs.YtjbcgflpeomkfaaW.PrintLast Go.Proofs.YtjbcgflpeomkfaaW.PrintMore
attribute [local go_sem] max2_int min2_int max_two min_two max_three min_three max_four min_four   -- for this text's walks alone
attribute [local go_sem high] Go.Proofs.Ytjbcgflpeomkfaa.Add.string_leq Go.Proofs.Ytjbcgflpeomkfaa.Add.string_gtr
open Go.Proofs.YtjbcgflpeomkfaaW.PrintWords renaming pw_below_drewN → bDN, below_drew1 → bD1, below_alloc → bAl, blk_drewN → kDN, blk_drew → kDr, blk_alloc → kAl, below_set → bSe, below_size → bSz, blk_cell → kCe, blk_frozen → kFr
set_option linter.unusedVariables false
set_option linter.unusedSimpArgs false

/-! ### spec_RecordOk: function 31 -/
mutual
def spec_RecordOk.j0 : Nat → Bool → Int → Bool → ByteArray → Bool → ByteArray → List (S74) → Option (Bool)
 | 0, _, _, _, _, _, _, _ => none
 | k + 1, x26, x111000, x111001, x111002, x111003, x111004, x111005 => if x26 = true then (some false) else (if x111001 = true then (if x111003 = true then (spec_RecordOk.j1 k (x111004.toList != ([] : List UInt8)) x111000 x111001 x111002 x111003 x111004 x111005) else (spec_RecordOk.j1 k false x111000 x111001 x111002 x111003 x111004 x111005)) else (if x111002.toList = ([] : List UInt8) then (if x111003 = true then (spec_RecordOk.j1 k (x111004.toList != ([] : List UInt8)) x111000 x111001 x111002 x111003 x111004 x111005) else (spec_RecordOk.j1 k false x111000 x111001 x111002 x111003 x111004 x111005)) else (spec_RecordOk.j1 k true x111000 x111001 x111002 x111003 x111004 x111005)))
def spec_RecordOk.j1 : Nat → Bool → Int → Bool → ByteArray → Bool → ByteArray → List (S74) → Option (Bool)
 | 0, _, _, _, _, _, _, _ => none
 | k + 1, x43, x111000, x111001, x111002, x111003, x111004, x111005 => if x43 = true then (some false) else (spec_RecordOk.l0 k 0 x111000 x111001 x111002 x111003 x111004 x111005)
def spec_RecordOk.l0 : Nat → Int → Int → Bool → ByteArray → Bool → ByteArray → List (S74) → Option (Bool)
 | 0, _, _, _, _, _, _, _ => none
 | k + 1, x3, x111000, x111001, x111002, x111003, x111004, x111005 => if x3 < (x111005.length : Int) then (if 0 ≤ x3 then (if ((rd_T74 x111005 x3).f0).toList = ([] : List UInt8) then (some false) else (if (((rd_T74 x111005 x3).f0).size : Int) > 100 then (some false) else (if (((rd_T74 x111005 x3).f1).size : Int) > 100 then (some false) else (spec_RecordOk.l0 k (wrap64 (x3 + 1)) x111000 x111001 x111002 x111003 x111004 x111005)))) else (none)) else (some true)
end
def spec_RecordOk.f (k : Nat) (a0_0 : Int) (a0_1 : Bool) (a0_2 : ByteArray) (a0_3 : Bool) (a0_4 : ByteArray) (l0_5 : List (S74)) : Option (Bool) := (spec_l1In.f a0_0 0 1000000000000).bind fun t111 => (if t111 = true then (if (a0_2.size : Int) > 100 then (spec_RecordOk.j0 k true a0_0 a0_1 a0_2 a0_3 a0_4 l0_5) else (if (a0_4.size : Int) > 100 then (spec_RecordOk.j0 k true a0_0 a0_1 a0_2 a0_3 a0_4 l0_5) else (spec_RecordOk.j0 k (decide ((l0_5.length : Int) > 3)) a0_0 a0_1 a0_2 a0_3 a0_4 l0_5))) else (spec_RecordOk.j0 k true a0_0 a0_1 a0_2 a0_3 a0_4 l0_5))
theorem spec_RecordOk.mono_l : ∀ k, (∀ y0 y1 y2 y3 y4 y5 y6, LeO (spec_RecordOk.j0 k y0 y1 y2 y3 y4 y5 y6) (spec_RecordOk.j0 (k + 1) y0 y1 y2 y3 y4 y5 y6)) ∧ (∀ y0 y1 y2 y3 y4 y5 y6, LeO (spec_RecordOk.j1 k y0 y1 y2 y3 y4 y5 y6) (spec_RecordOk.j1 (k + 1) y0 y1 y2 y3 y4 y5 y6)) ∧ (∀ y0 y1 y2 y3 y4 y5 y6, LeO (spec_RecordOk.l0 k y0 y1 y2 y3 y4 y5 y6) (spec_RecordOk.l0 (k + 1) y0 y1 y2 y3 y4 y5 y6))
 | 0 => ⟨fun _ _ _ _ _ _ _ r h => by simp [spec_RecordOk.j0] at h, fun _ _ _ _ _ _ _ r h => by simp [spec_RecordOk.j1] at h, fun _ _ _ _ _ _ _ r h => by simp [spec_RecordOk.l0] at h⟩
 | k + 1 => by
  obtain ⟨ih0, ih1, ih2⟩ := spec_RecordOk.mono_l k
  refine ⟨?_, ?_, ?_⟩
  ·
   intro y0 y1 y2 y3 y4 y5 y6
   unfold spec_RecordOk.j0
   repeat' first
   | (with_reducible exact ih0 _ _ _ _ _ _ _)
   | (with_reducible exact ih1 _ _ _ _ _ _ _)
   | (with_reducible exact ih2 _ _ _ _ _ _ _)
   | (with_reducible exact LeO.refl _)
   | (with_reducible exact LeO.none _)
   | (with_reducible refine LeO.ite ?_ ?_)
   | (with_reducible refine LeO.bind ?_ (fun _ => ?_))
   | exact ih0 _ _ _ _ _ _ _
   | exact ih1 _ _ _ _ _ _ _
   | exact ih2 _ _ _ _ _ _ _
   | exact LeO.none _
   | refine LeO.ite ?_ ?_
   | refine LeO.bind ?_ (fun _ => ?_)
  ·
   intro y0 y1 y2 y3 y4 y5 y6
   unfold spec_RecordOk.j1
   repeat' first
   | (with_reducible exact ih0 _ _ _ _ _ _ _)
   | (with_reducible exact ih1 _ _ _ _ _ _ _)
   | (with_reducible exact ih2 _ _ _ _ _ _ _)
   | (with_reducible exact LeO.refl _)
   | (with_reducible exact LeO.none _)
   | (with_reducible refine LeO.ite ?_ ?_)
   | (with_reducible refine LeO.bind ?_ (fun _ => ?_))
   | exact ih0 _ _ _ _ _ _ _
   | exact ih1 _ _ _ _ _ _ _
   | exact ih2 _ _ _ _ _ _ _
   | exact LeO.none _
   | refine LeO.ite ?_ ?_
   | refine LeO.bind ?_ (fun _ => ?_)
  ·
   intro y0 y1 y2 y3 y4 y5 y6
   unfold spec_RecordOk.l0
   repeat' first
   | (with_reducible exact ih0 _ _ _ _ _ _ _)
   | (with_reducible exact ih1 _ _ _ _ _ _ _)
   | (with_reducible exact ih2 _ _ _ _ _ _ _)
   | (with_reducible exact LeO.refl _)
   | (with_reducible exact LeO.none _)
   | (with_reducible refine LeO.ite ?_ ?_)
   | (with_reducible refine LeO.bind ?_ (fun _ => ?_))
   | exact ih0 _ _ _ _ _ _ _
   | exact ih1 _ _ _ _ _ _ _
   | exact ih2 _ _ _ _ _ _ _
   | exact LeO.none _
   | refine LeO.ite ?_ ?_
   | refine LeO.bind ?_ (fun _ => ?_)
theorem spec_RecordOk.mono : ∀ a0 a1 a2 a3 a4 a5 k, LeO (spec_RecordOk.f k a0 a1 a2 a3 a4 a5) (spec_RecordOk.f (k + 1) a0 a1 a2 a3 a4 a5) := by
 intro a0 a1 a2 a3 a4 a5 k
 obtain ⟨ih0, ih1, ih2⟩ := spec_RecordOk.mono_l k
 unfold spec_RecordOk.f
 repeat' first
   | (with_reducible exact ih0 _ _ _ _ _ _ _)
   | (with_reducible exact ih1 _ _ _ _ _ _ _)
   | (with_reducible exact ih2 _ _ _ _ _ _ _)
   | (with_reducible exact LeO.refl _)
   | (with_reducible exact LeO.none _)
   | (with_reducible refine LeO.ite ?_ ?_)
   | (with_reducible refine LeO.bind ?_ (fun _ => ?_))
   | exact ih0 _ _ _ _ _ _ _
   | exact ih1 _ _ _ _ _ _ _
   | exact ih2 _ _ _ _ _ _ _
   | exact LeO.none _
   | refine LeO.ite ?_ ?_
   | refine LeO.bind ?_ (fun _ => ?_)
set_option maxHeartbeats 8000000 in
set_option maxRecDepth 100000 in
theorem spec_RecordOk.calls (k : Nat) (a0_0 : Int) (a0_1 : Bool) (a0_2 : ByteArray) (a0_3 : Bool) (a0_4 : ByteArray) (A0_5 : Option Addr) (c0_5 : Nat) (l0_5 : List (S74)) (r : Bool) (w : World) (hr0_5 : Kd.C k74 w A0_5 l0_5.length l0_5) (hc0_5 : l0_5.length ≤ c0_5) (h : spec_RecordOk.f k a0_0 a0_1 a0_2 a0_3 a0_4 l0_5 = some r) :
  Calls Try.prog 31 #[.agg #[.int .i64 a0_0, .bool a0_1, .string a0_2, .bool a0_3, .string a0_4, .slice A0_5 l0_5.length c0_5]] w fun e w' => e = .returned (.bool r) ∧ Below w.heap.size w w' := by
 have hu56 := Try.underlying56
 have hu74 := Try.underlying74
 have HR0_5 := Aside0.mk hr0_5
 have HC0_5 := Aside0.mk hc0_5
 clear hr0_5 hc0_5
 have HB := Aside0.mk (Below.refl w.heap.size w)
 have H : ((spec_l1In.f a0_0 0 1000000000000).bind fun t111 => (if t111 = true then (if (a0_2.size : Int) > 100 then (spec_RecordOk.j0 k true a0_0 a0_1 a0_2 a0_3 a0_4 l0_5) else (if (a0_4.size : Int) > 100 then (spec_RecordOk.j0 k true a0_0 a0_1 a0_2 a0_3 a0_4 l0_5) else (spec_RecordOk.j0 k (decide ((l0_5.length : Int) > 3)) a0_0 a0_1 a0_2 a0_3 a0_4 l0_5))) else (spec_RecordOk.j0 k true a0_0 a0_1 a0_2 a0_3 a0_4 l0_5))) = some r := h
 clear h
 have HC2 := Aside0.mk H
 clear H
 go_enter Try.func31, Try.ntmps31
 go_upto_region 1 with (first | ((with_reducible refine gate_dst (N := 1) rfl ?_); (try (refine gate_guard (by rfl) ?_; dsimp only)); refine box_event ?hg (N := 1) ?hd (cs := #[.int .i64 a0_0, .bool a0_1, .string a0_2, .bool a0_3, .string a0_4, .slice A0_5 l0_5.length c0_5]) (t := 56) ?hr ?_; (case hd => rfl); (case hg => rfl); (case hr => first | (go_simp; done) | (go_simp; rfl)); intro gb110 hg w3 hbox hb; have n0_ := Aside0.mk (below_step (by repeat (first | (with_reducible first | exact HB.out | apply bAl | apply bDN | apply bD1) | exact HB.out)) hb); have n1_ := Aside0.mk (hbox); have n2_ := Aside0.mk ((by rw [hg]; exact (bSz (by repeat (first | (with_reducible first | exact HB.out | apply bAl | apply bDN | apply bD1) | exact HB.out))) : w.heap.size ≤ gb110)); have n3_ := Aside0.mk ((by rw [hg]; exact (bSz (by repeat (first | (with_reducible first | exact HB.out | apply bAl | apply bDN | apply bD1) | exact HB.out))) : w.heap.size ≤ gb110)); clear HB; have HB := n0_; have BK110 := n1_; have GW110 := n2_; have GE110 := n3_; clear n0_ n1_ n2_ n3_; clear hb hbox hg))
 (try simp only [Act.put, List.setIfInBounds_toArray, List.set_cons_zero, List.set_cons_succ])
 go_cut [26] (fun v26 wc => ∃ (kq : Nat) (x26_1 : Bool), v26 = .bool x26_1 ∧ Aside0 (spec_RecordOk.j0 kq x26_1 a0_0 a0_1 a0_2 a0_3 a0_4 l0_5 = some r) ∧ Aside0 (kq ≤ k) ∧ Aside0 (wc.heap[gb110]? = some (.cells #[.int .i64 a0_0, .bool a0_1, .string a0_2, .bool a0_3, .string a0_4, (.slice A0_5 l0_5.length c0_5)] 56 (0, 0))) ∧ Aside0 (Below w.heap.size w wc))
 case first =>
  have H := HC2.out
  clear HC2
  replace H := Option.bind_eq_some_iff.mp H
  obtain ⟨t111, A40, H⟩ := H
  have A4 := Aside0.mk A40
  clear A40
  by_cases c5 : t111 = true
  ·
   subst c5
   rw [if_pos rfl] at H
   by_cases c6 : (a0_2.size : Int) > 100
   ·
    rw [if_pos c6] at H
    have c6b0 : decide (100 < (a0_2.size : Int)) = true := decide_eq_true c6
    have c6b1 : decide (100 < a0_2.size) = true := decide_eq_true (by omega)
    clear c6
    (first | rw [c6b0] | (simp only [i64_w, i32_w]; rw [c6b0]) | skip)
    have H' := Aside0.mk H
    clear H
    have hcz7_0 : w3.cell? ⟨gb110, 0, none⟩ = some (.int .i64 a0_0) := (kCe BK110.out 0).trans rfl
    have hcz7_1 : w3.cell? ⟨gb110, 1, none⟩ = some (.bool a0_1) := (kCe BK110.out 1).trans rfl
    have hcz7_2 : w3.cell? ⟨gb110, 2, none⟩ = some (.string a0_2) := (kCe BK110.out 2).trans rfl
    have hcz7_3 : w3.cell? ⟨gb110, 3, none⟩ = some (.bool a0_3) := (kCe BK110.out 3).trans rfl
    have hcz7_4 : w3.cell? ⟨gb110, 4, none⟩ = some (.string a0_4) := (kCe BK110.out 4).trans rfl
    have hcz7_5 : w3.cell? ⟨gb110, 5, none⟩ = some (.slice A0_5 l0_5.length c0_5) := (kCe BK110.out 5).trans rfl
    have hfz7_0 := kFr BK110.out 0
    have hfz7_1 := kFr BK110.out 1
    have hfz7_2 := kFr BK110.out 2
    have hfz7_3 := kFr BK110.out 3
    have hfz7_4 := kFr BK110.out 4
    have hfz7_5 := kFr BK110.out 5
    go_wp2_with (first | ((with_reducible refine gate_callee (f := 30) rfl ?_); refine goesL_ (some 7) rfl rfl Try.func30 (by kernel_rfl) rfl #[.int .i64 a0_0, .int .i64 0, .int .i64 1000000000000] rfl (by (try simp only [List.map_toArray, List.map_cons, List.map_nil]); first | done | rfl | (simp only [List.length_drop, List.length_take]; rfl)) ?_; (with_reducible refine (spec_l1In.calls a0_0 0 1000000000000 true _ A4.out).mono ?_); rintro e w' ⟨rfl, ⟨nd, rfl⟩⟩; refine ⟨_, rfl, ?_⟩))
    go_meet
    case rel => exact ⟨_, (true), (by first | rfl | (simp; done) | (simp [*]; done) | exact Go.Proofs.Ytjbcgflpeomkfaa.Add.isEmpty_bne _), H', ⟨by first | omega | exact Nat.le_refl _⟩, ⟨by (with_reducible repeat first | refine kDN ?_ _ | refine kDr ?_ | refine kAl ?_ _); exact BK110.out⟩, ⟨by repeat (first | (with_reducible first | exact HB.out | apply bAl | apply bDN | apply bD1 | refine bSe ?_ GE110.out) | exact HB.out)⟩⟩
   ·
    rw [if_neg c6] at H
    have c6b0 : decide (100 < (a0_2.size : Int)) = false := decide_eq_false c6
    have c6b1 : decide (100 < a0_2.size) = false := decide_eq_false (by omega)
    clear c6
    (first | rw [c6b0] | (simp only [i64_w, i32_w]; rw [c6b0]) | skip)
    by_cases c8 : (a0_4.size : Int) > 100
    ·
     rw [if_pos c8] at H
     have c8b0 : decide (100 < (a0_4.size : Int)) = true := decide_eq_true c8
     have c8b1 : decide (100 < a0_4.size) = true := decide_eq_true (by omega)
     clear c8
     have H' := Aside0.mk H
     clear H
     have hcz9_0 : w3.cell? ⟨gb110, 0, none⟩ = some (.int .i64 a0_0) := (kCe BK110.out 0).trans rfl
     have hcz9_1 : w3.cell? ⟨gb110, 1, none⟩ = some (.bool a0_1) := (kCe BK110.out 1).trans rfl
     have hcz9_2 : w3.cell? ⟨gb110, 2, none⟩ = some (.string a0_2) := (kCe BK110.out 2).trans rfl
     have hcz9_3 : w3.cell? ⟨gb110, 3, none⟩ = some (.bool a0_3) := (kCe BK110.out 3).trans rfl
     have hcz9_4 : w3.cell? ⟨gb110, 4, none⟩ = some (.string a0_4) := (kCe BK110.out 4).trans rfl
     have hcz9_5 : w3.cell? ⟨gb110, 5, none⟩ = some (.slice A0_5 l0_5.length c0_5) := (kCe BK110.out 5).trans rfl
     have hfz9_0 := kFr BK110.out 0
     have hfz9_1 := kFr BK110.out 1
     have hfz9_2 := kFr BK110.out 2
     have hfz9_3 := kFr BK110.out 3
     have hfz9_4 := kFr BK110.out 4
     have hfz9_5 := kFr BK110.out 5
     go_wp2_with (first | ((with_reducible refine gate_callee (f := 30) rfl ?_); refine goesL_ (some 7) rfl rfl Try.func30 (by kernel_rfl) rfl #[.int .i64 a0_0, .int .i64 0, .int .i64 1000000000000] rfl (by (try simp only [List.map_toArray, List.map_cons, List.map_nil]); first | done | rfl | (simp only [List.length_drop, List.length_take]; rfl)) ?_; (with_reducible refine (spec_l1In.calls a0_0 0 1000000000000 true _ A4.out).mono ?_); rintro e w' ⟨rfl, ⟨nd, rfl⟩⟩; refine ⟨_, rfl, ?_⟩))
     go_meet
     case rel => exact ⟨_, (true), (by first | rfl | (simp; done) | (simp [*]; done) | exact Go.Proofs.Ytjbcgflpeomkfaa.Add.isEmpty_bne _), H', ⟨by first | omega | exact Nat.le_refl _⟩, ⟨by (with_reducible repeat first | refine kDN ?_ _ | refine kDr ?_ | refine kAl ?_ _); exact BK110.out⟩, ⟨by repeat (first | (with_reducible first | exact HB.out | apply bAl | apply bDN | apply bD1 | refine bSe ?_ GE110.out) | exact HB.out)⟩⟩
    ·
     rw [if_neg c8] at H
     have c8b0 : decide (100 < (a0_4.size : Int)) = false := decide_eq_false c8
     have c8b1 : decide (100 < a0_4.size) = false := decide_eq_false (by omega)
     clear c8
     have H' := Aside0.mk H
     clear H
     have hcz10_0 : w3.cell? ⟨gb110, 0, none⟩ = some (.int .i64 a0_0) := (kCe BK110.out 0).trans rfl
     have hcz10_1 : w3.cell? ⟨gb110, 1, none⟩ = some (.bool a0_1) := (kCe BK110.out 1).trans rfl
     have hcz10_2 : w3.cell? ⟨gb110, 2, none⟩ = some (.string a0_2) := (kCe BK110.out 2).trans rfl
     have hcz10_3 : w3.cell? ⟨gb110, 3, none⟩ = some (.bool a0_3) := (kCe BK110.out 3).trans rfl
     have hcz10_4 : w3.cell? ⟨gb110, 4, none⟩ = some (.string a0_4) := (kCe BK110.out 4).trans rfl
     have hcz10_5 : w3.cell? ⟨gb110, 5, none⟩ = some (.slice A0_5 l0_5.length c0_5) := (kCe BK110.out 5).trans rfl
     have hfz10_0 := kFr BK110.out 0
     have hfz10_1 := kFr BK110.out 1
     have hfz10_2 := kFr BK110.out 2
     have hfz10_3 := kFr BK110.out 3
     have hfz10_4 := kFr BK110.out 4
     have hfz10_5 := kFr BK110.out 5
     go_wp2_with (first | ((with_reducible refine gate_callee (f := 30) rfl ?_); refine goesL_ (some 7) rfl rfl Try.func30 (by kernel_rfl) rfl #[.int .i64 a0_0, .int .i64 0, .int .i64 1000000000000] rfl (by (try simp only [List.map_toArray, List.map_cons, List.map_nil]); first | done | rfl | (simp only [List.length_drop, List.length_take]; rfl)) ?_; (with_reducible refine (spec_l1In.calls a0_0 0 1000000000000 true _ A4.out).mono ?_); rintro e w' ⟨rfl, ⟨nd, rfl⟩⟩; refine ⟨_, rfl, ?_⟩))
     go_meet
     case rel => exact ⟨_, (decide ((l0_5.length : Int) > 3)), (by first | rfl | (simp; done) | (simp [*]; done) | exact Go.Proofs.Ytjbcgflpeomkfaa.Add.isEmpty_bne _), H', ⟨by first | omega | exact Nat.le_refl _⟩, ⟨by (with_reducible repeat first | refine kDN ?_ _ | refine kDr ?_ | refine kAl ?_ _); exact BK110.out⟩, ⟨by repeat (first | (with_reducible first | exact HB.out | apply bAl | apply bDN | apply bD1 | refine bSe ?_ GE110.out) | exact HB.out)⟩⟩
  ·
   replace c5 := Bool.eq_false_iff.mpr c5
   subst c5
   rw [if_neg (show ¬ (false = true) by decide)] at H
   have H' := Aside0.mk H
   clear H
   have hcz11_0 : w3.cell? ⟨gb110, 0, none⟩ = some (.int .i64 a0_0) := (kCe BK110.out 0).trans rfl
   have hcz11_1 : w3.cell? ⟨gb110, 1, none⟩ = some (.bool a0_1) := (kCe BK110.out 1).trans rfl
   have hcz11_2 : w3.cell? ⟨gb110, 2, none⟩ = some (.string a0_2) := (kCe BK110.out 2).trans rfl
   have hcz11_3 : w3.cell? ⟨gb110, 3, none⟩ = some (.bool a0_3) := (kCe BK110.out 3).trans rfl
   have hcz11_4 : w3.cell? ⟨gb110, 4, none⟩ = some (.string a0_4) := (kCe BK110.out 4).trans rfl
   have hcz11_5 : w3.cell? ⟨gb110, 5, none⟩ = some (.slice A0_5 l0_5.length c0_5) := (kCe BK110.out 5).trans rfl
   have hfz11_0 := kFr BK110.out 0
   have hfz11_1 := kFr BK110.out 1
   have hfz11_2 := kFr BK110.out 2
   have hfz11_3 := kFr BK110.out 3
   have hfz11_4 := kFr BK110.out 4
   have hfz11_5 := kFr BK110.out 5
   go_wp2_with (first | ((with_reducible refine gate_callee (f := 30) rfl ?_); refine goesL_ (some 7) rfl rfl Try.func30 (by kernel_rfl) rfl #[.int .i64 a0_0, .int .i64 0, .int .i64 1000000000000] rfl (by (try simp only [List.map_toArray, List.map_cons, List.map_nil]); first | done | rfl | (simp only [List.length_drop, List.length_take]; rfl)) ?_; (with_reducible refine (spec_l1In.calls a0_0 0 1000000000000 false _ A4.out).mono ?_); rintro e w' ⟨rfl, ⟨nd, rfl⟩⟩; refine ⟨_, rfl, ?_⟩))
   go_meet
   case rel => exact ⟨_, (true), (by first | rfl | (simp; done) | (simp [*]; done) | exact Go.Proofs.Ytjbcgflpeomkfaa.Add.isEmpty_bne _), H', ⟨by first | omega | exact Nat.le_refl _⟩, ⟨by (with_reducible repeat first | refine kDN ?_ _ | refine kDr ?_ | refine kAl ?_ _); exact BK110.out⟩, ⟨by repeat (first | (with_reducible first | exact HB.out | apply bAl | apply bDN | apply bD1 | refine bSe ?_ GE110.out) | exact HB.out)⟩⟩
 case rest =>
  clear HC2
  try clear p2
  try clear c3
  try clear c5
  try clear c6
  try clear c6b0
  try clear c6b1
  try clear c8
  try clear c8b0
  try clear c8b1
  try clear hcz10_0
  try clear hcz10_1
  try clear hcz10_2
  try clear hcz10_3
  try clear hcz10_4
  try clear hcz10_5
  try clear hcz11_0
  try clear hcz11_1
  try clear hcz11_2
  try clear hcz11_3
  try clear hcz11_4
  try clear hcz11_5
  try clear hcz7_0
  try clear hcz7_1
  try clear hcz7_2
  try clear hcz7_3
  try clear hcz7_4
  try clear hcz7_5
  try clear hcz9_0
  try clear hcz9_1
  try clear hcz9_2
  try clear hcz9_3
  try clear hcz9_4
  try clear hcz9_5
  try clear hfz10_0
  try clear hfz10_1
  try clear hfz10_2
  try clear hfz10_3
  try clear hfz10_4
  try clear hfz10_5
  try clear hfz11_0
  try clear hfz11_1
  try clear hfz11_2
  try clear hfz11_3
  try clear hfz11_4
  try clear hfz11_5
  try clear hfz7_0
  try clear hfz7_1
  try clear hfz7_2
  try clear hfz7_3
  try clear hfz7_4
  try clear hfz7_5
  try clear hfz9_0
  try clear hfz9_1
  try clear hfz9_2
  try clear hfz9_3
  try clear hfz9_4
  try clear hfz9_5
  obtain ⟨kq, x26_1, rfl, HA, HJ1, BK110, HB⟩ := hcut
  cases kq with
  | zero => exact absurd HA.out (by simp [spec_RecordOk.j0])
  | succ kj1 =>
   have H := HA.out
   clear HA
   simp only [spec_RecordOk.j0] at H
   by_cases c12 : x26_1 = true
   ·
    subst c12
    rw [if_pos rfl] at H
    obtain rfl := Option.some.inj H
    go_wp2
    go_ret
    exact ⟨by first | rfl | (simp [errW_none, errW_some] <;> rfl) | (simp [*, errW_none, errW_some] <;> rfl), by repeat (first | (with_reducible first | exact HB.out | apply bAl | apply bDN | apply bD1 | refine bSe ?_ GE110.out) | exact HB.out)⟩
   ·
    replace c12 := Bool.eq_false_iff.mpr c12
    subst c12
    rw [if_neg (show ¬ (false = true) by decide)] at H
    have HC13 := Aside0.mk H
    clear H
    go_upto_region 3 with (fail)
    go_cut [43] (fun v43 wc => ∃ (kq : Nat) (x43_12 : Bool), v43 = .bool x43_12 ∧ Aside0 (spec_RecordOk.j1 kq x43_12 a0_0 a0_1 a0_2 a0_3 a0_4 l0_5 = some r) ∧ Aside0 (kq ≤ kj1) ∧ Aside0 (wc.heap[gb110]? = some (.cells #[.int .i64 a0_0, .bool a0_1, .string a0_2, .bool a0_3, .string a0_4, (.slice A0_5 l0_5.length c0_5)] 56 (0, 0))) ∧ Aside0 (Below w.heap.size w wc))
    case first =>
     have H := HC13.out
     clear HC13
     by_cases c14 : a0_1 = true
     ·
      subst c14
      rw [if_pos rfl] at H
      by_cases c15 : a0_3 = true
      ·
       subst c15
       rw [if_pos rfl] at H
       have H' := Aside0.mk H
       clear H
       have hcz16_0 : wc.cell? ⟨gb110, 0, none⟩ = some (.int .i64 a0_0) := (kCe BK110.out 0).trans rfl
       have hcz16_1 : wc.cell? ⟨gb110, 1, none⟩ = some (.bool true) := (kCe BK110.out 1).trans rfl
       have hcz16_2 : wc.cell? ⟨gb110, 2, none⟩ = some (.string a0_2) := (kCe BK110.out 2).trans rfl
       have hcz16_3 : wc.cell? ⟨gb110, 3, none⟩ = some (.bool true) := (kCe BK110.out 3).trans rfl
       have hcz16_4 : wc.cell? ⟨gb110, 4, none⟩ = some (.string a0_4) := (kCe BK110.out 4).trans rfl
       have hcz16_5 : wc.cell? ⟨gb110, 5, none⟩ = some (.slice A0_5 l0_5.length c0_5) := (kCe BK110.out 5).trans rfl
       have hfz16_0 := kFr BK110.out 0
       have hfz16_1 := kFr BK110.out 1
       have hfz16_2 := kFr BK110.out 2
       have hfz16_3 := kFr BK110.out 3
       have hfz16_4 := kFr BK110.out 4
       have hfz16_5 := kFr BK110.out 5
       go_wp2
       go_meet
       case rel => exact ⟨_, ((a0_4.toList != ([] : List UInt8))), (by first | rfl | (simp; done) | (simp [*]; done) | exact Go.Proofs.Ytjbcgflpeomkfaa.Add.isEmpty_bne _), H', ⟨by have := HJ1.out; first | omega | exact Nat.le_refl _⟩, ⟨by (with_reducible repeat first | refine kDN ?_ _ | refine kDr ?_ | refine kAl ?_ _); exact BK110.out⟩, ⟨by repeat (first | (with_reducible first | exact HB.out | apply bAl | apply bDN | apply bD1 | refine bSe ?_ GE110.out) | exact HB.out)⟩⟩
      ·
       replace c15 := Bool.eq_false_iff.mpr c15
       subst c15
       rw [if_neg (show ¬ (false = true) by decide)] at H
       have H' := Aside0.mk H
       clear H
       have hcz17_0 : wc.cell? ⟨gb110, 0, none⟩ = some (.int .i64 a0_0) := (kCe BK110.out 0).trans rfl
       have hcz17_1 : wc.cell? ⟨gb110, 1, none⟩ = some (.bool true) := (kCe BK110.out 1).trans rfl
       have hcz17_2 : wc.cell? ⟨gb110, 2, none⟩ = some (.string a0_2) := (kCe BK110.out 2).trans rfl
       have hcz17_3 : wc.cell? ⟨gb110, 3, none⟩ = some (.bool false) := (kCe BK110.out 3).trans rfl
       have hcz17_4 : wc.cell? ⟨gb110, 4, none⟩ = some (.string a0_4) := (kCe BK110.out 4).trans rfl
       have hcz17_5 : wc.cell? ⟨gb110, 5, none⟩ = some (.slice A0_5 l0_5.length c0_5) := (kCe BK110.out 5).trans rfl
       have hfz17_0 := kFr BK110.out 0
       have hfz17_1 := kFr BK110.out 1
       have hfz17_2 := kFr BK110.out 2
       have hfz17_3 := kFr BK110.out 3
       have hfz17_4 := kFr BK110.out 4
       have hfz17_5 := kFr BK110.out 5
       go_wp2
       go_meet
       case rel => exact ⟨_, (false), (by first | rfl | (simp; done) | (simp [*]; done) | exact Go.Proofs.Ytjbcgflpeomkfaa.Add.isEmpty_bne _), H', ⟨by have := HJ1.out; first | omega | exact Nat.le_refl _⟩, ⟨by (with_reducible repeat first | refine kDN ?_ _ | refine kDr ?_ | refine kAl ?_ _); exact BK110.out⟩, ⟨by repeat (first | (with_reducible first | exact HB.out | apply bAl | apply bDN | apply bD1 | refine bSe ?_ GE110.out) | exact HB.out)⟩⟩
     ·
      replace c14 := Bool.eq_false_iff.mpr c14
      subst c14
      rw [if_neg (show ¬ (false = true) by decide)] at H
      by_cases c18 : a0_2.toList = ([] : List UInt8)
      ·
       rw [if_pos c18] at H
       have c18b0 : (a0_2.toList == ([] : List UInt8)) = true := beq_iff_eq.mpr c18
       have c18b1 : (a0_2.toList != ([] : List UInt8)) = false := bne_eq_false_iff_eq.mpr c18
       clear c18
       (first | rw [c18b0] | (simp only [i64_w, i32_w]; rw [c18b0]) | skip)
       by_cases c19 : a0_3 = true
       ·
        subst c19
        rw [if_pos rfl] at H
        have H' := Aside0.mk H
        clear H
        have hcz20_0 : wc.cell? ⟨gb110, 0, none⟩ = some (.int .i64 a0_0) := (kCe BK110.out 0).trans rfl
        have hcz20_1 : wc.cell? ⟨gb110, 1, none⟩ = some (.bool false) := (kCe BK110.out 1).trans rfl
        have hcz20_2 : wc.cell? ⟨gb110, 2, none⟩ = some (.string a0_2) := (kCe BK110.out 2).trans rfl
        have hcz20_3 : wc.cell? ⟨gb110, 3, none⟩ = some (.bool true) := (kCe BK110.out 3).trans rfl
        have hcz20_4 : wc.cell? ⟨gb110, 4, none⟩ = some (.string a0_4) := (kCe BK110.out 4).trans rfl
        have hcz20_5 : wc.cell? ⟨gb110, 5, none⟩ = some (.slice A0_5 l0_5.length c0_5) := (kCe BK110.out 5).trans rfl
        have hfz20_0 := kFr BK110.out 0
        have hfz20_1 := kFr BK110.out 1
        have hfz20_2 := kFr BK110.out 2
        have hfz20_3 := kFr BK110.out 3
        have hfz20_4 := kFr BK110.out 4
        have hfz20_5 := kFr BK110.out 5
        go_wp2
        go_meet
        case rel => exact ⟨_, ((a0_4.toList != ([] : List UInt8))), (by first | rfl | (simp; done) | (simp [*]; done) | exact Go.Proofs.Ytjbcgflpeomkfaa.Add.isEmpty_bne _), H', ⟨by have := HJ1.out; first | omega | exact Nat.le_refl _⟩, ⟨by (with_reducible repeat first | refine kDN ?_ _ | refine kDr ?_ | refine kAl ?_ _); exact BK110.out⟩, ⟨by repeat (first | (with_reducible first | exact HB.out | apply bAl | apply bDN | apply bD1 | refine bSe ?_ GE110.out) | exact HB.out)⟩⟩
       ·
        replace c19 := Bool.eq_false_iff.mpr c19
        subst c19
        rw [if_neg (show ¬ (false = true) by decide)] at H
        have H' := Aside0.mk H
        clear H
        have hcz21_0 : wc.cell? ⟨gb110, 0, none⟩ = some (.int .i64 a0_0) := (kCe BK110.out 0).trans rfl
        have hcz21_1 : wc.cell? ⟨gb110, 1, none⟩ = some (.bool false) := (kCe BK110.out 1).trans rfl
        have hcz21_2 : wc.cell? ⟨gb110, 2, none⟩ = some (.string a0_2) := (kCe BK110.out 2).trans rfl
        have hcz21_3 : wc.cell? ⟨gb110, 3, none⟩ = some (.bool false) := (kCe BK110.out 3).trans rfl
        have hcz21_4 : wc.cell? ⟨gb110, 4, none⟩ = some (.string a0_4) := (kCe BK110.out 4).trans rfl
        have hcz21_5 : wc.cell? ⟨gb110, 5, none⟩ = some (.slice A0_5 l0_5.length c0_5) := (kCe BK110.out 5).trans rfl
        have hfz21_0 := kFr BK110.out 0
        have hfz21_1 := kFr BK110.out 1
        have hfz21_2 := kFr BK110.out 2
        have hfz21_3 := kFr BK110.out 3
        have hfz21_4 := kFr BK110.out 4
        have hfz21_5 := kFr BK110.out 5
        go_wp2
        go_meet
        case rel => exact ⟨_, (false), (by first | rfl | (simp; done) | (simp [*]; done) | exact Go.Proofs.Ytjbcgflpeomkfaa.Add.isEmpty_bne _), H', ⟨by have := HJ1.out; first | omega | exact Nat.le_refl _⟩, ⟨by (with_reducible repeat first | refine kDN ?_ _ | refine kDr ?_ | refine kAl ?_ _); exact BK110.out⟩, ⟨by repeat (first | (with_reducible first | exact HB.out | apply bAl | apply bDN | apply bD1 | refine bSe ?_ GE110.out) | exact HB.out)⟩⟩
      ·
       rw [if_neg c18] at H
       have c18b0 : (a0_2.toList == ([] : List UInt8)) = false := beq_eq_false_iff_ne.mpr c18
       have c18b1 : (a0_2.toList != ([] : List UInt8)) = true := bne_iff_ne.mpr c18
       (first | rw [c18b0] | (simp only [i64_w, i32_w]; rw [c18b0]) | skip)
       have H' := Aside0.mk H
       clear H
       have hcz22_0 : wc.cell? ⟨gb110, 0, none⟩ = some (.int .i64 a0_0) := (kCe BK110.out 0).trans rfl
       have hcz22_1 : wc.cell? ⟨gb110, 1, none⟩ = some (.bool false) := (kCe BK110.out 1).trans rfl
       have hcz22_2 : wc.cell? ⟨gb110, 2, none⟩ = some (.string a0_2) := (kCe BK110.out 2).trans rfl
       have hcz22_3 : wc.cell? ⟨gb110, 3, none⟩ = some (.bool a0_3) := (kCe BK110.out 3).trans rfl
       have hcz22_4 : wc.cell? ⟨gb110, 4, none⟩ = some (.string a0_4) := (kCe BK110.out 4).trans rfl
       have hcz22_5 : wc.cell? ⟨gb110, 5, none⟩ = some (.slice A0_5 l0_5.length c0_5) := (kCe BK110.out 5).trans rfl
       have hfz22_0 := kFr BK110.out 0
       have hfz22_1 := kFr BK110.out 1
       have hfz22_2 := kFr BK110.out 2
       have hfz22_3 := kFr BK110.out 3
       have hfz22_4 := kFr BK110.out 4
       have hfz22_5 := kFr BK110.out 5
       go_wp2
       go_meet
       case rel => exact ⟨_, (true), (by first | rfl | (simp; done) | (simp [*]; done) | exact Go.Proofs.Ytjbcgflpeomkfaa.Add.isEmpty_bne _), H', ⟨by have := HJ1.out; first | omega | exact Nat.le_refl _⟩, ⟨by (with_reducible repeat first | refine kDN ?_ _ | refine kDr ?_ | refine kAl ?_ _); exact BK110.out⟩, ⟨by repeat (first | (with_reducible first | exact HB.out | apply bAl | apply bDN | apply bD1 | refine bSe ?_ GE110.out) | exact HB.out)⟩⟩
    case rest =>
     clear HC13
     try clear c1
     try clear p2
     try clear c3
     try clear c5
     try clear c6
     try clear c6b0
     try clear c6b1
     try clear c8
     try clear c8b0
     try clear c8b1
     try clear c12
     try clear c14
     try clear c15
     try clear c18
     try clear c18b0
     try clear c18b1
     try clear c19
     try clear hcz10_0
     try clear hcz10_1
     try clear hcz10_2
     try clear hcz10_3
     try clear hcz10_4
     try clear hcz10_5
     try clear hcz11_0
     try clear hcz11_1
     try clear hcz11_2
     try clear hcz11_3
     try clear hcz11_4
     try clear hcz11_5
     try clear hcz16_0
     try clear hcz16_1
     try clear hcz16_2
     try clear hcz16_3
     try clear hcz16_4
     try clear hcz16_5
     try clear hcz17_0
     try clear hcz17_1
     try clear hcz17_2
     try clear hcz17_3
     try clear hcz17_4
     try clear hcz17_5
     try clear hcz20_0
     try clear hcz20_1
     try clear hcz20_2
     try clear hcz20_3
     try clear hcz20_4
     try clear hcz20_5
     try clear hcz21_0
     try clear hcz21_1
     try clear hcz21_2
     try clear hcz21_3
     try clear hcz21_4
     try clear hcz21_5
     try clear hcz22_0
     try clear hcz22_1
     try clear hcz22_2
     try clear hcz22_3
     try clear hcz22_4
     try clear hcz22_5
     try clear hcz7_0
     try clear hcz7_1
     try clear hcz7_2
     try clear hcz7_3
     try clear hcz7_4
     try clear hcz7_5
     try clear hcz9_0
     try clear hcz9_1
     try clear hcz9_2
     try clear hcz9_3
     try clear hcz9_4
     try clear hcz9_5
     try clear hfz10_0
     try clear hfz10_1
     try clear hfz10_2
     try clear hfz10_3
     try clear hfz10_4
     try clear hfz10_5
     try clear hfz11_0
     try clear hfz11_1
     try clear hfz11_2
     try clear hfz11_3
     try clear hfz11_4
     try clear hfz11_5
     try clear hfz16_0
     try clear hfz16_1
     try clear hfz16_2
     try clear hfz16_3
     try clear hfz16_4
     try clear hfz16_5
     try clear hfz17_0
     try clear hfz17_1
     try clear hfz17_2
     try clear hfz17_3
     try clear hfz17_4
     try clear hfz17_5
     try clear hfz20_0
     try clear hfz20_1
     try clear hfz20_2
     try clear hfz20_3
     try clear hfz20_4
     try clear hfz20_5
     try clear hfz21_0
     try clear hfz21_1
     try clear hfz21_2
     try clear hfz21_3
     try clear hfz21_4
     try clear hfz21_5
     try clear hfz22_0
     try clear hfz22_1
     try clear hfz22_2
     try clear hfz22_3
     try clear hfz22_4
     try clear hfz22_5
     try clear hfz7_0
     try clear hfz7_1
     try clear hfz7_2
     try clear hfz7_3
     try clear hfz7_4
     try clear hfz7_5
     try clear hfz9_0
     try clear hfz9_1
     try clear hfz9_2
     try clear hfz9_3
     try clear hfz9_4
     try clear hfz9_5
     try clear p2
     obtain ⟨kq, x43_12, rfl, HA, HJ12, BK110, HB⟩ := hcut
     cases kq with
     | zero => exact absurd HA.out (by simp [spec_RecordOk.j1])
     | succ kj12 =>
      have H := HA.out
      clear HA
      simp only [spec_RecordOk.j1] at H
      by_cases c23 : x43_12 = true
      ·
       subst c23
       rw [if_pos rfl] at H
       obtain rfl := Option.some.inj H
       go_wp2
       go_ret
       exact ⟨by first | rfl | (simp [errW_none, errW_some] <;> rfl) | (simp [*, errW_none, errW_some] <;> rfl), by repeat (first | (with_reducible first | exact HB.out | apply bAl | apply bDN | apply bD1 | refine bSe ?_ GE110.out) | exact HB.out)⟩
      ·
       replace c23 := Bool.eq_false_iff.mpr c23
       subst c23
       rw [if_neg (show ¬ (false = true) by decide)] at H
       have H' := Aside0.mk H
       clear H
       go_wp2
       go_loopg [3] kj12 (fun kq v3 w' => ∃ (x3_3 : Int), v3 = .int .i64 x3_3 ∧ Aside0 (spec_RecordOk.l0 kq x3_3 a0_0 a0_1 a0_2 a0_3 a0_4 l0_5 = some r) ∧ Aside0 (kq ≤ kj12) ∧ Aside0 (w'.heap[gb110]? = some (.cells #[.int .i64 a0_0, .bool a0_1, .string a0_2, .bool a0_3, .string a0_4, (.slice A0_5 l0_5.length c0_5)] 56 (0, 0))) ∧ Aside0 (Below w.heap.size w w'))
       case atStart => exact ⟨(0), (by first | rfl | (simp; done) | (simp [*]; done) | exact Go.Proofs.Ytjbcgflpeomkfaa.Add.isEmpty_bne _), H', ⟨Nat.le_refl _⟩, ⟨by (with_reducible repeat first | refine kDN ?_ _ | refine kDr ?_ | refine kAl ?_ _); exact BK110.out⟩, ⟨by repeat (first | (with_reducible first | exact HB.out | apply bAl | apply bDN | apply bD1 | refine bSe ?_ GE110.out) | exact HB.out)⟩⟩
       case round =>
        clear H'
        try clear c1
        try clear c2
        try clear p2
        try clear c3
        try clear c5
        try clear c6
        try clear c6b0
        try clear c6b1
        try clear c8
        try clear c8b0
        try clear c8b1
        try clear c12
        try clear c14
        try clear c15
        try clear c18
        try clear c18b0
        try clear c18b1
        try clear c19
        try clear c23
        try clear hcz10_0
        try clear hcz10_1
        try clear hcz10_2
        try clear hcz10_3
        try clear hcz10_4
        try clear hcz10_5
        try clear hcz11_0
        try clear hcz11_1
        try clear hcz11_2
        try clear hcz11_3
        try clear hcz11_4
        try clear hcz11_5
        try clear hcz16_0
        try clear hcz16_1
        try clear hcz16_2
        try clear hcz16_3
        try clear hcz16_4
        try clear hcz16_5
        try clear hcz17_0
        try clear hcz17_1
        try clear hcz17_2
        try clear hcz17_3
        try clear hcz17_4
        try clear hcz17_5
        try clear hcz20_0
        try clear hcz20_1
        try clear hcz20_2
        try clear hcz20_3
        try clear hcz20_4
        try clear hcz20_5
        try clear hcz21_0
        try clear hcz21_1
        try clear hcz21_2
        try clear hcz21_3
        try clear hcz21_4
        try clear hcz21_5
        try clear hcz22_0
        try clear hcz22_1
        try clear hcz22_2
        try clear hcz22_3
        try clear hcz22_4
        try clear hcz22_5
        try clear hcz7_0
        try clear hcz7_1
        try clear hcz7_2
        try clear hcz7_3
        try clear hcz7_4
        try clear hcz7_5
        try clear hcz9_0
        try clear hcz9_1
        try clear hcz9_2
        try clear hcz9_3
        try clear hcz9_4
        try clear hcz9_5
        try clear hfz10_0
        try clear hfz10_1
        try clear hfz10_2
        try clear hfz10_3
        try clear hfz10_4
        try clear hfz10_5
        try clear hfz11_0
        try clear hfz11_1
        try clear hfz11_2
        try clear hfz11_3
        try clear hfz11_4
        try clear hfz11_5
        try clear hfz16_0
        try clear hfz16_1
        try clear hfz16_2
        try clear hfz16_3
        try clear hfz16_4
        try clear hfz16_5
        try clear hfz17_0
        try clear hfz17_1
        try clear hfz17_2
        try clear hfz17_3
        try clear hfz17_4
        try clear hfz17_5
        try clear hfz20_0
        try clear hfz20_1
        try clear hfz20_2
        try clear hfz20_3
        try clear hfz20_4
        try clear hfz20_5
        try clear hfz21_0
        try clear hfz21_1
        try clear hfz21_2
        try clear hfz21_3
        try clear hfz21_4
        try clear hfz21_5
        try clear hfz22_0
        try clear hfz22_1
        try clear hfz22_2
        try clear hfz22_3
        try clear hfz22_4
        try clear hfz22_5
        try clear hfz7_0
        try clear hfz7_1
        try clear hfz7_2
        try clear hfz7_3
        try clear hfz7_4
        try clear hfz7_5
        try clear hfz9_0
        try clear hfz9_1
        try clear hfz9_2
        try clear hfz9_3
        try clear hfz9_4
        try clear hfz9_5
        try clear p2
        obtain ⟨x3_3, rfl, HA, HK3, BK110, HB⟩ := hrel
        cases gk with
        | zero => exact absurd HA.out (by simp [spec_RecordOk.l0])
        | succ k3 =>
         have H := HA.out
         clear HA
         simp only [spec_RecordOk.l0] at H
         by_cases c24 : x3_3 < (l0_5.length : Int)
         ·
          rw [if_pos c24] at H
          have c24b0 : decide (x3_3 < (l0_5.length : Int)) = true := decide_eq_true c24
          clear c24
          by_cases c25 : 0 ≤ x3_3
          ·
           rw [if_pos c25] at H
           have c25b0 : decide (0 ≤ x3_3) = true := decide_eq_true c25
           clear c25
           by_cases c26 : ((rd_T74 l0_5 x3_3).f0).toList = ([] : List UInt8)
           ·
            rw [if_pos c26] at H
            have c26b0 : (((rd_T74 l0_5 x3_3).f0).toList == ([] : List UInt8)) = true := beq_iff_eq.mpr c26
            have c26b1 : (((rd_T74 l0_5 x3_3).f0).toList != ([] : List UInt8)) = false := bne_eq_false_iff_eq.mpr c26
            clear c26
            obtain rfl := Option.some.inj H
            have hcz27_0 : wr.cell? ⟨gb110, 0, none⟩ = some (.int .i64 a0_0) := (kCe BK110.out 0).trans rfl
            have hcz27_1 : wr.cell? ⟨gb110, 1, none⟩ = some (.bool a0_1) := (kCe BK110.out 1).trans rfl
            have hcz27_2 : wr.cell? ⟨gb110, 2, none⟩ = some (.string a0_2) := (kCe BK110.out 2).trans rfl
            have hcz27_3 : wr.cell? ⟨gb110, 3, none⟩ = some (.bool a0_3) := (kCe BK110.out 3).trans rfl
            have hcz27_4 : wr.cell? ⟨gb110, 4, none⟩ = some (.string a0_4) := (kCe BK110.out 4).trans rfl
            have hcz27_5 : wr.cell? ⟨gb110, 5, none⟩ = some (.slice A0_5 l0_5.length c0_5) := (kCe BK110.out 5).trans rfl
            have hfz27_0 := kFr BK110.out 0
            have hfz27_1 := kFr BK110.out 1
            have hfz27_2 := kFr BK110.out 2
            have hfz27_3 := kFr BK110.out 3
            have hfz27_4 := kFr BK110.out 4
            have hfz27_5 := kFr BK110.out 5
            have p112 : 0 ≤ (x3_3 : Int) := of_decide_eq_true (by first | (with_reducible assumption) | assumption)
            have q112 : x3_3 < (l0_5.length : Int) := of_decide_eq_true (by first | (with_reducible assumption) | assumption)
            obtain ⟨ad112, e112, hx112_0, hx112_1⟩ := at_T74 HR0_5.out x3_3 p112 q112
            cases e112
            replace hx112_0 := (HB.out.cell (World.block_lt_of_cell? w _ hx112_0)).trans hx112_0
            replace hx112_1 := (HB.out.cell (World.block_lt_of_cell? w _ hx112_1)).trans hx112_1
            replace p112 := eq_true p112
            replace q112 := eq_true q112
            go_wp2_with (first | ((with_reducible refine gate_dst (N := 4) rfl ?_); (try (refine gate_guard (by rfl) ?_; dsimp only)); refine box_event ?hg (N := 4) ?hd (cs := #[.string (⟨#[]⟩ : ByteArray), .string (⟨#[]⟩ : ByteArray)]) (t := 74) ?hr ?_; (case hd => rfl); (case hg => rfl); (case hr => first | (go_simp; done) | (go_simp; rfl)); intro gb113 hg w28 hbox hb; have n0_ := Aside0.mk (blk_below (g := gb110) (o := .cells #[.int .i64 a0_0, .bool a0_1, .string a0_2, .bool a0_3, .string a0_4, .slice (some ad112) l0_5.length c0_5] 56 (0, 0)) (by (with_reducible repeat first | refine kDN ?_ _ | refine kDr ?_ | refine kAl ?_ _); exact BK110.out) hb); have n1_ := Aside0.mk (below_step (by repeat (first | (with_reducible first | exact HB.out | apply bAl | apply bDN | apply bD1 | refine bSe ?_ GE110.out) | exact HB.out)) hb); have n2_ := Aside0.mk (hbox); have n3_ := Aside0.mk ((by rw [hg]; exact (bSz (by repeat (first | (with_reducible first | exact HB.out | apply bAl | apply bDN | apply bD1 | refine bSe ?_ GE110.out) | exact HB.out))) : w.heap.size ≤ gb113)); have n4_ := Aside0.mk ((by rw [hg]; exact (bSz (by repeat (first | (with_reducible first | exact HB.out | apply bAl | apply bDN | apply bD1 | refine bSe ?_ GE110.out) | exact HB.out))) : w.heap.size ≤ gb113)); have n5_ := Aside0.mk ((by rw [hg]; exact Nat.ne_of_lt (blk_lt (g := gb110) (o := .cells #[.int .i64 a0_0, .bool a0_1, .string a0_2, .bool a0_3, .string a0_4, .slice (some ad112) l0_5.length c0_5] 56 (0, 0)) (by (with_reducible repeat first | refine kDN ?_ _ | refine kDr ?_ | refine kAl ?_ _); exact BK110.out)) : gb110 ≠ gb113)); have n6_ := Aside0.mk ((by rw [hg]; exact Nat.ne_of_gt (blk_lt (g := gb110) (o := .cells #[.int .i64 a0_0, .bool a0_1, .string a0_2, .bool a0_3, .string a0_4, .slice (some ad112) l0_5.length c0_5] 56 (0, 0)) (by (with_reducible repeat first | refine kDN ?_ _ | refine kDr ?_ | refine kAl ?_ _); exact BK110.out)) : gb113 ≠ gb110)); clear BK110; clear HB; have BK110 := n0_; have HB := n1_; have BK113 := n2_; have GW113 := n3_; have GE113 := n4_; have NB110_113 := n5_; have NB113_110 := n6_; clear n0_ n1_ n2_ n3_ n4_ n5_ n6_; clear hb hbox hg; have hnb29 := NB113_110.out; have hnc29 := NB110_113.out; have hcz30_0 : w28.cell? ⟨gb113, 0, none⟩ = some (.string (⟨#[]⟩ : ByteArray)) := (kCe BK113.out 0).trans rfl; have hcz30_1 : w28.cell? ⟨gb113, 1, none⟩ = some (.string (⟨#[]⟩ : ByteArray)) := (kCe BK113.out 1).trans rfl; have hfz30_0 := kFr BK113.out 0; have hfz30_1 := kFr BK113.out 1))
            go_ret
            exact ⟨by first | rfl | (simp [errW_none, errW_some] <;> rfl) | (simp [*, errW_none, errW_some] <;> rfl), by repeat (first | (with_reducible first | exact HB.out | apply bAl | apply bDN | apply bD1 | refine bSe ?_ GE110.out | refine bSe ?_ GE113.out) | exact HB.out)⟩
           ·
            rw [if_neg c26] at H
            have c26b0 : (((rd_T74 l0_5 x3_3).f0).toList == ([] : List UInt8)) = false := beq_eq_false_iff_ne.mpr c26
            have c26b1 : (((rd_T74 l0_5 x3_3).f0).toList != ([] : List UInt8)) = true := bne_iff_ne.mpr c26
            by_cases c31 : (((rd_T74 l0_5 x3_3).f0).size : Int) > 100
            ·
             rw [if_pos c31] at H
             have c31b0 : decide (100 < (((rd_T74 l0_5 x3_3).f0).size : Int)) = true := decide_eq_true c31
             have c31b1 : decide (100 < ((rd_T74 l0_5 x3_3).f0).size) = true := decide_eq_true (by omega)
             clear c31
             obtain rfl := Option.some.inj H
             have hcz32_0 : wr.cell? ⟨gb110, 0, none⟩ = some (.int .i64 a0_0) := (kCe BK110.out 0).trans rfl
             have hcz32_1 : wr.cell? ⟨gb110, 1, none⟩ = some (.bool a0_1) := (kCe BK110.out 1).trans rfl
             have hcz32_2 : wr.cell? ⟨gb110, 2, none⟩ = some (.string a0_2) := (kCe BK110.out 2).trans rfl
             have hcz32_3 : wr.cell? ⟨gb110, 3, none⟩ = some (.bool a0_3) := (kCe BK110.out 3).trans rfl
             have hcz32_4 : wr.cell? ⟨gb110, 4, none⟩ = some (.string a0_4) := (kCe BK110.out 4).trans rfl
             have hcz32_5 : wr.cell? ⟨gb110, 5, none⟩ = some (.slice A0_5 l0_5.length c0_5) := (kCe BK110.out 5).trans rfl
             have hfz32_0 := kFr BK110.out 0
             have hfz32_1 := kFr BK110.out 1
             have hfz32_2 := kFr BK110.out 2
             have hfz32_3 := kFr BK110.out 3
             have hfz32_4 := kFr BK110.out 4
             have hfz32_5 := kFr BK110.out 5
             have p112 : 0 ≤ (x3_3 : Int) := of_decide_eq_true (by first | (with_reducible assumption) | assumption)
             have q112 : x3_3 < (l0_5.length : Int) := of_decide_eq_true (by first | (with_reducible assumption) | assumption)
             obtain ⟨ad112, e112, hx112_0, hx112_1⟩ := at_T74 HR0_5.out x3_3 p112 q112
             cases e112
             replace hx112_0 := (HB.out.cell (World.block_lt_of_cell? w _ hx112_0)).trans hx112_0
             replace hx112_1 := (HB.out.cell (World.block_lt_of_cell? w _ hx112_1)).trans hx112_1
             replace p112 := eq_true p112
             replace q112 := eq_true q112
             go_wp2_with (first | ((with_reducible refine gate_dst (N := 4) rfl ?_); (try (refine gate_guard (by rfl) ?_; dsimp only)); refine box_event ?hg (N := 4) ?hd (cs := #[.string (⟨#[]⟩ : ByteArray), .string (⟨#[]⟩ : ByteArray)]) (t := 74) ?hr ?_; (case hd => rfl); (case hg => rfl); (case hr => first | (go_simp; done) | (go_simp; rfl)); intro gb113 hg w33 hbox hb; have n0_ := Aside0.mk (blk_below (g := gb110) (o := .cells #[.int .i64 a0_0, .bool a0_1, .string a0_2, .bool a0_3, .string a0_4, .slice (some ad112) l0_5.length c0_5] 56 (0, 0)) (by (with_reducible repeat first | refine kDN ?_ _ | refine kDr ?_ | refine kAl ?_ _); exact BK110.out) hb); have n1_ := Aside0.mk (below_step (by repeat (first | (with_reducible first | exact HB.out | apply bAl | apply bDN | apply bD1 | refine bSe ?_ GE110.out) | exact HB.out)) hb); have n2_ := Aside0.mk (hbox); have n3_ := Aside0.mk ((by rw [hg]; exact (bSz (by repeat (first | (with_reducible first | exact HB.out | apply bAl | apply bDN | apply bD1 | refine bSe ?_ GE110.out) | exact HB.out))) : w.heap.size ≤ gb113)); have n4_ := Aside0.mk ((by rw [hg]; exact (bSz (by repeat (first | (with_reducible first | exact HB.out | apply bAl | apply bDN | apply bD1 | refine bSe ?_ GE110.out) | exact HB.out))) : w.heap.size ≤ gb113)); have n5_ := Aside0.mk ((by rw [hg]; exact Nat.ne_of_lt (blk_lt (g := gb110) (o := .cells #[.int .i64 a0_0, .bool a0_1, .string a0_2, .bool a0_3, .string a0_4, .slice (some ad112) l0_5.length c0_5] 56 (0, 0)) (by (with_reducible repeat first | refine kDN ?_ _ | refine kDr ?_ | refine kAl ?_ _); exact BK110.out)) : gb110 ≠ gb113)); have n6_ := Aside0.mk ((by rw [hg]; exact Nat.ne_of_gt (blk_lt (g := gb110) (o := .cells #[.int .i64 a0_0, .bool a0_1, .string a0_2, .bool a0_3, .string a0_4, .slice (some ad112) l0_5.length c0_5] 56 (0, 0)) (by (with_reducible repeat first | refine kDN ?_ _ | refine kDr ?_ | refine kAl ?_ _); exact BK110.out)) : gb113 ≠ gb110)); clear BK110; clear HB; have BK110 := n0_; have HB := n1_; have BK113 := n2_; have GW113 := n3_; have GE113 := n4_; have NB110_113 := n5_; have NB113_110 := n6_; clear n0_ n1_ n2_ n3_ n4_ n5_ n6_; clear hb hbox hg; have hnb34 := NB113_110.out; have hnc34 := NB110_113.out; have hcz35_0 : w33.cell? ⟨gb113, 0, none⟩ = some (.string (⟨#[]⟩ : ByteArray)) := (kCe BK113.out 0).trans rfl; have hcz35_1 : w33.cell? ⟨gb113, 1, none⟩ = some (.string (⟨#[]⟩ : ByteArray)) := (kCe BK113.out 1).trans rfl; have hfz35_0 := kFr BK113.out 0; have hfz35_1 := kFr BK113.out 1))
             go_ret
             exact ⟨by first | rfl | (simp [errW_none, errW_some] <;> rfl) | (simp [*, errW_none, errW_some] <;> rfl), by repeat (first | (with_reducible first | exact HB.out | apply bAl | apply bDN | apply bD1 | refine bSe ?_ GE110.out | refine bSe ?_ GE113.out) | exact HB.out)⟩
            ·
             rw [if_neg c31] at H
             have c31b0 : decide (100 < (((rd_T74 l0_5 x3_3).f0).size : Int)) = false := decide_eq_false c31
             have c31b1 : decide (100 < ((rd_T74 l0_5 x3_3).f0).size) = false := decide_eq_false (by omega)
             clear c31
             by_cases c36 : (((rd_T74 l0_5 x3_3).f1).size : Int) > 100
             ·
              rw [if_pos c36] at H
              have c36b0 : decide (100 < (((rd_T74 l0_5 x3_3).f1).size : Int)) = true := decide_eq_true c36
              have c36b1 : decide (100 < ((rd_T74 l0_5 x3_3).f1).size) = true := decide_eq_true (by omega)
              clear c36
              obtain rfl := Option.some.inj H
              have hcz37_0 : wr.cell? ⟨gb110, 0, none⟩ = some (.int .i64 a0_0) := (kCe BK110.out 0).trans rfl
              have hcz37_1 : wr.cell? ⟨gb110, 1, none⟩ = some (.bool a0_1) := (kCe BK110.out 1).trans rfl
              have hcz37_2 : wr.cell? ⟨gb110, 2, none⟩ = some (.string a0_2) := (kCe BK110.out 2).trans rfl
              have hcz37_3 : wr.cell? ⟨gb110, 3, none⟩ = some (.bool a0_3) := (kCe BK110.out 3).trans rfl
              have hcz37_4 : wr.cell? ⟨gb110, 4, none⟩ = some (.string a0_4) := (kCe BK110.out 4).trans rfl
              have hcz37_5 : wr.cell? ⟨gb110, 5, none⟩ = some (.slice A0_5 l0_5.length c0_5) := (kCe BK110.out 5).trans rfl
              have hfz37_0 := kFr BK110.out 0
              have hfz37_1 := kFr BK110.out 1
              have hfz37_2 := kFr BK110.out 2
              have hfz37_3 := kFr BK110.out 3
              have hfz37_4 := kFr BK110.out 4
              have hfz37_5 := kFr BK110.out 5
              have p112 : 0 ≤ (x3_3 : Int) := of_decide_eq_true (by first | (with_reducible assumption) | assumption)
              have q112 : x3_3 < (l0_5.length : Int) := of_decide_eq_true (by first | (with_reducible assumption) | assumption)
              obtain ⟨ad112, e112, hx112_0, hx112_1⟩ := at_T74 HR0_5.out x3_3 p112 q112
              cases e112
              replace hx112_0 := (HB.out.cell (World.block_lt_of_cell? w _ hx112_0)).trans hx112_0
              replace hx112_1 := (HB.out.cell (World.block_lt_of_cell? w _ hx112_1)).trans hx112_1
              replace p112 := eq_true p112
              replace q112 := eq_true q112
              go_wp2_with (first | ((with_reducible refine gate_dst (N := 4) rfl ?_); (try (refine gate_guard (by rfl) ?_; dsimp only)); refine box_event ?hg (N := 4) ?hd (cs := #[.string (⟨#[]⟩ : ByteArray), .string (⟨#[]⟩ : ByteArray)]) (t := 74) ?hr ?_; (case hd => rfl); (case hg => rfl); (case hr => first | (go_simp; done) | (go_simp; rfl)); intro gb113 hg w38 hbox hb; have n0_ := Aside0.mk (blk_below (g := gb110) (o := .cells #[.int .i64 a0_0, .bool a0_1, .string a0_2, .bool a0_3, .string a0_4, .slice (some ad112) l0_5.length c0_5] 56 (0, 0)) (by (with_reducible repeat first | refine kDN ?_ _ | refine kDr ?_ | refine kAl ?_ _); exact BK110.out) hb); have n1_ := Aside0.mk (below_step (by repeat (first | (with_reducible first | exact HB.out | apply bAl | apply bDN | apply bD1 | refine bSe ?_ GE110.out) | exact HB.out)) hb); have n2_ := Aside0.mk (hbox); have n3_ := Aside0.mk ((by rw [hg]; exact (bSz (by repeat (first | (with_reducible first | exact HB.out | apply bAl | apply bDN | apply bD1 | refine bSe ?_ GE110.out) | exact HB.out))) : w.heap.size ≤ gb113)); have n4_ := Aside0.mk ((by rw [hg]; exact (bSz (by repeat (first | (with_reducible first | exact HB.out | apply bAl | apply bDN | apply bD1 | refine bSe ?_ GE110.out) | exact HB.out))) : w.heap.size ≤ gb113)); have n5_ := Aside0.mk ((by rw [hg]; exact Nat.ne_of_lt (blk_lt (g := gb110) (o := .cells #[.int .i64 a0_0, .bool a0_1, .string a0_2, .bool a0_3, .string a0_4, .slice (some ad112) l0_5.length c0_5] 56 (0, 0)) (by (with_reducible repeat first | refine kDN ?_ _ | refine kDr ?_ | refine kAl ?_ _); exact BK110.out)) : gb110 ≠ gb113)); have n6_ := Aside0.mk ((by rw [hg]; exact Nat.ne_of_gt (blk_lt (g := gb110) (o := .cells #[.int .i64 a0_0, .bool a0_1, .string a0_2, .bool a0_3, .string a0_4, .slice (some ad112) l0_5.length c0_5] 56 (0, 0)) (by (with_reducible repeat first | refine kDN ?_ _ | refine kDr ?_ | refine kAl ?_ _); exact BK110.out)) : gb113 ≠ gb110)); clear BK110; clear HB; have BK110 := n0_; have HB := n1_; have BK113 := n2_; have GW113 := n3_; have GE113 := n4_; have NB110_113 := n5_; have NB113_110 := n6_; clear n0_ n1_ n2_ n3_ n4_ n5_ n6_; clear hb hbox hg; have hnb39 := NB113_110.out; have hnc39 := NB110_113.out; have hcz40_0 : w38.cell? ⟨gb113, 0, none⟩ = some (.string (⟨#[]⟩ : ByteArray)) := (kCe BK113.out 0).trans rfl; have hcz40_1 : w38.cell? ⟨gb113, 1, none⟩ = some (.string (⟨#[]⟩ : ByteArray)) := (kCe BK113.out 1).trans rfl; have hfz40_0 := kFr BK113.out 0; have hfz40_1 := kFr BK113.out 1))
              go_ret
              exact ⟨by first | rfl | (simp [errW_none, errW_some] <;> rfl) | (simp [*, errW_none, errW_some] <;> rfl), by repeat (first | (with_reducible first | exact HB.out | apply bAl | apply bDN | apply bD1 | refine bSe ?_ GE110.out | refine bSe ?_ GE113.out) | exact HB.out)⟩
             ·
              rw [if_neg c36] at H
              have c36b0 : decide (100 < (((rd_T74 l0_5 x3_3).f1).size : Int)) = false := decide_eq_false c36
              have c36b1 : decide (100 < ((rd_T74 l0_5 x3_3).f1).size) = false := decide_eq_false (by omega)
              clear c36
              have H' := Aside0.mk H
              clear H
              have hcz41_0 : wr.cell? ⟨gb110, 0, none⟩ = some (.int .i64 a0_0) := (kCe BK110.out 0).trans rfl
              have hcz41_1 : wr.cell? ⟨gb110, 1, none⟩ = some (.bool a0_1) := (kCe BK110.out 1).trans rfl
              have hcz41_2 : wr.cell? ⟨gb110, 2, none⟩ = some (.string a0_2) := (kCe BK110.out 2).trans rfl
              have hcz41_3 : wr.cell? ⟨gb110, 3, none⟩ = some (.bool a0_3) := (kCe BK110.out 3).trans rfl
              have hcz41_4 : wr.cell? ⟨gb110, 4, none⟩ = some (.string a0_4) := (kCe BK110.out 4).trans rfl
              have hcz41_5 : wr.cell? ⟨gb110, 5, none⟩ = some (.slice A0_5 l0_5.length c0_5) := (kCe BK110.out 5).trans rfl
              have hfz41_0 := kFr BK110.out 0
              have hfz41_1 := kFr BK110.out 1
              have hfz41_2 := kFr BK110.out 2
              have hfz41_3 := kFr BK110.out 3
              have hfz41_4 := kFr BK110.out 4
              have hfz41_5 := kFr BK110.out 5
              have p112 : 0 ≤ (x3_3 : Int) := of_decide_eq_true (by first | (with_reducible assumption) | assumption)
              have q112 : x3_3 < (l0_5.length : Int) := of_decide_eq_true (by first | (with_reducible assumption) | assumption)
              obtain ⟨ad112, e112, hx112_0, hx112_1⟩ := at_T74 HR0_5.out x3_3 p112 q112
              cases e112
              replace hx112_0 := (HB.out.cell (World.block_lt_of_cell? w _ hx112_0)).trans hx112_0
              replace hx112_1 := (HB.out.cell (World.block_lt_of_cell? w _ hx112_1)).trans hx112_1
              replace p112 := eq_true p112
              replace q112 := eq_true q112
              go_wp2_with (first | ((with_reducible refine gate_dst (N := 4) rfl ?_); (try (refine gate_guard (by rfl) ?_; dsimp only)); refine box_event ?hg (N := 4) ?hd (cs := #[.string (⟨#[]⟩ : ByteArray), .string (⟨#[]⟩ : ByteArray)]) (t := 74) ?hr ?_; (case hd => rfl); (case hg => rfl); (case hr => first | (go_simp; done) | (go_simp; rfl)); intro gb113 hg w42 hbox hb; have n0_ := Aside0.mk (blk_below (g := gb110) (o := .cells #[.int .i64 a0_0, .bool a0_1, .string a0_2, .bool a0_3, .string a0_4, .slice (some ad112) l0_5.length c0_5] 56 (0, 0)) (by (with_reducible repeat first | refine kDN ?_ _ | refine kDr ?_ | refine kAl ?_ _); exact BK110.out) hb); have n1_ := Aside0.mk (below_step (by repeat (first | (with_reducible first | exact HB.out | apply bAl | apply bDN | apply bD1 | refine bSe ?_ GE110.out) | exact HB.out)) hb); have n2_ := Aside0.mk (hbox); have n3_ := Aside0.mk ((by rw [hg]; exact (bSz (by repeat (first | (with_reducible first | exact HB.out | apply bAl | apply bDN | apply bD1 | refine bSe ?_ GE110.out) | exact HB.out))) : w.heap.size ≤ gb113)); have n4_ := Aside0.mk ((by rw [hg]; exact (bSz (by repeat (first | (with_reducible first | exact HB.out | apply bAl | apply bDN | apply bD1 | refine bSe ?_ GE110.out) | exact HB.out))) : w.heap.size ≤ gb113)); have n5_ := Aside0.mk ((by rw [hg]; exact Nat.ne_of_lt (blk_lt (g := gb110) (o := .cells #[.int .i64 a0_0, .bool a0_1, .string a0_2, .bool a0_3, .string a0_4, .slice (some ad112) l0_5.length c0_5] 56 (0, 0)) (by (with_reducible repeat first | refine kDN ?_ _ | refine kDr ?_ | refine kAl ?_ _); exact BK110.out)) : gb110 ≠ gb113)); have n6_ := Aside0.mk ((by rw [hg]; exact Nat.ne_of_gt (blk_lt (g := gb110) (o := .cells #[.int .i64 a0_0, .bool a0_1, .string a0_2, .bool a0_3, .string a0_4, .slice (some ad112) l0_5.length c0_5] 56 (0, 0)) (by (with_reducible repeat first | refine kDN ?_ _ | refine kDr ?_ | refine kAl ?_ _); exact BK110.out)) : gb113 ≠ gb110)); clear BK110; clear HB; have BK110 := n0_; have HB := n1_; have BK113 := n2_; have GW113 := n3_; have GE113 := n4_; have NB110_113 := n5_; have NB113_110 := n6_; clear n0_ n1_ n2_ n3_ n4_ n5_ n6_; clear hb hbox hg; have hnb43 := NB113_110.out; have hnc43 := NB110_113.out; have hcz44_0 : w42.cell? ⟨gb113, 0, none⟩ = some (.string (⟨#[]⟩ : ByteArray)) := (kCe BK113.out 0).trans rfl; have hcz44_1 : w42.cell? ⟨gb113, 1, none⟩ = some (.string (⟨#[]⟩ : ByteArray)) := (kCe BK113.out 1).trans rfl; have hfz44_0 := kFr BK113.out 0; have hfz44_1 := kFr BK113.out 1))
              go_roundg k3
              case measure => have := HJ1.out; have := HJ12.out; have := HK3.out; omega
              case rel => exact ⟨(wrap64 (x3_3 + 1)), (by first | rfl | (simp; done) | (simp [*]; done) | exact Go.Proofs.Ytjbcgflpeomkfaa.Add.isEmpty_bne _), H', ⟨by have := HJ1.out; have := HJ12.out; have := HK3.out; omega⟩, ⟨by (with_reducible repeat first | refine kDN ?_ _ | refine kDr ?_ | refine kAl ?_ _); refine blk_far ?_ NB110_113.out _; (with_reducible repeat first | refine kDN ?_ _ | refine kDr ?_ | refine kAl ?_ _); refine blk_far ?_ NB110_113.out _; (with_reducible repeat first | refine kDN ?_ _ | refine kDr ?_ | refine kAl ?_ _); exact BK110.out⟩, ⟨by repeat (first | (with_reducible first | exact HB.out | apply bAl | apply bDN | apply bD1 | refine bSe ?_ GE110.out | refine bSe ?_ GE113.out) | exact HB.out)⟩⟩
          ·
           rw [if_neg c25] at H
           exact absurd H (by simp)
         ·
          rw [if_neg c24] at H
          have c24b0 : decide (x3_3 < (l0_5.length : Int)) = false := decide_eq_false c24
          clear c24
          obtain rfl := Option.some.inj H
          have hcz45_0 : wr.cell? ⟨gb110, 0, none⟩ = some (.int .i64 a0_0) := (kCe BK110.out 0).trans rfl
          have hcz45_1 : wr.cell? ⟨gb110, 1, none⟩ = some (.bool a0_1) := (kCe BK110.out 1).trans rfl
          have hcz45_2 : wr.cell? ⟨gb110, 2, none⟩ = some (.string a0_2) := (kCe BK110.out 2).trans rfl
          have hcz45_3 : wr.cell? ⟨gb110, 3, none⟩ = some (.bool a0_3) := (kCe BK110.out 3).trans rfl
          have hcz45_4 : wr.cell? ⟨gb110, 4, none⟩ = some (.string a0_4) := (kCe BK110.out 4).trans rfl
          have hcz45_5 : wr.cell? ⟨gb110, 5, none⟩ = some (.slice A0_5 l0_5.length c0_5) := (kCe BK110.out 5).trans rfl
          have hfz45_0 := kFr BK110.out 0
          have hfz45_1 := kFr BK110.out 1
          have hfz45_2 := kFr BK110.out 2
          have hfz45_3 := kFr BK110.out 3
          have hfz45_4 := kFr BK110.out 4
          have hfz45_5 := kFr BK110.out 5
          go_wp2
          go_ret
          exact ⟨by first | rfl | (simp [errW_none, errW_some] <;> rfl) | (simp [*, errW_none, errW_some] <;> rfl), by repeat (first | (with_reducible first | exact HB.out | apply bAl | apply bDN | apply bD1 | refine bSe ?_ GE110.out) | exact HB.out)⟩

end Go.Proofs.Ytjbcgflpeomkfaa.F

namespace Go.Proofs.Ytjbcgflpeomkfaa.F
open Go.RowKit Go.Proofs.YtjbcgflpeomkfaaW.PrintWords Go.Proofs.YtjbcgflpeomkfaaW.PrintLast Go.Proofs.YtjbcgflpeomkfaaW.PrintMore
attribute [local go_sem] max2_int min2_int max_two min_two max_three min_three max_four min_four   -- for this text's walks alone
attribute [local go_sem high] Go.Proofs.Ytjbcgflpeomkfaa.Add.string_leq Go.Proofs.Ytjbcgflpeomkfaa.Add.string_gtr
open Go.Proofs.YtjbcgflpeomkfaaW.PrintWords renaming pw_below_drewN → bDN, below_drew1 → bD1, below_alloc → bAl, blk_drewN → kDN, blk_drew → kDr, blk_alloc → kAl, below_set → bSe, below_size → bSz, below_step → bSt, blk_cell → kCe, blk_frozen → kFr, blk_below → kBe, gate_callee → gCa, gate_guard → gGu, gate_dst → gDs, box_event → bEv
set_option linter.unusedVariables false
set_option linter.unusedSimpArgs false

/-! ### spec_BatchOk: function 10 -/
mutual
def spec_BatchOk.j0 : Nat → Bool → Int → Int → Int → Int → Int → Int → List (S56) → Option (Bool)
 | 0, _, _, _, _, _, _, _, _ => none
 | k + 1, x38, x115000, x115001, x115002, x115003, x115004, x115005, x115006 => if x38 = true then (some false) else (if x115002 < 0 then (if x115003 = 0 then (if x115004 = 0 then (if (Int.tmod (wrap64 (Int.tdiv x115005 2)) 2) = 1 then (spec_BatchOk.j1 k true x115000 x115001 x115002 x115003 x115004 x115005 x115006) else (if x115005 ≥ 4 then (spec_BatchOk.j1 k ((Int.tmod (wrap64 (Int.tdiv x115005 2)) 2) == 0) x115000 x115001 x115002 x115003 x115004 x115005 x115006) else (spec_BatchOk.j1 k false x115000 x115001 x115002 x115003 x115004 x115005 x115006))) else (spec_BatchOk.j1 k true x115000 x115001 x115002 x115003 x115004 x115005 x115006)) else (spec_BatchOk.j1 k true x115000 x115001 x115002 x115003 x115004 x115005 x115006)) else (if x115005 ≥ 4 then (spec_BatchOk.j1 k ((Int.tmod (wrap64 (Int.tdiv x115005 2)) 2) == 0) x115000 x115001 x115002 x115003 x115004 x115005 x115006) else (spec_BatchOk.j1 k false x115000 x115001 x115002 x115003 x115004 x115005 x115006)))
def spec_BatchOk.j1 : Nat → Bool → Int → Int → Int → Int → Int → Int → List (S56) → Option (Bool)
 | 0, _, _, _, _, _, _, _, _ => none
 | k + 1, x70, x115000, x115001, x115002, x115003, x115004, x115005, x115006 => if x70 = true then (some false) else ((spec_l1In.f (x115006.length : Int) 1 40).bind fun t121 => (if t121 = true then (if (wrap64 ((wrap64 (x115000 + (x115006.length : Int))) - 1)) > 1000000000 then (spec_BatchOk.j2 k true x115000 x115001 x115002 x115003 x115004 x115005 x115006) else (spec_BatchOk.j2 k (decide ((wrap64 ((wrap64 (x115004 + (x115006.length : Int))) - 1)) > 1000000000)) x115000 x115001 x115002 x115003 x115004 x115005 x115006)) else (spec_BatchOk.j2 k true x115000 x115001 x115002 x115003 x115004 x115005 x115006)))
def spec_BatchOk.j2 : Nat → Bool → Int → Int → Int → Int → Int → Int → List (S56) → Option (Bool)
 | 0, _, _, _, _, _, _, _, _ => none
 | k + 1, x95, x115000, x115001, x115002, x115003, x115004, x115005, x115006 => if x95 = true then (some false) else (spec_BatchOk.l0 k 0 x115000 x115001 x115002 x115003 x115004 x115005 x115006)
def spec_BatchOk.l0 : Nat → Int → Int → Int → Int → Int → Int → Int → List (S56) → Option (Bool)
 | 0, _, _, _, _, _, _, _, _ => none
 | k + 1, x3, x115000, x115001, x115002, x115003, x115004, x115005, x115006 => if x3 < (x115006.length : Int) then (if 0 ≤ x3 then ((spec_RecordOk.f k ((rd_T56 x115006 x3).f0) ((rd_T56 x115006 x3).f1) ((rd_T56 x115006 x3).f2) ((rd_T56 x115006 x3).f3) ((rd_T56 x115006 x3).f4) ((rd_T56 x115006 x3).f5)).bind fun t123 => (if t123 = true then (spec_BatchOk.l0 k (wrap64 (x3 + 1)) x115000 x115001 x115002 x115003 x115004 x115005 x115006) else (some false))) else (none)) else (if x115005 ≥ 4 then (if 0 < (x115006.length : Int) then (if (x115006.length : Int) = 1 then (if (rd_T56 x115006 0).f1 = true then (if ((rd_T56 x115006 0).f2).toList = ([99, 111, 109, 109, 105, 116] : List UInt8) then (if ((rd_T56 x115006 0).f3 = true) then (some false) else (if ((rd_T56 x115006 0).f4).toList = ([] : List UInt8) then (some ((((rd_T56 x115006 0).f5).length : Int) == 0)) else (some false))) else (if ((rd_T56 x115006 0).f2).toList = ([97, 98, 111, 114, 116] : List UInt8) then (if ((rd_T56 x115006 0).f3 = true) then (some false) else (if ((rd_T56 x115006 0).f4).toList = ([] : List UInt8) then (some ((((rd_T56 x115006 0).f5).length : Int) == 0)) else (some false))) else (some false))) else (some false)) else (some false)) else (none)) else (some true))
end
def spec_BatchOk.f (k : Nat) (a0_0 : Int) (a0_1 : Int) (a0_2 : Int) (a0_3 : Int) (a0_4 : Int) (a0_5 : Int) (l0_6 : List (S56)) : Option (Bool) := (spec_l1In.f a0_0 0 1000000000).bind fun t115 => (if t115 = true then ((spec_l1In.f a0_1 0 1000000).bind fun t116 => (if t116 = true then ((spec_l1In.f a0_2 (-1) 1000000000).bind fun t117 => (if t117 = true then ((spec_l1In.f a0_3 0 1000).bind fun t118 => (if t118 = true then ((spec_l1In.f a0_4 0 1000000000).bind fun t119 => (if t119 = true then ((spec_l1In.f a0_5 0 7).bind fun t120 => (spec_BatchOk.j0 k (!t120) a0_0 a0_1 a0_2 a0_3 a0_4 a0_5 l0_6)) else (spec_BatchOk.j0 k true a0_0 a0_1 a0_2 a0_3 a0_4 a0_5 l0_6))) else (spec_BatchOk.j0 k true a0_0 a0_1 a0_2 a0_3 a0_4 a0_5 l0_6))) else (spec_BatchOk.j0 k true a0_0 a0_1 a0_2 a0_3 a0_4 a0_5 l0_6))) else (spec_BatchOk.j0 k true a0_0 a0_1 a0_2 a0_3 a0_4 a0_5 l0_6))) else (spec_BatchOk.j0 k true a0_0 a0_1 a0_2 a0_3 a0_4 a0_5 l0_6))
theorem spec_BatchOk.mono_l : ∀ k, (∀ y0 y1 y2 y3 y4 y5 y6 y7, LeO (spec_BatchOk.j0 k y0 y1 y2 y3 y4 y5 y6 y7) (spec_BatchOk.j0 (k + 1) y0 y1 y2 y3 y4 y5 y6 y7)) ∧ (∀ y0 y1 y2 y3 y4 y5 y6 y7, LeO (spec_BatchOk.j1 k y0 y1 y2 y3 y4 y5 y6 y7) (spec_BatchOk.j1 (k + 1) y0 y1 y2 y3 y4 y5 y6 y7)) ∧ (∀ y0 y1 y2 y3 y4 y5 y6 y7, LeO (spec_BatchOk.j2 k y0 y1 y2 y3 y4 y5 y6 y7) (spec_BatchOk.j2 (k + 1) y0 y1 y2 y3 y4 y5 y6 y7)) ∧ (∀ y0 y1 y2 y3 y4 y5 y6 y7, LeO (spec_BatchOk.l0 k y0 y1 y2 y3 y4 y5 y6 y7) (spec_BatchOk.l0 (k + 1) y0 y1 y2 y3 y4 y5 y6 y7))
 | 0 => ⟨fun _ _ _ _ _ _ _ _ r h => by simp [spec_BatchOk.j0] at h, fun _ _ _ _ _ _ _ _ r h => by simp [spec_BatchOk.j1] at h, fun _ _ _ _ _ _ _ _ r h => by simp [spec_BatchOk.j2] at h, fun _ _ _ _ _ _ _ _ r h => by simp [spec_BatchOk.l0] at h⟩
 | k + 1 => by
  obtain ⟨ih0, ih1, ih2, ih3⟩ := spec_BatchOk.mono_l k
  refine ⟨?_, ?_, ?_, ?_⟩
  ·
   intro y0 y1 y2 y3 y4 y5 y6 y7
   unfold spec_BatchOk.j0
   repeat' first
   | (with_reducible exact ih0 _ _ _ _ _ _ _ _)
   | (with_reducible exact ih1 _ _ _ _ _ _ _ _)
   | (with_reducible exact ih2 _ _ _ _ _ _ _ _)
   | (with_reducible exact ih3 _ _ _ _ _ _ _ _)
   | (with_reducible exact spec_RecordOk.mono _ _ _ _ _ _ _)
   | (with_reducible exact LeO.refl _)
   | (with_reducible exact LeO.none _)
   | (with_reducible refine LeO.ite ?_ ?_)
   | (with_reducible refine LeO.bind ?_ (fun _ => ?_))
   | exact ih0 _ _ _ _ _ _ _ _
   | exact ih1 _ _ _ _ _ _ _ _
   | exact ih2 _ _ _ _ _ _ _ _
   | exact ih3 _ _ _ _ _ _ _ _
   | exact spec_RecordOk.mono _ _ _ _ _ _ _
   | exact LeO.none _
   | refine LeO.ite ?_ ?_
   | refine LeO.bind ?_ (fun _ => ?_)
  ·
   intro y0 y1 y2 y3 y4 y5 y6 y7
   unfold spec_BatchOk.j1
   repeat' first
   | (with_reducible exact ih0 _ _ _ _ _ _ _ _)
   | (with_reducible exact ih1 _ _ _ _ _ _ _ _)
   | (with_reducible exact ih2 _ _ _ _ _ _ _ _)
   | (with_reducible exact ih3 _ _ _ _ _ _ _ _)
   | (with_reducible exact spec_RecordOk.mono _ _ _ _ _ _ _)
   | (with_reducible exact LeO.refl _)
   | (with_reducible exact LeO.none _)
   | (with_reducible refine LeO.ite ?_ ?_)
   | (with_reducible refine LeO.bind ?_ (fun _ => ?_))
   | exact ih0 _ _ _ _ _ _ _ _
   | exact ih1 _ _ _ _ _ _ _ _
   | exact ih2 _ _ _ _ _ _ _ _
   | exact ih3 _ _ _ _ _ _ _ _
   | exact spec_RecordOk.mono _ _ _ _ _ _ _
   | exact LeO.none _
   | refine LeO.ite ?_ ?_
   | refine LeO.bind ?_ (fun _ => ?_)
  ·
   intro y0 y1 y2 y3 y4 y5 y6 y7
   unfold spec_BatchOk.j2
   repeat' first
   | (with_reducible exact ih0 _ _ _ _ _ _ _ _)
   | (with_reducible exact ih1 _ _ _ _ _ _ _ _)
   | (with_reducible exact ih2 _ _ _ _ _ _ _ _)
   | (with_reducible exact ih3 _ _ _ _ _ _ _ _)
   | (with_reducible exact spec_RecordOk.mono _ _ _ _ _ _ _)
   | (with_reducible exact LeO.refl _)
   | (with_reducible exact LeO.none _)
   | (with_reducible refine LeO.ite ?_ ?_)
   | (with_reducible refine LeO.bind ?_ (fun _ => ?_))
   | exact ih0 _ _ _ _ _ _ _ _
   | exact ih1 _ _ _ _ _ _ _ _
   | exact ih2 _ _ _ _ _ _ _ _
   | exact ih3 _ _ _ _ _ _ _ _
   | exact spec_RecordOk.mono _ _ _ _ _ _ _
   | exact LeO.none _
   | refine LeO.ite ?_ ?_
   | refine LeO.bind ?_ (fun _ => ?_)
  ·
   intro y0 y1 y2 y3 y4 y5 y6 y7
   unfold spec_BatchOk.l0
   repeat' first
   | (with_reducible exact ih0 _ _ _ _ _ _ _ _)
   | (with_reducible exact ih1 _ _ _ _ _ _ _ _)
   | (with_reducible exact ih2 _ _ _ _ _ _ _ _)
   | (with_reducible exact ih3 _ _ _ _ _ _ _ _)
   | (with_reducible exact spec_RecordOk.mono _ _ _ _ _ _ _)
   | (with_reducible exact LeO.refl _)
   | (with_reducible exact LeO.none _)
   | (with_reducible refine LeO.ite ?_ ?_)
   | (with_reducible refine LeO.bind ?_ (fun _ => ?_))
   | exact ih0 _ _ _ _ _ _ _ _
   | exact ih1 _ _ _ _ _ _ _ _
   | exact ih2 _ _ _ _ _ _ _ _
   | exact ih3 _ _ _ _ _ _ _ _
   | exact spec_RecordOk.mono _ _ _ _ _ _ _
   | exact LeO.none _
   | refine LeO.ite ?_ ?_
   | refine LeO.bind ?_ (fun _ => ?_)
theorem spec_BatchOk.mono : ∀ a0 a1 a2 a3 a4 a5 a6 k, LeO (spec_BatchOk.f k a0 a1 a2 a3 a4 a5 a6) (spec_BatchOk.f (k + 1) a0 a1 a2 a3 a4 a5 a6) := by
 intro a0 a1 a2 a3 a4 a5 a6 k
 obtain ⟨ih0, ih1, ih2, ih3⟩ := spec_BatchOk.mono_l k
 unfold spec_BatchOk.f
 repeat' first
   | (with_reducible exact ih0 _ _ _ _ _ _ _ _)
   | (with_reducible exact ih1 _ _ _ _ _ _ _ _)
   | (with_reducible exact ih2 _ _ _ _ _ _ _ _)
   | (with_reducible exact ih3 _ _ _ _ _ _ _ _)
   | (with_reducible exact spec_RecordOk.mono _ _ _ _ _ _ _)
   | (with_reducible exact LeO.refl _)
   | (with_reducible exact LeO.none _)
   | (with_reducible refine LeO.ite ?_ ?_)
   | (with_reducible refine LeO.bind ?_ (fun _ => ?_))
   | exact ih0 _ _ _ _ _ _ _ _
   | exact ih1 _ _ _ _ _ _ _ _
   | exact ih2 _ _ _ _ _ _ _ _
   | exact ih3 _ _ _ _ _ _ _ _
   | exact spec_RecordOk.mono _ _ _ _ _ _ _
   | exact LeO.none _
   | refine LeO.ite ?_ ?_
   | refine LeO.bind ?_ (fun _ => ?_)
set_option maxHeartbeats 8000000 in
set_option maxRecDepth 100000 in
theorem spec_BatchOk.calls (k : Nat) (a0_0 : Int) (a0_1 : Int) (a0_2 : Int) (a0_3 : Int) (a0_4 : Int) (a0_5 : Int) (A0_6 : Option Addr) (c0_6 : Nat) (l0_6 : List (S56)) (r : Bool) (w : World) (hr0_6 : Kd.C k56 w A0_6 l0_6.length l0_6) (hc0_6 : l0_6.length ≤ c0_6) (h : spec_BatchOk.f k a0_0 a0_1 a0_2 a0_3 a0_4 a0_5 l0_6 = some r) :
  Calls Try.prog 10 #[.agg #[.int .i64 a0_0, .int .i64 a0_1, .int .i64 a0_2, .int .i64 a0_3, .int .i64 a0_4, .int .i64 a0_5, .slice A0_6 l0_6.length c0_6]] w fun e w' => e = .returned (.bool r) ∧ Below w.heap.size w w' := by
 have hu29 := Try.underlying29
 have hu56 := Try.underlying56
 have HR0_6 := Aside0.mk hr0_6
 have HC0_6 := Aside0.mk hc0_6
 clear hr0_6 hc0_6
 have HB := Aside0.mk (Below.refl w.heap.size w)
 have H : ((spec_l1In.f a0_0 0 1000000000).bind fun t115 => (if t115 = true then ((spec_l1In.f a0_1 0 1000000).bind fun t116 => (if t116 = true then ((spec_l1In.f a0_2 (-1) 1000000000).bind fun t117 => (if t117 = true then ((spec_l1In.f a0_3 0 1000).bind fun t118 => (if t118 = true then ((spec_l1In.f a0_4 0 1000000000).bind fun t119 => (if t119 = true then ((spec_l1In.f a0_5 0 7).bind fun t120 => (spec_BatchOk.j0 k (!t120) a0_0 a0_1 a0_2 a0_3 a0_4 a0_5 l0_6)) else (spec_BatchOk.j0 k true a0_0 a0_1 a0_2 a0_3 a0_4 a0_5 l0_6))) else (spec_BatchOk.j0 k true a0_0 a0_1 a0_2 a0_3 a0_4 a0_5 l0_6))) else (spec_BatchOk.j0 k true a0_0 a0_1 a0_2 a0_3 a0_4 a0_5 l0_6))) else (spec_BatchOk.j0 k true a0_0 a0_1 a0_2 a0_3 a0_4 a0_5 l0_6))) else (spec_BatchOk.j0 k true a0_0 a0_1 a0_2 a0_3 a0_4 a0_5 l0_6))) = some r := h
 clear h
 have HC2 := Aside0.mk H
 clear H
 go_enter Try.func10, Try.ntmps10
 go_upto_region 1 with (first | ((with_reducible refine gDs (N := 1) rfl ?_); (try (refine gGu (by rfl) ?_; dsimp only)); refine bEv ?hg (N := 1) ?hd (cs := #[.int .i64 a0_0, .int .i64 a0_1, .int .i64 a0_2, .int .i64 a0_3, .int .i64 a0_4, .int .i64 a0_5, .slice A0_6 l0_6.length c0_6]) (t := 29) ?hr ?_; (case hd => rfl); (case hg => rfl); (case hr => first | (go_simp; done) | (go_simp; rfl)); intro gb114 hg w3 hbox hb; have n0_ := Aside0.mk (bSt (by repeat (first | (with_reducible first | exact HB.out | apply bAl | apply bDN | apply bD1) | exact HB.out)) hb); have n1_ := Aside0.mk (hbox); have n2_ := Aside0.mk ((by rw [hg]; exact (bSz (by repeat (first | (with_reducible first | exact HB.out | apply bAl | apply bDN | apply bD1) | exact HB.out))) : w.heap.size ≤ gb114)); have n3_ := Aside0.mk ((by rw [hg]; exact (bSz (by repeat (first | (with_reducible first | exact HB.out | apply bAl | apply bDN | apply bD1) | exact HB.out))) : w.heap.size ≤ gb114)); clear HB; have HB := n0_; have BK114 := n1_; have GW114 := n2_; have GE114 := n3_; clear n0_ n1_ n2_ n3_; clear hb hbox hg))
 (try simp only [Act.put, List.setIfInBounds_toArray, List.set_cons_zero, List.set_cons_succ])
 go_cut [38] (fun v38 wc => ∃ (kq : Nat) (x38_1 : Bool), v38 = .bool x38_1 ∧ Aside0 (spec_BatchOk.j0 kq x38_1 a0_0 a0_1 a0_2 a0_3 a0_4 a0_5 l0_6 = some r) ∧ Aside0 (kq ≤ k) ∧ Aside0 (wc.heap[gb114]? = some (.cells #[.int .i64 a0_0, .int .i64 a0_1, .int .i64 a0_2, .int .i64 a0_3, .int .i64 a0_4, .int .i64 a0_5, (.slice A0_6 l0_6.length c0_6)] 29 (0, 0))) ∧ Aside0 (Below w.heap.size w wc))
 case first =>
  have H := HC2.out
  clear HC2
  replace H := Option.bind_eq_some_iff.mp H
  obtain ⟨t115, A40, H⟩ := H
  have A4 := Aside0.mk A40
  clear A40
  by_cases c5 : t115 = true
  ·
   subst c5
   rw [if_pos rfl] at H
   replace H := Option.bind_eq_some_iff.mp H
   obtain ⟨t116, A60, H⟩ := H
   have A6 := Aside0.mk A60
   clear A60
   by_cases c7 : t116 = true
   ·
    subst c7
    rw [if_pos rfl] at H
    replace H := Option.bind_eq_some_iff.mp H
    obtain ⟨t117, A80, H⟩ := H
    have A8 := Aside0.mk A80
    clear A80
    by_cases c9 : t117 = true
    ·
     subst c9
     rw [if_pos rfl] at H
     replace H := Option.bind_eq_some_iff.mp H
     obtain ⟨t118, A100, H⟩ := H
     have A10 := Aside0.mk A100
     clear A100
     by_cases c11 : t118 = true
     ·
      subst c11
      rw [if_pos rfl] at H
      replace H := Option.bind_eq_some_iff.mp H
      obtain ⟨t119, A120, H⟩ := H
      have A12 := Aside0.mk A120
      clear A120
      by_cases c13 : t119 = true
      ·
       subst c13
       rw [if_pos rfl] at H
       replace H := Option.bind_eq_some_iff.mp H
       obtain ⟨t120, A140, H⟩ := H
       have A14 := Aside0.mk A140
       clear A140
       have H' := Aside0.mk H
       clear H
       have hcz15_0 : w3.cell? ⟨gb114, 0, none⟩ = some (.int .i64 a0_0) := (kCe BK114.out 0).trans rfl
       have hcz15_1 : w3.cell? ⟨gb114, 1, none⟩ = some (.int .i64 a0_1) := (kCe BK114.out 1).trans rfl
       have hcz15_2 : w3.cell? ⟨gb114, 2, none⟩ = some (.int .i64 a0_2) := (kCe BK114.out 2).trans rfl
       have hcz15_3 : w3.cell? ⟨gb114, 3, none⟩ = some (.int .i64 a0_3) := (kCe BK114.out 3).trans rfl
       have hcz15_4 : w3.cell? ⟨gb114, 4, none⟩ = some (.int .i64 a0_4) := (kCe BK114.out 4).trans rfl
       have hcz15_5 : w3.cell? ⟨gb114, 5, none⟩ = some (.int .i64 a0_5) := (kCe BK114.out 5).trans rfl
       have hcz15_6 : w3.cell? ⟨gb114, 6, none⟩ = some (.slice A0_6 l0_6.length c0_6) := (kCe BK114.out 6).trans rfl
       have hfz15_0 := kFr BK114.out 0
       have hfz15_1 := kFr BK114.out 1
       have hfz15_2 := kFr BK114.out 2
       have hfz15_3 := kFr BK114.out 3
       have hfz15_4 := kFr BK114.out 4
       have hfz15_5 := kFr BK114.out 5
       have hfz15_6 := kFr BK114.out 6
       go_wp2_with (first | ((with_reducible refine gCa (f := 30) rfl ?_); refine goesL_ (some 7) rfl rfl Try.func30 (by kernel_rfl) rfl #[.int .i64 a0_0, .int .i64 0, .int .i64 1000000000] rfl (by (try simp only [List.map_toArray, List.map_cons, List.map_nil]); first | done | rfl | (simp only [List.length_drop, List.length_take]; rfl)) ?_; (with_reducible refine (spec_l1In.calls a0_0 0 1000000000 true _ A4.out).mono ?_); rintro e w' ⟨rfl, ⟨nd, rfl⟩⟩; refine ⟨_, rfl, ?_⟩) | (go_at_call 30; (with_reducible refine (spec_l1In.calls a0_1 0 1000000 true _ A6.out).mono ?_); rintro e w' ⟨rfl, ⟨nd, rfl⟩⟩) | (go_at_call 30; (with_reducible refine (spec_l1In.calls a0_2 (-1) 1000000000 true _ A8.out).mono ?_); rintro e w' ⟨rfl, ⟨nd, rfl⟩⟩) | (go_at_call 30; (with_reducible refine (spec_l1In.calls a0_3 0 1000 true _ A10.out).mono ?_); rintro e w' ⟨rfl, ⟨nd, rfl⟩⟩) | (go_at_call 30; (with_reducible refine (spec_l1In.calls a0_4 0 1000000000 true _ A12.out).mono ?_); rintro e w' ⟨rfl, ⟨nd, rfl⟩⟩) | (go_at_call 30; (with_reducible refine (spec_l1In.calls a0_5 0 7 t120 _ A14.out).mono ?_); rintro e w' ⟨rfl, ⟨nd, rfl⟩⟩))
       go_meet
       case rel => exact ⟨_, (!t120), (by first | rfl | (simp; done) | (simp [*]; done) | exact Go.Proofs.Ytjbcgflpeomkfaa.Add.isEmpty_bne _), H', ⟨by first | omega | exact Nat.le_refl _⟩, ⟨by (with_reducible repeat first | refine kDN ?_ _ | refine kDr ?_ | refine kAl ?_ _); exact BK114.out⟩, ⟨by repeat (first | (with_reducible first | exact HB.out | apply bAl | apply bDN | apply bD1 | refine bSe ?_ GE114.out) | exact HB.out)⟩⟩
      ·
       replace c13 := Bool.eq_false_iff.mpr c13
       subst c13
       rw [if_neg (show ¬ (false = true) by decide)] at H
       have H' := Aside0.mk H
       clear H
       have hcz16_0 : w3.cell? ⟨gb114, 0, none⟩ = some (.int .i64 a0_0) := (kCe BK114.out 0).trans rfl
       have hcz16_1 : w3.cell? ⟨gb114, 1, none⟩ = some (.int .i64 a0_1) := (kCe BK114.out 1).trans rfl
       have hcz16_2 : w3.cell? ⟨gb114, 2, none⟩ = some (.int .i64 a0_2) := (kCe BK114.out 2).trans rfl
       have hcz16_3 : w3.cell? ⟨gb114, 3, none⟩ = some (.int .i64 a0_3) := (kCe BK114.out 3).trans rfl
       have hcz16_4 : w3.cell? ⟨gb114, 4, none⟩ = some (.int .i64 a0_4) := (kCe BK114.out 4).trans rfl
       have hcz16_5 : w3.cell? ⟨gb114, 5, none⟩ = some (.int .i64 a0_5) := (kCe BK114.out 5).trans rfl
       have hcz16_6 : w3.cell? ⟨gb114, 6, none⟩ = some (.slice A0_6 l0_6.length c0_6) := (kCe BK114.out 6).trans rfl
       have hfz16_0 := kFr BK114.out 0
       have hfz16_1 := kFr BK114.out 1
       have hfz16_2 := kFr BK114.out 2
       have hfz16_3 := kFr BK114.out 3
       have hfz16_4 := kFr BK114.out 4
       have hfz16_5 := kFr BK114.out 5
       have hfz16_6 := kFr BK114.out 6
       go_wp2_with (first | ((with_reducible refine gCa (f := 30) rfl ?_); refine goesL_ (some 7) rfl rfl Try.func30 (by kernel_rfl) rfl #[.int .i64 a0_0, .int .i64 0, .int .i64 1000000000] rfl (by (try simp only [List.map_toArray, List.map_cons, List.map_nil]); first | done | rfl | (simp only [List.length_drop, List.length_take]; rfl)) ?_; (with_reducible refine (spec_l1In.calls a0_0 0 1000000000 true _ A4.out).mono ?_); rintro e w' ⟨rfl, ⟨nd, rfl⟩⟩; refine ⟨_, rfl, ?_⟩) | (go_at_call 30; (with_reducible refine (spec_l1In.calls a0_1 0 1000000 true _ A6.out).mono ?_); rintro e w' ⟨rfl, ⟨nd, rfl⟩⟩) | (go_at_call 30; (with_reducible refine (spec_l1In.calls a0_2 (-1) 1000000000 true _ A8.out).mono ?_); rintro e w' ⟨rfl, ⟨nd, rfl⟩⟩) | (go_at_call 30; (with_reducible refine (spec_l1In.calls a0_3 0 1000 true _ A10.out).mono ?_); rintro e w' ⟨rfl, ⟨nd, rfl⟩⟩) | (go_at_call 30; (with_reducible refine (spec_l1In.calls a0_4 0 1000000000 false _ A12.out).mono ?_); rintro e w' ⟨rfl, ⟨nd, rfl⟩⟩))
       go_meet
       case rel => exact ⟨_, (true), (by first | rfl | (simp; done) | (simp [*]; done) | exact Go.Proofs.Ytjbcgflpeomkfaa.Add.isEmpty_bne _), H', ⟨by first | omega | exact Nat.le_refl _⟩, ⟨by (with_reducible repeat first | refine kDN ?_ _ | refine kDr ?_ | refine kAl ?_ _); exact BK114.out⟩, ⟨by repeat (first | (with_reducible first | exact HB.out | apply bAl | apply bDN | apply bD1 | refine bSe ?_ GE114.out) | exact HB.out)⟩⟩
     ·
      replace c11 := Bool.eq_false_iff.mpr c11
      subst c11
      rw [if_neg (show ¬ (false = true) by decide)] at H
      have H' := Aside0.mk H
      clear H
      have hcz17_0 : w3.cell? ⟨gb114, 0, none⟩ = some (.int .i64 a0_0) := (kCe BK114.out 0).trans rfl
      have hcz17_1 : w3.cell? ⟨gb114, 1, none⟩ = some (.int .i64 a0_1) := (kCe BK114.out 1).trans rfl
      have hcz17_2 : w3.cell? ⟨gb114, 2, none⟩ = some (.int .i64 a0_2) := (kCe BK114.out 2).trans rfl
      have hcz17_3 : w3.cell? ⟨gb114, 3, none⟩ = some (.int .i64 a0_3) := (kCe BK114.out 3).trans rfl
      have hcz17_4 : w3.cell? ⟨gb114, 4, none⟩ = some (.int .i64 a0_4) := (kCe BK114.out 4).trans rfl
      have hcz17_5 : w3.cell? ⟨gb114, 5, none⟩ = some (.int .i64 a0_5) := (kCe BK114.out 5).trans rfl
      have hcz17_6 : w3.cell? ⟨gb114, 6, none⟩ = some (.slice A0_6 l0_6.length c0_6) := (kCe BK114.out 6).trans rfl
      have hfz17_0 := kFr BK114.out 0
      have hfz17_1 := kFr BK114.out 1
      have hfz17_2 := kFr BK114.out 2
      have hfz17_3 := kFr BK114.out 3
      have hfz17_4 := kFr BK114.out 4
      have hfz17_5 := kFr BK114.out 5
      have hfz17_6 := kFr BK114.out 6
      go_wp2_with (first | ((with_reducible refine gCa (f := 30) rfl ?_); refine goesL_ (some 7) rfl rfl Try.func30 (by kernel_rfl) rfl #[.int .i64 a0_0, .int .i64 0, .int .i64 1000000000] rfl (by (try simp only [List.map_toArray, List.map_cons, List.map_nil]); first | done | rfl | (simp only [List.length_drop, List.length_take]; rfl)) ?_; (with_reducible refine (spec_l1In.calls a0_0 0 1000000000 true _ A4.out).mono ?_); rintro e w' ⟨rfl, ⟨nd, rfl⟩⟩; refine ⟨_, rfl, ?_⟩) | (go_at_call 30; (with_reducible refine (spec_l1In.calls a0_1 0 1000000 true _ A6.out).mono ?_); rintro e w' ⟨rfl, ⟨nd, rfl⟩⟩) | (go_at_call 30; (with_reducible refine (spec_l1In.calls a0_2 (-1) 1000000000 true _ A8.out).mono ?_); rintro e w' ⟨rfl, ⟨nd, rfl⟩⟩) | (go_at_call 30; (with_reducible refine (spec_l1In.calls a0_3 0 1000 false _ A10.out).mono ?_); rintro e w' ⟨rfl, ⟨nd, rfl⟩⟩))
      go_meet
      case rel => exact ⟨_, (true), (by first | rfl | (simp; done) | (simp [*]; done) | exact Go.Proofs.Ytjbcgflpeomkfaa.Add.isEmpty_bne _), H', ⟨by first | omega | exact Nat.le_refl _⟩, ⟨by (with_reducible repeat first | refine kDN ?_ _ | refine kDr ?_ | refine kAl ?_ _); exact BK114.out⟩, ⟨by repeat (first | (with_reducible first | exact HB.out | apply bAl | apply bDN | apply bD1 | refine bSe ?_ GE114.out) | exact HB.out)⟩⟩
    ·
     replace c9 := Bool.eq_false_iff.mpr c9
     subst c9
     rw [if_neg (show ¬ (false = true) by decide)] at H
     have H' := Aside0.mk H
     clear H
     have hcz18_0 : w3.cell? ⟨gb114, 0, none⟩ = some (.int .i64 a0_0) := (kCe BK114.out 0).trans rfl
     have hcz18_1 : w3.cell? ⟨gb114, 1, none⟩ = some (.int .i64 a0_1) := (kCe BK114.out 1).trans rfl
     have hcz18_2 : w3.cell? ⟨gb114, 2, none⟩ = some (.int .i64 a0_2) := (kCe BK114.out 2).trans rfl
     have hcz18_3 : w3.cell? ⟨gb114, 3, none⟩ = some (.int .i64 a0_3) := (kCe BK114.out 3).trans rfl
     have hcz18_4 : w3.cell? ⟨gb114, 4, none⟩ = some (.int .i64 a0_4) := (kCe BK114.out 4).trans rfl
     have hcz18_5 : w3.cell? ⟨gb114, 5, none⟩ = some (.int .i64 a0_5) := (kCe BK114.out 5).trans rfl
     have hcz18_6 : w3.cell? ⟨gb114, 6, none⟩ = some (.slice A0_6 l0_6.length c0_6) := (kCe BK114.out 6).trans rfl
     have hfz18_0 := kFr BK114.out 0
     have hfz18_1 := kFr BK114.out 1
     have hfz18_2 := kFr BK114.out 2
     have hfz18_3 := kFr BK114.out 3
     have hfz18_4 := kFr BK114.out 4
     have hfz18_5 := kFr BK114.out 5
     have hfz18_6 := kFr BK114.out 6
     go_wp2_with (first | ((with_reducible refine gCa (f := 30) rfl ?_); refine goesL_ (some 7) rfl rfl Try.func30 (by kernel_rfl) rfl #[.int .i64 a0_0, .int .i64 0, .int .i64 1000000000] rfl (by (try simp only [List.map_toArray, List.map_cons, List.map_nil]); first | done | rfl | (simp only [List.length_drop, List.length_take]; rfl)) ?_; (with_reducible refine (spec_l1In.calls a0_0 0 1000000000 true _ A4.out).mono ?_); rintro e w' ⟨rfl, ⟨nd, rfl⟩⟩; refine ⟨_, rfl, ?_⟩) | (go_at_call 30; (with_reducible refine (spec_l1In.calls a0_1 0 1000000 true _ A6.out).mono ?_); rintro e w' ⟨rfl, ⟨nd, rfl⟩⟩) | (go_at_call 30; (with_reducible refine (spec_l1In.calls a0_2 (-1) 1000000000 false _ A8.out).mono ?_); rintro e w' ⟨rfl, ⟨nd, rfl⟩⟩))
     go_meet
     case rel => exact ⟨_, (true), (by first | rfl | (simp; done) | (simp [*]; done) | exact Go.Proofs.Ytjbcgflpeomkfaa.Add.isEmpty_bne _), H', ⟨by first | omega | exact Nat.le_refl _⟩, ⟨by (with_reducible repeat first | refine kDN ?_ _ | refine kDr ?_ | refine kAl ?_ _); exact BK114.out⟩, ⟨by repeat (first | (with_reducible first | exact HB.out | apply bAl | apply bDN | apply bD1 | refine bSe ?_ GE114.out) | exact HB.out)⟩⟩
   ·
    replace c7 := Bool.eq_false_iff.mpr c7
    subst c7
    rw [if_neg (show ¬ (false = true) by decide)] at H
    have H' := Aside0.mk H
    clear H
    have hcz19_0 : w3.cell? ⟨gb114, 0, none⟩ = some (.int .i64 a0_0) := (kCe BK114.out 0).trans rfl
    have hcz19_1 : w3.cell? ⟨gb114, 1, none⟩ = some (.int .i64 a0_1) := (kCe BK114.out 1).trans rfl
    have hcz19_2 : w3.cell? ⟨gb114, 2, none⟩ = some (.int .i64 a0_2) := (kCe BK114.out 2).trans rfl
    have hcz19_3 : w3.cell? ⟨gb114, 3, none⟩ = some (.int .i64 a0_3) := (kCe BK114.out 3).trans rfl
    have hcz19_4 : w3.cell? ⟨gb114, 4, none⟩ = some (.int .i64 a0_4) := (kCe BK114.out 4).trans rfl
    have hcz19_5 : w3.cell? ⟨gb114, 5, none⟩ = some (.int .i64 a0_5) := (kCe BK114.out 5).trans rfl
    have hcz19_6 : w3.cell? ⟨gb114, 6, none⟩ = some (.slice A0_6 l0_6.length c0_6) := (kCe BK114.out 6).trans rfl
    have hfz19_0 := kFr BK114.out 0
    have hfz19_1 := kFr BK114.out 1
    have hfz19_2 := kFr BK114.out 2
    have hfz19_3 := kFr BK114.out 3
    have hfz19_4 := kFr BK114.out 4
    have hfz19_5 := kFr BK114.out 5
    have hfz19_6 := kFr BK114.out 6
    go_wp2_with (first | ((with_reducible refine gCa (f := 30) rfl ?_); refine goesL_ (some 7) rfl rfl Try.func30 (by kernel_rfl) rfl #[.int .i64 a0_0, .int .i64 0, .int .i64 1000000000] rfl (by (try simp only [List.map_toArray, List.map_cons, List.map_nil]); first | done | rfl | (simp only [List.length_drop, List.length_take]; rfl)) ?_; (with_reducible refine (spec_l1In.calls a0_0 0 1000000000 true _ A4.out).mono ?_); rintro e w' ⟨rfl, ⟨nd, rfl⟩⟩; refine ⟨_, rfl, ?_⟩) | (go_at_call 30; (with_reducible refine (spec_l1In.calls a0_1 0 1000000 false _ A6.out).mono ?_); rintro e w' ⟨rfl, ⟨nd, rfl⟩⟩))
    go_meet
    case rel => exact ⟨_, (true), (by first | rfl | (simp; done) | (simp [*]; done) | exact Go.Proofs.Ytjbcgflpeomkfaa.Add.isEmpty_bne _), H', ⟨by first | omega | exact Nat.le_refl _⟩, ⟨by (with_reducible repeat first | refine kDN ?_ _ | refine kDr ?_ | refine kAl ?_ _); exact BK114.out⟩, ⟨by repeat (first | (with_reducible first | exact HB.out | apply bAl | apply bDN | apply bD1 | refine bSe ?_ GE114.out) | exact HB.out)⟩⟩
  ·
   replace c5 := Bool.eq_false_iff.mpr c5
   subst c5
   rw [if_neg (show ¬ (false = true) by decide)] at H
   have H' := Aside0.mk H
   clear H
   have hcz20_0 : w3.cell? ⟨gb114, 0, none⟩ = some (.int .i64 a0_0) := (kCe BK114.out 0).trans rfl
   have hcz20_1 : w3.cell? ⟨gb114, 1, none⟩ = some (.int .i64 a0_1) := (kCe BK114.out 1).trans rfl
   have hcz20_2 : w3.cell? ⟨gb114, 2, none⟩ = some (.int .i64 a0_2) := (kCe BK114.out 2).trans rfl
   have hcz20_3 : w3.cell? ⟨gb114, 3, none⟩ = some (.int .i64 a0_3) := (kCe BK114.out 3).trans rfl
   have hcz20_4 : w3.cell? ⟨gb114, 4, none⟩ = some (.int .i64 a0_4) := (kCe BK114.out 4).trans rfl
   have hcz20_5 : w3.cell? ⟨gb114, 5, none⟩ = some (.int .i64 a0_5) := (kCe BK114.out 5).trans rfl
   have hcz20_6 : w3.cell? ⟨gb114, 6, none⟩ = some (.slice A0_6 l0_6.length c0_6) := (kCe BK114.out 6).trans rfl
   have hfz20_0 := kFr BK114.out 0
   have hfz20_1 := kFr BK114.out 1
   have hfz20_2 := kFr BK114.out 2
   have hfz20_3 := kFr BK114.out 3
   have hfz20_4 := kFr BK114.out 4
   have hfz20_5 := kFr BK114.out 5
   have hfz20_6 := kFr BK114.out 6
   go_wp2_with (first | ((with_reducible refine gCa (f := 30) rfl ?_); refine goesL_ (some 7) rfl rfl Try.func30 (by kernel_rfl) rfl #[.int .i64 a0_0, .int .i64 0, .int .i64 1000000000] rfl (by (try simp only [List.map_toArray, List.map_cons, List.map_nil]); first | done | rfl | (simp only [List.length_drop, List.length_take]; rfl)) ?_; (with_reducible refine (spec_l1In.calls a0_0 0 1000000000 false _ A4.out).mono ?_); rintro e w' ⟨rfl, ⟨nd, rfl⟩⟩; refine ⟨_, rfl, ?_⟩))
   go_meet
   case rel => exact ⟨_, (true), (by first | rfl | (simp; done) | (simp [*]; done) | exact Go.Proofs.Ytjbcgflpeomkfaa.Add.isEmpty_bne _), H', ⟨by first | omega | exact Nat.le_refl _⟩, ⟨by (with_reducible repeat first | refine kDN ?_ _ | refine kDr ?_ | refine kAl ?_ _); exact BK114.out⟩, ⟨by repeat (first | (with_reducible first | exact HB.out | apply bAl | apply bDN | apply bD1 | refine bSe ?_ GE114.out) | exact HB.out)⟩⟩
 case rest =>
  clear HC2
  try clear c1
  try clear p2
  try clear c3
  try clear c5
  try clear c7
  try clear c9
  try clear c10
  try clear c11
  try clear c13
  try clear hcz15_0
  try clear hcz15_1
  try clear hcz15_2
  try clear hcz15_3
  try clear hcz15_4
  try clear hcz15_5
  try clear hcz15_6
  try clear hcz16_0
  try clear hcz16_1
  try clear hcz16_2
  try clear hcz16_3
  try clear hcz16_4
  try clear hcz16_5
  try clear hcz16_6
  try clear hcz17_0
  try clear hcz17_1
  try clear hcz17_2
  try clear hcz17_3
  try clear hcz17_4
  try clear hcz17_5
  try clear hcz17_6
  try clear hcz18_0
  try clear hcz18_1
  try clear hcz18_2
  try clear hcz18_3
  try clear hcz18_4
  try clear hcz18_5
  try clear hcz18_6
  try clear hcz19_0
  try clear hcz19_1
  try clear hcz19_2
  try clear hcz19_3
  try clear hcz19_4
  try clear hcz19_5
  try clear hcz19_6
  try clear hcz20_0
  try clear hcz20_1
  try clear hcz20_2
  try clear hcz20_3
  try clear hcz20_4
  try clear hcz20_5
  try clear hcz20_6
  try clear hfz15_0
  try clear hfz15_1
  try clear hfz15_2
  try clear hfz15_3
  try clear hfz15_4
  try clear hfz15_5
  try clear hfz15_6
  try clear hfz16_0
  try clear hfz16_1
  try clear hfz16_2
  try clear hfz16_3
  try clear hfz16_4
  try clear hfz16_5
  try clear hfz16_6
  try clear hfz17_0
  try clear hfz17_1
  try clear hfz17_2
  try clear hfz17_3
  try clear hfz17_4
  try clear hfz17_5
  try clear hfz17_6
  try clear hfz18_0
  try clear hfz18_1
  try clear hfz18_2
  try clear hfz18_3
  try clear hfz18_4
  try clear hfz18_5
  try clear hfz18_6
  try clear hfz19_0
  try clear hfz19_1
  try clear hfz19_2
  try clear hfz19_3
  try clear hfz19_4
  try clear hfz19_5
  try clear hfz19_6
  try clear hfz20_0
  try clear hfz20_1
  try clear hfz20_2
  try clear hfz20_3
  try clear hfz20_4
  try clear hfz20_5
  try clear hfz20_6
  obtain ⟨kq, x38_1, rfl, HA, HJ1, BK114, HB⟩ := hcut
  cases kq with
  | zero => exact absurd HA.out (by simp [spec_BatchOk.j0])
  | succ kj1 =>
   have H := HA.out
   clear HA
   simp only [spec_BatchOk.j0] at H
   by_cases c21 : x38_1 = true
   ·
    subst c21
    rw [if_pos rfl] at H
    obtain rfl := Option.some.inj H
    go_wp2
    go_ret
    exact ⟨by first | rfl | (simp [errW_none, errW_some] <;> rfl) | (simp [*, errW_none, errW_some] <;> rfl), by repeat (first | (with_reducible first | exact HB.out | apply bAl | apply bDN | apply bD1 | refine bSe ?_ GE114.out) | exact HB.out)⟩
   ·
    replace c21 := Bool.eq_false_iff.mpr c21
    subst c21
    rw [if_neg (show ¬ (false = true) by decide)] at H
    have HC22 := Aside0.mk H
    clear H
    go_upto_region 3 with (fail)
    go_cut [70] (fun v70 wc => ∃ (kq : Nat) (x70_21 : Bool), v70 = .bool x70_21 ∧ Aside0 (spec_BatchOk.j1 kq x70_21 a0_0 a0_1 a0_2 a0_3 a0_4 a0_5 l0_6 = some r) ∧ Aside0 (kq ≤ kj1) ∧ Aside0 (wc.heap[gb114]? = some (.cells #[.int .i64 a0_0, .int .i64 a0_1, .int .i64 a0_2, .int .i64 a0_3, .int .i64 a0_4, .int .i64 a0_5, (.slice A0_6 l0_6.length c0_6)] 29 (0, 0))) ∧ Aside0 (Below w.heap.size w wc))
    case first =>
     have H := HC22.out
     clear HC22
     by_cases c23 : a0_2 < 0
     ·
      rw [if_pos c23] at H
      have c23b0 : decide (a0_2 < 0) = true := decide_eq_true c23
      clear c23
      (first | rw [c23b0] | (simp only [i64_w, i32_w]; rw [c23b0]) | skip)
      by_cases c24 : a0_3 = 0
      ·
       rw [if_pos c24] at H
       have c24b0 : (a0_3 == 0) = true := beq_iff_eq.mpr c24
       have c24b1 : (a0_3 != 0) = false := bne_eq_false_iff_eq.mpr c24
       clear c24
       by_cases c25 : a0_4 = 0
       ·
        rw [if_pos c25] at H
        have c25b0 : (a0_4 == 0) = true := beq_iff_eq.mpr c25
        have c25b1 : (a0_4 != 0) = false := bne_eq_false_iff_eq.mpr c25
        clear c25
        by_cases c26 : (Int.tmod (wrap64 (Int.tdiv a0_5 2)) 2) = 1
        ·
         rw [if_pos c26] at H
         have c26b0 : ((Int.tmod (wrap64 (Int.tdiv a0_5 2)) 2) == 1) = true := beq_iff_eq.mpr c26
         have c26b1 : ((Int.tmod (wrap64 (Int.tdiv a0_5 2)) 2) != 1) = false := bne_eq_false_iff_eq.mpr c26
         clear c26
         have H' := Aside0.mk H
         clear H
         have hcz27_0 : wc.cell? ⟨gb114, 0, none⟩ = some (.int .i64 a0_0) := (kCe BK114.out 0).trans rfl
         have hcz27_1 : wc.cell? ⟨gb114, 1, none⟩ = some (.int .i64 a0_1) := (kCe BK114.out 1).trans rfl
         have hcz27_2 : wc.cell? ⟨gb114, 2, none⟩ = some (.int .i64 a0_2) := (kCe BK114.out 2).trans rfl
         have hcz27_3 : wc.cell? ⟨gb114, 3, none⟩ = some (.int .i64 a0_3) := (kCe BK114.out 3).trans rfl
         have hcz27_4 : wc.cell? ⟨gb114, 4, none⟩ = some (.int .i64 a0_4) := (kCe BK114.out 4).trans rfl
         have hcz27_5 : wc.cell? ⟨gb114, 5, none⟩ = some (.int .i64 a0_5) := (kCe BK114.out 5).trans rfl
         have hcz27_6 : wc.cell? ⟨gb114, 6, none⟩ = some (.slice A0_6 l0_6.length c0_6) := (kCe BK114.out 6).trans rfl
         have hfz27_0 := kFr BK114.out 0
         have hfz27_1 := kFr BK114.out 1
         have hfz27_2 := kFr BK114.out 2
         have hfz27_3 := kFr BK114.out 3
         have hfz27_4 := kFr BK114.out 4
         have hfz27_5 := kFr BK114.out 5
         have hfz27_6 := kFr BK114.out 6
         go_wp2
         go_meet
         case rel => exact ⟨_, (true), (by first | rfl | (simp; done) | (simp [*]; done) | exact Go.Proofs.Ytjbcgflpeomkfaa.Add.isEmpty_bne _), H', ⟨by have := HJ1.out; first | omega | exact Nat.le_refl _⟩, ⟨by (with_reducible repeat first | refine kDN ?_ _ | refine kDr ?_ | refine kAl ?_ _); exact BK114.out⟩, ⟨by repeat (first | (with_reducible first | exact HB.out | apply bAl | apply bDN | apply bD1 | refine bSe ?_ GE114.out) | exact HB.out)⟩⟩
        ·
         rw [if_neg c26] at H
         have c26b0 : ((Int.tmod (wrap64 (Int.tdiv a0_5 2)) 2) == 1) = false := beq_eq_false_iff_ne.mpr c26
         have c26b1 : ((Int.tmod (wrap64 (Int.tdiv a0_5 2)) 2) != 1) = true := bne_iff_ne.mpr c26
         by_cases c28 : a0_5 ≥ 4
         ·
          rw [if_pos c28] at H
          have c28b0 : decide (4 ≤ a0_5) = true := decide_eq_true c28
          clear c28
          have H' := Aside0.mk H
          clear H
          have hcz29_0 : wc.cell? ⟨gb114, 0, none⟩ = some (.int .i64 a0_0) := (kCe BK114.out 0).trans rfl
          have hcz29_1 : wc.cell? ⟨gb114, 1, none⟩ = some (.int .i64 a0_1) := (kCe BK114.out 1).trans rfl
          have hcz29_2 : wc.cell? ⟨gb114, 2, none⟩ = some (.int .i64 a0_2) := (kCe BK114.out 2).trans rfl
          have hcz29_3 : wc.cell? ⟨gb114, 3, none⟩ = some (.int .i64 a0_3) := (kCe BK114.out 3).trans rfl
          have hcz29_4 : wc.cell? ⟨gb114, 4, none⟩ = some (.int .i64 a0_4) := (kCe BK114.out 4).trans rfl
          have hcz29_5 : wc.cell? ⟨gb114, 5, none⟩ = some (.int .i64 a0_5) := (kCe BK114.out 5).trans rfl
          have hcz29_6 : wc.cell? ⟨gb114, 6, none⟩ = some (.slice A0_6 l0_6.length c0_6) := (kCe BK114.out 6).trans rfl
          have hfz29_0 := kFr BK114.out 0
          have hfz29_1 := kFr BK114.out 1
          have hfz29_2 := kFr BK114.out 2
          have hfz29_3 := kFr BK114.out 3
          have hfz29_4 := kFr BK114.out 4
          have hfz29_5 := kFr BK114.out 5
          have hfz29_6 := kFr BK114.out 6
          go_wp2
          go_meet
          case rel => exact ⟨_, (((Int.tmod (wrap64 (Int.tdiv a0_5 2)) 2) == 0)), (by first | rfl | (simp; done) | (simp [*]; done) | exact Go.Proofs.Ytjbcgflpeomkfaa.Add.isEmpty_bne _), H', ⟨by have := HJ1.out; first | omega | exact Nat.le_refl _⟩, ⟨by (with_reducible repeat first | refine kDN ?_ _ | refine kDr ?_ | refine kAl ?_ _); exact BK114.out⟩, ⟨by repeat (first | (with_reducible first | exact HB.out | apply bAl | apply bDN | apply bD1 | refine bSe ?_ GE114.out) | exact HB.out)⟩⟩
         ·
          rw [if_neg c28] at H
          have c28b0 : decide (4 ≤ a0_5) = false := decide_eq_false c28
          clear c28
          have H' := Aside0.mk H
          clear H
          have hcz30_0 : wc.cell? ⟨gb114, 0, none⟩ = some (.int .i64 a0_0) := (kCe BK114.out 0).trans rfl
          have hcz30_1 : wc.cell? ⟨gb114, 1, none⟩ = some (.int .i64 a0_1) := (kCe BK114.out 1).trans rfl
          have hcz30_2 : wc.cell? ⟨gb114, 2, none⟩ = some (.int .i64 a0_2) := (kCe BK114.out 2).trans rfl
          have hcz30_3 : wc.cell? ⟨gb114, 3, none⟩ = some (.int .i64 a0_3) := (kCe BK114.out 3).trans rfl
          have hcz30_4 : wc.cell? ⟨gb114, 4, none⟩ = some (.int .i64 a0_4) := (kCe BK114.out 4).trans rfl
          have hcz30_5 : wc.cell? ⟨gb114, 5, none⟩ = some (.int .i64 a0_5) := (kCe BK114.out 5).trans rfl
          have hcz30_6 : wc.cell? ⟨gb114, 6, none⟩ = some (.slice A0_6 l0_6.length c0_6) := (kCe BK114.out 6).trans rfl
          have hfz30_0 := kFr BK114.out 0
          have hfz30_1 := kFr BK114.out 1
          have hfz30_2 := kFr BK114.out 2
          have hfz30_3 := kFr BK114.out 3
          have hfz30_4 := kFr BK114.out 4
          have hfz30_5 := kFr BK114.out 5
          have hfz30_6 := kFr BK114.out 6
          go_wp2
          go_meet
          case rel => exact ⟨_, (false), (by first | rfl | (simp; done) | (simp [*]; done) | exact Go.Proofs.Ytjbcgflpeomkfaa.Add.isEmpty_bne _), H', ⟨by have := HJ1.out; first | omega | exact Nat.le_refl _⟩, ⟨by (with_reducible repeat first | refine kDN ?_ _ | refine kDr ?_ | refine kAl ?_ _); exact BK114.out⟩, ⟨by repeat (first | (with_reducible first | exact HB.out | apply bAl | apply bDN | apply bD1 | refine bSe ?_ GE114.out) | exact HB.out)⟩⟩
       ·
        rw [if_neg c25] at H
        have c25b0 : (a0_4 == 0) = false := beq_eq_false_iff_ne.mpr c25
        have c25b1 : (a0_4 != 0) = true := bne_iff_ne.mpr c25
        have H' := Aside0.mk H
        clear H
        have hcz31_0 : wc.cell? ⟨gb114, 0, none⟩ = some (.int .i64 a0_0) := (kCe BK114.out 0).trans rfl
        have hcz31_1 : wc.cell? ⟨gb114, 1, none⟩ = some (.int .i64 a0_1) := (kCe BK114.out 1).trans rfl
        have hcz31_2 : wc.cell? ⟨gb114, 2, none⟩ = some (.int .i64 a0_2) := (kCe BK114.out 2).trans rfl
        have hcz31_3 : wc.cell? ⟨gb114, 3, none⟩ = some (.int .i64 a0_3) := (kCe BK114.out 3).trans rfl
        have hcz31_4 : wc.cell? ⟨gb114, 4, none⟩ = some (.int .i64 a0_4) := (kCe BK114.out 4).trans rfl
        have hcz31_5 : wc.cell? ⟨gb114, 5, none⟩ = some (.int .i64 a0_5) := (kCe BK114.out 5).trans rfl
        have hcz31_6 : wc.cell? ⟨gb114, 6, none⟩ = some (.slice A0_6 l0_6.length c0_6) := (kCe BK114.out 6).trans rfl
        have hfz31_0 := kFr BK114.out 0
        have hfz31_1 := kFr BK114.out 1
        have hfz31_2 := kFr BK114.out 2
        have hfz31_3 := kFr BK114.out 3
        have hfz31_4 := kFr BK114.out 4
        have hfz31_5 := kFr BK114.out 5
        have hfz31_6 := kFr BK114.out 6
        go_wp2
        go_meet
        case rel => exact ⟨_, (true), (by first | rfl | (simp; done) | (simp [*]; done) | exact Go.Proofs.Ytjbcgflpeomkfaa.Add.isEmpty_bne _), H', ⟨by have := HJ1.out; first | omega | exact Nat.le_refl _⟩, ⟨by (with_reducible repeat first | refine kDN ?_ _ | refine kDr ?_ | refine kAl ?_ _); exact BK114.out⟩, ⟨by repeat (first | (with_reducible first | exact HB.out | apply bAl | apply bDN | apply bD1 | refine bSe ?_ GE114.out) | exact HB.out)⟩⟩
      ·
       rw [if_neg c24] at H
       have c24b0 : (a0_3 == 0) = false := beq_eq_false_iff_ne.mpr c24
       have c24b1 : (a0_3 != 0) = true := bne_iff_ne.mpr c24
       have H' := Aside0.mk H
       clear H
       have hcz32_0 : wc.cell? ⟨gb114, 0, none⟩ = some (.int .i64 a0_0) := (kCe BK114.out 0).trans rfl
       have hcz32_1 : wc.cell? ⟨gb114, 1, none⟩ = some (.int .i64 a0_1) := (kCe BK114.out 1).trans rfl
       have hcz32_2 : wc.cell? ⟨gb114, 2, none⟩ = some (.int .i64 a0_2) := (kCe BK114.out 2).trans rfl
       have hcz32_3 : wc.cell? ⟨gb114, 3, none⟩ = some (.int .i64 a0_3) := (kCe BK114.out 3).trans rfl
       have hcz32_4 : wc.cell? ⟨gb114, 4, none⟩ = some (.int .i64 a0_4) := (kCe BK114.out 4).trans rfl
       have hcz32_5 : wc.cell? ⟨gb114, 5, none⟩ = some (.int .i64 a0_5) := (kCe BK114.out 5).trans rfl
       have hcz32_6 : wc.cell? ⟨gb114, 6, none⟩ = some (.slice A0_6 l0_6.length c0_6) := (kCe BK114.out 6).trans rfl
       have hfz32_0 := kFr BK114.out 0
       have hfz32_1 := kFr BK114.out 1
       have hfz32_2 := kFr BK114.out 2
       have hfz32_3 := kFr BK114.out 3
       have hfz32_4 := kFr BK114.out 4
       have hfz32_5 := kFr BK114.out 5
       have hfz32_6 := kFr BK114.out 6
       go_wp2
       go_meet
       case rel => exact ⟨_, (true), (by first | rfl | (simp; done) | (simp [*]; done) | exact Go.Proofs.Ytjbcgflpeomkfaa.Add.isEmpty_bne _), H', ⟨by have := HJ1.out; first | omega | exact Nat.le_refl _⟩, ⟨by (with_reducible repeat first | refine kDN ?_ _ | refine kDr ?_ | refine kAl ?_ _); exact BK114.out⟩, ⟨by repeat (first | (with_reducible first | exact HB.out | apply bAl | apply bDN | apply bD1 | refine bSe ?_ GE114.out) | exact HB.out)⟩⟩
     ·
      rw [if_neg c23] at H
      have c23b0 : decide (a0_2 < 0) = false := decide_eq_false c23
      clear c23
      (first | rw [c23b0] | (simp only [i64_w, i32_w]; rw [c23b0]) | skip)
      by_cases c33 : a0_5 ≥ 4
      ·
       rw [if_pos c33] at H
       have c33b0 : decide (4 ≤ a0_5) = true := decide_eq_true c33
       clear c33
       have H' := Aside0.mk H
       clear H
       have hcz34_0 : wc.cell? ⟨gb114, 0, none⟩ = some (.int .i64 a0_0) := (kCe BK114.out 0).trans rfl
       have hcz34_1 : wc.cell? ⟨gb114, 1, none⟩ = some (.int .i64 a0_1) := (kCe BK114.out 1).trans rfl
       have hcz34_2 : wc.cell? ⟨gb114, 2, none⟩ = some (.int .i64 a0_2) := (kCe BK114.out 2).trans rfl
       have hcz34_3 : wc.cell? ⟨gb114, 3, none⟩ = some (.int .i64 a0_3) := (kCe BK114.out 3).trans rfl
       have hcz34_4 : wc.cell? ⟨gb114, 4, none⟩ = some (.int .i64 a0_4) := (kCe BK114.out 4).trans rfl
       have hcz34_5 : wc.cell? ⟨gb114, 5, none⟩ = some (.int .i64 a0_5) := (kCe BK114.out 5).trans rfl
       have hcz34_6 : wc.cell? ⟨gb114, 6, none⟩ = some (.slice A0_6 l0_6.length c0_6) := (kCe BK114.out 6).trans rfl
       have hfz34_0 := kFr BK114.out 0
       have hfz34_1 := kFr BK114.out 1
       have hfz34_2 := kFr BK114.out 2
       have hfz34_3 := kFr BK114.out 3
       have hfz34_4 := kFr BK114.out 4
       have hfz34_5 := kFr BK114.out 5
       have hfz34_6 := kFr BK114.out 6
       go_wp2
       go_meet
       case rel => exact ⟨_, (((Int.tmod (wrap64 (Int.tdiv a0_5 2)) 2) == 0)), (by first | rfl | (simp; done) | (simp [*]; done) | exact Go.Proofs.Ytjbcgflpeomkfaa.Add.isEmpty_bne _), H', ⟨by have := HJ1.out; first | omega | exact Nat.le_refl _⟩, ⟨by (with_reducible repeat first | refine kDN ?_ _ | refine kDr ?_ | refine kAl ?_ _); exact BK114.out⟩, ⟨by repeat (first | (with_reducible first | exact HB.out | apply bAl | apply bDN | apply bD1 | refine bSe ?_ GE114.out) | exact HB.out)⟩⟩
      ·
       rw [if_neg c33] at H
       have c33b0 : decide (4 ≤ a0_5) = false := decide_eq_false c33
       clear c33
       have H' := Aside0.mk H
       clear H
       have hcz35_0 : wc.cell? ⟨gb114, 0, none⟩ = some (.int .i64 a0_0) := (kCe BK114.out 0).trans rfl
       have hcz35_1 : wc.cell? ⟨gb114, 1, none⟩ = some (.int .i64 a0_1) := (kCe BK114.out 1).trans rfl
       have hcz35_2 : wc.cell? ⟨gb114, 2, none⟩ = some (.int .i64 a0_2) := (kCe BK114.out 2).trans rfl
       have hcz35_3 : wc.cell? ⟨gb114, 3, none⟩ = some (.int .i64 a0_3) := (kCe BK114.out 3).trans rfl
       have hcz35_4 : wc.cell? ⟨gb114, 4, none⟩ = some (.int .i64 a0_4) := (kCe BK114.out 4).trans rfl
       have hcz35_5 : wc.cell? ⟨gb114, 5, none⟩ = some (.int .i64 a0_5) := (kCe BK114.out 5).trans rfl
       have hcz35_6 : wc.cell? ⟨gb114, 6, none⟩ = some (.slice A0_6 l0_6.length c0_6) := (kCe BK114.out 6).trans rfl
       have hfz35_0 := kFr BK114.out 0
       have hfz35_1 := kFr BK114.out 1
       have hfz35_2 := kFr BK114.out 2
       have hfz35_3 := kFr BK114.out 3
       have hfz35_4 := kFr BK114.out 4
       have hfz35_5 := kFr BK114.out 5
       have hfz35_6 := kFr BK114.out 6
       go_wp2
       go_meet
       case rel => exact ⟨_, (false), (by first | rfl | (simp; done) | (simp [*]; done) | exact Go.Proofs.Ytjbcgflpeomkfaa.Add.isEmpty_bne _), H', ⟨by have := HJ1.out; first | omega | exact Nat.le_refl _⟩, ⟨by (with_reducible repeat first | refine kDN ?_ _ | refine kDr ?_ | refine kAl ?_ _); exact BK114.out⟩, ⟨by repeat (first | (with_reducible first | exact HB.out | apply bAl | apply bDN | apply bD1 | refine bSe ?_ GE114.out) | exact HB.out)⟩⟩
    case rest =>
     clear HC22
     try clear c1
     try clear c2
     try clear p2
     try clear c3
     try clear c5
     try clear p6
     try clear c7
     try clear c9
     try clear c10
     try clear c11
     try clear c13
     try clear c21
     try clear c23
     try clear c23b0
     try clear c24
     try clear c24b0
     try clear c24b1
     try clear c25
     try clear c25b0
     try clear c25b1
     try clear c26
     try clear c26b0
     try clear c26b1
     try clear c28
     try clear c28b0
     try clear c30
     try clear c33
     try clear c33b0
     try clear hcz15_0
     try clear hcz15_1
     try clear hcz15_2
     try clear hcz15_3
     try clear hcz15_4
     try clear hcz15_5
     try clear hcz15_6
     try clear hcz16_0
     try clear hcz16_1
     try clear hcz16_2
     try clear hcz16_3
     try clear hcz16_4
     try clear hcz16_5
     try clear hcz16_6
     try clear hcz17_0
     try clear hcz17_1
     try clear hcz17_2
     try clear hcz17_3
     try clear hcz17_4
     try clear hcz17_5
     try clear hcz17_6
     try clear hcz18_0
     try clear hcz18_1
     try clear hcz18_2
     try clear hcz18_3
     try clear hcz18_4
     try clear hcz18_5
     try clear hcz18_6
     try clear hcz19_0
     try clear hcz19_1
     try clear hcz19_2
     try clear hcz19_3
     try clear hcz19_4
     try clear hcz19_5
     try clear hcz19_6
     try clear hcz20_0
     try clear hcz20_1
     try clear hcz20_2
     try clear hcz20_3
     try clear hcz20_4
     try clear hcz20_5
     try clear hcz20_6
     try clear hcz27_0
     try clear hcz27_1
     try clear hcz27_2
     try clear hcz27_3
     try clear hcz27_4
     try clear hcz27_5
     try clear hcz27_6
     try clear hcz29_0
     try clear hcz29_1
     try clear hcz29_2
     try clear hcz29_3
     try clear hcz29_4
     try clear hcz29_5
     try clear hcz29_6
     try clear hcz30_0
     try clear hcz30_1
     try clear hcz30_2
     try clear hcz30_3
     try clear hcz30_4
     try clear hcz30_5
     try clear hcz30_6
     try clear hcz31_0
     try clear hcz31_1
     try clear hcz31_2
     try clear hcz31_3
     try clear hcz31_4
     try clear hcz31_5
     try clear hcz31_6
     try clear hcz32_0
     try clear hcz32_1
     try clear hcz32_2
     try clear hcz32_3
     try clear hcz32_4
     try clear hcz32_5
     try clear hcz32_6
     try clear hcz34_0
     try clear hcz34_1
     try clear hcz34_2
     try clear hcz34_3
     try clear hcz34_4
     try clear hcz34_5
     try clear hcz34_6
     try clear hcz35_0
     try clear hcz35_1
     try clear hcz35_2
     try clear hcz35_3
     try clear hcz35_4
     try clear hcz35_5
     try clear hcz35_6
     try clear hfz15_0
     try clear hfz15_1
     try clear hfz15_2
     try clear hfz15_3
     try clear hfz15_4
     try clear hfz15_5
     try clear hfz15_6
     try clear hfz16_0
     try clear hfz16_1
     try clear hfz16_2
     try clear hfz16_3
     try clear hfz16_4
     try clear hfz16_5
     try clear hfz16_6
     try clear hfz17_0
     try clear hfz17_1
     try clear hfz17_2
     try clear hfz17_3
     try clear hfz17_4
     try clear hfz17_5
     try clear hfz17_6
     try clear hfz18_0
     try clear hfz18_1
     try clear hfz18_2
     try clear hfz18_3
     try clear hfz18_4
     try clear hfz18_5
     try clear hfz18_6
     try clear hfz19_0
     try clear hfz19_1
     try clear hfz19_2
     try clear hfz19_3
     try clear hfz19_4
     try clear hfz19_5
     try clear hfz19_6
     try clear hfz20_0
     try clear hfz20_1
     try clear hfz20_2
     try clear hfz20_3
     try clear hfz20_4
     try clear hfz20_5
     try clear hfz20_6
     try clear hfz27_0
     try clear hfz27_1
     try clear hfz27_2
     try clear hfz27_3
     try clear hfz27_4
     try clear hfz27_5
     try clear hfz27_6
     try clear hfz29_0
     try clear hfz29_1
     try clear hfz29_2
     try clear hfz29_3
     try clear hfz29_4
     try clear hfz29_5
     try clear hfz29_6
     try clear hfz30_0
     try clear hfz30_1
     try clear hfz30_2
     try clear hfz30_3
     try clear hfz30_4
     try clear hfz30_5
     try clear hfz30_6
     try clear hfz31_0
     try clear hfz31_1
     try clear hfz31_2
     try clear hfz31_3
     try clear hfz31_4
     try clear hfz31_5
     try clear hfz31_6
     try clear hfz32_0
     try clear hfz32_1
     try clear hfz32_2
     try clear hfz32_3
     try clear hfz32_4
     try clear hfz32_5
     try clear hfz32_6
     try clear hfz34_0
     try clear hfz34_1
     try clear hfz34_2
     try clear hfz34_3
     try clear hfz34_4
     try clear hfz34_5
     try clear hfz34_6
     try clear hfz35_0
     try clear hfz35_1
     try clear hfz35_2
     try clear hfz35_3
     try clear hfz35_4
     try clear hfz35_5
     try clear hfz35_6
     try clear p2
     obtain ⟨kq, x70_21, rfl, HA, HJ21, BK114, HB⟩ := hcut
     cases kq with
     | zero => exact absurd HA.out (by simp [spec_BatchOk.j1])
     | succ kj21 =>
      have H := HA.out
      clear HA
      simp only [spec_BatchOk.j1] at H
      by_cases c36 : x70_21 = true
      ·
       subst c36
       rw [if_pos rfl] at H
       obtain rfl := Option.some.inj H
       go_wp2
       go_ret
       exact ⟨by first | rfl | (simp [errW_none, errW_some] <;> rfl) | (simp [*, errW_none, errW_some] <;> rfl), by repeat (first | (with_reducible first | exact HB.out | apply bAl | apply bDN | apply bD1 | refine bSe ?_ GE114.out) | exact HB.out)⟩
      ·
       replace c36 := Bool.eq_false_iff.mpr c36
       subst c36
       rw [if_neg (show ¬ (false = true) by decide)] at H
       have HC37 := Aside0.mk H
       clear H
       go_upto_region 5 with (fail)
       go_cut [95] (fun v95 wc => ∃ (kq : Nat) (x95_36 : Bool), v95 = .bool x95_36 ∧ Aside0 (spec_BatchOk.j2 kq x95_36 a0_0 a0_1 a0_2 a0_3 a0_4 a0_5 l0_6 = some r) ∧ Aside0 (kq ≤ kj21) ∧ Aside0 (wc.heap[gb114]? = some (.cells #[.int .i64 a0_0, .int .i64 a0_1, .int .i64 a0_2, .int .i64 a0_3, .int .i64 a0_4, .int .i64 a0_5, (.slice A0_6 l0_6.length c0_6)] 29 (0, 0))) ∧ Aside0 (Below w.heap.size w wc))
       case first =>
        have H := HC37.out
        clear HC37
        replace H := Option.bind_eq_some_iff.mp H
        obtain ⟨t121, A380, H⟩ := H
        have A38 := Aside0.mk A380
        clear A380
        by_cases c39 : t121 = true
        ·
         subst c39
         rw [if_pos rfl] at H
         by_cases c40 : (wrap64 ((wrap64 (a0_0 + (l0_6.length : Int))) - 1)) > 1000000000
         ·
          rw [if_pos c40] at H
          have c40b0 : decide (1000000000 < (wrap64 ((wrap64 (a0_0 + (l0_6.length : Int))) - 1))) = true := decide_eq_true c40
          clear c40
          (first | rw [c40b0] | (simp only [i64_w, i32_w]; rw [c40b0]) | skip)
          have H' := Aside0.mk H
          clear H
          have hcz41_0 : wc.cell? ⟨gb114, 0, none⟩ = some (.int .i64 a0_0) := (kCe BK114.out 0).trans rfl
          have hcz41_1 : wc.cell? ⟨gb114, 1, none⟩ = some (.int .i64 a0_1) := (kCe BK114.out 1).trans rfl
          have hcz41_2 : wc.cell? ⟨gb114, 2, none⟩ = some (.int .i64 a0_2) := (kCe BK114.out 2).trans rfl
          have hcz41_3 : wc.cell? ⟨gb114, 3, none⟩ = some (.int .i64 a0_3) := (kCe BK114.out 3).trans rfl
          have hcz41_4 : wc.cell? ⟨gb114, 4, none⟩ = some (.int .i64 a0_4) := (kCe BK114.out 4).trans rfl
          have hcz41_5 : wc.cell? ⟨gb114, 5, none⟩ = some (.int .i64 a0_5) := (kCe BK114.out 5).trans rfl
          have hcz41_6 : wc.cell? ⟨gb114, 6, none⟩ = some (.slice A0_6 l0_6.length c0_6) := (kCe BK114.out 6).trans rfl
          have hfz41_0 := kFr BK114.out 0
          have hfz41_1 := kFr BK114.out 1
          have hfz41_2 := kFr BK114.out 2
          have hfz41_3 := kFr BK114.out 3
          have hfz41_4 := kFr BK114.out 4
          have hfz41_5 := kFr BK114.out 5
          have hfz41_6 := kFr BK114.out 6
          go_wp2_with (first | ((with_reducible refine gCa (f := 30) rfl ?_); refine goesL_ (some 74) rfl rfl Try.func30 (by kernel_rfl) rfl #[.int .i64 (l0_6.length : Int), .int .i64 1, .int .i64 40] rfl (by (try simp only [List.map_toArray, List.map_cons, List.map_nil]); first | done | rfl | (simp only [List.length_drop, List.length_take]; rfl)) ?_; (with_reducible refine (spec_l1In.calls (l0_6.length : Int) 1 40 true _ A38.out).mono ?_); rintro e w' ⟨rfl, ⟨nd, rfl⟩⟩; refine ⟨_, rfl, ?_⟩))
          go_meet
          case rel => exact ⟨_, (true), (by first | rfl | (simp; done) | (simp [*]; done) | exact Go.Proofs.Ytjbcgflpeomkfaa.Add.isEmpty_bne _), H', ⟨by have := HJ1.out; have := HJ21.out; first | omega | exact Nat.le_refl _⟩, ⟨by (with_reducible repeat first | refine kDN ?_ _ | refine kDr ?_ | refine kAl ?_ _); exact BK114.out⟩, ⟨by repeat (first | (with_reducible first | exact HB.out | apply bAl | apply bDN | apply bD1 | refine bSe ?_ GE114.out) | exact HB.out)⟩⟩
         ·
          rw [if_neg c40] at H
          have c40b0 : decide (1000000000 < (wrap64 ((wrap64 (a0_0 + (l0_6.length : Int))) - 1))) = false := decide_eq_false c40
          clear c40
          (first | rw [c40b0] | (simp only [i64_w, i32_w]; rw [c40b0]) | skip)
          have H' := Aside0.mk H
          clear H
          have hcz42_0 : wc.cell? ⟨gb114, 0, none⟩ = some (.int .i64 a0_0) := (kCe BK114.out 0).trans rfl
          have hcz42_1 : wc.cell? ⟨gb114, 1, none⟩ = some (.int .i64 a0_1) := (kCe BK114.out 1).trans rfl
          have hcz42_2 : wc.cell? ⟨gb114, 2, none⟩ = some (.int .i64 a0_2) := (kCe BK114.out 2).trans rfl
          have hcz42_3 : wc.cell? ⟨gb114, 3, none⟩ = some (.int .i64 a0_3) := (kCe BK114.out 3).trans rfl
          have hcz42_4 : wc.cell? ⟨gb114, 4, none⟩ = some (.int .i64 a0_4) := (kCe BK114.out 4).trans rfl
          have hcz42_5 : wc.cell? ⟨gb114, 5, none⟩ = some (.int .i64 a0_5) := (kCe BK114.out 5).trans rfl
          have hcz42_6 : wc.cell? ⟨gb114, 6, none⟩ = some (.slice A0_6 l0_6.length c0_6) := (kCe BK114.out 6).trans rfl
          have hfz42_0 := kFr BK114.out 0
          have hfz42_1 := kFr BK114.out 1
          have hfz42_2 := kFr BK114.out 2
          have hfz42_3 := kFr BK114.out 3
          have hfz42_4 := kFr BK114.out 4
          have hfz42_5 := kFr BK114.out 5
          have hfz42_6 := kFr BK114.out 6
          go_wp2_with (first | ((with_reducible refine gCa (f := 30) rfl ?_); refine goesL_ (some 74) rfl rfl Try.func30 (by kernel_rfl) rfl #[.int .i64 (l0_6.length : Int), .int .i64 1, .int .i64 40] rfl (by (try simp only [List.map_toArray, List.map_cons, List.map_nil]); first | done | rfl | (simp only [List.length_drop, List.length_take]; rfl)) ?_; (with_reducible refine (spec_l1In.calls (l0_6.length : Int) 1 40 true _ A38.out).mono ?_); rintro e w' ⟨rfl, ⟨nd, rfl⟩⟩; refine ⟨_, rfl, ?_⟩))
          go_meet
          case rel => exact ⟨_, (decide ((wrap64 ((wrap64 (a0_4 + (l0_6.length : Int))) - 1)) > 1000000000)), (by first | rfl | (simp; done) | (simp [*]; done) | exact Go.Proofs.Ytjbcgflpeomkfaa.Add.isEmpty_bne _), H', ⟨by have := HJ1.out; have := HJ21.out; first | omega | exact Nat.le_refl _⟩, ⟨by (with_reducible repeat first | refine kDN ?_ _ | refine kDr ?_ | refine kAl ?_ _); exact BK114.out⟩, ⟨by repeat (first | (with_reducible first | exact HB.out | apply bAl | apply bDN | apply bD1 | refine bSe ?_ GE114.out) | exact HB.out)⟩⟩
        ·
         replace c39 := Bool.eq_false_iff.mpr c39
         subst c39
         rw [if_neg (show ¬ (false = true) by decide)] at H
         have H' := Aside0.mk H
         clear H
         have hcz43_0 : wc.cell? ⟨gb114, 0, none⟩ = some (.int .i64 a0_0) := (kCe BK114.out 0).trans rfl
         have hcz43_1 : wc.cell? ⟨gb114, 1, none⟩ = some (.int .i64 a0_1) := (kCe BK114.out 1).trans rfl
         have hcz43_2 : wc.cell? ⟨gb114, 2, none⟩ = some (.int .i64 a0_2) := (kCe BK114.out 2).trans rfl
         have hcz43_3 : wc.cell? ⟨gb114, 3, none⟩ = some (.int .i64 a0_3) := (kCe BK114.out 3).trans rfl
         have hcz43_4 : wc.cell? ⟨gb114, 4, none⟩ = some (.int .i64 a0_4) := (kCe BK114.out 4).trans rfl
         have hcz43_5 : wc.cell? ⟨gb114, 5, none⟩ = some (.int .i64 a0_5) := (kCe BK114.out 5).trans rfl
         have hcz43_6 : wc.cell? ⟨gb114, 6, none⟩ = some (.slice A0_6 l0_6.length c0_6) := (kCe BK114.out 6).trans rfl
         have hfz43_0 := kFr BK114.out 0
         have hfz43_1 := kFr BK114.out 1
         have hfz43_2 := kFr BK114.out 2
         have hfz43_3 := kFr BK114.out 3
         have hfz43_4 := kFr BK114.out 4
         have hfz43_5 := kFr BK114.out 5
         have hfz43_6 := kFr BK114.out 6
         go_wp2_with (first | ((with_reducible refine gCa (f := 30) rfl ?_); refine goesL_ (some 74) rfl rfl Try.func30 (by kernel_rfl) rfl #[.int .i64 (l0_6.length : Int), .int .i64 1, .int .i64 40] rfl (by (try simp only [List.map_toArray, List.map_cons, List.map_nil]); first | done | rfl | (simp only [List.length_drop, List.length_take]; rfl)) ?_; (with_reducible refine (spec_l1In.calls (l0_6.length : Int) 1 40 false _ A38.out).mono ?_); rintro e w' ⟨rfl, ⟨nd, rfl⟩⟩; refine ⟨_, rfl, ?_⟩))
         go_meet
         case rel => exact ⟨_, (true), (by first | rfl | (simp; done) | (simp [*]; done) | exact Go.Proofs.Ytjbcgflpeomkfaa.Add.isEmpty_bne _), H', ⟨by have := HJ1.out; have := HJ21.out; first | omega | exact Nat.le_refl _⟩, ⟨by (with_reducible repeat first | refine kDN ?_ _ | refine kDr ?_ | refine kAl ?_ _); exact BK114.out⟩, ⟨by repeat (first | (with_reducible first | exact HB.out | apply bAl | apply bDN | apply bD1 | refine bSe ?_ GE114.out) | exact HB.out)⟩⟩
       case rest =>
        clear HC37
        try clear c1
        try clear c2
        try clear p2
        try clear c3
        try clear c4
        try clear c5
        try clear p6
        try clear c7
        try clear c9
        try clear c10
        try clear c11
        try clear c13
        try clear c21
        try clear c23
        try clear c23b0
        try clear c24
        try clear c24b0
        try clear c24b1
        try clear c25
        try clear c25b0
        try clear c25b1
        try clear c26
        try clear c26b0
        try clear c26b1
        try clear c28
        try clear c28b0
        try clear c30
        try clear c33
        try clear c33b0
        try clear c36
        try clear c39
        try clear c40
        try clear c40b0
        try clear hcz15_0
        try clear hcz15_1
        try clear hcz15_2
        try clear hcz15_3
        try clear hcz15_4
        try clear hcz15_5
        try clear hcz15_6
        try clear hcz16_0
        try clear hcz16_1
        try clear hcz16_2
        try clear hcz16_3
        try clear hcz16_4
        try clear hcz16_5
        try clear hcz16_6
        try clear hcz17_0
        try clear hcz17_1
        try clear hcz17_2
        try clear hcz17_3
        try clear hcz17_4
        try clear hcz17_5
        try clear hcz17_6
        try clear hcz18_0
        try clear hcz18_1
        try clear hcz18_2
        try clear hcz18_3
        try clear hcz18_4
        try clear hcz18_5
        try clear hcz18_6
        try clear hcz19_0
        try clear hcz19_1
        try clear hcz19_2
        try clear hcz19_3
        try clear hcz19_4
        try clear hcz19_5
        try clear hcz19_6
        try clear hcz20_0
        try clear hcz20_1
        try clear hcz20_2
        try clear hcz20_3
        try clear hcz20_4
        try clear hcz20_5
        try clear hcz20_6
        try clear hcz27_0
        try clear hcz27_1
        try clear hcz27_2
        try clear hcz27_3
        try clear hcz27_4
        try clear hcz27_5
        try clear hcz27_6
        try clear hcz29_0
        try clear hcz29_1
        try clear hcz29_2
        try clear hcz29_3
        try clear hcz29_4
        try clear hcz29_5
        try clear hcz29_6
        try clear hcz30_0
        try clear hcz30_1
        try clear hcz30_2
        try clear hcz30_3
        try clear hcz30_4
        try clear hcz30_5
        try clear hcz30_6
        try clear hcz31_0
        try clear hcz31_1
        try clear hcz31_2
        try clear hcz31_3
        try clear hcz31_4
        try clear hcz31_5
        try clear hcz31_6
        try clear hcz32_0
        try clear hcz32_1
        try clear hcz32_2
        try clear hcz32_3
        try clear hcz32_4
        try clear hcz32_5
        try clear hcz32_6
        try clear hcz34_0
        try clear hcz34_1
        try clear hcz34_2
        try clear hcz34_3
        try clear hcz34_4
        try clear hcz34_5
        try clear hcz34_6
        try clear hcz35_0
        try clear hcz35_1
        try clear hcz35_2
        try clear hcz35_3
        try clear hcz35_4
        try clear hcz35_5
        try clear hcz35_6
        try clear hcz41_0
        try clear hcz41_1
        try clear hcz41_2
        try clear hcz41_3
        try clear hcz41_4
        try clear hcz41_5
        try clear hcz41_6
        try clear hcz42_0
        try clear hcz42_1
        try clear hcz42_2
        try clear hcz42_3
        try clear hcz42_4
        try clear hcz42_5
        try clear hcz42_6
        try clear hcz43_0
        try clear hcz43_1
        try clear hcz43_2
        try clear hcz43_3
        try clear hcz43_4
        try clear hcz43_5
        try clear hcz43_6
        try clear hfz15_0
        try clear hfz15_1
        try clear hfz15_2
        try clear hfz15_3
        try clear hfz15_4
        try clear hfz15_5
        try clear hfz15_6
        try clear hfz16_0
        try clear hfz16_1
        try clear hfz16_2
        try clear hfz16_3
        try clear hfz16_4
        try clear hfz16_5
        try clear hfz16_6
        try clear hfz17_0
        try clear hfz17_1
        try clear hfz17_2
        try clear hfz17_3
        try clear hfz17_4
        try clear hfz17_5
        try clear hfz17_6
        try clear hfz18_0
        try clear hfz18_1
        try clear hfz18_2
        try clear hfz18_3
        try clear hfz18_4
        try clear hfz18_5
        try clear hfz18_6
        try clear hfz19_0
        try clear hfz19_1
        try clear hfz19_2
        try clear hfz19_3
        try clear hfz19_4
        try clear hfz19_5
        try clear hfz19_6
        try clear hfz20_0
        try clear hfz20_1
        try clear hfz20_2
        try clear hfz20_3
        try clear hfz20_4
        try clear hfz20_5
        try clear hfz20_6
        try clear hfz27_0
        try clear hfz27_1
        try clear hfz27_2
        try clear hfz27_3
        try clear hfz27_4
        try clear hfz27_5
        try clear hfz27_6
        try clear hfz29_0
        try clear hfz29_1
        try clear hfz29_2
        try clear hfz29_3
        try clear hfz29_4
        try clear hfz29_5
        try clear hfz29_6
        try clear hfz30_0
        try clear hfz30_1
        try clear hfz30_2
        try clear hfz30_3
        try clear hfz30_4
        try clear hfz30_5
        try clear hfz30_6
        try clear hfz31_0
        try clear hfz31_1
        try clear hfz31_2
        try clear hfz31_3
        try clear hfz31_4
        try clear hfz31_5
        try clear hfz31_6
        try clear hfz32_0
        try clear hfz32_1
        try clear hfz32_2
        try clear hfz32_3
        try clear hfz32_4
        try clear hfz32_5
        try clear hfz32_6
        try clear hfz34_0
        try clear hfz34_1
        try clear hfz34_2
        try clear hfz34_3
        try clear hfz34_4
        try clear hfz34_5
        try clear hfz34_6
        try clear hfz35_0
        try clear hfz35_1
        try clear hfz35_2
        try clear hfz35_3
        try clear hfz35_4
        try clear hfz35_5
        try clear hfz35_6
        try clear hfz41_0
        try clear hfz41_1
        try clear hfz41_2
        try clear hfz41_3
        try clear hfz41_4
        try clear hfz41_5
        try clear hfz41_6
        try clear hfz42_0
        try clear hfz42_1
        try clear hfz42_2
        try clear hfz42_3
        try clear hfz42_4
        try clear hfz42_5
        try clear hfz42_6
        try clear hfz43_0
        try clear hfz43_1
        try clear hfz43_2
        try clear hfz43_3
        try clear hfz43_4
        try clear hfz43_5
        try clear hfz43_6
        try clear p2
        try clear p6
        obtain ⟨kq, x95_36, rfl, HA, HJ36, BK114, HB⟩ := hcut
        cases kq with
        | zero => exact absurd HA.out (by simp [spec_BatchOk.j2])
        | succ kj36 =>
         have H := HA.out
         clear HA
         simp only [spec_BatchOk.j2] at H
         by_cases c44 : x95_36 = true
         ·
          subst c44
          rw [if_pos rfl] at H
          obtain rfl := Option.some.inj H
          go_wp2
          go_ret
          exact ⟨by first | rfl | (simp [errW_none, errW_some] <;> rfl) | (simp [*, errW_none, errW_some] <;> rfl), by repeat (first | (with_reducible first | exact HB.out | apply bAl | apply bDN | apply bD1 | refine bSe ?_ GE114.out) | exact HB.out)⟩
         ·
          replace c44 := Bool.eq_false_iff.mpr c44
          subst c44
          rw [if_neg (show ¬ (false = true) by decide)] at H
          have H' := Aside0.mk H
          clear H
          go_wp2
          go_loopg [3] kj36 (fun kq v3 w' => ∃ (x3_4 : Int), v3 = .int .i64 x3_4 ∧ Aside0 (spec_BatchOk.l0 kq x3_4 a0_0 a0_1 a0_2 a0_3 a0_4 a0_5 l0_6 = some r) ∧ Aside0 (kq ≤ kj36) ∧ Aside0 (w'.heap[gb114]? = some (.cells #[.int .i64 a0_0, .int .i64 a0_1, .int .i64 a0_2, .int .i64 a0_3, .int .i64 a0_4, .int .i64 a0_5, (.slice A0_6 l0_6.length c0_6)] 29 (0, 0))) ∧ Aside0 (Below w.heap.size w w'))
          case atStart => exact ⟨(0), (by first | rfl | (simp; done) | (simp [*]; done) | exact Go.Proofs.Ytjbcgflpeomkfaa.Add.isEmpty_bne _), H', ⟨Nat.le_refl _⟩, ⟨by (with_reducible repeat first | refine kDN ?_ _ | refine kDr ?_ | refine kAl ?_ _); exact BK114.out⟩, ⟨by repeat (first | (with_reducible first | exact HB.out | apply bAl | apply bDN | apply bD1 | refine bSe ?_ GE114.out) | exact HB.out)⟩⟩
          case round =>
           clear H'
           try clear c1
           try clear c2
           try clear p2
           try clear c3
           try clear c4
           try clear c5
           try clear p6
           try clear c7
           try clear c9
           try clear c10
           try clear c11
           try clear c13
           try clear c21
           try clear c23
           try clear c23b0
           try clear c24
           try clear c24b0
           try clear c24b1
           try clear c25
           try clear c25b0
           try clear c25b1
           try clear c26
           try clear c26b0
           try clear c26b1
           try clear c28
           try clear c28b0
           try clear c30
           try clear c33
           try clear c33b0
           try clear c36
           try clear c39
           try clear c40
           try clear c40b0
           try clear c44
           try clear hcz15_0
           try clear hcz15_1
           try clear hcz15_2
           try clear hcz15_3
           try clear hcz15_4
           try clear hcz15_5
           try clear hcz15_6
           try clear hcz16_0
           try clear hcz16_1
           try clear hcz16_2
           try clear hcz16_3
           try clear hcz16_4
           try clear hcz16_5
           try clear hcz16_6
           try clear hcz17_0
           try clear hcz17_1
           try clear hcz17_2
           try clear hcz17_3
           try clear hcz17_4
           try clear hcz17_5
           try clear hcz17_6
           try clear hcz18_0
           try clear hcz18_1
           try clear hcz18_2
           try clear hcz18_3
           try clear hcz18_4
           try clear hcz18_5
           try clear hcz18_6
           try clear hcz19_0
           try clear hcz19_1
           try clear hcz19_2
           try clear hcz19_3
           try clear hcz19_4
           try clear hcz19_5
           try clear hcz19_6
           try clear hcz20_0
           try clear hcz20_1
           try clear hcz20_2
           try clear hcz20_3
           try clear hcz20_4
           try clear hcz20_5
           try clear hcz20_6
           try clear hcz27_0
           try clear hcz27_1
           try clear hcz27_2
           try clear hcz27_3
           try clear hcz27_4
           try clear hcz27_5
           try clear hcz27_6
           try clear hcz29_0
           try clear hcz29_1
           try clear hcz29_2
           try clear hcz29_3
           try clear hcz29_4
           try clear hcz29_5
           try clear hcz29_6
           try clear hcz30_0
           try clear hcz30_1
           try clear hcz30_2
           try clear hcz30_3
           try clear hcz30_4
           try clear hcz30_5
           try clear hcz30_6
           try clear hcz31_0
           try clear hcz31_1
           try clear hcz31_2
           try clear hcz31_3
           try clear hcz31_4
           try clear hcz31_5
           try clear hcz31_6
           try clear hcz32_0
           try clear hcz32_1
           try clear hcz32_2
           try clear hcz32_3
           try clear hcz32_4
           try clear hcz32_5
           try clear hcz32_6
           try clear hcz34_0
           try clear hcz34_1
           try clear hcz34_2
           try clear hcz34_3
           try clear hcz34_4
           try clear hcz34_5
           try clear hcz34_6
           try clear hcz35_0
           try clear hcz35_1
           try clear hcz35_2
           try clear hcz35_3
           try clear hcz35_4
           try clear hcz35_5
           try clear hcz35_6
           try clear hcz41_0
           try clear hcz41_1
           try clear hcz41_2
           try clear hcz41_3
           try clear hcz41_4
           try clear hcz41_5
           try clear hcz41_6
           try clear hcz42_0
           try clear hcz42_1
           try clear hcz42_2
           try clear hcz42_3
           try clear hcz42_4
           try clear hcz42_5
           try clear hcz42_6
           try clear hcz43_0
           try clear hcz43_1
           try clear hcz43_2
           try clear hcz43_3
           try clear hcz43_4
           try clear hcz43_5
           try clear hcz43_6
           try clear hfz15_0
           try clear hfz15_1
           try clear hfz15_2
           try clear hfz15_3
           try clear hfz15_4
           try clear hfz15_5
           try clear hfz15_6
           try clear hfz16_0
           try clear hfz16_1
           try clear hfz16_2
           try clear hfz16_3
           try clear hfz16_4
           try clear hfz16_5
           try clear hfz16_6
           try clear hfz17_0
           try clear hfz17_1
           try clear hfz17_2
           try clear hfz17_3
           try clear hfz17_4
           try clear hfz17_5
           try clear hfz17_6
           try clear hfz18_0
           try clear hfz18_1
           try clear hfz18_2
           try clear hfz18_3
           try clear hfz18_4
           try clear hfz18_5
           try clear hfz18_6
           try clear hfz19_0
           try clear hfz19_1
           try clear hfz19_2
           try clear hfz19_3
           try clear hfz19_4
           try clear hfz19_5
           try clear hfz19_6
           try clear hfz20_0
           try clear hfz20_1
           try clear hfz20_2
           try clear hfz20_3
           try clear hfz20_4
           try clear hfz20_5
           try clear hfz20_6
           try clear hfz27_0
           try clear hfz27_1
           try clear hfz27_2
           try clear hfz27_3
           try clear hfz27_4
           try clear hfz27_5
           try clear hfz27_6
           try clear hfz29_0
           try clear hfz29_1
           try clear hfz29_2
           try clear hfz29_3
           try clear hfz29_4
           try clear hfz29_5
           try clear hfz29_6
           try clear hfz30_0
           try clear hfz30_1
           try clear hfz30_2
           try clear hfz30_3
           try clear hfz30_4
           try clear hfz30_5
           try clear hfz30_6
           try clear hfz31_0
           try clear hfz31_1
           try clear hfz31_2
           try clear hfz31_3
           try clear hfz31_4
           try clear hfz31_5
           try clear hfz31_6
           try clear hfz32_0
           try clear hfz32_1
           try clear hfz32_2
           try clear hfz32_3
           try clear hfz32_4
           try clear hfz32_5
           try clear hfz32_6
           try clear hfz34_0
           try clear hfz34_1
           try clear hfz34_2
           try clear hfz34_3
           try clear hfz34_4
           try clear hfz34_5
           try clear hfz34_6
           try clear hfz35_0
           try clear hfz35_1
           try clear hfz35_2
           try clear hfz35_3
           try clear hfz35_4
           try clear hfz35_5
           try clear hfz35_6
           try clear hfz41_0
           try clear hfz41_1
           try clear hfz41_2
           try clear hfz41_3
           try clear hfz41_4
           try clear hfz41_5
           try clear hfz41_6
           try clear hfz42_0
           try clear hfz42_1
           try clear hfz42_2
           try clear hfz42_3
           try clear hfz42_4
           try clear hfz42_5
           try clear hfz42_6
           try clear hfz43_0
           try clear hfz43_1
           try clear hfz43_2
           try clear hfz43_3
           try clear hfz43_4
           try clear hfz43_5
           try clear hfz43_6
           try clear p2
           try clear p6
           obtain ⟨x3_4, rfl, HA, HK4, BK114, HB⟩ := hrel
           cases gk with
           | zero => exact absurd HA.out (by simp [spec_BatchOk.l0])
           | succ k4 =>
            have H := HA.out
            clear HA
            simp only [spec_BatchOk.l0] at H
            by_cases c45 : x3_4 < (l0_6.length : Int)
            ·
             rw [if_pos c45] at H
             have c45b0 : decide (x3_4 < (l0_6.length : Int)) = true := decide_eq_true c45
             clear c45
             by_cases c46 : 0 ≤ x3_4
             ·
              rw [if_pos c46] at H
              have c46b0 : decide (0 ≤ x3_4) = true := decide_eq_true c46
              clear c46
              replace H := Option.bind_eq_some_iff.mp H
              obtain ⟨t123, A470, H⟩ := H
              have A47 := Aside0.mk A470
              clear A470
              by_cases c48 : t123 = true
              ·
               subst c48
               rw [if_pos rfl] at H
               have H' := Aside0.mk H
               clear H
               have hcz49_0 : wr.cell? ⟨gb114, 0, none⟩ = some (.int .i64 a0_0) := (kCe BK114.out 0).trans rfl
               have hcz49_1 : wr.cell? ⟨gb114, 1, none⟩ = some (.int .i64 a0_1) := (kCe BK114.out 1).trans rfl
               have hcz49_2 : wr.cell? ⟨gb114, 2, none⟩ = some (.int .i64 a0_2) := (kCe BK114.out 2).trans rfl
               have hcz49_3 : wr.cell? ⟨gb114, 3, none⟩ = some (.int .i64 a0_3) := (kCe BK114.out 3).trans rfl
               have hcz49_4 : wr.cell? ⟨gb114, 4, none⟩ = some (.int .i64 a0_4) := (kCe BK114.out 4).trans rfl
               have hcz49_5 : wr.cell? ⟨gb114, 5, none⟩ = some (.int .i64 a0_5) := (kCe BK114.out 5).trans rfl
               have hcz49_6 : wr.cell? ⟨gb114, 6, none⟩ = some (.slice A0_6 l0_6.length c0_6) := (kCe BK114.out 6).trans rfl
               have hfz49_0 := kFr BK114.out 0
               have hfz49_1 := kFr BK114.out 1
               have hfz49_2 := kFr BK114.out 2
               have hfz49_3 := kFr BK114.out 3
               have hfz49_4 := kFr BK114.out 4
               have hfz49_5 := kFr BK114.out 5
               have hfz49_6 := kFr BK114.out 6
               have p122 : 0 ≤ (x3_4 : Int) := of_decide_eq_true (by first | (with_reducible assumption) | assumption)
               have q122 : x3_4 < (l0_6.length : Int) := of_decide_eq_true (by first | (with_reducible assumption) | assumption)
               obtain ⟨ad122, A122_5, c122_5, e122, hx122_0, hx122_1, hx122_2, hx122_3, hx122_4, hx122_5, hl122_5, hi122_5⟩ := at_T56 HR0_6.out x3_4 p122 q122
               cases e122
               replace hx122_0 := (HB.out.cell (World.block_lt_of_cell? w _ hx122_0)).trans hx122_0
               replace hx122_1 := (HB.out.cell (World.block_lt_of_cell? w _ hx122_1)).trans hx122_1
               replace hx122_2 := (HB.out.cell (World.block_lt_of_cell? w _ hx122_2)).trans hx122_2
               replace hx122_3 := (HB.out.cell (World.block_lt_of_cell? w _ hx122_3)).trans hx122_3
               replace hx122_4 := (HB.out.cell (World.block_lt_of_cell? w _ hx122_4)).trans hx122_4
               replace hx122_5 := (HB.out.cell (World.block_lt_of_cell? w _ hx122_5)).trans hx122_5
               have HR122_5 := Aside0.mk hi122_5
               have HC122_5 := Aside0.mk hl122_5
               clear hi122_5 hl122_5
               replace p122 := eq_true p122
               replace q122 := eq_true q122
               go_wp2_with (first | ((with_reducible refine gCa (f := 31) rfl ?_); refine goesL_ (some 108) rfl rfl Try.func31 (by kernel_rfl) rfl #[.agg #[.int .i64 ((rd_T56 l0_6 x3_4).f0), .bool ((rd_T56 l0_6 x3_4).f1), .string ((rd_T56 l0_6 x3_4).f2), .bool ((rd_T56 l0_6 x3_4).f3), .string ((rd_T56 l0_6 x3_4).f4), .slice A122_5 ((rd_T56 l0_6 x3_4).f5).length c122_5]] rfl (by (try simp only [List.map_toArray, List.map_cons, List.map_nil]); first | done | rfl | (simp only [List.length_drop, List.length_take]; rfl)) ?_; (with_reducible refine (spec_RecordOk.calls k4 ((rd_T56 l0_6 x3_4).f0) ((rd_T56 l0_6 x3_4).f1) ((rd_T56 l0_6 x3_4).f2) ((rd_T56 l0_6 x3_4).f3) ((rd_T56 l0_6 x3_4).f4) _ _ ((rd_T56 l0_6 x3_4).f5) true _ ?side1 ?side2 A47.out).mono ?_); (case side1 => repeat (first | exact (Kd.C_below HR122_5.out HB.out) | (with_reducible refine Kd.C_alloc ?_ _) | (with_reducible refine Kd.C_drewN ?_ _) | (with_reducible refine Kd.C_drew ?_))); (case side2 => exact HC122_5.out); rintro e w50 ⟨rfl, hb⟩; refine ⟨_, rfl, ?_⟩; have n0_ := Aside0.mk (kBe (g := gb114) (o := .cells #[.int .i64 a0_0, .int .i64 a0_1, .int .i64 a0_2, .int .i64 a0_3, .int .i64 a0_4, .int .i64 a0_5, .slice (some ad122) l0_6.length c0_6] 29 (0, 0)) (by (with_reducible repeat first | refine kDN ?_ _ | refine kDr ?_ | refine kAl ?_ _); exact BK114.out) hb); have n1_ := Aside0.mk (bSt (by repeat (first | (with_reducible first | exact HB.out | apply bAl | apply bDN | apply bD1 | refine bSe ?_ GE114.out) | exact HB.out)) hb); clear BK114; clear HB; have BK114 := n0_; have HB := n1_; clear n0_ n1_; (try clear hb); (try clear hb2); (try clear hk); (try clear hi)))
               go_roundg k4
               case measure => have := HJ1.out; have := HJ21.out; have := HJ36.out; have := HK4.out; omega
               case rel => exact ⟨(wrap64 (x3_4 + 1)), (by first | rfl | (simp; done) | (simp [*]; done) | exact Go.Proofs.Ytjbcgflpeomkfaa.Add.isEmpty_bne _), H', ⟨by have := HJ1.out; have := HJ21.out; have := HJ36.out; have := HK4.out; omega⟩, ⟨by (with_reducible repeat first | refine kDN ?_ _ | refine kDr ?_ | refine kAl ?_ _); exact BK114.out⟩, ⟨by repeat (first | (with_reducible first | exact HB.out | apply bAl | apply bDN | apply bD1 | refine bSe ?_ GE114.out) | exact HB.out)⟩⟩
              ·
               replace c48 := Bool.eq_false_iff.mpr c48
               subst c48
               rw [if_neg (show ¬ (false = true) by decide)] at H
               obtain rfl := Option.some.inj H
               have hcz51_0 : wr.cell? ⟨gb114, 0, none⟩ = some (.int .i64 a0_0) := (kCe BK114.out 0).trans rfl
               have hcz51_1 : wr.cell? ⟨gb114, 1, none⟩ = some (.int .i64 a0_1) := (kCe BK114.out 1).trans rfl
               have hcz51_2 : wr.cell? ⟨gb114, 2, none⟩ = some (.int .i64 a0_2) := (kCe BK114.out 2).trans rfl
               have hcz51_3 : wr.cell? ⟨gb114, 3, none⟩ = some (.int .i64 a0_3) := (kCe BK114.out 3).trans rfl
               have hcz51_4 : wr.cell? ⟨gb114, 4, none⟩ = some (.int .i64 a0_4) := (kCe BK114.out 4).trans rfl
               have hcz51_5 : wr.cell? ⟨gb114, 5, none⟩ = some (.int .i64 a0_5) := (kCe BK114.out 5).trans rfl
               have hcz51_6 : wr.cell? ⟨gb114, 6, none⟩ = some (.slice A0_6 l0_6.length c0_6) := (kCe BK114.out 6).trans rfl
               have hfz51_0 := kFr BK114.out 0
               have hfz51_1 := kFr BK114.out 1
               have hfz51_2 := kFr BK114.out 2
               have hfz51_3 := kFr BK114.out 3
               have hfz51_4 := kFr BK114.out 4
               have hfz51_5 := kFr BK114.out 5
               have hfz51_6 := kFr BK114.out 6
               have p122 : 0 ≤ (x3_4 : Int) := of_decide_eq_true (by first | (with_reducible assumption) | assumption)
               have q122 : x3_4 < (l0_6.length : Int) := of_decide_eq_true (by first | (with_reducible assumption) | assumption)
               obtain ⟨ad122, A122_5, c122_5, e122, hx122_0, hx122_1, hx122_2, hx122_3, hx122_4, hx122_5, hl122_5, hi122_5⟩ := at_T56 HR0_6.out x3_4 p122 q122
               cases e122
               replace hx122_0 := (HB.out.cell (World.block_lt_of_cell? w _ hx122_0)).trans hx122_0
               replace hx122_1 := (HB.out.cell (World.block_lt_of_cell? w _ hx122_1)).trans hx122_1
               replace hx122_2 := (HB.out.cell (World.block_lt_of_cell? w _ hx122_2)).trans hx122_2
               replace hx122_3 := (HB.out.cell (World.block_lt_of_cell? w _ hx122_3)).trans hx122_3
               replace hx122_4 := (HB.out.cell (World.block_lt_of_cell? w _ hx122_4)).trans hx122_4
               replace hx122_5 := (HB.out.cell (World.block_lt_of_cell? w _ hx122_5)).trans hx122_5
               have HR122_5 := Aside0.mk hi122_5
               have HC122_5 := Aside0.mk hl122_5
               clear hi122_5 hl122_5
               replace p122 := eq_true p122
               replace q122 := eq_true q122
               go_wp2_with (first | ((with_reducible refine gCa (f := 31) rfl ?_); refine goesL_ (some 108) rfl rfl Try.func31 (by kernel_rfl) rfl #[.agg #[.int .i64 ((rd_T56 l0_6 x3_4).f0), .bool ((rd_T56 l0_6 x3_4).f1), .string ((rd_T56 l0_6 x3_4).f2), .bool ((rd_T56 l0_6 x3_4).f3), .string ((rd_T56 l0_6 x3_4).f4), .slice A122_5 ((rd_T56 l0_6 x3_4).f5).length c122_5]] rfl (by (try simp only [List.map_toArray, List.map_cons, List.map_nil]); first | done | rfl | (simp only [List.length_drop, List.length_take]; rfl)) ?_; (with_reducible refine (spec_RecordOk.calls k4 ((rd_T56 l0_6 x3_4).f0) ((rd_T56 l0_6 x3_4).f1) ((rd_T56 l0_6 x3_4).f2) ((rd_T56 l0_6 x3_4).f3) ((rd_T56 l0_6 x3_4).f4) _ _ ((rd_T56 l0_6 x3_4).f5) false _ ?side1 ?side2 A47.out).mono ?_); (case side1 => repeat (first | exact (Kd.C_below HR122_5.out HB.out) | (with_reducible refine Kd.C_alloc ?_ _) | (with_reducible refine Kd.C_drewN ?_ _) | (with_reducible refine Kd.C_drew ?_))); (case side2 => exact HC122_5.out); rintro e w52 ⟨rfl, hb⟩; refine ⟨_, rfl, ?_⟩; have n0_ := Aside0.mk (kBe (g := gb114) (o := .cells #[.int .i64 a0_0, .int .i64 a0_1, .int .i64 a0_2, .int .i64 a0_3, .int .i64 a0_4, .int .i64 a0_5, .slice (some ad122) l0_6.length c0_6] 29 (0, 0)) (by (with_reducible repeat first | refine kDN ?_ _ | refine kDr ?_ | refine kAl ?_ _); exact BK114.out) hb); have n1_ := Aside0.mk (bSt (by repeat (first | (with_reducible first | exact HB.out | apply bAl | apply bDN | apply bD1 | refine bSe ?_ GE114.out) | exact HB.out)) hb); clear BK114; clear HB; have BK114 := n0_; have HB := n1_; clear n0_ n1_; (try clear hb); (try clear hb2); (try clear hk); (try clear hi)))
               go_ret
               exact ⟨by first | rfl | (simp [errW_none, errW_some] <;> rfl) | (simp [*, errW_none, errW_some] <;> rfl), by repeat (first | (with_reducible first | exact HB.out | apply bAl | apply bDN | apply bD1 | refine bSe ?_ GE114.out) | exact HB.out)⟩
             ·
              rw [if_neg c46] at H
              exact absurd H (by simp)
            ·
             rw [if_neg c45] at H
             have c45b0 : decide (x3_4 < (l0_6.length : Int)) = false := decide_eq_false c45
             clear c45
             by_cases c53 : a0_5 ≥ 4
             ·
              rw [if_pos c53] at H
              have c53b0 : decide (4 ≤ a0_5) = true := decide_eq_true c53
              clear c53
              by_cases c54 : 0 < (l0_6.length : Int)
              ·
               rw [if_pos c54] at H
               have c54b0 : decide (0 < (l0_6.length : Int)) = true := decide_eq_true c54
               have c54b1 : decide (0 < l0_6.length) = true := decide_eq_true (by omega)
               clear c54
               by_cases c55 : (l0_6.length : Int) = 1
               ·
                rw [if_pos c55] at H
                have c55b0 : ((l0_6.length : Int) == 1) = true := beq_iff_eq.mpr c55
                have c55b1 : ((l0_6.length : Int) != 1) = false := bne_eq_false_iff_eq.mpr c55
                clear c55
                obtain ⟨bq56, hbq56⟩ : ∃ b_ : Bool, b_ = ((rd_T56 l0_6 0).f1) := ⟨_, rfl⟩
                replace H : (if bq56 = true then (if ((rd_T56 l0_6 0).f2).toList = ([99, 111, 109, 109, 105, 116] : List UInt8) then (if ((rd_T56 l0_6 0).f3 = true) then (some false) else (if ((rd_T56 l0_6 0).f4).toList = ([] : List UInt8) then (some ((((rd_T56 l0_6 0).f5).length : Int) == 0)) else (some false))) else (if ((rd_T56 l0_6 0).f2).toList = ([97, 98, 111, 114, 116] : List UInt8) then (if ((rd_T56 l0_6 0).f3 = true) then (some false) else (if ((rd_T56 l0_6 0).f4).toList = ([] : List UInt8) then (some ((((rd_T56 l0_6 0).f5).length : Int) == 0)) else (some false))) else (some false))) else (some false)) = some r := by rw [← hbq56] at H; exact H
                have Nbq56 := Aside0.mk hbq56
                clear hbq56
                by_cases c57 : bq56 = true
                ·
                 subst c57
                 rw [if_pos rfl] at H
                 by_cases c58 : ((rd_T56 l0_6 0).f2).toList = ([99, 111, 109, 109, 105, 116] : List UInt8)
                 ·
                  rw [if_pos c58] at H
                  have c58b0 : (((rd_T56 l0_6 0).f2).toList == ([99, 111, 109, 109, 105, 116] : List UInt8)) = true := beq_iff_eq.mpr c58
                  have c58b1 : (((rd_T56 l0_6 0).f2).toList != ([99, 111, 109, 109, 105, 116] : List UInt8)) = false := bne_eq_false_iff_eq.mpr c58
                  clear c58
                  obtain ⟨bq59, hbq59⟩ : ∃ b_ : Bool, b_ = ((rd_T56 l0_6 0).f3) := ⟨_, rfl⟩
                  replace H : (if (bq59 = true) then (some false) else (if ((rd_T56 l0_6 0).f4).toList = ([] : List UInt8) then (some ((((rd_T56 l0_6 0).f5).length : Int) == 0)) else (some false))) = some r := by rw [← hbq59] at H; exact H
                  have Nbq59 := Aside0.mk hbq59
                  clear hbq59
                  by_cases c60 : (bq59 = true)
                  ·
                   subst c60
                   rw [if_pos rfl] at H
                   obtain rfl := Option.some.inj H
                   have hcz61_0 : wr.cell? ⟨gb114, 0, none⟩ = some (.int .i64 a0_0) := (kCe BK114.out 0).trans rfl
                   have hcz61_1 : wr.cell? ⟨gb114, 1, none⟩ = some (.int .i64 a0_1) := (kCe BK114.out 1).trans rfl
                   have hcz61_2 : wr.cell? ⟨gb114, 2, none⟩ = some (.int .i64 a0_2) := (kCe BK114.out 2).trans rfl
                   have hcz61_3 : wr.cell? ⟨gb114, 3, none⟩ = some (.int .i64 a0_3) := (kCe BK114.out 3).trans rfl
                   have hcz61_4 : wr.cell? ⟨gb114, 4, none⟩ = some (.int .i64 a0_4) := (kCe BK114.out 4).trans rfl
                   have hcz61_5 : wr.cell? ⟨gb114, 5, none⟩ = some (.int .i64 a0_5) := (kCe BK114.out 5).trans rfl
                   have hcz61_6 : wr.cell? ⟨gb114, 6, none⟩ = some (.slice A0_6 l0_6.length c0_6) := (kCe BK114.out 6).trans rfl
                   have hfz61_0 := kFr BK114.out 0
                   have hfz61_1 := kFr BK114.out 1
                   have hfz61_2 := kFr BK114.out 2
                   have hfz61_3 := kFr BK114.out 3
                   have hfz61_4 := kFr BK114.out 4
                   have hfz61_5 := kFr BK114.out 5
                   have hfz61_6 := kFr BK114.out 6
                   have p124 : 0 ≤ (0 : Int) := (by omega)
                   have q124 : 0 < (l0_6.length : Int) := of_decide_eq_true (by first | (with_reducible assumption) | assumption)
                   obtain ⟨ad124, A124_5, c124_5, e124, hx124_0, hx124_1, hx124_2, hx124_3, hx124_4, hx124_5, hl124_5, hi124_5⟩ := at_T56 HR0_6.out 0 p124 q124
                   (try rw [← Nbq56.out] at hx124_1)
                   (try rw [← Nbq59.out] at hx124_1)
                   (try rw [← Nbq56.out] at hx124_3)
                   (try rw [← Nbq59.out] at hx124_3)
                   cases e124
                   have qi124 : (0 < l0_6.length) = True := eq_true (by omega)
                   (try rw [show ((0 : Int)).toNat = 0 from rfl] at hx124_0)
                   (try rw [show 0 * 6 = 0 from rfl] at hx124_0)
                   (try rw [Addr.add_zero'] at hx124_0)
                   (try rw [show ((0 : Int)).toNat = 0 from rfl] at hx124_1)
                   (try rw [show 0 * 6 = 0 from rfl] at hx124_1)
                   (try rw [Addr.add_zero'] at hx124_1)
                   (try rw [show ((0 : Int)).toNat = 0 from rfl] at hx124_2)
                   (try rw [show 0 * 6 = 0 from rfl] at hx124_2)
                   (try rw [Addr.add_zero'] at hx124_2)
                   (try rw [show ((0 : Int)).toNat = 0 from rfl] at hx124_3)
                   (try rw [show 0 * 6 = 0 from rfl] at hx124_3)
                   (try rw [Addr.add_zero'] at hx124_3)
                   (try rw [show ((0 : Int)).toNat = 0 from rfl] at hx124_4)
                   (try rw [show 0 * 6 = 0 from rfl] at hx124_4)
                   (try rw [Addr.add_zero'] at hx124_4)
                   (try rw [show ((0 : Int)).toNat = 0 from rfl] at hx124_5)
                   (try rw [show 0 * 6 = 0 from rfl] at hx124_5)
                   (try rw [Addr.add_zero'] at hx124_5)
                   replace hx124_0 := (HB.out.cell (World.block_lt_of_cell? w _ hx124_0)).trans hx124_0
                   replace hx124_1 := (HB.out.cell (World.block_lt_of_cell? w _ hx124_1)).trans hx124_1
                   replace hx124_2 := (HB.out.cell (World.block_lt_of_cell? w _ hx124_2)).trans hx124_2
                   replace hx124_3 := (HB.out.cell (World.block_lt_of_cell? w _ hx124_3)).trans hx124_3
                   replace hx124_4 := (HB.out.cell (World.block_lt_of_cell? w _ hx124_4)).trans hx124_4
                   replace hx124_5 := (HB.out.cell (World.block_lt_of_cell? w _ hx124_5)).trans hx124_5
                   have HR124_5 := Aside0.mk hi124_5
                   have HC124_5 := Aside0.mk hl124_5
                   clear hi124_5 hl124_5
                   replace p124 := eq_true p124
                   replace q124 := eq_true q124
                   go_wp2_with (first | ((with_reducible refine gDs (N := 4) rfl ?_); (try (refine gGu (by rfl) ?_; dsimp only)); refine bEv ?hg (N := 4) ?hd (cs := #[.int .i64 0, .bool false, .string (⟨#[]⟩ : ByteArray), .bool false, .string (⟨#[]⟩ : ByteArray), .slice none 0 0]) (t := 56) ?hr ?_; (case hd => rfl); (case hg => rfl); (case hr => first | (go_simp; done) | (go_simp; rfl)); intro gb125 hg w62 hbox hb; have n0_ := Aside0.mk (kBe (g := gb114) (o := .cells #[.int .i64 a0_0, .int .i64 a0_1, .int .i64 a0_2, .int .i64 a0_3, .int .i64 a0_4, .int .i64 a0_5, .slice (some ad124) l0_6.length c0_6] 29 (0, 0)) (by (with_reducible repeat first | refine kDN ?_ _ | refine kDr ?_ | refine kAl ?_ _); exact BK114.out) hb); have n1_ := Aside0.mk (bSt (by repeat (first | (with_reducible first | exact HB.out | apply bAl | apply bDN | apply bD1 | refine bSe ?_ GE114.out) | exact HB.out)) hb); have n2_ := Aside0.mk (hbox); have n3_ := Aside0.mk ((by rw [hg]; exact (bSz (by repeat (first | (with_reducible first | exact HB.out | apply bAl | apply bDN | apply bD1 | refine bSe ?_ GE114.out) | exact HB.out))) : w.heap.size ≤ gb125)); have n4_ := Aside0.mk ((by rw [hg]; exact (bSz (by repeat (first | (with_reducible first | exact HB.out | apply bAl | apply bDN | apply bD1 | refine bSe ?_ GE114.out) | exact HB.out))) : w.heap.size ≤ gb125)); have n5_ := Aside0.mk ((by rw [hg]; exact Nat.ne_of_lt (blk_lt (g := gb114) (o := .cells #[.int .i64 a0_0, .int .i64 a0_1, .int .i64 a0_2, .int .i64 a0_3, .int .i64 a0_4, .int .i64 a0_5, .slice (some ad124) l0_6.length c0_6] 29 (0, 0)) (by (with_reducible repeat first | refine kDN ?_ _ | refine kDr ?_ | refine kAl ?_ _); exact BK114.out)) : gb114 ≠ gb125)); have n6_ := Aside0.mk ((by rw [hg]; exact Nat.ne_of_gt (blk_lt (g := gb114) (o := .cells #[.int .i64 a0_0, .int .i64 a0_1, .int .i64 a0_2, .int .i64 a0_3, .int .i64 a0_4, .int .i64 a0_5, .slice (some ad124) l0_6.length c0_6] 29 (0, 0)) (by (with_reducible repeat first | refine kDN ?_ _ | refine kDr ?_ | refine kAl ?_ _); exact BK114.out)) : gb125 ≠ gb114)); clear BK114; clear HB; have BK114 := n0_; have HB := n1_; have BK125 := n2_; have GW125 := n3_; have GE125 := n4_; have NB114_125 := n5_; have NB125_114 := n6_; clear n0_ n1_ n2_ n3_ n4_ n5_ n6_; clear hb hbox hg; have hnb63 := NB125_114.out; have hnc63 := NB114_125.out; have hcz64_0 : w62.cell? ⟨gb125, 0, none⟩ = some (.int .i64 0) := (kCe BK125.out 0).trans rfl; have hcz64_1 : w62.cell? ⟨gb125, 1, none⟩ = some (.bool false) := (kCe BK125.out 1).trans rfl; have hcz64_2 : w62.cell? ⟨gb125, 2, none⟩ = some (.string (⟨#[]⟩ : ByteArray)) := (kCe BK125.out 2).trans rfl; have hcz64_3 : w62.cell? ⟨gb125, 3, none⟩ = some (.bool false) := (kCe BK125.out 3).trans rfl; have hcz64_4 : w62.cell? ⟨gb125, 4, none⟩ = some (.string (⟨#[]⟩ : ByteArray)) := (kCe BK125.out 4).trans rfl; have hcz64_5 : w62.cell? ⟨gb125, 5, none⟩ = some (.slice none 0 0) := (kCe BK125.out 5).trans rfl; have hfz64_0 := kFr BK125.out 0; have hfz64_1 := kFr BK125.out 1; have hfz64_2 := kFr BK125.out 2; have hfz64_3 := kFr BK125.out 3; have hfz64_4 := kFr BK125.out 4; have hfz64_5 := kFr BK125.out 5; have hcz65_0 : w62.cell? ⟨gb114, 0, none⟩ = some (.int .i64 a0_0) := (kCe BK114.out 0).trans rfl; have hcz65_1 : w62.cell? ⟨gb114, 1, none⟩ = some (.int .i64 a0_1) := (kCe BK114.out 1).trans rfl; have hcz65_2 : w62.cell? ⟨gb114, 2, none⟩ = some (.int .i64 a0_2) := (kCe BK114.out 2).trans rfl; have hcz65_3 : w62.cell? ⟨gb114, 3, none⟩ = some (.int .i64 a0_3) := (kCe BK114.out 3).trans rfl; have hcz65_4 : w62.cell? ⟨gb114, 4, none⟩ = some (.int .i64 a0_4) := (kCe BK114.out 4).trans rfl; have hcz65_5 : w62.cell? ⟨gb114, 5, none⟩ = some (.int .i64 a0_5) := (kCe BK114.out 5).trans rfl; have hcz65_6 : w62.cell? ⟨gb114, 6, none⟩ = some (.slice (some ad124) l0_6.length c0_6) := (kCe BK114.out 6).trans rfl; have hfz65_0 := kFr BK114.out 0; have hfz65_1 := kFr BK114.out 1; have hfz65_2 := kFr BK114.out 2; have hfz65_3 := kFr BK114.out 3; have hfz65_4 := kFr BK114.out 4; have hfz65_5 := kFr BK114.out 5; have hfz65_6 := kFr BK114.out 6))
                   go_ret
                   exact ⟨by first | rfl | (simp [errW_none, errW_some] <;> rfl) | (simp [*, errW_none, errW_some] <;> rfl), by repeat (first | (with_reducible first | exact HB.out | apply bAl | apply bDN | apply bD1 | refine bSe ?_ GE114.out | refine bSe ?_ GE125.out) | exact HB.out)⟩
                  ·
                   replace c60 := Bool.eq_false_iff.mpr c60
                   subst c60
                   rw [if_neg (show ¬ (false = true) by decide)] at H
                   by_cases c66 : ((rd_T56 l0_6 0).f4).toList = ([] : List UInt8)
                   ·
                    rw [if_pos c66] at H
                    have c66b0 : (((rd_T56 l0_6 0).f4).toList == ([] : List UInt8)) = true := beq_iff_eq.mpr c66
                    have c66b1 : (((rd_T56 l0_6 0).f4).toList != ([] : List UInt8)) = false := bne_eq_false_iff_eq.mpr c66
                    clear c66
                    obtain rfl := Option.some.inj H
                    have hcz67_0 : wr.cell? ⟨gb114, 0, none⟩ = some (.int .i64 a0_0) := (kCe BK114.out 0).trans rfl
                    have hcz67_1 : wr.cell? ⟨gb114, 1, none⟩ = some (.int .i64 a0_1) := (kCe BK114.out 1).trans rfl
                    have hcz67_2 : wr.cell? ⟨gb114, 2, none⟩ = some (.int .i64 a0_2) := (kCe BK114.out 2).trans rfl
                    have hcz67_3 : wr.cell? ⟨gb114, 3, none⟩ = some (.int .i64 a0_3) := (kCe BK114.out 3).trans rfl
                    have hcz67_4 : wr.cell? ⟨gb114, 4, none⟩ = some (.int .i64 a0_4) := (kCe BK114.out 4).trans rfl
                    have hcz67_5 : wr.cell? ⟨gb114, 5, none⟩ = some (.int .i64 a0_5) := (kCe BK114.out 5).trans rfl
                    have hcz67_6 : wr.cell? ⟨gb114, 6, none⟩ = some (.slice A0_6 l0_6.length c0_6) := (kCe BK114.out 6).trans rfl
                    have hfz67_0 := kFr BK114.out 0
                    have hfz67_1 := kFr BK114.out 1
                    have hfz67_2 := kFr BK114.out 2
                    have hfz67_3 := kFr BK114.out 3
                    have hfz67_4 := kFr BK114.out 4
                    have hfz67_5 := kFr BK114.out 5
                    have hfz67_6 := kFr BK114.out 6
                    have p124 : 0 ≤ (0 : Int) := (by omega)
                    have q124 : 0 < (l0_6.length : Int) := of_decide_eq_true (by first | (with_reducible assumption) | assumption)
                    obtain ⟨ad124, A124_5, c124_5, e124, hx124_0, hx124_1, hx124_2, hx124_3, hx124_4, hx124_5, hl124_5, hi124_5⟩ := at_T56 HR0_6.out 0 p124 q124
                    (try rw [← Nbq56.out] at hx124_1)
                    (try rw [← Nbq59.out] at hx124_1)
                    (try rw [← Nbq56.out] at hx124_3)
                    (try rw [← Nbq59.out] at hx124_3)
                    cases e124
                    have qi124 : (0 < l0_6.length) = True := eq_true (by omega)
                    (try rw [show ((0 : Int)).toNat = 0 from rfl] at hx124_0)
                    (try rw [show 0 * 6 = 0 from rfl] at hx124_0)
                    (try rw [Addr.add_zero'] at hx124_0)
                    (try rw [show ((0 : Int)).toNat = 0 from rfl] at hx124_1)
                    (try rw [show 0 * 6 = 0 from rfl] at hx124_1)
                    (try rw [Addr.add_zero'] at hx124_1)
                    (try rw [show ((0 : Int)).toNat = 0 from rfl] at hx124_2)
                    (try rw [show 0 * 6 = 0 from rfl] at hx124_2)
                    (try rw [Addr.add_zero'] at hx124_2)
                    (try rw [show ((0 : Int)).toNat = 0 from rfl] at hx124_3)
                    (try rw [show 0 * 6 = 0 from rfl] at hx124_3)
                    (try rw [Addr.add_zero'] at hx124_3)
                    (try rw [show ((0 : Int)).toNat = 0 from rfl] at hx124_4)
                    (try rw [show 0 * 6 = 0 from rfl] at hx124_4)
                    (try rw [Addr.add_zero'] at hx124_4)
                    (try rw [show ((0 : Int)).toNat = 0 from rfl] at hx124_5)
                    (try rw [show 0 * 6 = 0 from rfl] at hx124_5)
                    (try rw [Addr.add_zero'] at hx124_5)
                    replace hx124_0 := (HB.out.cell (World.block_lt_of_cell? w _ hx124_0)).trans hx124_0
                    replace hx124_1 := (HB.out.cell (World.block_lt_of_cell? w _ hx124_1)).trans hx124_1
                    replace hx124_2 := (HB.out.cell (World.block_lt_of_cell? w _ hx124_2)).trans hx124_2
                    replace hx124_3 := (HB.out.cell (World.block_lt_of_cell? w _ hx124_3)).trans hx124_3
                    replace hx124_4 := (HB.out.cell (World.block_lt_of_cell? w _ hx124_4)).trans hx124_4
                    replace hx124_5 := (HB.out.cell (World.block_lt_of_cell? w _ hx124_5)).trans hx124_5
                    have HR124_5 := Aside0.mk hi124_5
                    have HC124_5 := Aside0.mk hl124_5
                    clear hi124_5 hl124_5
                    replace p124 := eq_true p124
                    replace q124 := eq_true q124
                    go_wp2_with (first | ((with_reducible refine gDs (N := 4) rfl ?_); (try (refine gGu (by rfl) ?_; dsimp only)); refine bEv ?hg (N := 4) ?hd (cs := #[.int .i64 0, .bool false, .string (⟨#[]⟩ : ByteArray), .bool false, .string (⟨#[]⟩ : ByteArray), .slice none 0 0]) (t := 56) ?hr ?_; (case hd => rfl); (case hg => rfl); (case hr => first | (go_simp; done) | (go_simp; rfl)); intro gb125 hg w68 hbox hb; have n0_ := Aside0.mk (kBe (g := gb114) (o := .cells #[.int .i64 a0_0, .int .i64 a0_1, .int .i64 a0_2, .int .i64 a0_3, .int .i64 a0_4, .int .i64 a0_5, .slice (some ad124) l0_6.length c0_6] 29 (0, 0)) (by (with_reducible repeat first | refine kDN ?_ _ | refine kDr ?_ | refine kAl ?_ _); exact BK114.out) hb); have n1_ := Aside0.mk (bSt (by repeat (first | (with_reducible first | exact HB.out | apply bAl | apply bDN | apply bD1 | refine bSe ?_ GE114.out) | exact HB.out)) hb); have n2_ := Aside0.mk (hbox); have n3_ := Aside0.mk ((by rw [hg]; exact (bSz (by repeat (first | (with_reducible first | exact HB.out | apply bAl | apply bDN | apply bD1 | refine bSe ?_ GE114.out) | exact HB.out))) : w.heap.size ≤ gb125)); have n4_ := Aside0.mk ((by rw [hg]; exact (bSz (by repeat (first | (with_reducible first | exact HB.out | apply bAl | apply bDN | apply bD1 | refine bSe ?_ GE114.out) | exact HB.out))) : w.heap.size ≤ gb125)); have n5_ := Aside0.mk ((by rw [hg]; exact Nat.ne_of_lt (blk_lt (g := gb114) (o := .cells #[.int .i64 a0_0, .int .i64 a0_1, .int .i64 a0_2, .int .i64 a0_3, .int .i64 a0_4, .int .i64 a0_5, .slice (some ad124) l0_6.length c0_6] 29 (0, 0)) (by (with_reducible repeat first | refine kDN ?_ _ | refine kDr ?_ | refine kAl ?_ _); exact BK114.out)) : gb114 ≠ gb125)); have n6_ := Aside0.mk ((by rw [hg]; exact Nat.ne_of_gt (blk_lt (g := gb114) (o := .cells #[.int .i64 a0_0, .int .i64 a0_1, .int .i64 a0_2, .int .i64 a0_3, .int .i64 a0_4, .int .i64 a0_5, .slice (some ad124) l0_6.length c0_6] 29 (0, 0)) (by (with_reducible repeat first | refine kDN ?_ _ | refine kDr ?_ | refine kAl ?_ _); exact BK114.out)) : gb125 ≠ gb114)); clear BK114; clear HB; have BK114 := n0_; have HB := n1_; have BK125 := n2_; have GW125 := n3_; have GE125 := n4_; have NB114_125 := n5_; have NB125_114 := n6_; clear n0_ n1_ n2_ n3_ n4_ n5_ n6_; clear hb hbox hg; have hnb69 := NB125_114.out; have hnc69 := NB114_125.out; have hcz70_0 : w68.cell? ⟨gb125, 0, none⟩ = some (.int .i64 0) := (kCe BK125.out 0).trans rfl; have hcz70_1 : w68.cell? ⟨gb125, 1, none⟩ = some (.bool false) := (kCe BK125.out 1).trans rfl; have hcz70_2 : w68.cell? ⟨gb125, 2, none⟩ = some (.string (⟨#[]⟩ : ByteArray)) := (kCe BK125.out 2).trans rfl; have hcz70_3 : w68.cell? ⟨gb125, 3, none⟩ = some (.bool false) := (kCe BK125.out 3).trans rfl; have hcz70_4 : w68.cell? ⟨gb125, 4, none⟩ = some (.string (⟨#[]⟩ : ByteArray)) := (kCe BK125.out 4).trans rfl; have hcz70_5 : w68.cell? ⟨gb125, 5, none⟩ = some (.slice none 0 0) := (kCe BK125.out 5).trans rfl; have hfz70_0 := kFr BK125.out 0; have hfz70_1 := kFr BK125.out 1; have hfz70_2 := kFr BK125.out 2; have hfz70_3 := kFr BK125.out 3; have hfz70_4 := kFr BK125.out 4; have hfz70_5 := kFr BK125.out 5; have hcz71_0 : w68.cell? ⟨gb114, 0, none⟩ = some (.int .i64 a0_0) := (kCe BK114.out 0).trans rfl; have hcz71_1 : w68.cell? ⟨gb114, 1, none⟩ = some (.int .i64 a0_1) := (kCe BK114.out 1).trans rfl; have hcz71_2 : w68.cell? ⟨gb114, 2, none⟩ = some (.int .i64 a0_2) := (kCe BK114.out 2).trans rfl; have hcz71_3 : w68.cell? ⟨gb114, 3, none⟩ = some (.int .i64 a0_3) := (kCe BK114.out 3).trans rfl; have hcz71_4 : w68.cell? ⟨gb114, 4, none⟩ = some (.int .i64 a0_4) := (kCe BK114.out 4).trans rfl; have hcz71_5 : w68.cell? ⟨gb114, 5, none⟩ = some (.int .i64 a0_5) := (kCe BK114.out 5).trans rfl; have hcz71_6 : w68.cell? ⟨gb114, 6, none⟩ = some (.slice (some ad124) l0_6.length c0_6) := (kCe BK114.out 6).trans rfl; have hfz71_0 := kFr BK114.out 0; have hfz71_1 := kFr BK114.out 1; have hfz71_2 := kFr BK114.out 2; have hfz71_3 := kFr BK114.out 3; have hfz71_4 := kFr BK114.out 4; have hfz71_5 := kFr BK114.out 5; have hfz71_6 := kFr BK114.out 6))
                    go_ret
                    exact ⟨by first | rfl | (simp [errW_none, errW_some] <;> rfl) | (simp [*, errW_none, errW_some] <;> rfl), by repeat (first | (with_reducible first | exact HB.out | apply bAl | apply bDN | apply bD1 | refine bSe ?_ GE114.out | refine bSe ?_ GE125.out) | exact HB.out)⟩
                   ·
                    rw [if_neg c66] at H
                    have c66b0 : (((rd_T56 l0_6 0).f4).toList == ([] : List UInt8)) = false := beq_eq_false_iff_ne.mpr c66
                    have c66b1 : (((rd_T56 l0_6 0).f4).toList != ([] : List UInt8)) = true := bne_iff_ne.mpr c66
                    obtain rfl := Option.some.inj H
                    have hcz72_0 : wr.cell? ⟨gb114, 0, none⟩ = some (.int .i64 a0_0) := (kCe BK114.out 0).trans rfl
                    have hcz72_1 : wr.cell? ⟨gb114, 1, none⟩ = some (.int .i64 a0_1) := (kCe BK114.out 1).trans rfl
                    have hcz72_2 : wr.cell? ⟨gb114, 2, none⟩ = some (.int .i64 a0_2) := (kCe BK114.out 2).trans rfl
                    have hcz72_3 : wr.cell? ⟨gb114, 3, none⟩ = some (.int .i64 a0_3) := (kCe BK114.out 3).trans rfl
                    have hcz72_4 : wr.cell? ⟨gb114, 4, none⟩ = some (.int .i64 a0_4) := (kCe BK114.out 4).trans rfl
                    have hcz72_5 : wr.cell? ⟨gb114, 5, none⟩ = some (.int .i64 a0_5) := (kCe BK114.out 5).trans rfl
                    have hcz72_6 : wr.cell? ⟨gb114, 6, none⟩ = some (.slice A0_6 l0_6.length c0_6) := (kCe BK114.out 6).trans rfl
                    have hfz72_0 := kFr BK114.out 0
                    have hfz72_1 := kFr BK114.out 1
                    have hfz72_2 := kFr BK114.out 2
                    have hfz72_3 := kFr BK114.out 3
                    have hfz72_4 := kFr BK114.out 4
                    have hfz72_5 := kFr BK114.out 5
                    have hfz72_6 := kFr BK114.out 6
                    have p124 : 0 ≤ (0 : Int) := (by omega)
                    have q124 : 0 < (l0_6.length : Int) := of_decide_eq_true (by first | (with_reducible assumption) | assumption)
                    obtain ⟨ad124, A124_5, c124_5, e124, hx124_0, hx124_1, hx124_2, hx124_3, hx124_4, hx124_5, hl124_5, hi124_5⟩ := at_T56 HR0_6.out 0 p124 q124
                    (try rw [← Nbq56.out] at hx124_1)
                    (try rw [← Nbq59.out] at hx124_1)
                    (try rw [← Nbq56.out] at hx124_3)
                    (try rw [← Nbq59.out] at hx124_3)
                    cases e124
                    have qi124 : (0 < l0_6.length) = True := eq_true (by omega)
                    (try rw [show ((0 : Int)).toNat = 0 from rfl] at hx124_0)
                    (try rw [show 0 * 6 = 0 from rfl] at hx124_0)
                    (try rw [Addr.add_zero'] at hx124_0)
                    (try rw [show ((0 : Int)).toNat = 0 from rfl] at hx124_1)
                    (try rw [show 0 * 6 = 0 from rfl] at hx124_1)
                    (try rw [Addr.add_zero'] at hx124_1)
                    (try rw [show ((0 : Int)).toNat = 0 from rfl] at hx124_2)
                    (try rw [show 0 * 6 = 0 from rfl] at hx124_2)
                    (try rw [Addr.add_zero'] at hx124_2)
                    (try rw [show ((0 : Int)).toNat = 0 from rfl] at hx124_3)
                    (try rw [show 0 * 6 = 0 from rfl] at hx124_3)
                    (try rw [Addr.add_zero'] at hx124_3)
                    (try rw [show ((0 : Int)).toNat = 0 from rfl] at hx124_4)
                    (try rw [show 0 * 6 = 0 from rfl] at hx124_4)
                    (try rw [Addr.add_zero'] at hx124_4)
                    (try rw [show ((0 : Int)).toNat = 0 from rfl] at hx124_5)
                    (try rw [show 0 * 6 = 0 from rfl] at hx124_5)
                    (try rw [Addr.add_zero'] at hx124_5)
                    replace hx124_0 := (HB.out.cell (World.block_lt_of_cell? w _ hx124_0)).trans hx124_0
                    replace hx124_1 := (HB.out.cell (World.block_lt_of_cell? w _ hx124_1)).trans hx124_1
                    replace hx124_2 := (HB.out.cell (World.block_lt_of_cell? w _ hx124_2)).trans hx124_2
                    replace hx124_3 := (HB.out.cell (World.block_lt_of_cell? w _ hx124_3)).trans hx124_3
                    replace hx124_4 := (HB.out.cell (World.block_lt_of_cell? w _ hx124_4)).trans hx124_4
                    replace hx124_5 := (HB.out.cell (World.block_lt_of_cell? w _ hx124_5)).trans hx124_5
                    have HR124_5 := Aside0.mk hi124_5
                    have HC124_5 := Aside0.mk hl124_5
                    clear hi124_5 hl124_5
                    replace p124 := eq_true p124
                    replace q124 := eq_true q124
                    go_wp2_with (first | ((with_reducible refine gDs (N := 4) rfl ?_); (try (refine gGu (by rfl) ?_; dsimp only)); refine bEv ?hg (N := 4) ?hd (cs := #[.int .i64 0, .bool false, .string (⟨#[]⟩ : ByteArray), .bool false, .string (⟨#[]⟩ : ByteArray), .slice none 0 0]) (t := 56) ?hr ?_; (case hd => rfl); (case hg => rfl); (case hr => first | (go_simp; done) | (go_simp; rfl)); intro gb125 hg w73 hbox hb; have n0_ := Aside0.mk (kBe (g := gb114) (o := .cells #[.int .i64 a0_0, .int .i64 a0_1, .int .i64 a0_2, .int .i64 a0_3, .int .i64 a0_4, .int .i64 a0_5, .slice (some ad124) l0_6.length c0_6] 29 (0, 0)) (by (with_reducible repeat first | refine kDN ?_ _ | refine kDr ?_ | refine kAl ?_ _); exact BK114.out) hb); have n1_ := Aside0.mk (bSt (by repeat (first | (with_reducible first | exact HB.out | apply bAl | apply bDN | apply bD1 | refine bSe ?_ GE114.out) | exact HB.out)) hb); have n2_ := Aside0.mk (hbox); have n3_ := Aside0.mk ((by rw [hg]; exact (bSz (by repeat (first | (with_reducible first | exact HB.out | apply bAl | apply bDN | apply bD1 | refine bSe ?_ GE114.out) | exact HB.out))) : w.heap.size ≤ gb125)); have n4_ := Aside0.mk ((by rw [hg]; exact (bSz (by repeat (first | (with_reducible first | exact HB.out | apply bAl | apply bDN | apply bD1 | refine bSe ?_ GE114.out) | exact HB.out))) : w.heap.size ≤ gb125)); have n5_ := Aside0.mk ((by rw [hg]; exact Nat.ne_of_lt (blk_lt (g := gb114) (o := .cells #[.int .i64 a0_0, .int .i64 a0_1, .int .i64 a0_2, .int .i64 a0_3, .int .i64 a0_4, .int .i64 a0_5, .slice (some ad124) l0_6.length c0_6] 29 (0, 0)) (by (with_reducible repeat first | refine kDN ?_ _ | refine kDr ?_ | refine kAl ?_ _); exact BK114.out)) : gb114 ≠ gb125)); have n6_ := Aside0.mk ((by rw [hg]; exact Nat.ne_of_gt (blk_lt (g := gb114) (o := .cells #[.int .i64 a0_0, .int .i64 a0_1, .int .i64 a0_2, .int .i64 a0_3, .int .i64 a0_4, .int .i64 a0_5, .slice (some ad124) l0_6.length c0_6] 29 (0, 0)) (by (with_reducible repeat first | refine kDN ?_ _ | refine kDr ?_ | refine kAl ?_ _); exact BK114.out)) : gb125 ≠ gb114)); clear BK114; clear HB; have BK114 := n0_; have HB := n1_; have BK125 := n2_; have GW125 := n3_; have GE125 := n4_; have NB114_125 := n5_; have NB125_114 := n6_; clear n0_ n1_ n2_ n3_ n4_ n5_ n6_; clear hb hbox hg; have hnb74 := NB125_114.out; have hnc74 := NB114_125.out; have hcz75_0 : w73.cell? ⟨gb125, 0, none⟩ = some (.int .i64 0) := (kCe BK125.out 0).trans rfl; have hcz75_1 : w73.cell? ⟨gb125, 1, none⟩ = some (.bool false) := (kCe BK125.out 1).trans rfl; have hcz75_2 : w73.cell? ⟨gb125, 2, none⟩ = some (.string (⟨#[]⟩ : ByteArray)) := (kCe BK125.out 2).trans rfl; have hcz75_3 : w73.cell? ⟨gb125, 3, none⟩ = some (.bool false) := (kCe BK125.out 3).trans rfl; have hcz75_4 : w73.cell? ⟨gb125, 4, none⟩ = some (.string (⟨#[]⟩ : ByteArray)) := (kCe BK125.out 4).trans rfl; have hcz75_5 : w73.cell? ⟨gb125, 5, none⟩ = some (.slice none 0 0) := (kCe BK125.out 5).trans rfl; have hfz75_0 := kFr BK125.out 0; have hfz75_1 := kFr BK125.out 1; have hfz75_2 := kFr BK125.out 2; have hfz75_3 := kFr BK125.out 3; have hfz75_4 := kFr BK125.out 4; have hfz75_5 := kFr BK125.out 5; have hcz76_0 : w73.cell? ⟨gb114, 0, none⟩ = some (.int .i64 a0_0) := (kCe BK114.out 0).trans rfl; have hcz76_1 : w73.cell? ⟨gb114, 1, none⟩ = some (.int .i64 a0_1) := (kCe BK114.out 1).trans rfl; have hcz76_2 : w73.cell? ⟨gb114, 2, none⟩ = some (.int .i64 a0_2) := (kCe BK114.out 2).trans rfl; have hcz76_3 : w73.cell? ⟨gb114, 3, none⟩ = some (.int .i64 a0_3) := (kCe BK114.out 3).trans rfl; have hcz76_4 : w73.cell? ⟨gb114, 4, none⟩ = some (.int .i64 a0_4) := (kCe BK114.out 4).trans rfl; have hcz76_5 : w73.cell? ⟨gb114, 5, none⟩ = some (.int .i64 a0_5) := (kCe BK114.out 5).trans rfl; have hcz76_6 : w73.cell? ⟨gb114, 6, none⟩ = some (.slice (some ad124) l0_6.length c0_6) := (kCe BK114.out 6).trans rfl; have hfz76_0 := kFr BK114.out 0; have hfz76_1 := kFr BK114.out 1; have hfz76_2 := kFr BK114.out 2; have hfz76_3 := kFr BK114.out 3; have hfz76_4 := kFr BK114.out 4; have hfz76_5 := kFr BK114.out 5; have hfz76_6 := kFr BK114.out 6))
                    go_ret
                    exact ⟨by first | rfl | (simp [errW_none, errW_some] <;> rfl) | (simp [*, errW_none, errW_some] <;> rfl), by repeat (first | (with_reducible first | exact HB.out | apply bAl | apply bDN | apply bD1 | refine bSe ?_ GE114.out | refine bSe ?_ GE125.out) | exact HB.out)⟩
                 ·
                  rw [if_neg c58] at H
                  have c58b0 : (((rd_T56 l0_6 0).f2).toList == ([99, 111, 109, 109, 105, 116] : List UInt8)) = false := beq_eq_false_iff_ne.mpr c58
                  have c58b1 : (((rd_T56 l0_6 0).f2).toList != ([99, 111, 109, 109, 105, 116] : List UInt8)) = true := bne_iff_ne.mpr c58
                  by_cases c77 : ((rd_T56 l0_6 0).f2).toList = ([97, 98, 111, 114, 116] : List UInt8)
                  ·
                   rw [if_pos c77] at H
                   have c77b0 : (((rd_T56 l0_6 0).f2).toList == ([97, 98, 111, 114, 116] : List UInt8)) = true := beq_iff_eq.mpr c77
                   have c77b1 : (((rd_T56 l0_6 0).f2).toList != ([97, 98, 111, 114, 116] : List UInt8)) = false := bne_eq_false_iff_eq.mpr c77
                   clear c77
                   obtain ⟨bq78, hbq78⟩ : ∃ b_ : Bool, b_ = ((rd_T56 l0_6 0).f3) := ⟨_, rfl⟩
                   replace H : (if (bq78 = true) then (some false) else (if ((rd_T56 l0_6 0).f4).toList = ([] : List UInt8) then (some ((((rd_T56 l0_6 0).f5).length : Int) == 0)) else (some false))) = some r := by rw [← hbq78] at H; exact H
                   have Nbq78 := Aside0.mk hbq78
                   clear hbq78
                   by_cases c79 : (bq78 = true)
                   ·
                    subst c79
                    rw [if_pos rfl] at H
                    obtain rfl := Option.some.inj H
                    have hcz80_0 : wr.cell? ⟨gb114, 0, none⟩ = some (.int .i64 a0_0) := (kCe BK114.out 0).trans rfl
                    have hcz80_1 : wr.cell? ⟨gb114, 1, none⟩ = some (.int .i64 a0_1) := (kCe BK114.out 1).trans rfl
                    have hcz80_2 : wr.cell? ⟨gb114, 2, none⟩ = some (.int .i64 a0_2) := (kCe BK114.out 2).trans rfl
                    have hcz80_3 : wr.cell? ⟨gb114, 3, none⟩ = some (.int .i64 a0_3) := (kCe BK114.out 3).trans rfl
                    have hcz80_4 : wr.cell? ⟨gb114, 4, none⟩ = some (.int .i64 a0_4) := (kCe BK114.out 4).trans rfl
                    have hcz80_5 : wr.cell? ⟨gb114, 5, none⟩ = some (.int .i64 a0_5) := (kCe BK114.out 5).trans rfl
                    have hcz80_6 : wr.cell? ⟨gb114, 6, none⟩ = some (.slice A0_6 l0_6.length c0_6) := (kCe BK114.out 6).trans rfl
                    have hfz80_0 := kFr BK114.out 0
                    have hfz80_1 := kFr BK114.out 1
                    have hfz80_2 := kFr BK114.out 2
                    have hfz80_3 := kFr BK114.out 3
                    have hfz80_4 := kFr BK114.out 4
                    have hfz80_5 := kFr BK114.out 5
                    have hfz80_6 := kFr BK114.out 6
                    have p124 : 0 ≤ (0 : Int) := (by omega)
                    have q124 : 0 < (l0_6.length : Int) := of_decide_eq_true (by first | (with_reducible assumption) | assumption)
                    obtain ⟨ad124, A124_5, c124_5, e124, hx124_0, hx124_1, hx124_2, hx124_3, hx124_4, hx124_5, hl124_5, hi124_5⟩ := at_T56 HR0_6.out 0 p124 q124
                    (try rw [← Nbq56.out] at hx124_1)
                    (try rw [← Nbq78.out] at hx124_1)
                    (try rw [← Nbq56.out] at hx124_3)
                    (try rw [← Nbq78.out] at hx124_3)
                    cases e124
                    have qi124 : (0 < l0_6.length) = True := eq_true (by omega)
                    (try rw [show ((0 : Int)).toNat = 0 from rfl] at hx124_0)
                    (try rw [show 0 * 6 = 0 from rfl] at hx124_0)
                    (try rw [Addr.add_zero'] at hx124_0)
                    (try rw [show ((0 : Int)).toNat = 0 from rfl] at hx124_1)
                    (try rw [show 0 * 6 = 0 from rfl] at hx124_1)
                    (try rw [Addr.add_zero'] at hx124_1)
                    (try rw [show ((0 : Int)).toNat = 0 from rfl] at hx124_2)
                    (try rw [show 0 * 6 = 0 from rfl] at hx124_2)
                    (try rw [Addr.add_zero'] at hx124_2)
                    (try rw [show ((0 : Int)).toNat = 0 from rfl] at hx124_3)
                    (try rw [show 0 * 6 = 0 from rfl] at hx124_3)
                    (try rw [Addr.add_zero'] at hx124_3)
                    (try rw [show ((0 : Int)).toNat = 0 from rfl] at hx124_4)
                    (try rw [show 0 * 6 = 0 from rfl] at hx124_4)
                    (try rw [Addr.add_zero'] at hx124_4)
                    (try rw [show ((0 : Int)).toNat = 0 from rfl] at hx124_5)
                    (try rw [show 0 * 6 = 0 from rfl] at hx124_5)
                    (try rw [Addr.add_zero'] at hx124_5)
                    replace hx124_0 := (HB.out.cell (World.block_lt_of_cell? w _ hx124_0)).trans hx124_0
                    replace hx124_1 := (HB.out.cell (World.block_lt_of_cell? w _ hx124_1)).trans hx124_1
                    replace hx124_2 := (HB.out.cell (World.block_lt_of_cell? w _ hx124_2)).trans hx124_2
                    replace hx124_3 := (HB.out.cell (World.block_lt_of_cell? w _ hx124_3)).trans hx124_3
                    replace hx124_4 := (HB.out.cell (World.block_lt_of_cell? w _ hx124_4)).trans hx124_4
                    replace hx124_5 := (HB.out.cell (World.block_lt_of_cell? w _ hx124_5)).trans hx124_5
                    have HR124_5 := Aside0.mk hi124_5
                    have HC124_5 := Aside0.mk hl124_5
                    clear hi124_5 hl124_5
                    replace p124 := eq_true p124
                    replace q124 := eq_true q124
                    go_wp2_with (first | ((with_reducible refine gDs (N := 4) rfl ?_); (try (refine gGu (by rfl) ?_; dsimp only)); refine bEv ?hg (N := 4) ?hd (cs := #[.int .i64 0, .bool false, .string (⟨#[]⟩ : ByteArray), .bool false, .string (⟨#[]⟩ : ByteArray), .slice none 0 0]) (t := 56) ?hr ?_; (case hd => rfl); (case hg => rfl); (case hr => first | (go_simp; done) | (go_simp; rfl)); intro gb125 hg w81 hbox hb; have n0_ := Aside0.mk (kBe (g := gb114) (o := .cells #[.int .i64 a0_0, .int .i64 a0_1, .int .i64 a0_2, .int .i64 a0_3, .int .i64 a0_4, .int .i64 a0_5, .slice (some ad124) l0_6.length c0_6] 29 (0, 0)) (by (with_reducible repeat first | refine kDN ?_ _ | refine kDr ?_ | refine kAl ?_ _); exact BK114.out) hb); have n1_ := Aside0.mk (bSt (by repeat (first | (with_reducible first | exact HB.out | apply bAl | apply bDN | apply bD1 | refine bSe ?_ GE114.out) | exact HB.out)) hb); have n2_ := Aside0.mk (hbox); have n3_ := Aside0.mk ((by rw [hg]; exact (bSz (by repeat (first | (with_reducible first | exact HB.out | apply bAl | apply bDN | apply bD1 | refine bSe ?_ GE114.out) | exact HB.out))) : w.heap.size ≤ gb125)); have n4_ := Aside0.mk ((by rw [hg]; exact (bSz (by repeat (first | (with_reducible first | exact HB.out | apply bAl | apply bDN | apply bD1 | refine bSe ?_ GE114.out) | exact HB.out))) : w.heap.size ≤ gb125)); have n5_ := Aside0.mk ((by rw [hg]; exact Nat.ne_of_lt (blk_lt (g := gb114) (o := .cells #[.int .i64 a0_0, .int .i64 a0_1, .int .i64 a0_2, .int .i64 a0_3, .int .i64 a0_4, .int .i64 a0_5, .slice (some ad124) l0_6.length c0_6] 29 (0, 0)) (by (with_reducible repeat first | refine kDN ?_ _ | refine kDr ?_ | refine kAl ?_ _); exact BK114.out)) : gb114 ≠ gb125)); have n6_ := Aside0.mk ((by rw [hg]; exact Nat.ne_of_gt (blk_lt (g := gb114) (o := .cells #[.int .i64 a0_0, .int .i64 a0_1, .int .i64 a0_2, .int .i64 a0_3, .int .i64 a0_4, .int .i64 a0_5, .slice (some ad124) l0_6.length c0_6] 29 (0, 0)) (by (with_reducible repeat first | refine kDN ?_ _ | refine kDr ?_ | refine kAl ?_ _); exact BK114.out)) : gb125 ≠ gb114)); clear BK114; clear HB; have BK114 := n0_; have HB := n1_; have BK125 := n2_; have GW125 := n3_; have GE125 := n4_; have NB114_125 := n5_; have NB125_114 := n6_; clear n0_ n1_ n2_ n3_ n4_ n5_ n6_; clear hb hbox hg; have hnb82 := NB125_114.out; have hnc82 := NB114_125.out; have hcz83_0 : w81.cell? ⟨gb125, 0, none⟩ = some (.int .i64 0) := (kCe BK125.out 0).trans rfl; have hcz83_1 : w81.cell? ⟨gb125, 1, none⟩ = some (.bool false) := (kCe BK125.out 1).trans rfl; have hcz83_2 : w81.cell? ⟨gb125, 2, none⟩ = some (.string (⟨#[]⟩ : ByteArray)) := (kCe BK125.out 2).trans rfl; have hcz83_3 : w81.cell? ⟨gb125, 3, none⟩ = some (.bool false) := (kCe BK125.out 3).trans rfl; have hcz83_4 : w81.cell? ⟨gb125, 4, none⟩ = some (.string (⟨#[]⟩ : ByteArray)) := (kCe BK125.out 4).trans rfl; have hcz83_5 : w81.cell? ⟨gb125, 5, none⟩ = some (.slice none 0 0) := (kCe BK125.out 5).trans rfl; have hfz83_0 := kFr BK125.out 0; have hfz83_1 := kFr BK125.out 1; have hfz83_2 := kFr BK125.out 2; have hfz83_3 := kFr BK125.out 3; have hfz83_4 := kFr BK125.out 4; have hfz83_5 := kFr BK125.out 5; have hcz84_0 : w81.cell? ⟨gb114, 0, none⟩ = some (.int .i64 a0_0) := (kCe BK114.out 0).trans rfl; have hcz84_1 : w81.cell? ⟨gb114, 1, none⟩ = some (.int .i64 a0_1) := (kCe BK114.out 1).trans rfl; have hcz84_2 : w81.cell? ⟨gb114, 2, none⟩ = some (.int .i64 a0_2) := (kCe BK114.out 2).trans rfl; have hcz84_3 : w81.cell? ⟨gb114, 3, none⟩ = some (.int .i64 a0_3) := (kCe BK114.out 3).trans rfl; have hcz84_4 : w81.cell? ⟨gb114, 4, none⟩ = some (.int .i64 a0_4) := (kCe BK114.out 4).trans rfl; have hcz84_5 : w81.cell? ⟨gb114, 5, none⟩ = some (.int .i64 a0_5) := (kCe BK114.out 5).trans rfl; have hcz84_6 : w81.cell? ⟨gb114, 6, none⟩ = some (.slice (some ad124) l0_6.length c0_6) := (kCe BK114.out 6).trans rfl; have hfz84_0 := kFr BK114.out 0; have hfz84_1 := kFr BK114.out 1; have hfz84_2 := kFr BK114.out 2; have hfz84_3 := kFr BK114.out 3; have hfz84_4 := kFr BK114.out 4; have hfz84_5 := kFr BK114.out 5; have hfz84_6 := kFr BK114.out 6))
                    go_ret
                    exact ⟨by first | rfl | (simp [errW_none, errW_some] <;> rfl) | (simp [*, errW_none, errW_some] <;> rfl), by repeat (first | (with_reducible first | exact HB.out | apply bAl | apply bDN | apply bD1 | refine bSe ?_ GE114.out | refine bSe ?_ GE125.out) | exact HB.out)⟩
                   ·
                    replace c79 := Bool.eq_false_iff.mpr c79
                    subst c79
                    rw [if_neg (show ¬ (false = true) by decide)] at H
                    by_cases c85 : ((rd_T56 l0_6 0).f4).toList = ([] : List UInt8)
                    ·
                     rw [if_pos c85] at H
                     have c85b0 : (((rd_T56 l0_6 0).f4).toList == ([] : List UInt8)) = true := beq_iff_eq.mpr c85
                     have c85b1 : (((rd_T56 l0_6 0).f4).toList != ([] : List UInt8)) = false := bne_eq_false_iff_eq.mpr c85
                     clear c85
                     obtain rfl := Option.some.inj H
                     have hcz86_0 : wr.cell? ⟨gb114, 0, none⟩ = some (.int .i64 a0_0) := (kCe BK114.out 0).trans rfl
                     have hcz86_1 : wr.cell? ⟨gb114, 1, none⟩ = some (.int .i64 a0_1) := (kCe BK114.out 1).trans rfl
                     have hcz86_2 : wr.cell? ⟨gb114, 2, none⟩ = some (.int .i64 a0_2) := (kCe BK114.out 2).trans rfl
                     have hcz86_3 : wr.cell? ⟨gb114, 3, none⟩ = some (.int .i64 a0_3) := (kCe BK114.out 3).trans rfl
                     have hcz86_4 : wr.cell? ⟨gb114, 4, none⟩ = some (.int .i64 a0_4) := (kCe BK114.out 4).trans rfl
                     have hcz86_5 : wr.cell? ⟨gb114, 5, none⟩ = some (.int .i64 a0_5) := (kCe BK114.out 5).trans rfl
                     have hcz86_6 : wr.cell? ⟨gb114, 6, none⟩ = some (.slice A0_6 l0_6.length c0_6) := (kCe BK114.out 6).trans rfl
                     have hfz86_0 := kFr BK114.out 0
                     have hfz86_1 := kFr BK114.out 1
                     have hfz86_2 := kFr BK114.out 2
                     have hfz86_3 := kFr BK114.out 3
                     have hfz86_4 := kFr BK114.out 4
                     have hfz86_5 := kFr BK114.out 5
                     have hfz86_6 := kFr BK114.out 6
                     have p124 : 0 ≤ (0 : Int) := (by omega)
                     have q124 : 0 < (l0_6.length : Int) := of_decide_eq_true (by first | (with_reducible assumption) | assumption)
                     obtain ⟨ad124, A124_5, c124_5, e124, hx124_0, hx124_1, hx124_2, hx124_3, hx124_4, hx124_5, hl124_5, hi124_5⟩ := at_T56 HR0_6.out 0 p124 q124
                     (try rw [← Nbq56.out] at hx124_1)
                     (try rw [← Nbq78.out] at hx124_1)
                     (try rw [← Nbq56.out] at hx124_3)
                     (try rw [← Nbq78.out] at hx124_3)
                     cases e124
                     have qi124 : (0 < l0_6.length) = True := eq_true (by omega)
                     (try rw [show ((0 : Int)).toNat = 0 from rfl] at hx124_0)
                     (try rw [show 0 * 6 = 0 from rfl] at hx124_0)
                     (try rw [Addr.add_zero'] at hx124_0)
                     (try rw [show ((0 : Int)).toNat = 0 from rfl] at hx124_1)
                     (try rw [show 0 * 6 = 0 from rfl] at hx124_1)
                     (try rw [Addr.add_zero'] at hx124_1)
                     (try rw [show ((0 : Int)).toNat = 0 from rfl] at hx124_2)
                     (try rw [show 0 * 6 = 0 from rfl] at hx124_2)
                     (try rw [Addr.add_zero'] at hx124_2)
                     (try rw [show ((0 : Int)).toNat = 0 from rfl] at hx124_3)
                     (try rw [show 0 * 6 = 0 from rfl] at hx124_3)
                     (try rw [Addr.add_zero'] at hx124_3)
                     (try rw [show ((0 : Int)).toNat = 0 from rfl] at hx124_4)
                     (try rw [show 0 * 6 = 0 from rfl] at hx124_4)
                     (try rw [Addr.add_zero'] at hx124_4)
                     (try rw [show ((0 : Int)).toNat = 0 from rfl] at hx124_5)
                     (try rw [show 0 * 6 = 0 from rfl] at hx124_5)
                     (try rw [Addr.add_zero'] at hx124_5)
                     replace hx124_0 := (HB.out.cell (World.block_lt_of_cell? w _ hx124_0)).trans hx124_0
                     replace hx124_1 := (HB.out.cell (World.block_lt_of_cell? w _ hx124_1)).trans hx124_1
                     replace hx124_2 := (HB.out.cell (World.block_lt_of_cell? w _ hx124_2)).trans hx124_2
                     replace hx124_3 := (HB.out.cell (World.block_lt_of_cell? w _ hx124_3)).trans hx124_3
                     replace hx124_4 := (HB.out.cell (World.block_lt_of_cell? w _ hx124_4)).trans hx124_4
                     replace hx124_5 := (HB.out.cell (World.block_lt_of_cell? w _ hx124_5)).trans hx124_5
                     have HR124_5 := Aside0.mk hi124_5
                     have HC124_5 := Aside0.mk hl124_5
                     clear hi124_5 hl124_5
                     replace p124 := eq_true p124
                     replace q124 := eq_true q124
                     go_wp2_with (first | ((with_reducible refine gDs (N := 4) rfl ?_); (try (refine gGu (by rfl) ?_; dsimp only)); refine bEv ?hg (N := 4) ?hd (cs := #[.int .i64 0, .bool false, .string (⟨#[]⟩ : ByteArray), .bool false, .string (⟨#[]⟩ : ByteArray), .slice none 0 0]) (t := 56) ?hr ?_; (case hd => rfl); (case hg => rfl); (case hr => first | (go_simp; done) | (go_simp; rfl)); intro gb125 hg w87 hbox hb; have n0_ := Aside0.mk (kBe (g := gb114) (o := .cells #[.int .i64 a0_0, .int .i64 a0_1, .int .i64 a0_2, .int .i64 a0_3, .int .i64 a0_4, .int .i64 a0_5, .slice (some ad124) l0_6.length c0_6] 29 (0, 0)) (by (with_reducible repeat first | refine kDN ?_ _ | refine kDr ?_ | refine kAl ?_ _); exact BK114.out) hb); have n1_ := Aside0.mk (bSt (by repeat (first | (with_reducible first | exact HB.out | apply bAl | apply bDN | apply bD1 | refine bSe ?_ GE114.out) | exact HB.out)) hb); have n2_ := Aside0.mk (hbox); have n3_ := Aside0.mk ((by rw [hg]; exact (bSz (by repeat (first | (with_reducible first | exact HB.out | apply bAl | apply bDN | apply bD1 | refine bSe ?_ GE114.out) | exact HB.out))) : w.heap.size ≤ gb125)); have n4_ := Aside0.mk ((by rw [hg]; exact (bSz (by repeat (first | (with_reducible first | exact HB.out | apply bAl | apply bDN | apply bD1 | refine bSe ?_ GE114.out) | exact HB.out))) : w.heap.size ≤ gb125)); have n5_ := Aside0.mk ((by rw [hg]; exact Nat.ne_of_lt (blk_lt (g := gb114) (o := .cells #[.int .i64 a0_0, .int .i64 a0_1, .int .i64 a0_2, .int .i64 a0_3, .int .i64 a0_4, .int .i64 a0_5, .slice (some ad124) l0_6.length c0_6] 29 (0, 0)) (by (with_reducible repeat first | refine kDN ?_ _ | refine kDr ?_ | refine kAl ?_ _); exact BK114.out)) : gb114 ≠ gb125)); have n6_ := Aside0.mk ((by rw [hg]; exact Nat.ne_of_gt (blk_lt (g := gb114) (o := .cells #[.int .i64 a0_0, .int .i64 a0_1, .int .i64 a0_2, .int .i64 a0_3, .int .i64 a0_4, .int .i64 a0_5, .slice (some ad124) l0_6.length c0_6] 29 (0, 0)) (by (with_reducible repeat first | refine kDN ?_ _ | refine kDr ?_ | refine kAl ?_ _); exact BK114.out)) : gb125 ≠ gb114)); clear BK114; clear HB; have BK114 := n0_; have HB := n1_; have BK125 := n2_; have GW125 := n3_; have GE125 := n4_; have NB114_125 := n5_; have NB125_114 := n6_; clear n0_ n1_ n2_ n3_ n4_ n5_ n6_; clear hb hbox hg; have hnb88 := NB125_114.out; have hnc88 := NB114_125.out; have hcz89_0 : w87.cell? ⟨gb125, 0, none⟩ = some (.int .i64 0) := (kCe BK125.out 0).trans rfl; have hcz89_1 : w87.cell? ⟨gb125, 1, none⟩ = some (.bool false) := (kCe BK125.out 1).trans rfl; have hcz89_2 : w87.cell? ⟨gb125, 2, none⟩ = some (.string (⟨#[]⟩ : ByteArray)) := (kCe BK125.out 2).trans rfl; have hcz89_3 : w87.cell? ⟨gb125, 3, none⟩ = some (.bool false) := (kCe BK125.out 3).trans rfl; have hcz89_4 : w87.cell? ⟨gb125, 4, none⟩ = some (.string (⟨#[]⟩ : ByteArray)) := (kCe BK125.out 4).trans rfl; have hcz89_5 : w87.cell? ⟨gb125, 5, none⟩ = some (.slice none 0 0) := (kCe BK125.out 5).trans rfl; have hfz89_0 := kFr BK125.out 0; have hfz89_1 := kFr BK125.out 1; have hfz89_2 := kFr BK125.out 2; have hfz89_3 := kFr BK125.out 3; have hfz89_4 := kFr BK125.out 4; have hfz89_5 := kFr BK125.out 5; have hcz90_0 : w87.cell? ⟨gb114, 0, none⟩ = some (.int .i64 a0_0) := (kCe BK114.out 0).trans rfl; have hcz90_1 : w87.cell? ⟨gb114, 1, none⟩ = some (.int .i64 a0_1) := (kCe BK114.out 1).trans rfl; have hcz90_2 : w87.cell? ⟨gb114, 2, none⟩ = some (.int .i64 a0_2) := (kCe BK114.out 2).trans rfl; have hcz90_3 : w87.cell? ⟨gb114, 3, none⟩ = some (.int .i64 a0_3) := (kCe BK114.out 3).trans rfl; have hcz90_4 : w87.cell? ⟨gb114, 4, none⟩ = some (.int .i64 a0_4) := (kCe BK114.out 4).trans rfl; have hcz90_5 : w87.cell? ⟨gb114, 5, none⟩ = some (.int .i64 a0_5) := (kCe BK114.out 5).trans rfl; have hcz90_6 : w87.cell? ⟨gb114, 6, none⟩ = some (.slice (some ad124) l0_6.length c0_6) := (kCe BK114.out 6).trans rfl; have hfz90_0 := kFr BK114.out 0; have hfz90_1 := kFr BK114.out 1; have hfz90_2 := kFr BK114.out 2; have hfz90_3 := kFr BK114.out 3; have hfz90_4 := kFr BK114.out 4; have hfz90_5 := kFr BK114.out 5; have hfz90_6 := kFr BK114.out 6))
                     go_ret
                     exact ⟨by first | rfl | (simp [errW_none, errW_some] <;> rfl) | (simp [*, errW_none, errW_some] <;> rfl), by repeat (first | (with_reducible first | exact HB.out | apply bAl | apply bDN | apply bD1 | refine bSe ?_ GE114.out | refine bSe ?_ GE125.out) | exact HB.out)⟩
                    ·
                     rw [if_neg c85] at H
                     have c85b0 : (((rd_T56 l0_6 0).f4).toList == ([] : List UInt8)) = false := beq_eq_false_iff_ne.mpr c85
                     have c85b1 : (((rd_T56 l0_6 0).f4).toList != ([] : List UInt8)) = true := bne_iff_ne.mpr c85
                     obtain rfl := Option.some.inj H
                     have hcz91_0 : wr.cell? ⟨gb114, 0, none⟩ = some (.int .i64 a0_0) := (kCe BK114.out 0).trans rfl
                     have hcz91_1 : wr.cell? ⟨gb114, 1, none⟩ = some (.int .i64 a0_1) := (kCe BK114.out 1).trans rfl
                     have hcz91_2 : wr.cell? ⟨gb114, 2, none⟩ = some (.int .i64 a0_2) := (kCe BK114.out 2).trans rfl
                     have hcz91_3 : wr.cell? ⟨gb114, 3, none⟩ = some (.int .i64 a0_3) := (kCe BK114.out 3).trans rfl
                     have hcz91_4 : wr.cell? ⟨gb114, 4, none⟩ = some (.int .i64 a0_4) := (kCe BK114.out 4).trans rfl
                     have hcz91_5 : wr.cell? ⟨gb114, 5, none⟩ = some (.int .i64 a0_5) := (kCe BK114.out 5).trans rfl
                     have hcz91_6 : wr.cell? ⟨gb114, 6, none⟩ = some (.slice A0_6 l0_6.length c0_6) := (kCe BK114.out 6).trans rfl
                     have hfz91_0 := kFr BK114.out 0
                     have hfz91_1 := kFr BK114.out 1
                     have hfz91_2 := kFr BK114.out 2
                     have hfz91_3 := kFr BK114.out 3
                     have hfz91_4 := kFr BK114.out 4
                     have hfz91_5 := kFr BK114.out 5
                     have hfz91_6 := kFr BK114.out 6
                     have p124 : 0 ≤ (0 : Int) := (by omega)
                     have q124 : 0 < (l0_6.length : Int) := of_decide_eq_true (by first | (with_reducible assumption) | assumption)
                     obtain ⟨ad124, A124_5, c124_5, e124, hx124_0, hx124_1, hx124_2, hx124_3, hx124_4, hx124_5, hl124_5, hi124_5⟩ := at_T56 HR0_6.out 0 p124 q124
                     (try rw [← Nbq56.out] at hx124_1)
                     (try rw [← Nbq78.out] at hx124_1)
                     (try rw [← Nbq56.out] at hx124_3)
                     (try rw [← Nbq78.out] at hx124_3)
                     cases e124
                     have qi124 : (0 < l0_6.length) = True := eq_true (by omega)
                     (try rw [show ((0 : Int)).toNat = 0 from rfl] at hx124_0)
                     (try rw [show 0 * 6 = 0 from rfl] at hx124_0)
                     (try rw [Addr.add_zero'] at hx124_0)
                     (try rw [show ((0 : Int)).toNat = 0 from rfl] at hx124_1)
                     (try rw [show 0 * 6 = 0 from rfl] at hx124_1)
                     (try rw [Addr.add_zero'] at hx124_1)
                     (try rw [show ((0 : Int)).toNat = 0 from rfl] at hx124_2)
                     (try rw [show 0 * 6 = 0 from rfl] at hx124_2)
                     (try rw [Addr.add_zero'] at hx124_2)
                     (try rw [show ((0 : Int)).toNat = 0 from rfl] at hx124_3)
                     (try rw [show 0 * 6 = 0 from rfl] at hx124_3)
                     (try rw [Addr.add_zero'] at hx124_3)
                     (try rw [show ((0 : Int)).toNat = 0 from rfl] at hx124_4)
                     (try rw [show 0 * 6 = 0 from rfl] at hx124_4)
                     (try rw [Addr.add_zero'] at hx124_4)
                     (try rw [show ((0 : Int)).toNat = 0 from rfl] at hx124_5)
                     (try rw [show 0 * 6 = 0 from rfl] at hx124_5)
                     (try rw [Addr.add_zero'] at hx124_5)
                     replace hx124_0 := (HB.out.cell (World.block_lt_of_cell? w _ hx124_0)).trans hx124_0
                     replace hx124_1 := (HB.out.cell (World.block_lt_of_cell? w _ hx124_1)).trans hx124_1
                     replace hx124_2 := (HB.out.cell (World.block_lt_of_cell? w _ hx124_2)).trans hx124_2
                     replace hx124_3 := (HB.out.cell (World.block_lt_of_cell? w _ hx124_3)).trans hx124_3
                     replace hx124_4 := (HB.out.cell (World.block_lt_of_cell? w _ hx124_4)).trans hx124_4
                     replace hx124_5 := (HB.out.cell (World.block_lt_of_cell? w _ hx124_5)).trans hx124_5
                     have HR124_5 := Aside0.mk hi124_5
                     have HC124_5 := Aside0.mk hl124_5
                     clear hi124_5 hl124_5
                     replace p124 := eq_true p124
                     replace q124 := eq_true q124
                     go_wp2_with (first | ((with_reducible refine gDs (N := 4) rfl ?_); (try (refine gGu (by rfl) ?_; dsimp only)); refine bEv ?hg (N := 4) ?hd (cs := #[.int .i64 0, .bool false, .string (⟨#[]⟩ : ByteArray), .bool false, .string (⟨#[]⟩ : ByteArray), .slice none 0 0]) (t := 56) ?hr ?_; (case hd => rfl); (case hg => rfl); (case hr => first | (go_simp; done) | (go_simp; rfl)); intro gb125 hg w92 hbox hb; have n0_ := Aside0.mk (kBe (g := gb114) (o := .cells #[.int .i64 a0_0, .int .i64 a0_1, .int .i64 a0_2, .int .i64 a0_3, .int .i64 a0_4, .int .i64 a0_5, .slice (some ad124) l0_6.length c0_6] 29 (0, 0)) (by (with_reducible repeat first | refine kDN ?_ _ | refine kDr ?_ | refine kAl ?_ _); exact BK114.out) hb); have n1_ := Aside0.mk (bSt (by repeat (first | (with_reducible first | exact HB.out | apply bAl | apply bDN | apply bD1 | refine bSe ?_ GE114.out) | exact HB.out)) hb); have n2_ := Aside0.mk (hbox); have n3_ := Aside0.mk ((by rw [hg]; exact (bSz (by repeat (first | (with_reducible first | exact HB.out | apply bAl | apply bDN | apply bD1 | refine bSe ?_ GE114.out) | exact HB.out))) : w.heap.size ≤ gb125)); have n4_ := Aside0.mk ((by rw [hg]; exact (bSz (by repeat (first | (with_reducible first | exact HB.out | apply bAl | apply bDN | apply bD1 | refine bSe ?_ GE114.out) | exact HB.out))) : w.heap.size ≤ gb125)); have n5_ := Aside0.mk ((by rw [hg]; exact Nat.ne_of_lt (blk_lt (g := gb114) (o := .cells #[.int .i64 a0_0, .int .i64 a0_1, .int .i64 a0_2, .int .i64 a0_3, .int .i64 a0_4, .int .i64 a0_5, .slice (some ad124) l0_6.length c0_6] 29 (0, 0)) (by (with_reducible repeat first | refine kDN ?_ _ | refine kDr ?_ | refine kAl ?_ _); exact BK114.out)) : gb114 ≠ gb125)); have n6_ := Aside0.mk ((by rw [hg]; exact Nat.ne_of_gt (blk_lt (g := gb114) (o := .cells #[.int .i64 a0_0, .int .i64 a0_1, .int .i64 a0_2, .int .i64 a0_3, .int .i64 a0_4, .int .i64 a0_5, .slice (some ad124) l0_6.length c0_6] 29 (0, 0)) (by (with_reducible repeat first | refine kDN ?_ _ | refine kDr ?_ | refine kAl ?_ _); exact BK114.out)) : gb125 ≠ gb114)); clear BK114; clear HB; have BK114 := n0_; have HB := n1_; have BK125 := n2_; have GW125 := n3_; have GE125 := n4_; have NB114_125 := n5_; have NB125_114 := n6_; clear n0_ n1_ n2_ n3_ n4_ n5_ n6_; clear hb hbox hg; have hnb93 := NB125_114.out; have hnc93 := NB114_125.out; have hcz94_0 : w92.cell? ⟨gb125, 0, none⟩ = some (.int .i64 0) := (kCe BK125.out 0).trans rfl; have hcz94_1 : w92.cell? ⟨gb125, 1, none⟩ = some (.bool false) := (kCe BK125.out 1).trans rfl; have hcz94_2 : w92.cell? ⟨gb125, 2, none⟩ = some (.string (⟨#[]⟩ : ByteArray)) := (kCe BK125.out 2).trans rfl; have hcz94_3 : w92.cell? ⟨gb125, 3, none⟩ = some (.bool false) := (kCe BK125.out 3).trans rfl; have hcz94_4 : w92.cell? ⟨gb125, 4, none⟩ = some (.string (⟨#[]⟩ : ByteArray)) := (kCe BK125.out 4).trans rfl; have hcz94_5 : w92.cell? ⟨gb125, 5, none⟩ = some (.slice none 0 0) := (kCe BK125.out 5).trans rfl; have hfz94_0 := kFr BK125.out 0; have hfz94_1 := kFr BK125.out 1; have hfz94_2 := kFr BK125.out 2; have hfz94_3 := kFr BK125.out 3; have hfz94_4 := kFr BK125.out 4; have hfz94_5 := kFr BK125.out 5; have hcz95_0 : w92.cell? ⟨gb114, 0, none⟩ = some (.int .i64 a0_0) := (kCe BK114.out 0).trans rfl; have hcz95_1 : w92.cell? ⟨gb114, 1, none⟩ = some (.int .i64 a0_1) := (kCe BK114.out 1).trans rfl; have hcz95_2 : w92.cell? ⟨gb114, 2, none⟩ = some (.int .i64 a0_2) := (kCe BK114.out 2).trans rfl; have hcz95_3 : w92.cell? ⟨gb114, 3, none⟩ = some (.int .i64 a0_3) := (kCe BK114.out 3).trans rfl; have hcz95_4 : w92.cell? ⟨gb114, 4, none⟩ = some (.int .i64 a0_4) := (kCe BK114.out 4).trans rfl; have hcz95_5 : w92.cell? ⟨gb114, 5, none⟩ = some (.int .i64 a0_5) := (kCe BK114.out 5).trans rfl; have hcz95_6 : w92.cell? ⟨gb114, 6, none⟩ = some (.slice (some ad124) l0_6.length c0_6) := (kCe BK114.out 6).trans rfl; have hfz95_0 := kFr BK114.out 0; have hfz95_1 := kFr BK114.out 1; have hfz95_2 := kFr BK114.out 2; have hfz95_3 := kFr BK114.out 3; have hfz95_4 := kFr BK114.out 4; have hfz95_5 := kFr BK114.out 5; have hfz95_6 := kFr BK114.out 6))
                     go_ret
                     exact ⟨by first | rfl | (simp [errW_none, errW_some] <;> rfl) | (simp [*, errW_none, errW_some] <;> rfl), by repeat (first | (with_reducible first | exact HB.out | apply bAl | apply bDN | apply bD1 | refine bSe ?_ GE114.out | refine bSe ?_ GE125.out) | exact HB.out)⟩
                  ·
                   rw [if_neg c77] at H
                   have c77b0 : (((rd_T56 l0_6 0).f2).toList == ([97, 98, 111, 114, 116] : List UInt8)) = false := beq_eq_false_iff_ne.mpr c77
                   have c77b1 : (((rd_T56 l0_6 0).f2).toList != ([97, 98, 111, 114, 116] : List UInt8)) = true := bne_iff_ne.mpr c77
                   obtain rfl := Option.some.inj H
                   have hcz96_0 : wr.cell? ⟨gb114, 0, none⟩ = some (.int .i64 a0_0) := (kCe BK114.out 0).trans rfl
                   have hcz96_1 : wr.cell? ⟨gb114, 1, none⟩ = some (.int .i64 a0_1) := (kCe BK114.out 1).trans rfl
                   have hcz96_2 : wr.cell? ⟨gb114, 2, none⟩ = some (.int .i64 a0_2) := (kCe BK114.out 2).trans rfl
                   have hcz96_3 : wr.cell? ⟨gb114, 3, none⟩ = some (.int .i64 a0_3) := (kCe BK114.out 3).trans rfl
                   have hcz96_4 : wr.cell? ⟨gb114, 4, none⟩ = some (.int .i64 a0_4) := (kCe BK114.out 4).trans rfl
                   have hcz96_5 : wr.cell? ⟨gb114, 5, none⟩ = some (.int .i64 a0_5) := (kCe BK114.out 5).trans rfl
                   have hcz96_6 : wr.cell? ⟨gb114, 6, none⟩ = some (.slice A0_6 l0_6.length c0_6) := (kCe BK114.out 6).trans rfl
                   have hfz96_0 := kFr BK114.out 0
                   have hfz96_1 := kFr BK114.out 1
                   have hfz96_2 := kFr BK114.out 2
                   have hfz96_3 := kFr BK114.out 3
                   have hfz96_4 := kFr BK114.out 4
                   have hfz96_5 := kFr BK114.out 5
                   have hfz96_6 := kFr BK114.out 6
                   have p124 : 0 ≤ (0 : Int) := (by omega)
                   have q124 : 0 < (l0_6.length : Int) := of_decide_eq_true (by first | (with_reducible assumption) | assumption)
                   obtain ⟨ad124, A124_5, c124_5, e124, hx124_0, hx124_1, hx124_2, hx124_3, hx124_4, hx124_5, hl124_5, hi124_5⟩ := at_T56 HR0_6.out 0 p124 q124
                   (try rw [← Nbq56.out] at hx124_1)
                   (try rw [← Nbq56.out] at hx124_3)
                   cases e124
                   have qi124 : (0 < l0_6.length) = True := eq_true (by omega)
                   (try rw [show ((0 : Int)).toNat = 0 from rfl] at hx124_0)
                   (try rw [show 0 * 6 = 0 from rfl] at hx124_0)
                   (try rw [Addr.add_zero'] at hx124_0)
                   (try rw [show ((0 : Int)).toNat = 0 from rfl] at hx124_1)
                   (try rw [show 0 * 6 = 0 from rfl] at hx124_1)
                   (try rw [Addr.add_zero'] at hx124_1)
                   (try rw [show ((0 : Int)).toNat = 0 from rfl] at hx124_2)
                   (try rw [show 0 * 6 = 0 from rfl] at hx124_2)
                   (try rw [Addr.add_zero'] at hx124_2)
                   (try rw [show ((0 : Int)).toNat = 0 from rfl] at hx124_3)
                   (try rw [show 0 * 6 = 0 from rfl] at hx124_3)
                   (try rw [Addr.add_zero'] at hx124_3)
                   (try rw [show ((0 : Int)).toNat = 0 from rfl] at hx124_4)
                   (try rw [show 0 * 6 = 0 from rfl] at hx124_4)
                   (try rw [Addr.add_zero'] at hx124_4)
                   (try rw [show ((0 : Int)).toNat = 0 from rfl] at hx124_5)
                   (try rw [show 0 * 6 = 0 from rfl] at hx124_5)
                   (try rw [Addr.add_zero'] at hx124_5)
                   replace hx124_0 := (HB.out.cell (World.block_lt_of_cell? w _ hx124_0)).trans hx124_0
                   replace hx124_1 := (HB.out.cell (World.block_lt_of_cell? w _ hx124_1)).trans hx124_1
                   replace hx124_2 := (HB.out.cell (World.block_lt_of_cell? w _ hx124_2)).trans hx124_2
                   replace hx124_3 := (HB.out.cell (World.block_lt_of_cell? w _ hx124_3)).trans hx124_3
                   replace hx124_4 := (HB.out.cell (World.block_lt_of_cell? w _ hx124_4)).trans hx124_4
                   replace hx124_5 := (HB.out.cell (World.block_lt_of_cell? w _ hx124_5)).trans hx124_5
                   have HR124_5 := Aside0.mk hi124_5
                   have HC124_5 := Aside0.mk hl124_5
                   clear hi124_5 hl124_5
                   replace p124 := eq_true p124
                   replace q124 := eq_true q124
                   go_wp2_with (first | ((with_reducible refine gDs (N := 4) rfl ?_); (try (refine gGu (by rfl) ?_; dsimp only)); refine bEv ?hg (N := 4) ?hd (cs := #[.int .i64 0, .bool false, .string (⟨#[]⟩ : ByteArray), .bool false, .string (⟨#[]⟩ : ByteArray), .slice none 0 0]) (t := 56) ?hr ?_; (case hd => rfl); (case hg => rfl); (case hr => first | (go_simp; done) | (go_simp; rfl)); intro gb125 hg w97 hbox hb; have n0_ := Aside0.mk (kBe (g := gb114) (o := .cells #[.int .i64 a0_0, .int .i64 a0_1, .int .i64 a0_2, .int .i64 a0_3, .int .i64 a0_4, .int .i64 a0_5, .slice (some ad124) l0_6.length c0_6] 29 (0, 0)) (by (with_reducible repeat first | refine kDN ?_ _ | refine kDr ?_ | refine kAl ?_ _); exact BK114.out) hb); have n1_ := Aside0.mk (bSt (by repeat (first | (with_reducible first | exact HB.out | apply bAl | apply bDN | apply bD1 | refine bSe ?_ GE114.out) | exact HB.out)) hb); have n2_ := Aside0.mk (hbox); have n3_ := Aside0.mk ((by rw [hg]; exact (bSz (by repeat (first | (with_reducible first | exact HB.out | apply bAl | apply bDN | apply bD1 | refine bSe ?_ GE114.out) | exact HB.out))) : w.heap.size ≤ gb125)); have n4_ := Aside0.mk ((by rw [hg]; exact (bSz (by repeat (first | (with_reducible first | exact HB.out | apply bAl | apply bDN | apply bD1 | refine bSe ?_ GE114.out) | exact HB.out))) : w.heap.size ≤ gb125)); have n5_ := Aside0.mk ((by rw [hg]; exact Nat.ne_of_lt (blk_lt (g := gb114) (o := .cells #[.int .i64 a0_0, .int .i64 a0_1, .int .i64 a0_2, .int .i64 a0_3, .int .i64 a0_4, .int .i64 a0_5, .slice (some ad124) l0_6.length c0_6] 29 (0, 0)) (by (with_reducible repeat first | refine kDN ?_ _ | refine kDr ?_ | refine kAl ?_ _); exact BK114.out)) : gb114 ≠ gb125)); have n6_ := Aside0.mk ((by rw [hg]; exact Nat.ne_of_gt (blk_lt (g := gb114) (o := .cells #[.int .i64 a0_0, .int .i64 a0_1, .int .i64 a0_2, .int .i64 a0_3, .int .i64 a0_4, .int .i64 a0_5, .slice (some ad124) l0_6.length c0_6] 29 (0, 0)) (by (with_reducible repeat first | refine kDN ?_ _ | refine kDr ?_ | refine kAl ?_ _); exact BK114.out)) : gb125 ≠ gb114)); clear BK114; clear HB; have BK114 := n0_; have HB := n1_; have BK125 := n2_; have GW125 := n3_; have GE125 := n4_; have NB114_125 := n5_; have NB125_114 := n6_; clear n0_ n1_ n2_ n3_ n4_ n5_ n6_; clear hb hbox hg; have hnb98 := NB125_114.out; have hnc98 := NB114_125.out; have hcz99_0 : w97.cell? ⟨gb125, 0, none⟩ = some (.int .i64 0) := (kCe BK125.out 0).trans rfl; have hcz99_1 : w97.cell? ⟨gb125, 1, none⟩ = some (.bool false) := (kCe BK125.out 1).trans rfl; have hcz99_2 : w97.cell? ⟨gb125, 2, none⟩ = some (.string (⟨#[]⟩ : ByteArray)) := (kCe BK125.out 2).trans rfl; have hcz99_3 : w97.cell? ⟨gb125, 3, none⟩ = some (.bool false) := (kCe BK125.out 3).trans rfl; have hcz99_4 : w97.cell? ⟨gb125, 4, none⟩ = some (.string (⟨#[]⟩ : ByteArray)) := (kCe BK125.out 4).trans rfl; have hcz99_5 : w97.cell? ⟨gb125, 5, none⟩ = some (.slice none 0 0) := (kCe BK125.out 5).trans rfl; have hfz99_0 := kFr BK125.out 0; have hfz99_1 := kFr BK125.out 1; have hfz99_2 := kFr BK125.out 2; have hfz99_3 := kFr BK125.out 3; have hfz99_4 := kFr BK125.out 4; have hfz99_5 := kFr BK125.out 5; have hcz100_0 : w97.cell? ⟨gb114, 0, none⟩ = some (.int .i64 a0_0) := (kCe BK114.out 0).trans rfl; have hcz100_1 : w97.cell? ⟨gb114, 1, none⟩ = some (.int .i64 a0_1) := (kCe BK114.out 1).trans rfl; have hcz100_2 : w97.cell? ⟨gb114, 2, none⟩ = some (.int .i64 a0_2) := (kCe BK114.out 2).trans rfl; have hcz100_3 : w97.cell? ⟨gb114, 3, none⟩ = some (.int .i64 a0_3) := (kCe BK114.out 3).trans rfl; have hcz100_4 : w97.cell? ⟨gb114, 4, none⟩ = some (.int .i64 a0_4) := (kCe BK114.out 4).trans rfl; have hcz100_5 : w97.cell? ⟨gb114, 5, none⟩ = some (.int .i64 a0_5) := (kCe BK114.out 5).trans rfl; have hcz100_6 : w97.cell? ⟨gb114, 6, none⟩ = some (.slice (some ad124) l0_6.length c0_6) := (kCe BK114.out 6).trans rfl; have hfz100_0 := kFr BK114.out 0; have hfz100_1 := kFr BK114.out 1; have hfz100_2 := kFr BK114.out 2; have hfz100_3 := kFr BK114.out 3; have hfz100_4 := kFr BK114.out 4; have hfz100_5 := kFr BK114.out 5; have hfz100_6 := kFr BK114.out 6))
                   go_ret
                   exact ⟨by first | rfl | (simp [errW_none, errW_some] <;> rfl) | (simp [*, errW_none, errW_some] <;> rfl), by repeat (first | (with_reducible first | exact HB.out | apply bAl | apply bDN | apply bD1 | refine bSe ?_ GE114.out | refine bSe ?_ GE125.out) | exact HB.out)⟩
                ·
                 replace c57 := Bool.eq_false_iff.mpr c57
                 subst c57
                 rw [if_neg (show ¬ (false = true) by decide)] at H
                 obtain rfl := Option.some.inj H
                 have hcz101_0 : wr.cell? ⟨gb114, 0, none⟩ = some (.int .i64 a0_0) := (kCe BK114.out 0).trans rfl
                 have hcz101_1 : wr.cell? ⟨gb114, 1, none⟩ = some (.int .i64 a0_1) := (kCe BK114.out 1).trans rfl
                 have hcz101_2 : wr.cell? ⟨gb114, 2, none⟩ = some (.int .i64 a0_2) := (kCe BK114.out 2).trans rfl
                 have hcz101_3 : wr.cell? ⟨gb114, 3, none⟩ = some (.int .i64 a0_3) := (kCe BK114.out 3).trans rfl
                 have hcz101_4 : wr.cell? ⟨gb114, 4, none⟩ = some (.int .i64 a0_4) := (kCe BK114.out 4).trans rfl
                 have hcz101_5 : wr.cell? ⟨gb114, 5, none⟩ = some (.int .i64 a0_5) := (kCe BK114.out 5).trans rfl
                 have hcz101_6 : wr.cell? ⟨gb114, 6, none⟩ = some (.slice A0_6 l0_6.length c0_6) := (kCe BK114.out 6).trans rfl
                 have hfz101_0 := kFr BK114.out 0
                 have hfz101_1 := kFr BK114.out 1
                 have hfz101_2 := kFr BK114.out 2
                 have hfz101_3 := kFr BK114.out 3
                 have hfz101_4 := kFr BK114.out 4
                 have hfz101_5 := kFr BK114.out 5
                 have hfz101_6 := kFr BK114.out 6
                 have p124 : 0 ≤ (0 : Int) := (by omega)
                 have q124 : 0 < (l0_6.length : Int) := of_decide_eq_true (by first | (with_reducible assumption) | assumption)
                 obtain ⟨ad124, A124_5, c124_5, e124, hx124_0, hx124_1, hx124_2, hx124_3, hx124_4, hx124_5, hl124_5, hi124_5⟩ := at_T56 HR0_6.out 0 p124 q124
                 (try rw [← Nbq56.out] at hx124_1)
                 (try rw [← Nbq56.out] at hx124_3)
                 cases e124
                 have qi124 : (0 < l0_6.length) = True := eq_true (by omega)
                 (try rw [show ((0 : Int)).toNat = 0 from rfl] at hx124_0)
                 (try rw [show 0 * 6 = 0 from rfl] at hx124_0)
                 (try rw [Addr.add_zero'] at hx124_0)
                 (try rw [show ((0 : Int)).toNat = 0 from rfl] at hx124_1)
                 (try rw [show 0 * 6 = 0 from rfl] at hx124_1)
                 (try rw [Addr.add_zero'] at hx124_1)
                 (try rw [show ((0 : Int)).toNat = 0 from rfl] at hx124_2)
                 (try rw [show 0 * 6 = 0 from rfl] at hx124_2)
                 (try rw [Addr.add_zero'] at hx124_2)
                 (try rw [show ((0 : Int)).toNat = 0 from rfl] at hx124_3)
                 (try rw [show 0 * 6 = 0 from rfl] at hx124_3)
                 (try rw [Addr.add_zero'] at hx124_3)
                 (try rw [show ((0 : Int)).toNat = 0 from rfl] at hx124_4)
                 (try rw [show 0 * 6 = 0 from rfl] at hx124_4)
                 (try rw [Addr.add_zero'] at hx124_4)
                 (try rw [show ((0 : Int)).toNat = 0 from rfl] at hx124_5)
                 (try rw [show 0 * 6 = 0 from rfl] at hx124_5)
                 (try rw [Addr.add_zero'] at hx124_5)
                 replace hx124_0 := (HB.out.cell (World.block_lt_of_cell? w _ hx124_0)).trans hx124_0
                 replace hx124_1 := (HB.out.cell (World.block_lt_of_cell? w _ hx124_1)).trans hx124_1
                 replace hx124_2 := (HB.out.cell (World.block_lt_of_cell? w _ hx124_2)).trans hx124_2
                 replace hx124_3 := (HB.out.cell (World.block_lt_of_cell? w _ hx124_3)).trans hx124_3
                 replace hx124_4 := (HB.out.cell (World.block_lt_of_cell? w _ hx124_4)).trans hx124_4
                 replace hx124_5 := (HB.out.cell (World.block_lt_of_cell? w _ hx124_5)).trans hx124_5
                 have HR124_5 := Aside0.mk hi124_5
                 have HC124_5 := Aside0.mk hl124_5
                 clear hi124_5 hl124_5
                 replace p124 := eq_true p124
                 replace q124 := eq_true q124
                 go_wp2_with (first | ((with_reducible refine gDs (N := 4) rfl ?_); (try (refine gGu (by rfl) ?_; dsimp only)); refine bEv ?hg (N := 4) ?hd (cs := #[.int .i64 0, .bool false, .string (⟨#[]⟩ : ByteArray), .bool false, .string (⟨#[]⟩ : ByteArray), .slice none 0 0]) (t := 56) ?hr ?_; (case hd => rfl); (case hg => rfl); (case hr => first | (go_simp; done) | (go_simp; rfl)); intro gb125 hg w102 hbox hb; have n0_ := Aside0.mk (kBe (g := gb114) (o := .cells #[.int .i64 a0_0, .int .i64 a0_1, .int .i64 a0_2, .int .i64 a0_3, .int .i64 a0_4, .int .i64 a0_5, .slice (some ad124) l0_6.length c0_6] 29 (0, 0)) (by (with_reducible repeat first | refine kDN ?_ _ | refine kDr ?_ | refine kAl ?_ _); exact BK114.out) hb); have n1_ := Aside0.mk (bSt (by repeat (first | (with_reducible first | exact HB.out | apply bAl | apply bDN | apply bD1 | refine bSe ?_ GE114.out) | exact HB.out)) hb); have n2_ := Aside0.mk (hbox); have n3_ := Aside0.mk ((by rw [hg]; exact (bSz (by repeat (first | (with_reducible first | exact HB.out | apply bAl | apply bDN | apply bD1 | refine bSe ?_ GE114.out) | exact HB.out))) : w.heap.size ≤ gb125)); have n4_ := Aside0.mk ((by rw [hg]; exact (bSz (by repeat (first | (with_reducible first | exact HB.out | apply bAl | apply bDN | apply bD1 | refine bSe ?_ GE114.out) | exact HB.out))) : w.heap.size ≤ gb125)); have n5_ := Aside0.mk ((by rw [hg]; exact Nat.ne_of_lt (blk_lt (g := gb114) (o := .cells #[.int .i64 a0_0, .int .i64 a0_1, .int .i64 a0_2, .int .i64 a0_3, .int .i64 a0_4, .int .i64 a0_5, .slice (some ad124) l0_6.length c0_6] 29 (0, 0)) (by (with_reducible repeat first | refine kDN ?_ _ | refine kDr ?_ | refine kAl ?_ _); exact BK114.out)) : gb114 ≠ gb125)); have n6_ := Aside0.mk ((by rw [hg]; exact Nat.ne_of_gt (blk_lt (g := gb114) (o := .cells #[.int .i64 a0_0, .int .i64 a0_1, .int .i64 a0_2, .int .i64 a0_3, .int .i64 a0_4, .int .i64 a0_5, .slice (some ad124) l0_6.length c0_6] 29 (0, 0)) (by (with_reducible repeat first | refine kDN ?_ _ | refine kDr ?_ | refine kAl ?_ _); exact BK114.out)) : gb125 ≠ gb114)); clear BK114; clear HB; have BK114 := n0_; have HB := n1_; have BK125 := n2_; have GW125 := n3_; have GE125 := n4_; have NB114_125 := n5_; have NB125_114 := n6_; clear n0_ n1_ n2_ n3_ n4_ n5_ n6_; clear hb hbox hg; have hnb103 := NB125_114.out; have hnc103 := NB114_125.out; have hcz104_0 : w102.cell? ⟨gb125, 0, none⟩ = some (.int .i64 0) := (kCe BK125.out 0).trans rfl; have hcz104_1 : w102.cell? ⟨gb125, 1, none⟩ = some (.bool false) := (kCe BK125.out 1).trans rfl; have hcz104_2 : w102.cell? ⟨gb125, 2, none⟩ = some (.string (⟨#[]⟩ : ByteArray)) := (kCe BK125.out 2).trans rfl; have hcz104_3 : w102.cell? ⟨gb125, 3, none⟩ = some (.bool false) := (kCe BK125.out 3).trans rfl; have hcz104_4 : w102.cell? ⟨gb125, 4, none⟩ = some (.string (⟨#[]⟩ : ByteArray)) := (kCe BK125.out 4).trans rfl; have hcz104_5 : w102.cell? ⟨gb125, 5, none⟩ = some (.slice none 0 0) := (kCe BK125.out 5).trans rfl; have hfz104_0 := kFr BK125.out 0; have hfz104_1 := kFr BK125.out 1; have hfz104_2 := kFr BK125.out 2; have hfz104_3 := kFr BK125.out 3; have hfz104_4 := kFr BK125.out 4; have hfz104_5 := kFr BK125.out 5; have hcz105_0 : w102.cell? ⟨gb114, 0, none⟩ = some (.int .i64 a0_0) := (kCe BK114.out 0).trans rfl; have hcz105_1 : w102.cell? ⟨gb114, 1, none⟩ = some (.int .i64 a0_1) := (kCe BK114.out 1).trans rfl; have hcz105_2 : w102.cell? ⟨gb114, 2, none⟩ = some (.int .i64 a0_2) := (kCe BK114.out 2).trans rfl; have hcz105_3 : w102.cell? ⟨gb114, 3, none⟩ = some (.int .i64 a0_3) := (kCe BK114.out 3).trans rfl; have hcz105_4 : w102.cell? ⟨gb114, 4, none⟩ = some (.int .i64 a0_4) := (kCe BK114.out 4).trans rfl; have hcz105_5 : w102.cell? ⟨gb114, 5, none⟩ = some (.int .i64 a0_5) := (kCe BK114.out 5).trans rfl; have hcz105_6 : w102.cell? ⟨gb114, 6, none⟩ = some (.slice (some ad124) l0_6.length c0_6) := (kCe BK114.out 6).trans rfl; have hfz105_0 := kFr BK114.out 0; have hfz105_1 := kFr BK114.out 1; have hfz105_2 := kFr BK114.out 2; have hfz105_3 := kFr BK114.out 3; have hfz105_4 := kFr BK114.out 4; have hfz105_5 := kFr BK114.out 5; have hfz105_6 := kFr BK114.out 6))
                 go_ret
                 exact ⟨by first | rfl | (simp [errW_none, errW_some] <;> rfl) | (simp [*, errW_none, errW_some] <;> rfl), by repeat (first | (with_reducible first | exact HB.out | apply bAl | apply bDN | apply bD1 | refine bSe ?_ GE114.out | refine bSe ?_ GE125.out) | exact HB.out)⟩
               ·
                rw [if_neg c55] at H
                have c55b0 : ((l0_6.length : Int) == 1) = false := beq_eq_false_iff_ne.mpr c55
                have c55b1 : ((l0_6.length : Int) != 1) = true := bne_iff_ne.mpr c55
                obtain rfl := Option.some.inj H
                have hcz106_0 : wr.cell? ⟨gb114, 0, none⟩ = some (.int .i64 a0_0) := (kCe BK114.out 0).trans rfl
                have hcz106_1 : wr.cell? ⟨gb114, 1, none⟩ = some (.int .i64 a0_1) := (kCe BK114.out 1).trans rfl
                have hcz106_2 : wr.cell? ⟨gb114, 2, none⟩ = some (.int .i64 a0_2) := (kCe BK114.out 2).trans rfl
                have hcz106_3 : wr.cell? ⟨gb114, 3, none⟩ = some (.int .i64 a0_3) := (kCe BK114.out 3).trans rfl
                have hcz106_4 : wr.cell? ⟨gb114, 4, none⟩ = some (.int .i64 a0_4) := (kCe BK114.out 4).trans rfl
                have hcz106_5 : wr.cell? ⟨gb114, 5, none⟩ = some (.int .i64 a0_5) := (kCe BK114.out 5).trans rfl
                have hcz106_6 : wr.cell? ⟨gb114, 6, none⟩ = some (.slice A0_6 l0_6.length c0_6) := (kCe BK114.out 6).trans rfl
                have hfz106_0 := kFr BK114.out 0
                have hfz106_1 := kFr BK114.out 1
                have hfz106_2 := kFr BK114.out 2
                have hfz106_3 := kFr BK114.out 3
                have hfz106_4 := kFr BK114.out 4
                have hfz106_5 := kFr BK114.out 5
                have hfz106_6 := kFr BK114.out 6
                have p124 : 0 ≤ (0 : Int) := (by omega)
                have q124 : 0 < (l0_6.length : Int) := of_decide_eq_true (by first | (with_reducible assumption) | assumption)
                obtain ⟨ad124, A124_5, c124_5, e124, hx124_0, hx124_1, hx124_2, hx124_3, hx124_4, hx124_5, hl124_5, hi124_5⟩ := at_T56 HR0_6.out 0 p124 q124
                cases e124
                have qi124 : (0 < l0_6.length) = True := eq_true (by omega)
                (try rw [show ((0 : Int)).toNat = 0 from rfl] at hx124_0)
                (try rw [show 0 * 6 = 0 from rfl] at hx124_0)
                (try rw [Addr.add_zero'] at hx124_0)
                (try rw [show ((0 : Int)).toNat = 0 from rfl] at hx124_1)
                (try rw [show 0 * 6 = 0 from rfl] at hx124_1)
                (try rw [Addr.add_zero'] at hx124_1)
                (try rw [show ((0 : Int)).toNat = 0 from rfl] at hx124_2)
                (try rw [show 0 * 6 = 0 from rfl] at hx124_2)
                (try rw [Addr.add_zero'] at hx124_2)
                (try rw [show ((0 : Int)).toNat = 0 from rfl] at hx124_3)
                (try rw [show 0 * 6 = 0 from rfl] at hx124_3)
                (try rw [Addr.add_zero'] at hx124_3)
                (try rw [show ((0 : Int)).toNat = 0 from rfl] at hx124_4)
                (try rw [show 0 * 6 = 0 from rfl] at hx124_4)
                (try rw [Addr.add_zero'] at hx124_4)
                (try rw [show ((0 : Int)).toNat = 0 from rfl] at hx124_5)
                (try rw [show 0 * 6 = 0 from rfl] at hx124_5)
                (try rw [Addr.add_zero'] at hx124_5)
                replace hx124_0 := (HB.out.cell (World.block_lt_of_cell? w _ hx124_0)).trans hx124_0
                replace hx124_1 := (HB.out.cell (World.block_lt_of_cell? w _ hx124_1)).trans hx124_1
                replace hx124_2 := (HB.out.cell (World.block_lt_of_cell? w _ hx124_2)).trans hx124_2
                replace hx124_3 := (HB.out.cell (World.block_lt_of_cell? w _ hx124_3)).trans hx124_3
                replace hx124_4 := (HB.out.cell (World.block_lt_of_cell? w _ hx124_4)).trans hx124_4
                replace hx124_5 := (HB.out.cell (World.block_lt_of_cell? w _ hx124_5)).trans hx124_5
                have HR124_5 := Aside0.mk hi124_5
                have HC124_5 := Aside0.mk hl124_5
                clear hi124_5 hl124_5
                replace p124 := eq_true p124
                replace q124 := eq_true q124
                go_wp2_with (first | ((with_reducible refine gDs (N := 4) rfl ?_); (try (refine gGu (by rfl) ?_; dsimp only)); refine bEv ?hg (N := 4) ?hd (cs := #[.int .i64 0, .bool false, .string (⟨#[]⟩ : ByteArray), .bool false, .string (⟨#[]⟩ : ByteArray), .slice none 0 0]) (t := 56) ?hr ?_; (case hd => rfl); (case hg => rfl); (case hr => first | (go_simp; done) | (go_simp; rfl)); intro gb125 hg w107 hbox hb; have n0_ := Aside0.mk (kBe (g := gb114) (o := .cells #[.int .i64 a0_0, .int .i64 a0_1, .int .i64 a0_2, .int .i64 a0_3, .int .i64 a0_4, .int .i64 a0_5, .slice (some ad124) l0_6.length c0_6] 29 (0, 0)) (by (with_reducible repeat first | refine kDN ?_ _ | refine kDr ?_ | refine kAl ?_ _); exact BK114.out) hb); have n1_ := Aside0.mk (bSt (by repeat (first | (with_reducible first | exact HB.out | apply bAl | apply bDN | apply bD1 | refine bSe ?_ GE114.out) | exact HB.out)) hb); have n2_ := Aside0.mk (hbox); have n3_ := Aside0.mk ((by rw [hg]; exact (bSz (by repeat (first | (with_reducible first | exact HB.out | apply bAl | apply bDN | apply bD1 | refine bSe ?_ GE114.out) | exact HB.out))) : w.heap.size ≤ gb125)); have n4_ := Aside0.mk ((by rw [hg]; exact (bSz (by repeat (first | (with_reducible first | exact HB.out | apply bAl | apply bDN | apply bD1 | refine bSe ?_ GE114.out) | exact HB.out))) : w.heap.size ≤ gb125)); have n5_ := Aside0.mk ((by rw [hg]; exact Nat.ne_of_lt (blk_lt (g := gb114) (o := .cells #[.int .i64 a0_0, .int .i64 a0_1, .int .i64 a0_2, .int .i64 a0_3, .int .i64 a0_4, .int .i64 a0_5, .slice (some ad124) l0_6.length c0_6] 29 (0, 0)) (by (with_reducible repeat first | refine kDN ?_ _ | refine kDr ?_ | refine kAl ?_ _); exact BK114.out)) : gb114 ≠ gb125)); have n6_ := Aside0.mk ((by rw [hg]; exact Nat.ne_of_gt (blk_lt (g := gb114) (o := .cells #[.int .i64 a0_0, .int .i64 a0_1, .int .i64 a0_2, .int .i64 a0_3, .int .i64 a0_4, .int .i64 a0_5, .slice (some ad124) l0_6.length c0_6] 29 (0, 0)) (by (with_reducible repeat first | refine kDN ?_ _ | refine kDr ?_ | refine kAl ?_ _); exact BK114.out)) : gb125 ≠ gb114)); clear BK114; clear HB; have BK114 := n0_; have HB := n1_; have BK125 := n2_; have GW125 := n3_; have GE125 := n4_; have NB114_125 := n5_; have NB125_114 := n6_; clear n0_ n1_ n2_ n3_ n4_ n5_ n6_; clear hb hbox hg; have hnb108 := NB125_114.out; have hnc108 := NB114_125.out; have hcz109_0 : w107.cell? ⟨gb125, 0, none⟩ = some (.int .i64 0) := (kCe BK125.out 0).trans rfl; have hcz109_1 : w107.cell? ⟨gb125, 1, none⟩ = some (.bool false) := (kCe BK125.out 1).trans rfl; have hcz109_2 : w107.cell? ⟨gb125, 2, none⟩ = some (.string (⟨#[]⟩ : ByteArray)) := (kCe BK125.out 2).trans rfl; have hcz109_3 : w107.cell? ⟨gb125, 3, none⟩ = some (.bool false) := (kCe BK125.out 3).trans rfl; have hcz109_4 : w107.cell? ⟨gb125, 4, none⟩ = some (.string (⟨#[]⟩ : ByteArray)) := (kCe BK125.out 4).trans rfl; have hcz109_5 : w107.cell? ⟨gb125, 5, none⟩ = some (.slice none 0 0) := (kCe BK125.out 5).trans rfl; have hfz109_0 := kFr BK125.out 0; have hfz109_1 := kFr BK125.out 1; have hfz109_2 := kFr BK125.out 2; have hfz109_3 := kFr BK125.out 3; have hfz109_4 := kFr BK125.out 4; have hfz109_5 := kFr BK125.out 5; have hcz110_0 : w107.cell? ⟨gb114, 0, none⟩ = some (.int .i64 a0_0) := (kCe BK114.out 0).trans rfl; have hcz110_1 : w107.cell? ⟨gb114, 1, none⟩ = some (.int .i64 a0_1) := (kCe BK114.out 1).trans rfl; have hcz110_2 : w107.cell? ⟨gb114, 2, none⟩ = some (.int .i64 a0_2) := (kCe BK114.out 2).trans rfl; have hcz110_3 : w107.cell? ⟨gb114, 3, none⟩ = some (.int .i64 a0_3) := (kCe BK114.out 3).trans rfl; have hcz110_4 : w107.cell? ⟨gb114, 4, none⟩ = some (.int .i64 a0_4) := (kCe BK114.out 4).trans rfl; have hcz110_5 : w107.cell? ⟨gb114, 5, none⟩ = some (.int .i64 a0_5) := (kCe BK114.out 5).trans rfl; have hcz110_6 : w107.cell? ⟨gb114, 6, none⟩ = some (.slice (some ad124) l0_6.length c0_6) := (kCe BK114.out 6).trans rfl; have hfz110_0 := kFr BK114.out 0; have hfz110_1 := kFr BK114.out 1; have hfz110_2 := kFr BK114.out 2; have hfz110_3 := kFr BK114.out 3; have hfz110_4 := kFr BK114.out 4; have hfz110_5 := kFr BK114.out 5; have hfz110_6 := kFr BK114.out 6))
                go_ret
                exact ⟨by first | rfl | (simp [errW_none, errW_some] <;> rfl) | (simp [*, errW_none, errW_some] <;> rfl), by repeat (first | (with_reducible first | exact HB.out | apply bAl | apply bDN | apply bD1 | refine bSe ?_ GE114.out | refine bSe ?_ GE125.out) | exact HB.out)⟩
              ·
               rw [if_neg c54] at H
               exact absurd H (by simp)
             ·
              rw [if_neg c53] at H
              have c53b0 : decide (4 ≤ a0_5) = false := decide_eq_false c53
              clear c53
              obtain rfl := Option.some.inj H
              have hcz111_0 : wr.cell? ⟨gb114, 0, none⟩ = some (.int .i64 a0_0) := (kCe BK114.out 0).trans rfl
              have hcz111_1 : wr.cell? ⟨gb114, 1, none⟩ = some (.int .i64 a0_1) := (kCe BK114.out 1).trans rfl
              have hcz111_2 : wr.cell? ⟨gb114, 2, none⟩ = some (.int .i64 a0_2) := (kCe BK114.out 2).trans rfl
              have hcz111_3 : wr.cell? ⟨gb114, 3, none⟩ = some (.int .i64 a0_3) := (kCe BK114.out 3).trans rfl
              have hcz111_4 : wr.cell? ⟨gb114, 4, none⟩ = some (.int .i64 a0_4) := (kCe BK114.out 4).trans rfl
              have hcz111_5 : wr.cell? ⟨gb114, 5, none⟩ = some (.int .i64 a0_5) := (kCe BK114.out 5).trans rfl
              have hcz111_6 : wr.cell? ⟨gb114, 6, none⟩ = some (.slice A0_6 l0_6.length c0_6) := (kCe BK114.out 6).trans rfl
              have hfz111_0 := kFr BK114.out 0
              have hfz111_1 := kFr BK114.out 1
              have hfz111_2 := kFr BK114.out 2
              have hfz111_3 := kFr BK114.out 3
              have hfz111_4 := kFr BK114.out 4
              have hfz111_5 := kFr BK114.out 5
              have hfz111_6 := kFr BK114.out 6
              go_wp2
              go_ret
              exact ⟨by first | rfl | (simp [errW_none, errW_some] <;> rfl) | (simp [*, errW_none, errW_some] <;> rfl), by repeat (first | (with_reducible first | exact HB.out | apply bAl | apply bDN | apply bD1 | refine bSe ?_ GE114.out) | exact HB.out)⟩

end Go.Proofs.Ytjbcgflpeomkfaa.F
