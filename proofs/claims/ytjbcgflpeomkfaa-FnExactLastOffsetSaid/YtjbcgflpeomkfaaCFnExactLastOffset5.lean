/-
FnExactLastOffset: for every batch the law answers true: the program's LastOffset answers as the reference's, and leaves its argument as it was.
Conditions: none beyond the statement's own.
(Part 5 of 5.)
-/
import Derived.Test.YtjbcgflpeomkfaaRows
import Derived.Deep.Slices
import Derived.WalkKit
import Derived.ProofKit
import Derived.OpenShut
import Derived.ShutString
import Derived.ChangeOld
import Derived.Below
import Derived.SizedLaws
import Derived.Laws.BitsLemmas
import Derived.Test.YtjbcgflpeomkfaaCFnExactLastOffset4
namespace Go.Proofs.Ytjbcgflpeomkfaa.F
open Go.RowKit Go.Proofs.YtjbcgflpeomkfaaW.PrintWords Go.Proofs.YtjbcgflpeomkfaaW.PrintLast Go.Proofs.YtjbcgflpeomkfaaW.PrintMore
attribute [local go_sem] max2_int min2_int max_two min_two max_three min_three max_four min_four   -- for this text's walks alone
attribute [local go_sem high] Go.Proofs.Ytjbcgflpeomkfaa.Add.string_leq Go.Proofs.Ytjbcgflpeomkfaa.Add.string_gtr
open Bool renaming true → tt, false → ff
open List renaming setIfInBounds_toArray → sIB, set_cons_zero → sCZ, set_cons_succ → sCS
open Go.Proofs.YtjbcgflpeomkfaaW.PrintWords renaming pw_below_drewN → bDN, below_drew1 → bD1, below_alloc → bAl, blk_drewN → kDN, blk_drew → kDr, blk_alloc → kAl, below_set → bSe, below_size → bSz, below_step → bSt, blk_cell → kCe, blk_frozen → kFr, blk_below → kBe, gate_callee → gCa, gate_dst → gDs, box_event → bEv
set_option linter.unusedVariables false
set_option linter.unusedSimpArgs false

/-! ### laws_FnExactLastOffset: function 4 -/
def laws_FnExactLastOffset.f (k : Nat) (a0_0 : Int) (a0_1 : Int) (a0_2 : Int) (a0_3 : Int) (a0_4 : Int) (a0_5 : Int) (l0_6 : List (S72)) : Option (Bool) := (laws_szBatch.f k a0_0 a0_1 a0_2 a0_3 a0_4 a0_5 l0_6 1048576).bind fun t245 => (if t245 < 0 then (some true) else ((laws_toBatch.f k a0_0 a0_1 a0_2 a0_3 a0_4 a0_5 l0_6).bind fun bt246 => ((spec_LastOffset.f k bt246.1 bt246.2.1 bt246.2.2.1 bt246.2.2.2.1 bt246.2.2.2.2.1 bt246.2.2.2.2.2.1 bt246.2.2.2.2.2.2).bind fun t255 => ((laws_toBatch.f k a0_0 a0_1 a0_2 a0_3 a0_4 a0_5 l0_6).bind fun bt256 => ((impl_LastOffset.f k bt256.1 bt256.2.1 bt256.2.2.1 bt256.2.2.2.1 bt256.2.2.2.2.1 bt256.2.2.2.2.2.1 bt256.2.2.2.2.2.2).bind fun t266 => (if t266 = t255 then ((laws_toBatch.f k a0_0 a0_1 a0_2 a0_3 a0_4 a0_5 l0_6).bind fun bt267 => ((laws_eqBatch.f k bt256.1 bt256.2.1 bt256.2.2.1 bt256.2.2.2.1 bt256.2.2.2.2.1 bt256.2.2.2.2.2.1 bt256.2.2.2.2.2.2 bt267.1 bt267.2.1 bt267.2.2.1 bt267.2.2.2.1 bt267.2.2.2.2.1 bt267.2.2.2.2.2.1 bt267.2.2.2.2.2.2).bind fun t276 => (if t276 = true then (some true) else (some false)))) else (some false)))))))
theorem laws_FnExactLastOffset.mono : ∀ a0 a1 a2 a3 a4 a5 a6 k, LeO (laws_FnExactLastOffset.f k a0 a1 a2 a3 a4 a5 a6) (laws_FnExactLastOffset.f (k + 1) a0 a1 a2 a3 a4 a5 a6) := by
 intro a0 a1 a2 a3 a4 a5 a6 k
 unfold laws_FnExactLastOffset.f
 repeat' first
   | (with_reducible exact impl_LastOffset.mono _ _ _ _ _ _ _ _)
   | (with_reducible exact laws_eqBatch.mono _ _ _ _ _ _ _ _ _ _ _ _ _ _ _)
   | (with_reducible exact laws_szBatch.mono _ _ _ _ _ _ _ _ _)
   | (with_reducible exact laws_toBatch.mono _ _ _ _ _ _ _ _)
   | (with_reducible exact spec_LastOffset.mono _ _ _ _ _ _ _ _)
   | (with_reducible exact LeO.refl _)
   | (with_reducible exact LeO.none _)
   | (with_reducible refine LeO.ite ?_ ?_)
   | (with_reducible refine LeO.bind ?_ (fun _ => ?_))
   | exact impl_LastOffset.mono _ _ _ _ _ _ _ _
   | exact laws_eqBatch.mono _ _ _ _ _ _ _ _ _ _ _ _ _ _ _
   | exact laws_szBatch.mono _ _ _ _ _ _ _ _ _
   | exact laws_toBatch.mono _ _ _ _ _ _ _ _
   | exact spec_LastOffset.mono _ _ _ _ _ _ _ _
   | exact LeO.none _
   | refine LeO.ite ?_ ?_
   | refine LeO.bind ?_ (fun _ => ?_)
set_option maxHeartbeats 8000000 in
set_option maxRecDepth 100000 in
theorem laws_FnExactLastOffset.calls (k : Nat) (a0_0 : Int) (a0_1 : Int) (a0_2 : Int) (a0_3 : Int) (a0_4 : Int) (a0_5 : Int) (A0_6 : Option Addr) (c0_6 : Nat) (l0_6 : List (S72)) (r : Bool) (w : World) (hr0_6 : Kd.C k72 w A0_6 l0_6.length l0_6) (hc0_6 : l0_6.length ≤ c0_6) (h : laws_FnExactLastOffset.f k a0_0 a0_1 a0_2 a0_3 a0_4 a0_5 l0_6 = some r) :
  Calls Try.prog 4 #[.agg #[.int .i64 a0_0, .int .i64 a0_1, .int .i64 a0_2, .int .i64 a0_3, .int .i64 a0_4, .int .i64 a0_5, .slice A0_6 l0_6.length c0_6]] w fun e w' => e = .returned (.bool r) ∧ Below w.heap.size w w' := by
 have hu24 := Try.underlying24
 have hu29 := Try.underlying29
 have HR0_6 := Aside0.mk hr0_6
 have HC0_6 := Aside0.mk hc0_6
 clear hr0_6 hc0_6
 have HB := Aside0.mk (Below.refl w.heap.size w)
 have H : ((laws_szBatch.f k a0_0 a0_1 a0_2 a0_3 a0_4 a0_5 l0_6 1048576).bind fun t245 => (if t245 < 0 then (some true) else ((laws_toBatch.f k a0_0 a0_1 a0_2 a0_3 a0_4 a0_5 l0_6).bind fun bt246 => ((spec_LastOffset.f k bt246.1 bt246.2.1 bt246.2.2.1 bt246.2.2.2.1 bt246.2.2.2.2.1 bt246.2.2.2.2.2.1 bt246.2.2.2.2.2.2).bind fun t255 => ((laws_toBatch.f k a0_0 a0_1 a0_2 a0_3 a0_4 a0_5 l0_6).bind fun bt256 => ((impl_LastOffset.f k bt256.1 bt256.2.1 bt256.2.2.1 bt256.2.2.2.1 bt256.2.2.2.2.1 bt256.2.2.2.2.2.1 bt256.2.2.2.2.2.2).bind fun t266 => (if t266 = t255 then ((laws_toBatch.f k a0_0 a0_1 a0_2 a0_3 a0_4 a0_5 l0_6).bind fun bt267 => ((laws_eqBatch.f k bt256.1 bt256.2.1 bt256.2.2.1 bt256.2.2.2.1 bt256.2.2.2.2.1 bt256.2.2.2.2.2.1 bt256.2.2.2.2.2.2 bt267.1 bt267.2.1 bt267.2.2.1 bt267.2.2.2.1 bt267.2.2.2.2.1 bt267.2.2.2.2.2.1 bt267.2.2.2.2.2.2).bind fun t276 => (if t276 = true then (some true) else (some false)))) else (some false)))))))) = some r := h
 clear h
 replace H := Option.bind_eq_some_iff.mp H
 obtain ⟨t245, A20, H⟩ := H
 have A2 := Aside0.mk A20
 clear A20
 by_cases c3 : t245 < 0
 ·
  rw [if_pos c3] at H
  have c3b0 : decide (t245 < 0) = true := decide_eq_true c3
  clear c3
  obtain rfl := Option.some.inj H
  go_enter Try.func4, Try.ntmps4
  go_wp2_with (first | ((with_reducible refine gDs (N := 1) rfl ?_); refine bEv ?hg (N := 1) ?hd (cs := #[.int .i64 a0_0, .int .i64 a0_1, .int .i64 a0_2, .int .i64 a0_3, .int .i64 a0_4, .int .i64 a0_5, .slice A0_6 l0_6.length c0_6]) (t := 24) ?hr ?_; (case hd => rfl); (case hg => rfl); (case hr => first | (go_simp; done) | (go_simp; rfl)); intro gb244 hg w4 hbox hb; have n0_ := Aside0.mk (bSt (by repeat (first | (with_reducible first | exact HB.out | apply bAl | apply bDN | apply bD1) | exact HB.out)) hb); have n1_ := Aside0.mk (hbox); have n2_ := Aside0.mk ((by rw [hg]; exact (bSz (by repeat (first | (with_reducible first | exact HB.out | apply bAl | apply bDN | apply bD1) | exact HB.out))) : w.heap.size ≤ gb244)); have n3_ := Aside0.mk ((by rw [hg]; exact (bSz (by repeat (first | (with_reducible first | exact HB.out | apply bAl | apply bDN | apply bD1) | exact HB.out))) : w.heap.size ≤ gb244)); clear HB; have HB := n0_; have BK244 := n1_; have GW244 := n2_; have GE244 := n3_; clear n0_ n1_ n2_ n3_; clear hb hbox hg; have hcz5_0 : w4.cell? ⟨gb244, 0, none⟩ = some (.int .i64 a0_0) := (kCe BK244.out 0).trans rfl; have hcz5_1 : w4.cell? ⟨gb244, 1, none⟩ = some (.int .i64 a0_1) := (kCe BK244.out 1).trans rfl; have hcz5_2 : w4.cell? ⟨gb244, 2, none⟩ = some (.int .i64 a0_2) := (kCe BK244.out 2).trans rfl; have hcz5_3 : w4.cell? ⟨gb244, 3, none⟩ = some (.int .i64 a0_3) := (kCe BK244.out 3).trans rfl; have hcz5_4 : w4.cell? ⟨gb244, 4, none⟩ = some (.int .i64 a0_4) := (kCe BK244.out 4).trans rfl; have hcz5_5 : w4.cell? ⟨gb244, 5, none⟩ = some (.int .i64 a0_5) := (kCe BK244.out 5).trans rfl; have hcz5_6 : w4.cell? ⟨gb244, 6, none⟩ = some (.slice A0_6 l0_6.length c0_6) := (kCe BK244.out 6).trans rfl; have hfz5_0 := kFr BK244.out 0; have hfz5_1 := kFr BK244.out 1; have hfz5_2 := kFr BK244.out 2; have hfz5_3 := kFr BK244.out 3; have hfz5_4 := kFr BK244.out 4; have hfz5_5 := kFr BK244.out 5; have hfz5_6 := kFr BK244.out 6) | ((with_reducible refine gCa (f := 9) rfl ?_); refine goesL_ (some 9) rfl rfl Try.func9 (by kernel_rfl) rfl #[.agg #[.int .i64 a0_0, .int .i64 a0_1, .int .i64 a0_2, .int .i64 a0_3, .int .i64 a0_4, .int .i64 a0_5, .slice A0_6 l0_6.length c0_6], .int .i64 1048576] rfl (by (try simp only [List.map_toArray, List.map_cons, List.map_nil]); first | done | rfl | (simp only [List.length_drop, List.length_take]; rfl)) ?_; (with_reducible refine (laws_szBatch.calls k a0_0 a0_1 a0_2 a0_3 a0_4 a0_5 _ _ l0_6 1048576 t245 _ ?side1 ?side2 A2.out).mono ?_); (case side1 => repeat (first | exact (Kd.C_below HR0_6.out HB.out) | (with_reducible refine Kd.C_alloc ?_ _) | (with_reducible refine Kd.C_drewN ?_ _) | (with_reducible refine Kd.C_drew ?_))); (case side2 => exact HC0_6.out); rintro e w6 ⟨rfl, hb⟩; refine ⟨_, rfl, ?_⟩; have n0_ := Aside0.mk (kBe (g := gb244) (o := .cells #[.int .i64 a0_0, .int .i64 a0_1, .int .i64 a0_2, .int .i64 a0_3, .int .i64 a0_4, .int .i64 a0_5, .slice A0_6 l0_6.length c0_6] 24 (0, 0)) (by (with_reducible repeat first | refine kDN ?_ _ | refine kDr ?_ | refine kAl ?_ _); exact BK244.out) hb); have n1_ := Aside0.mk (bSt (by repeat (first | (with_reducible first | exact HB.out | apply bAl | apply bDN | apply bD1 | refine bSe ?_ GE244.out) | exact HB.out)) hb); clear BK244; clear HB; have BK244 := n0_; have HB := n1_; clear n0_ n1_; (try clear hb); (try clear hb2); (try clear hk); (try clear hi)))
  go_ret
  exact ⟨by first | rfl | (simp [errW_none, errW_some] <;> rfl) | (simp [*, errW_none, errW_some] <;> rfl), by repeat (first | (with_reducible first | exact HB.out | apply bAl | apply bDN | apply bD1 | refine bSe ?_ GE244.out) | exact HB.out)⟩
 ·
  rw [if_neg c3] at H
  have c3b0 : decide (t245 < 0) = false := decide_eq_false c3
  clear c3
  replace H := Option.bind_eq_some_iff.mp H
  obtain ⟨⟨t246, t247, t248, t249, t250, t251, t252⟩, A70, H⟩ := H
  have A7 := Aside0.mk A70
  clear A70
  replace H := Option.bind_eq_some_iff.mp H
  obtain ⟨t255, A80, H⟩ := H
  have A8 := Aside0.mk A80
  clear A80
  replace H := Option.bind_eq_some_iff.mp H
  obtain ⟨⟨t256, t257, t258, t259, t260, t261, t262⟩, A90, H⟩ := H
  have A9 := Aside0.mk A90
  clear A90
  replace H := Option.bind_eq_some_iff.mp H
  obtain ⟨t266, A100, H⟩ := H
  have A10 := Aside0.mk A100
  clear A100
  by_cases c11 : t266 = t255
  ·
   rw [if_pos c11] at H
   have c11b0 : (t266 == t255) = true := beq_iff_eq.mpr c11
   have c11b1 : (t266 != t255) = false := bne_eq_false_iff_eq.mpr c11
   clear c11
   replace H := Option.bind_eq_some_iff.mp H
   obtain ⟨⟨t267, t268, t269, t270, t271, t272, t273⟩, A120, H⟩ := H
   have A12 := Aside0.mk A120
   clear A120
   replace H := Option.bind_eq_some_iff.mp H
   obtain ⟨t276, A130, H⟩ := H
   have A13 := Aside0.mk A130
   clear A130
   by_cases c14 : t276 = true
   ·
    subst c14
    rw [if_pos rfl] at H
    obtain rfl := Option.some.inj H
    go_enter Try.func4, Try.ntmps4
    try go_wp2_with (first | ((with_reducible refine gDs (N := 1) rfl ?_); refine bEv ?hg (N := 1) ?hd (cs := #[.int .i64 a0_0, .int .i64 a0_1, .int .i64 a0_2, .int .i64 a0_3, .int .i64 a0_4, .int .i64 a0_5, .slice A0_6 l0_6.length c0_6]) (t := 24) ?hr ?_; (case hd => rfl); (case hg => rfl); (case hr => first | (go_simp; done) | (go_simp; rfl)); intro gb244 hg w15 hbox hb; have n0_ := Aside0.mk (bSt (by repeat (first | (with_reducible first | exact HB.out | apply bAl | apply bDN | apply bD1) | exact HB.out)) hb); have n1_ := Aside0.mk (hbox); have n2_ := Aside0.mk ((by rw [hg]; exact (bSz (by repeat (first | (with_reducible first | exact HB.out | apply bAl | apply bDN | apply bD1) | exact HB.out))) : w.heap.size ≤ gb244)); have n3_ := Aside0.mk ((by rw [hg]; exact (bSz (by repeat (first | (with_reducible first | exact HB.out | apply bAl | apply bDN | apply bD1) | exact HB.out))) : w.heap.size ≤ gb244)); clear HB; have HB := n0_; have BK244 := n1_; have GW244 := n2_; have GE244 := n3_; clear n0_ n1_ n2_ n3_; clear hb hbox hg; have hcz16_0 : w15.cell? ⟨gb244, 0, none⟩ = some (.int .i64 a0_0) := (kCe BK244.out 0).trans rfl; have hcz16_1 : w15.cell? ⟨gb244, 1, none⟩ = some (.int .i64 a0_1) := (kCe BK244.out 1).trans rfl; have hcz16_2 : w15.cell? ⟨gb244, 2, none⟩ = some (.int .i64 a0_2) := (kCe BK244.out 2).trans rfl; have hcz16_3 : w15.cell? ⟨gb244, 3, none⟩ = some (.int .i64 a0_3) := (kCe BK244.out 3).trans rfl; have hcz16_4 : w15.cell? ⟨gb244, 4, none⟩ = some (.int .i64 a0_4) := (kCe BK244.out 4).trans rfl; have hcz16_5 : w15.cell? ⟨gb244, 5, none⟩ = some (.int .i64 a0_5) := (kCe BK244.out 5).trans rfl; have hcz16_6 : w15.cell? ⟨gb244, 6, none⟩ = some (.slice A0_6 l0_6.length c0_6) := (kCe BK244.out 6).trans rfl; have hfz16_0 := kFr BK244.out 0; have hfz16_1 := kFr BK244.out 1; have hfz16_2 := kFr BK244.out 2; have hfz16_3 := kFr BK244.out 3; have hfz16_4 := kFr BK244.out 4; have hfz16_5 := kFr BK244.out 5; have hfz16_6 := kFr BK244.out 6) | ((with_reducible refine gCa (f := 9) rfl ?_); refine goesL_ (some 9) rfl rfl Try.func9 (by kernel_rfl) rfl #[.agg #[.int .i64 a0_0, .int .i64 a0_1, .int .i64 a0_2, .int .i64 a0_3, .int .i64 a0_4, .int .i64 a0_5, .slice A0_6 l0_6.length c0_6], .int .i64 1048576] rfl (by (try simp only [List.map_toArray, List.map_cons, List.map_nil]); first | done | rfl | (simp only [List.length_drop, List.length_take]; rfl)) ?_; (with_reducible refine (laws_szBatch.calls k a0_0 a0_1 a0_2 a0_3 a0_4 a0_5 _ _ l0_6 1048576 t245 _ ?side1 ?side2 A2.out).mono ?_); (case side1 => repeat (first | exact (Kd.C_below HR0_6.out HB.out) | (with_reducible refine Kd.C_alloc ?_ _) | (with_reducible refine Kd.C_drewN ?_ _) | (with_reducible refine Kd.C_drew ?_))); (case side2 => exact HC0_6.out); rintro e w17 ⟨rfl, hb⟩; refine ⟨_, rfl, ?_⟩; have n0_ := Aside0.mk (kBe (g := gb244) (o := .cells #[.int .i64 a0_0, .int .i64 a0_1, .int .i64 a0_2, .int .i64 a0_3, .int .i64 a0_4, .int .i64 a0_5, .slice A0_6 l0_6.length c0_6] 24 (0, 0)) (by (with_reducible repeat first | refine kDN ?_ _ | refine kDr ?_ | refine kAl ?_ _); exact BK244.out) hb); have n1_ := Aside0.mk (bSt (by repeat (first | (with_reducible first | exact HB.out | apply bAl | apply bDN | apply bD1 | refine bSe ?_ GE244.out) | exact HB.out)) hb); clear BK244; clear HB; have BK244 := n0_; have HB := n1_; clear n0_ n1_; (try clear hb); (try clear hb2); (try clear hk); (try clear hi); have hcz18_0 : w17.cell? ⟨gb244, 0, none⟩ = some (.int .i64 a0_0) := (kCe BK244.out 0).trans rfl; have hcz18_1 : w17.cell? ⟨gb244, 1, none⟩ = some (.int .i64 a0_1) := (kCe BK244.out 1).trans rfl; have hcz18_2 : w17.cell? ⟨gb244, 2, none⟩ = some (.int .i64 a0_2) := (kCe BK244.out 2).trans rfl; have hcz18_3 : w17.cell? ⟨gb244, 3, none⟩ = some (.int .i64 a0_3) := (kCe BK244.out 3).trans rfl; have hcz18_4 : w17.cell? ⟨gb244, 4, none⟩ = some (.int .i64 a0_4) := (kCe BK244.out 4).trans rfl; have hcz18_5 : w17.cell? ⟨gb244, 5, none⟩ = some (.int .i64 a0_5) := (kCe BK244.out 5).trans rfl; have hcz18_6 : w17.cell? ⟨gb244, 6, none⟩ = some (.slice A0_6 l0_6.length c0_6) := (kCe BK244.out 6).trans rfl; have hfz18_0 := kFr BK244.out 0; have hfz18_1 := kFr BK244.out 1; have hfz18_2 := kFr BK244.out 2; have hfz18_3 := kFr BK244.out 3; have hfz18_4 := kFr BK244.out 4; have hfz18_5 := kFr BK244.out 5; have hfz18_6 := kFr BK244.out 6) | ((with_reducible refine gCa (f := 11) rfl ?_); refine goesL_ (some 13) rfl rfl Try.func11 (by kernel_rfl) rfl #[.agg #[.int .i64 a0_0, .int .i64 a0_1, .int .i64 a0_2, .int .i64 a0_3, .int .i64 a0_4, .int .i64 a0_5, .slice A0_6 l0_6.length c0_6]] rfl (by (try simp only [List.map_toArray, List.map_cons, List.map_nil]); first | done | rfl | (simp only [List.length_drop, List.length_take]; rfl)) ?_; (with_reducible refine (laws_toBatch.calls k a0_0 a0_1 a0_2 a0_3 a0_4 a0_5 _ _ l0_6 t246 t247 t248 t249 t250 t251 t252 _ ?side1 ?side2 A7.out).mono ?_); (case side1 => repeat (first | exact (Kd.C_below HR0_6.out HB.out) | (with_reducible refine Kd.C_alloc ?_ _) | (with_reducible refine Kd.C_drewN ?_ _) | (with_reducible refine Kd.C_drew ?_))); (case side2 => exact HC0_6.out); rintro e w19 ⟨v253, rfl, ho0, hb⟩; refine ⟨_, rfl, ?_⟩; have n0_ := Aside0.mk (Kd.S_lower ho0 (bSz (by repeat (first | (with_reducible first | exact HB.out | apply bAl | apply bDN | apply bD1 | refine bSe ?_ GE244.out) | exact HB.out)))); have n1_ := Aside0.mk (kBe (g := gb244) (o := .cells #[.int .i64 a0_0, .int .i64 a0_1, .int .i64 a0_2, .int .i64 a0_3, .int .i64 a0_4, .int .i64 a0_5, .slice A0_6 l0_6.length c0_6] 24 (0, 0)) (by (with_reducible repeat first | refine kDN ?_ _ | refine kDr ?_ | refine kAl ?_ _); exact BK244.out) hb); have n2_ := Aside0.mk (bSt (by repeat (first | (with_reducible first | exact HB.out | apply bAl | apply bDN | apply bD1 | refine bSe ?_ GE244.out) | exact HB.out)) hb); clear BK244; clear HB; have HO254 := n0_; have BK244 := n1_; have HB := n2_; clear n0_ n1_ n2_; (try clear hb); (try clear hb2); (try clear hk); (try clear hi); (try clear ho0); obtain ⟨Ao20, co20, eo20⟩ := Kd.S_slice HO254.out; subst eo20) | ((with_reducible refine gCa (f := 14) rfl ?_); refine goesL_ (some 14) rfl rfl Try.func14 (by kernel_rfl) rfl #[.agg #[.int .i64 t246, .int .i64 t247, .int .i64 t248, .int .i64 t249, .int .i64 t250, .int .i64 t251, .slice Ao20 t252.length co20]] rfl (by (try simp only [List.map_toArray, List.map_cons, List.map_nil]); first | done | rfl | (simp only [List.length_drop, List.length_take]; rfl)) ?_; (with_reducible refine (spec_LastOffset.calls k t246 t247 t248 t249 t250 t251 _ _ t252 t255 _ ?side1 ?side2 A8.out).mono ?_); (case side1 => repeat (first | exact (Kd.S_reads' HO254.out).2.2 | (with_reducible refine Kd.C_alloc ?_ _) | (with_reducible refine Kd.C_drewN ?_ _) | (with_reducible refine Kd.C_drew ?_))); (case side2 => exact (Kd.S_reads' HO254.out).2.1); rintro e w21 ⟨rfl, hb⟩; refine ⟨_, rfl, ?_⟩; have n0_ := Aside0.mk (Kd.S_below (by (with_reducible repeat (first | apply Kd.S_alloc | apply Kd.S_drewN | apply Kd.S_drew)); exact HO254.out) hb); have n1_ := Aside0.mk (kBe (g := gb244) (o := .cells #[.int .i64 a0_0, .int .i64 a0_1, .int .i64 a0_2, .int .i64 a0_3, .int .i64 a0_4, .int .i64 a0_5, .slice A0_6 l0_6.length c0_6] 24 (0, 0)) (by (with_reducible repeat first | refine kDN ?_ _ | refine kDr ?_ | refine kAl ?_ _); exact BK244.out) hb); have n2_ := Aside0.mk (bSt (by repeat (first | (with_reducible first | exact HB.out | apply bAl | apply bDN | apply bD1 | refine bSe ?_ GE244.out) | exact HB.out)) hb); clear HO254; clear BK244; clear HB; have HO254 := n0_; have BK244 := n1_; have HB := n2_; clear n0_ n1_ n2_; (try clear hb); (try clear hb2); (try clear hk); (try clear hi); have hcz22_0 : w21.cell? ⟨gb244, 0, none⟩ = some (.int .i64 a0_0) := (kCe BK244.out 0).trans rfl; have hcz22_1 : w21.cell? ⟨gb244, 1, none⟩ = some (.int .i64 a0_1) := (kCe BK244.out 1).trans rfl; have hcz22_2 : w21.cell? ⟨gb244, 2, none⟩ = some (.int .i64 a0_2) := (kCe BK244.out 2).trans rfl; have hcz22_3 : w21.cell? ⟨gb244, 3, none⟩ = some (.int .i64 a0_3) := (kCe BK244.out 3).trans rfl; have hcz22_4 : w21.cell? ⟨gb244, 4, none⟩ = some (.int .i64 a0_4) := (kCe BK244.out 4).trans rfl; have hcz22_5 : w21.cell? ⟨gb244, 5, none⟩ = some (.int .i64 a0_5) := (kCe BK244.out 5).trans rfl; have hcz22_6 : w21.cell? ⟨gb244, 6, none⟩ = some (.slice A0_6 l0_6.length c0_6) := (kCe BK244.out 6).trans rfl; have hfz22_0 := kFr BK244.out 0; have hfz22_1 := kFr BK244.out 1; have hfz22_2 := kFr BK244.out 2; have hfz22_3 := kFr BK244.out 3; have hfz22_4 := kFr BK244.out 4; have hfz22_5 := kFr BK244.out 5; have hfz22_6 := kFr BK244.out 6) | ((with_reducible refine gCa (f := 11) rfl ?_); refine goesL_ (some 16) rfl rfl Try.func11 (by kernel_rfl) rfl #[.agg #[.int .i64 a0_0, .int .i64 a0_1, .int .i64 a0_2, .int .i64 a0_3, .int .i64 a0_4, .int .i64 a0_5, .slice A0_6 l0_6.length c0_6]] rfl (by (try simp only [List.map_toArray, List.map_cons, List.map_nil]); first | done | rfl | (simp only [List.length_drop, List.length_take]; rfl)) ?_; (with_reducible refine (laws_toBatch.calls k a0_0 a0_1 a0_2 a0_3 a0_4 a0_5 _ _ l0_6 t256 t257 t258 t259 t260 t261 t262 _ ?side1 ?side2 A9.out).mono ?_); (case side1 => repeat (first | exact (Kd.C_below HR0_6.out HB.out) | (with_reducible refine Kd.C_alloc ?_ _) | (with_reducible refine Kd.C_drewN ?_ _) | (with_reducible refine Kd.C_drew ?_))); (case side2 => exact HC0_6.out); rintro e w23 ⟨v263, rfl, ho0, hb⟩; refine ⟨_, rfl, ?_⟩; have n0_ := Aside0.mk (Kd.S_elder' (by (with_reducible repeat (first | apply Kd.S_alloc | apply Kd.S_drewN | apply Kd.S_drew)); exact HO254.out) (Kd.S_base ho0) hb); have n1_ := Aside0.mk (Kd.S_lower (Kd.S_new' ho0 (Kd.S_lt (by (with_reducible repeat (first | apply Kd.S_alloc | apply Kd.S_drewN | apply Kd.S_drew)); exact HO254.out))) (bSz (by repeat (first | (with_reducible first | exact HB.out | apply bAl | apply bDN | apply bD1 | refine bSe ?_ GE244.out) | exact HB.out)))); have n2_ := Aside0.mk (kBe (g := gb244) (o := .cells #[.int .i64 a0_0, .int .i64 a0_1, .int .i64 a0_2, .int .i64 a0_3, .int .i64 a0_4, .int .i64 a0_5, .slice A0_6 l0_6.length c0_6] 24 (0, 0)) (by (with_reducible repeat first | refine kDN ?_ _ | refine kDr ?_ | refine kAl ?_ _); exact BK244.out) hb); have n3_ := Aside0.mk (bSt (by repeat (first | (with_reducible first | exact HB.out | apply bAl | apply bDN | apply bD1 | refine bSe ?_ GE244.out) | exact HB.out)) hb); clear HO254; clear BK244; clear HB; have HO254 := n0_; have HO264 := n1_; have BK244 := n2_; have HB := n3_; clear n0_ n1_ n2_ n3_; (try clear hb); (try clear hb2); (try clear hk); (try clear hi); (try clear ho0)) | ((with_reducible refine gDs (N := 5) rfl ?_); refine bEv ?hg (N := 5) ?hd (cs := #[.int .i64 0, .int .i64 0, .int .i64 0, .int .i64 0, .int .i64 0, .int .i64 0, .slice none 0 0]) (t := 29) ?hr ?_; (case hd => rfl); (case hg => rfl); (case hr => first | (go_simp; done) | (go_simp; rfl)); intro gb265 hg w24 hbox hb; have n0_ := Aside0.mk (Kd.S_below (by (with_reducible repeat (first | apply Kd.S_alloc | apply Kd.S_drewN | apply Kd.S_drew)); exact HO254.out) hb); have n1_ := Aside0.mk (Kd.S_below (by (with_reducible repeat (first | apply Kd.S_alloc | apply Kd.S_drewN | apply Kd.S_drew)); exact HO264.out) hb); have n2_ := Aside0.mk (kBe (g := gb244) (o := .cells #[.int .i64 a0_0, .int .i64 a0_1, .int .i64 a0_2, .int .i64 a0_3, .int .i64 a0_4, .int .i64 a0_5, .slice A0_6 l0_6.length c0_6] 24 (0, 0)) (by (with_reducible repeat first | refine kDN ?_ _ | refine kDr ?_ | refine kAl ?_ _); exact BK244.out) hb); have n3_ := Aside0.mk (bSt (by repeat (first | (with_reducible first | exact HB.out | apply bAl | apply bDN | apply bD1 | refine bSe ?_ GE244.out) | exact HB.out)) hb); have n4_ := Aside0.mk (hbox); have n5_ := Aside0.mk ((by rw [hg]; exact (bSz (by repeat (first | (with_reducible first | exact HB.out | apply bAl | apply bDN | apply bD1 | refine bSe ?_ GE244.out) | exact HB.out))) : w.heap.size ≤ gb265)); have n6_ := Aside0.mk ((by rw [hg]; exact (bSz (by repeat (first | (with_reducible first | exact HB.out | apply bAl | apply bDN | apply bD1 | refine bSe ?_ GE244.out) | exact HB.out))) : w.heap.size ≤ gb265)); have n7_ := Aside0.mk ((by rw [hg]; exact Nat.ne_of_lt (blk_lt (g := gb244) (o := .cells #[.int .i64 a0_0, .int .i64 a0_1, .int .i64 a0_2, .int .i64 a0_3, .int .i64 a0_4, .int .i64 a0_5, .slice A0_6 l0_6.length c0_6] 24 (0, 0)) (by (with_reducible repeat first | refine kDN ?_ _ | refine kDr ?_ | refine kAl ?_ _); exact BK244.out)) : gb244 ≠ gb265)); have n8_ := Aside0.mk ((by rw [hg]; exact Nat.ne_of_gt (blk_lt (g := gb244) (o := .cells #[.int .i64 a0_0, .int .i64 a0_1, .int .i64 a0_2, .int .i64 a0_3, .int .i64 a0_4, .int .i64 a0_5, .slice A0_6 l0_6.length c0_6] 24 (0, 0)) (by (with_reducible repeat first | refine kDN ?_ _ | refine kDr ?_ | refine kAl ?_ _); exact BK244.out)) : gb265 ≠ gb244)); clear HO254; clear HO264; clear BK244; clear HB; have HO254 := n0_; have HO264 := n1_; have BK244 := n2_; have HB := n3_; have BK265 := n4_; have GW265 := n5_; have GE265 := n6_; have NB244_265 := n7_; have NB265_244 := n8_; clear n0_ n1_ n2_ n3_ n4_ n5_ n6_ n7_ n8_; clear hb hbox hg; have hnb25 := NB265_244.out; have hnc25 := NB244_265.out; have hcz26_0 : w24.cell? ⟨gb265, 0, none⟩ = some (.int .i64 0) := (kCe BK265.out 0).trans rfl; have hcz26_1 : w24.cell? ⟨gb265, 1, none⟩ = some (.int .i64 0) := (kCe BK265.out 1).trans rfl; have hcz26_2 : w24.cell? ⟨gb265, 2, none⟩ = some (.int .i64 0) := (kCe BK265.out 2).trans rfl; have hcz26_3 : w24.cell? ⟨gb265, 3, none⟩ = some (.int .i64 0) := (kCe BK265.out 3).trans rfl; have hcz26_4 : w24.cell? ⟨gb265, 4, none⟩ = some (.int .i64 0) := (kCe BK265.out 4).trans rfl; have hcz26_5 : w24.cell? ⟨gb265, 5, none⟩ = some (.int .i64 0) := (kCe BK265.out 5).trans rfl; have hcz26_6 : w24.cell? ⟨gb265, 6, none⟩ = some (.slice none 0 0) := (kCe BK265.out 6).trans rfl; have hfz26_0 := kFr BK265.out 0; have hfz26_1 := kFr BK265.out 1; have hfz26_2 := kFr BK265.out 2; have hfz26_3 := kFr BK265.out 3; have hfz26_4 := kFr BK265.out 4; have hfz26_5 := kFr BK265.out 5; have hfz26_6 := kFr BK265.out 6; obtain ⟨Ao27, co27, eo27⟩ := Kd.S_slice HO264.out; subst eo27) | ((with_reducible refine gCa (f := 15) rfl ?_); refine goesL_ (some 18) rfl rfl Try.func15 (by kernel_rfl) rfl #[.agg #[.int .i64 t256, .int .i64 t257, .int .i64 t258, .int .i64 t259, .int .i64 t260, .int .i64 t261, .slice Ao27 t262.length co27]] rfl (by (try simp only [List.map_toArray, List.map_cons, List.map_nil]); first | done | rfl | (simp only [List.length_drop, List.length_take]; rfl)) ?_; (with_reducible refine (impl_LastOffset.calls k t256 t257 t258 t259 t260 t261 _ _ t262 t266 _ ?side1 ?side2 A10.out).mono ?_); (case side1 => refine (Kd.S_reads' (e := 56) (base := w.heap.size) (ok := fun k_ => (True ∧ some k_ ≠ (.slice Ao20 t252.length co20 : Value).ownBlock)) (n := t262.length) (c := co27) ?_).2.2; exact (by (with_reducible repeat (first | apply Kd.S_alloc | apply Kd.S_drewN | apply Kd.S_drew)); exact (Kd.S_mono (Kd.S_far (p := ⟨gb265, 6, none⟩) (Kd.S_far (p := ⟨gb265, 5, none⟩) (Kd.S_far (p := ⟨gb265, 4, none⟩) (Kd.S_far (p := ⟨gb265, 3, none⟩) (Kd.S_far (p := ⟨gb265, 2, none⟩) (Kd.S_far (p := ⟨gb265, 1, none⟩) (Kd.S_far (p := ⟨gb265, 0, none⟩) (Kd.S_types HO264.out BK265.out (by decide)) (fun _ hk => hk.2) (.int .i64 t256)) (fun _ hk => hk.2) (.int .i64 t257)) (fun _ hk => hk.2) (.int .i64 t258)) (fun _ hk => hk.2) (.int .i64 t259)) (fun _ hk => hk.2) (.int .i64 t260)) (fun _ hk => hk.2) (.int .i64 t261)) (fun _ hk => hk.2) (.slice Ao27 t262.length co27)) (fun _ h_ => h_.1)))); (case side2 => exact (Kd.S_reads' HO264.out).2.1); rintro e w28 ⟨rfl, hb⟩; refine ⟨_, rfl, ?_⟩; have n0_ := Aside0.mk (Kd.S_below (by (with_reducible repeat (first | apply Kd.S_alloc | apply Kd.S_drewN | apply Kd.S_drew)); exact (Kd.S_mono (Kd.S_far (p := ⟨gb265, 6, none⟩) (Kd.S_far (p := ⟨gb265, 5, none⟩) (Kd.S_far (p := ⟨gb265, 4, none⟩) (Kd.S_far (p := ⟨gb265, 3, none⟩) (Kd.S_far (p := ⟨gb265, 2, none⟩) (Kd.S_far (p := ⟨gb265, 1, none⟩) (Kd.S_far (p := ⟨gb265, 0, none⟩) (Kd.S_types HO254.out BK265.out (by decide)) (fun _ hk => hk.2) (.int .i64 t256)) (fun _ hk => hk.2) (.int .i64 t257)) (fun _ hk => hk.2) (.int .i64 t258)) (fun _ hk => hk.2) (.int .i64 t259)) (fun _ hk => hk.2) (.int .i64 t260)) (fun _ hk => hk.2) (.int .i64 t261)) (fun _ hk => hk.2) (.slice Ao27 t262.length co27)) (fun _ h_ => h_.1))) hb); have n1_ := Aside0.mk (Kd.S_below (by (with_reducible repeat (first | apply Kd.S_alloc | apply Kd.S_drewN | apply Kd.S_drew)); exact (Kd.S_mono (Kd.S_far (p := ⟨gb265, 6, none⟩) (Kd.S_far (p := ⟨gb265, 5, none⟩) (Kd.S_far (p := ⟨gb265, 4, none⟩) (Kd.S_far (p := ⟨gb265, 3, none⟩) (Kd.S_far (p := ⟨gb265, 2, none⟩) (Kd.S_far (p := ⟨gb265, 1, none⟩) (Kd.S_far (p := ⟨gb265, 0, none⟩) (Kd.S_types HO264.out BK265.out (by decide)) (fun _ hk => hk.2) (.int .i64 t256)) (fun _ hk => hk.2) (.int .i64 t257)) (fun _ hk => hk.2) (.int .i64 t258)) (fun _ hk => hk.2) (.int .i64 t259)) (fun _ hk => hk.2) (.int .i64 t260)) (fun _ hk => hk.2) (.int .i64 t261)) (fun _ hk => hk.2) (.slice Ao27 t262.length co27)) (fun _ h_ => h_.1))) hb); have n2_ := Aside0.mk (kBe (g := gb244) (o := .cells #[.int .i64 a0_0, .int .i64 a0_1, .int .i64 a0_2, .int .i64 a0_3, .int .i64 a0_4, .int .i64 a0_5, .slice A0_6 l0_6.length c0_6] 24 (0, 0)) (by (with_reducible repeat first | refine kDN ?_ _ | refine kDr ?_ | refine kAl ?_ _); refine blk_far ?_ NB244_265.out _; (with_reducible repeat first | refine kDN ?_ _ | refine kDr ?_ | refine kAl ?_ _); refine blk_far ?_ NB244_265.out _; (with_reducible repeat first | refine kDN ?_ _ | refine kDr ?_ | refine kAl ?_ _); refine blk_far ?_ NB244_265.out _; (with_reducible repeat first | refine kDN ?_ _ | refine kDr ?_ | refine kAl ?_ _); refine blk_far ?_ NB244_265.out _; (with_reducible repeat first | refine kDN ?_ _ | refine kDr ?_ | refine kAl ?_ _); refine blk_far ?_ NB244_265.out _; (with_reducible repeat first | refine kDN ?_ _ | refine kDr ?_ | refine kAl ?_ _); refine blk_far ?_ NB244_265.out _; (with_reducible repeat first | refine kDN ?_ _ | refine kDr ?_ | refine kAl ?_ _); refine blk_far ?_ NB244_265.out _; (with_reducible repeat first | refine kDN ?_ _ | refine kDr ?_ | refine kAl ?_ _); exact BK244.out) hb); have n3_ := Aside0.mk (kBe (g := gb265) (o := .cells #[.int .i64 t256, .int .i64 t257, .int .i64 t258, .int .i64 t259, .int .i64 t260, .int .i64 t261, .slice Ao27 t262.length co27] 29 (0, 0)) (by (with_reducible repeat first | refine kDN ?_ _ | refine kDr ?_ | refine kAl ?_ _); refine blk_put (cs := #[.int .i64 t256, .int .i64 t257, .int .i64 t258, .int .i64 t259, .int .i64 t260, .int .i64 t261, .slice none 0 0]) ?_ 6 _ rfl; (with_reducible repeat first | refine kDN ?_ _ | refine kDr ?_ | refine kAl ?_ _); refine blk_put (cs := #[.int .i64 t256, .int .i64 t257, .int .i64 t258, .int .i64 t259, .int .i64 t260, .int .i64 0, .slice none 0 0]) ?_ 5 _ rfl; (with_reducible repeat first | refine kDN ?_ _ | refine kDr ?_ | refine kAl ?_ _); refine blk_put (cs := #[.int .i64 t256, .int .i64 t257, .int .i64 t258, .int .i64 t259, .int .i64 0, .int .i64 0, .slice none 0 0]) ?_ 4 _ rfl; (with_reducible repeat first | refine kDN ?_ _ | refine kDr ?_ | refine kAl ?_ _); refine blk_put (cs := #[.int .i64 t256, .int .i64 t257, .int .i64 t258, .int .i64 0, .int .i64 0, .int .i64 0, .slice none 0 0]) ?_ 3 _ rfl; (with_reducible repeat first | refine kDN ?_ _ | refine kDr ?_ | refine kAl ?_ _); refine blk_put (cs := #[.int .i64 t256, .int .i64 t257, .int .i64 0, .int .i64 0, .int .i64 0, .int .i64 0, .slice none 0 0]) ?_ 2 _ rfl; (with_reducible repeat first | refine kDN ?_ _ | refine kDr ?_ | refine kAl ?_ _); refine blk_put (cs := #[.int .i64 t256, .int .i64 0, .int .i64 0, .int .i64 0, .int .i64 0, .int .i64 0, .slice none 0 0]) ?_ 1 _ rfl; (with_reducible repeat first | refine kDN ?_ _ | refine kDr ?_ | refine kAl ?_ _); refine blk_put (cs := #[.int .i64 0, .int .i64 0, .int .i64 0, .int .i64 0, .int .i64 0, .int .i64 0, .slice none 0 0]) ?_ 0 _ rfl; (with_reducible repeat first | refine kDN ?_ _ | refine kDr ?_ | refine kAl ?_ _); exact BK265.out) hb); have n4_ := Aside0.mk (bSt (by repeat (first | (with_reducible first | exact HB.out | apply bAl | apply bDN | apply bD1 | refine bSe ?_ GE244.out | refine bSe ?_ GE265.out) | exact HB.out)) hb); clear HO254; clear HO264; clear BK244; clear BK265; clear HB; have HO254 := n0_; have HO264 := n1_; have BK244 := n2_; have BK265 := n3_; have HB := n4_; clear n0_ n1_ n2_ n3_ n4_; (try clear hb); (try clear hb2); (try clear hk); (try clear hi)))
    have n0_ := Aside0.mk (Kd.S_drew HO254.out)
    have n1_ := Aside0.mk (Kd.S_drew HO264.out)
    have n2_ := Aside0.mk (kDr BK244.out)
    have n3_ := Aside0.mk (kDr BK265.out)
    have n4_ := Aside0.mk (bD1 HB.out)
    clear HO254
    clear HO264
    clear BK244
    clear BK265
    clear HB
    have HO254 := n0_
    have HO264 := n1_
    have BK244 := n2_
    have BK265 := n3_
    have HB := n4_
    clear n0_ n1_ n2_ n3_ n4_
    refine start_ (n := 5) (S := fun w' => w'.cell? ⟨gb265, 0, none⟩ = some (.int .i64 t256) ∧ w'.cell? ⟨gb265, 1, none⟩ = some (.int .i64 t257) ∧ w'.cell? ⟨gb265, 2, none⟩ = some (.int .i64 t258) ∧ w'.cell? ⟨gb265, 3, none⟩ = some (.int .i64 t259) ∧ w'.cell? ⟨gb265, 4, none⟩ = some (.int .i64 t260) ∧ w'.cell? ⟨gb265, 5, none⟩ = some (.int .i64 t261) ∧ w'.cell? ⟨gb265, 6, none⟩ = some (.slice Ao27 t262.length co27) ∧ w'.cell? ⟨gb244, 0, none⟩ = some (.int .i64 a0_0) ∧ w'.cell? ⟨gb244, 1, none⟩ = some (.int .i64 a0_1) ∧ w'.cell? ⟨gb244, 2, none⟩ = some (.int .i64 a0_2) ∧ w'.cell? ⟨gb244, 3, none⟩ = some (.int .i64 a0_3) ∧ w'.cell? ⟨gb244, 4, none⟩ = some (.int .i64 a0_4) ∧ w'.cell? ⟨gb244, 5, none⟩ = some (.int .i64 a0_5) ∧ w'.cell? ⟨gb244, 6, none⟩ = some (.slice A0_6 l0_6.length c0_6)) (ds := []) #[ff,ff,ff,ff,ff] (by kernel_rfl) rfl rfl ⟨(kCe BK265.out 0).trans rfl, (kCe BK265.out 1).trans rfl, (kCe BK265.out 2).trans rfl, (kCe BK265.out 3).trans rfl, (kCe BK265.out 4).trans rfl, (kCe BK265.out 5).trans rfl, (kCe BK265.out 6).trans rfl, (kCe BK244.out 0).trans rfl, (kCe BK244.out 1).trans rfl, (kCe BK244.out 2).trans rfl, (kCe BK244.out 3).trans rfl, (kCe BK244.out 4).trans rfl, (kCe BK244.out 5).trans rfl, (kCe BK244.out 6).trans rfl⟩ (fun hHeld => ?_)
    generalize w28.drew = w29 at HO254 HO264 BK244 BK265 HB hHeld ⊢
    refine take_ (i := 0) (N := some 22) (v := ?_) (a' := ?_) #[tt,ff,ff,ff,ff] rfl rfl (by kernel_rfl) (fun _ _ _ h => h) (Or.inl ⟨by rfl, ?_⟩) hHeld ?_ ?_
    rotate_left
    ·
     rintro w' ⟨s0, s1, s2, s3, s4, s5, s6, s7, s8, s9, s10, s11, s12, s13⟩
     go_simp
     with_reducible rfl
    rotate_left
    ·
     simp only [Act.put, sIB, sCZ, sCS, i64_w, i32_w]
     rfl
    refine take_ (i := 1) (N := some 23) (v := ?_) (a' := ?_) #[tt,tt,ff,ff,ff] rfl rfl (by kernel_rfl) (fun _ _ _ h => h) (Or.inl ⟨by rfl, ?_⟩) hHeld ?_ ?_
    rotate_left
    ·
     rintro w' ⟨s0, s1, s2, s3, s4, s5, s6, s7, s8, s9, s10, s11, s12, s13⟩
     go_simp
     with_reducible rfl
    rotate_left
    ·
     simp only [Act.put, sIB, sCZ, sCS, i64_w, i32_w]
     rfl
    refine one_ (i := 2) (N := some 24) #[tt,tt,tt,ff,ff] rfl rfl (by kernel_rfl) (by decide) (fun K hK => ?_)
    refine goes_ Try.func11 (by kernel_rfl) rfl #[.agg #[.int .i64 a0_0, .int .i64 a0_1, .int .i64 a0_2, .int .i64 a0_3, .int .i64 a0_4, .int .i64 a0_5, .slice A0_6 l0_6.length c0_6]] (by rfl) rfl rfl (by (try simp only [List.map_toArray, List.map_cons, List.map_nil]); first | done | rfl | (simp only [List.length_drop, List.length_take]; rfl)) ?_
    with_reducible refine (laws_toBatch.calls k a0_0 a0_1 a0_2 a0_3 a0_4 a0_5 _ _ l0_6 t267 t268 t269 t270 t271 t272 t273 _ ?side1 ?side2 A12.out).mono ?_
    (case side1 => repeat (first | exact (Kd.C_below HR0_6.out HB.out) | (with_reducible refine Kd.C_alloc ?_ _) | (with_reducible refine Kd.C_drewN ?_ _) | (with_reducible refine Kd.C_drew ?_)))
    (case side2 => exact HC0_6.out)
    rintro e w30 ⟨v274, rfl, ho0, hb⟩
    refine ⟨_, rfl, ?_⟩
    have n0_ := Aside0.mk (Kd.S_elder' (by (with_reducible repeat (first | apply Kd.S_alloc | apply Kd.S_drewN | apply Kd.S_drew)); exact HO254.out) (Kd.S_base ho0) hb)
    have n1_ := Aside0.mk (Kd.S_elder' (by (with_reducible repeat (first | apply Kd.S_alloc | apply Kd.S_drewN | apply Kd.S_drew)); exact HO264.out) (Kd.S_base ho0) hb)
    have n2_ := Aside0.mk (Kd.S_lower (Kd.S_new' (Kd.S_new' ho0 (Kd.S_lt (by (with_reducible repeat (first | apply Kd.S_alloc | apply Kd.S_drewN | apply Kd.S_drew)); exact HO254.out))) (Kd.S_lt (by (with_reducible repeat (first | apply Kd.S_alloc | apply Kd.S_drewN | apply Kd.S_drew)); exact HO264.out))) (bSz (by repeat (first | (with_reducible first | exact HB.out | apply bAl | apply bDN | apply bD1 | refine bSe ?_ GE244.out | refine bSe ?_ GE265.out) | exact HB.out))))
    have n3_ := Aside0.mk (kBe (g := gb244) (o := .cells #[.int .i64 a0_0, .int .i64 a0_1, .int .i64 a0_2, .int .i64 a0_3, .int .i64 a0_4, .int .i64 a0_5, .slice A0_6 l0_6.length c0_6] 24 (0, 0)) (by (with_reducible repeat first | refine kDN ?_ _ | refine kDr ?_ | refine kAl ?_ _); exact BK244.out) hb)
    have n4_ := Aside0.mk (kBe (g := gb265) (o := .cells #[.int .i64 t256, .int .i64 t257, .int .i64 t258, .int .i64 t259, .int .i64 t260, .int .i64 t261, .slice Ao27 t262.length co27] 29 (0, 0)) (by (with_reducible repeat first | refine kDN ?_ _ | refine kDr ?_ | refine kAl ?_ _); exact BK265.out) hb)
    have n5_ := Aside0.mk (bSt (by repeat (first | (with_reducible first | exact HB.out | apply bAl | apply bDN | apply bD1 | refine bSe ?_ GE244.out | refine bSe ?_ GE265.out) | exact HB.out)) hb)
    clear HO254
    clear HO264
    clear BK244
    clear BK265
    clear HB
    have HO254 := n0_
    have HO264 := n1_
    have HO275 := n2_
    have BK244 := n3_
    have BK265 := n4_
    have HB := n5_
    clear n0_ n1_ n2_ n3_ n4_ n5_
    (try clear hb)
    (try clear hb2)
    (try clear hk)
    (try clear hi)
    (try clear ho0)
    obtain ⟨Ao31, co31, eo31⟩ := Kd.S_slice HO275.out
    (first | subst eo31 | (injection eo31 with f1_ f2_ f3_; have f4_ := f1_.symm; have f5_ := f3_.symm; clear f1_ f2_ f3_; subst f4_; subst f5_))
    refine hK.out _ _ ⟨(kCe BK265.out 0).trans rfl, (kCe BK265.out 1).trans rfl, (kCe BK265.out 2).trans rfl, (kCe BK265.out 3).trans rfl, (kCe BK265.out 4).trans rfl, (kCe BK265.out 5).trans rfl, (kCe BK265.out 6).trans rfl, (kCe BK244.out 0).trans rfl, (kCe BK244.out 1).trans rfl, (kCe BK244.out 2).trans rfl, (kCe BK244.out 3).trans rfl, (kCe BK244.out 4).trans rfl, (kCe BK244.out 5).trans rfl, (kCe BK244.out 6).trans rfl⟩ (fun hHeld => ?_)
    clear hK K
    refine norm_ (a' := ?_) ?_ ?_
    rotate_left
    ·
     show Act.put _ (some 24) _ = _
     simp only [Act.put, sIB, sCZ, sCS, i64_w, i32_w]
     rfl
    refine one_ (i := 3) (N := some 25) #[tt,tt,tt,tt,ff] rfl rfl (by kernel_rfl) (by decide) (fun K hK => ?_)
    refine goes_ Try.func13 (by kernel_rfl) rfl #[.agg #[.int .i64 t256, .int .i64 t257, .int .i64 t258, .int .i64 t259, .int .i64 t260, .int .i64 t261, .slice Ao27 t262.length co27], .agg #[.int .i64 t267, .int .i64 t268, .int .i64 t269, .int .i64 t270, .int .i64 t271, .int .i64 t272, .slice Ao31 t273.length co31]] (by rfl) rfl rfl (by (try simp only [List.map_toArray, List.map_cons, List.map_nil]); first | done | rfl | (simp only [List.length_drop, List.length_take]; rfl)) ?_
    with_reducible refine (laws_eqBatch.calls k t256 t257 t258 t259 t260 t261 _ _ t262 t267 t268 t269 t270 t271 t272 _ _ t273 true _ ?side1 ?side2 ?side3 ?side4 A13.out).mono ?_
    (case side1 => repeat (first | exact (Kd.S_reads' HO264.out).2.2 | (with_reducible refine Kd.C_alloc ?_ _) | (with_reducible refine Kd.C_drewN ?_ _) | (with_reducible refine Kd.C_drew ?_)))
    (case side2 => exact (Kd.S_reads' HO264.out).2.1)
    (case side3 => repeat (first | exact (Kd.S_reads' HO275.out).2.2 | (with_reducible refine Kd.C_alloc ?_ _) | (with_reducible refine Kd.C_drewN ?_ _) | (with_reducible refine Kd.C_drew ?_)))
    (case side4 => exact (Kd.S_reads' HO275.out).2.1)
    rintro e w32 ⟨rfl, hb⟩
    refine ⟨_, rfl, ?_⟩
    have n0_ := Aside0.mk (Kd.S_below (by (with_reducible repeat (first | apply Kd.S_alloc | apply Kd.S_drewN | apply Kd.S_drew)); exact HO254.out) hb)
    have n1_ := Aside0.mk (Kd.S_below (by (with_reducible repeat (first | apply Kd.S_alloc | apply Kd.S_drewN | apply Kd.S_drew)); exact HO264.out) hb)
    have n2_ := Aside0.mk (Kd.S_below (by (with_reducible repeat (first | apply Kd.S_alloc | apply Kd.S_drewN | apply Kd.S_drew)); exact HO275.out) hb)
    have n3_ := Aside0.mk (kBe (g := gb244) (o := .cells #[.int .i64 a0_0, .int .i64 a0_1, .int .i64 a0_2, .int .i64 a0_3, .int .i64 a0_4, .int .i64 a0_5, .slice A0_6 l0_6.length c0_6] 24 (0, 0)) (by (with_reducible repeat first | refine kDN ?_ _ | refine kDr ?_ | refine kAl ?_ _); exact BK244.out) hb)
    have n4_ := Aside0.mk (kBe (g := gb265) (o := .cells #[.int .i64 t256, .int .i64 t257, .int .i64 t258, .int .i64 t259, .int .i64 t260, .int .i64 t261, .slice Ao27 t262.length co27] 29 (0, 0)) (by (with_reducible repeat first | refine kDN ?_ _ | refine kDr ?_ | refine kAl ?_ _); exact BK265.out) hb)
    have n5_ := Aside0.mk (bSt (by repeat (first | (with_reducible first | exact HB.out | apply bAl | apply bDN | apply bD1 | refine bSe ?_ GE244.out | refine bSe ?_ GE265.out) | exact HB.out)) hb)
    clear HO254
    clear HO264
    clear HO275
    clear BK244
    clear BK265
    clear HB
    have HO254 := n0_
    have HO264 := n1_
    have HO275 := n2_
    have BK244 := n3_
    have BK265 := n4_
    have HB := n5_
    clear n0_ n1_ n2_ n3_ n4_ n5_
    (try clear hb)
    (try clear hb2)
    (try clear hk)
    (try clear hi)
    refine hK.out _ _ ⟨(kCe BK265.out 0).trans rfl, (kCe BK265.out 1).trans rfl, (kCe BK265.out 2).trans rfl, (kCe BK265.out 3).trans rfl, (kCe BK265.out 4).trans rfl, (kCe BK265.out 5).trans rfl, (kCe BK265.out 6).trans rfl, (kCe BK244.out 0).trans rfl, (kCe BK244.out 1).trans rfl, (kCe BK244.out 2).trans rfl, (kCe BK244.out 3).trans rfl, (kCe BK244.out 4).trans rfl, (kCe BK244.out 5).trans rfl, (kCe BK244.out 6).trans rfl⟩ (fun hHeld => ?_)
    clear hK K
    refine norm_ (a' := ?_) ?_ ?_
    rotate_left
    ·
     show Act.put _ (some 25) _ = _
     simp only [Act.put, sIB, sCZ, sCS, i64_w, i32_w]
     rfl
    refine pure_ (i := 4) (N := some 26) (v := ?_) (a' := ?_) #[tt,tt,tt,tt,tt] rfl rfl (by kernel_rfl) (fun _ _ _ h => h) (Or.inl ⟨by rfl, ?_⟩) ?_ ?_
    rotate_left
    ·
     intro w'
     go_simp
     with_reducible rfl
    rotate_left
    ·
     simp only [Act.put, sIB, sCZ, sCS, i64_w, i32_w]
     rfl
    refine done_ (by kernel_rfl) ?_
    try go_wp2
    go_ret
    exact ⟨by first | rfl | (simp [errW_none, errW_some] <;> rfl) | (simp [*, errW_none, errW_some] <;> rfl), by repeat (first | (with_reducible first | exact HB.out | apply bAl | apply bDN | apply bD1 | refine bSe ?_ GE244.out | refine bSe ?_ GE265.out) | exact HB.out)⟩
   ·
    replace c14 := Bool.eq_false_iff.mpr c14
    subst c14
    rw [if_neg (show ¬ (false = true) by decide)] at H
    obtain rfl := Option.some.inj H
    go_enter Try.func4, Try.ntmps4
    try go_wp2_with (first | ((with_reducible refine gDs (N := 1) rfl ?_); refine bEv ?hg (N := 1) ?hd (cs := #[.int .i64 a0_0, .int .i64 a0_1, .int .i64 a0_2, .int .i64 a0_3, .int .i64 a0_4, .int .i64 a0_5, .slice A0_6 l0_6.length c0_6]) (t := 24) ?hr ?_; (case hd => rfl); (case hg => rfl); (case hr => first | (go_simp; done) | (go_simp; rfl)); intro gb244 hg w33 hbox hb; have n0_ := Aside0.mk (bSt (by repeat (first | (with_reducible first | exact HB.out | apply bAl | apply bDN | apply bD1) | exact HB.out)) hb); have n1_ := Aside0.mk (hbox); have n2_ := Aside0.mk ((by rw [hg]; exact (bSz (by repeat (first | (with_reducible first | exact HB.out | apply bAl | apply bDN | apply bD1) | exact HB.out))) : w.heap.size ≤ gb244)); have n3_ := Aside0.mk ((by rw [hg]; exact (bSz (by repeat (first | (with_reducible first | exact HB.out | apply bAl | apply bDN | apply bD1) | exact HB.out))) : w.heap.size ≤ gb244)); clear HB; have HB := n0_; have BK244 := n1_; have GW244 := n2_; have GE244 := n3_; clear n0_ n1_ n2_ n3_; clear hb hbox hg; have hcz34_0 : w33.cell? ⟨gb244, 0, none⟩ = some (.int .i64 a0_0) := (kCe BK244.out 0).trans rfl; have hcz34_1 : w33.cell? ⟨gb244, 1, none⟩ = some (.int .i64 a0_1) := (kCe BK244.out 1).trans rfl; have hcz34_2 : w33.cell? ⟨gb244, 2, none⟩ = some (.int .i64 a0_2) := (kCe BK244.out 2).trans rfl; have hcz34_3 : w33.cell? ⟨gb244, 3, none⟩ = some (.int .i64 a0_3) := (kCe BK244.out 3).trans rfl; have hcz34_4 : w33.cell? ⟨gb244, 4, none⟩ = some (.int .i64 a0_4) := (kCe BK244.out 4).trans rfl; have hcz34_5 : w33.cell? ⟨gb244, 5, none⟩ = some (.int .i64 a0_5) := (kCe BK244.out 5).trans rfl; have hcz34_6 : w33.cell? ⟨gb244, 6, none⟩ = some (.slice A0_6 l0_6.length c0_6) := (kCe BK244.out 6).trans rfl; have hfz34_0 := kFr BK244.out 0; have hfz34_1 := kFr BK244.out 1; have hfz34_2 := kFr BK244.out 2; have hfz34_3 := kFr BK244.out 3; have hfz34_4 := kFr BK244.out 4; have hfz34_5 := kFr BK244.out 5; have hfz34_6 := kFr BK244.out 6) | ((with_reducible refine gCa (f := 9) rfl ?_); refine goesL_ (some 9) rfl rfl Try.func9 (by kernel_rfl) rfl #[.agg #[.int .i64 a0_0, .int .i64 a0_1, .int .i64 a0_2, .int .i64 a0_3, .int .i64 a0_4, .int .i64 a0_5, .slice A0_6 l0_6.length c0_6], .int .i64 1048576] rfl (by (try simp only [List.map_toArray, List.map_cons, List.map_nil]); first | done | rfl | (simp only [List.length_drop, List.length_take]; rfl)) ?_; (with_reducible refine (laws_szBatch.calls k a0_0 a0_1 a0_2 a0_3 a0_4 a0_5 _ _ l0_6 1048576 t245 _ ?side1 ?side2 A2.out).mono ?_); (case side1 => repeat (first | exact (Kd.C_below HR0_6.out HB.out) | (with_reducible refine Kd.C_alloc ?_ _) | (with_reducible refine Kd.C_drewN ?_ _) | (with_reducible refine Kd.C_drew ?_))); (case side2 => exact HC0_6.out); rintro e w35 ⟨rfl, hb⟩; refine ⟨_, rfl, ?_⟩; have n0_ := Aside0.mk (kBe (g := gb244) (o := .cells #[.int .i64 a0_0, .int .i64 a0_1, .int .i64 a0_2, .int .i64 a0_3, .int .i64 a0_4, .int .i64 a0_5, .slice A0_6 l0_6.length c0_6] 24 (0, 0)) (by (with_reducible repeat first | refine kDN ?_ _ | refine kDr ?_ | refine kAl ?_ _); exact BK244.out) hb); have n1_ := Aside0.mk (bSt (by repeat (first | (with_reducible first | exact HB.out | apply bAl | apply bDN | apply bD1 | refine bSe ?_ GE244.out) | exact HB.out)) hb); clear BK244; clear HB; have BK244 := n0_; have HB := n1_; clear n0_ n1_; (try clear hb); (try clear hb2); (try clear hk); (try clear hi); have hcz36_0 : w35.cell? ⟨gb244, 0, none⟩ = some (.int .i64 a0_0) := (kCe BK244.out 0).trans rfl; have hcz36_1 : w35.cell? ⟨gb244, 1, none⟩ = some (.int .i64 a0_1) := (kCe BK244.out 1).trans rfl; have hcz36_2 : w35.cell? ⟨gb244, 2, none⟩ = some (.int .i64 a0_2) := (kCe BK244.out 2).trans rfl; have hcz36_3 : w35.cell? ⟨gb244, 3, none⟩ = some (.int .i64 a0_3) := (kCe BK244.out 3).trans rfl; have hcz36_4 : w35.cell? ⟨gb244, 4, none⟩ = some (.int .i64 a0_4) := (kCe BK244.out 4).trans rfl; have hcz36_5 : w35.cell? ⟨gb244, 5, none⟩ = some (.int .i64 a0_5) := (kCe BK244.out 5).trans rfl; have hcz36_6 : w35.cell? ⟨gb244, 6, none⟩ = some (.slice A0_6 l0_6.length c0_6) := (kCe BK244.out 6).trans rfl; have hfz36_0 := kFr BK244.out 0; have hfz36_1 := kFr BK244.out 1; have hfz36_2 := kFr BK244.out 2; have hfz36_3 := kFr BK244.out 3; have hfz36_4 := kFr BK244.out 4; have hfz36_5 := kFr BK244.out 5; have hfz36_6 := kFr BK244.out 6) | ((with_reducible refine gCa (f := 11) rfl ?_); refine goesL_ (some 13) rfl rfl Try.func11 (by kernel_rfl) rfl #[.agg #[.int .i64 a0_0, .int .i64 a0_1, .int .i64 a0_2, .int .i64 a0_3, .int .i64 a0_4, .int .i64 a0_5, .slice A0_6 l0_6.length c0_6]] rfl (by (try simp only [List.map_toArray, List.map_cons, List.map_nil]); first | done | rfl | (simp only [List.length_drop, List.length_take]; rfl)) ?_; (with_reducible refine (laws_toBatch.calls k a0_0 a0_1 a0_2 a0_3 a0_4 a0_5 _ _ l0_6 t246 t247 t248 t249 t250 t251 t252 _ ?side1 ?side2 A7.out).mono ?_); (case side1 => repeat (first | exact (Kd.C_below HR0_6.out HB.out) | (with_reducible refine Kd.C_alloc ?_ _) | (with_reducible refine Kd.C_drewN ?_ _) | (with_reducible refine Kd.C_drew ?_))); (case side2 => exact HC0_6.out); rintro e w37 ⟨v253, rfl, ho0, hb⟩; refine ⟨_, rfl, ?_⟩; have n0_ := Aside0.mk (Kd.S_lower ho0 (bSz (by repeat (first | (with_reducible first | exact HB.out | apply bAl | apply bDN | apply bD1 | refine bSe ?_ GE244.out) | exact HB.out)))); have n1_ := Aside0.mk (kBe (g := gb244) (o := .cells #[.int .i64 a0_0, .int .i64 a0_1, .int .i64 a0_2, .int .i64 a0_3, .int .i64 a0_4, .int .i64 a0_5, .slice A0_6 l0_6.length c0_6] 24 (0, 0)) (by (with_reducible repeat first | refine kDN ?_ _ | refine kDr ?_ | refine kAl ?_ _); exact BK244.out) hb); have n2_ := Aside0.mk (bSt (by repeat (first | (with_reducible first | exact HB.out | apply bAl | apply bDN | apply bD1 | refine bSe ?_ GE244.out) | exact HB.out)) hb); clear BK244; clear HB; have HO254 := n0_; have BK244 := n1_; have HB := n2_; clear n0_ n1_ n2_; (try clear hb); (try clear hb2); (try clear hk); (try clear hi); (try clear ho0); obtain ⟨Ao38, co38, eo38⟩ := Kd.S_slice HO254.out; subst eo38) | ((with_reducible refine gCa (f := 14) rfl ?_); refine goesL_ (some 14) rfl rfl Try.func14 (by kernel_rfl) rfl #[.agg #[.int .i64 t246, .int .i64 t247, .int .i64 t248, .int .i64 t249, .int .i64 t250, .int .i64 t251, .slice Ao38 t252.length co38]] rfl (by (try simp only [List.map_toArray, List.map_cons, List.map_nil]); first | done | rfl | (simp only [List.length_drop, List.length_take]; rfl)) ?_; (with_reducible refine (spec_LastOffset.calls k t246 t247 t248 t249 t250 t251 _ _ t252 t255 _ ?side1 ?side2 A8.out).mono ?_); (case side1 => repeat (first | exact (Kd.S_reads' HO254.out).2.2 | (with_reducible refine Kd.C_alloc ?_ _) | (with_reducible refine Kd.C_drewN ?_ _) | (with_reducible refine Kd.C_drew ?_))); (case side2 => exact (Kd.S_reads' HO254.out).2.1); rintro e w39 ⟨rfl, hb⟩; refine ⟨_, rfl, ?_⟩; have n0_ := Aside0.mk (Kd.S_below (by (with_reducible repeat (first | apply Kd.S_alloc | apply Kd.S_drewN | apply Kd.S_drew)); exact HO254.out) hb); have n1_ := Aside0.mk (kBe (g := gb244) (o := .cells #[.int .i64 a0_0, .int .i64 a0_1, .int .i64 a0_2, .int .i64 a0_3, .int .i64 a0_4, .int .i64 a0_5, .slice A0_6 l0_6.length c0_6] 24 (0, 0)) (by (with_reducible repeat first | refine kDN ?_ _ | refine kDr ?_ | refine kAl ?_ _); exact BK244.out) hb); have n2_ := Aside0.mk (bSt (by repeat (first | (with_reducible first | exact HB.out | apply bAl | apply bDN | apply bD1 | refine bSe ?_ GE244.out) | exact HB.out)) hb); clear HO254; clear BK244; clear HB; have HO254 := n0_; have BK244 := n1_; have HB := n2_; clear n0_ n1_ n2_; (try clear hb); (try clear hb2); (try clear hk); (try clear hi); have hcz40_0 : w39.cell? ⟨gb244, 0, none⟩ = some (.int .i64 a0_0) := (kCe BK244.out 0).trans rfl; have hcz40_1 : w39.cell? ⟨gb244, 1, none⟩ = some (.int .i64 a0_1) := (kCe BK244.out 1).trans rfl; have hcz40_2 : w39.cell? ⟨gb244, 2, none⟩ = some (.int .i64 a0_2) := (kCe BK244.out 2).trans rfl; have hcz40_3 : w39.cell? ⟨gb244, 3, none⟩ = some (.int .i64 a0_3) := (kCe BK244.out 3).trans rfl; have hcz40_4 : w39.cell? ⟨gb244, 4, none⟩ = some (.int .i64 a0_4) := (kCe BK244.out 4).trans rfl; have hcz40_5 : w39.cell? ⟨gb244, 5, none⟩ = some (.int .i64 a0_5) := (kCe BK244.out 5).trans rfl; have hcz40_6 : w39.cell? ⟨gb244, 6, none⟩ = some (.slice A0_6 l0_6.length c0_6) := (kCe BK244.out 6).trans rfl; have hfz40_0 := kFr BK244.out 0; have hfz40_1 := kFr BK244.out 1; have hfz40_2 := kFr BK244.out 2; have hfz40_3 := kFr BK244.out 3; have hfz40_4 := kFr BK244.out 4; have hfz40_5 := kFr BK244.out 5; have hfz40_6 := kFr BK244.out 6) | ((with_reducible refine gCa (f := 11) rfl ?_); refine goesL_ (some 16) rfl rfl Try.func11 (by kernel_rfl) rfl #[.agg #[.int .i64 a0_0, .int .i64 a0_1, .int .i64 a0_2, .int .i64 a0_3, .int .i64 a0_4, .int .i64 a0_5, .slice A0_6 l0_6.length c0_6]] rfl (by (try simp only [List.map_toArray, List.map_cons, List.map_nil]); first | done | rfl | (simp only [List.length_drop, List.length_take]; rfl)) ?_; (with_reducible refine (laws_toBatch.calls k a0_0 a0_1 a0_2 a0_3 a0_4 a0_5 _ _ l0_6 t256 t257 t258 t259 t260 t261 t262 _ ?side1 ?side2 A9.out).mono ?_); (case side1 => repeat (first | exact (Kd.C_below HR0_6.out HB.out) | (with_reducible refine Kd.C_alloc ?_ _) | (with_reducible refine Kd.C_drewN ?_ _) | (with_reducible refine Kd.C_drew ?_))); (case side2 => exact HC0_6.out); rintro e w41 ⟨v263, rfl, ho0, hb⟩; refine ⟨_, rfl, ?_⟩; have n0_ := Aside0.mk (Kd.S_elder' (by (with_reducible repeat (first | apply Kd.S_alloc | apply Kd.S_drewN | apply Kd.S_drew)); exact HO254.out) (Kd.S_base ho0) hb); have n1_ := Aside0.mk (Kd.S_lower (Kd.S_new' ho0 (Kd.S_lt (by (with_reducible repeat (first | apply Kd.S_alloc | apply Kd.S_drewN | apply Kd.S_drew)); exact HO254.out))) (bSz (by repeat (first | (with_reducible first | exact HB.out | apply bAl | apply bDN | apply bD1 | refine bSe ?_ GE244.out) | exact HB.out)))); have n2_ := Aside0.mk (kBe (g := gb244) (o := .cells #[.int .i64 a0_0, .int .i64 a0_1, .int .i64 a0_2, .int .i64 a0_3, .int .i64 a0_4, .int .i64 a0_5, .slice A0_6 l0_6.length c0_6] 24 (0, 0)) (by (with_reducible repeat first | refine kDN ?_ _ | refine kDr ?_ | refine kAl ?_ _); exact BK244.out) hb); have n3_ := Aside0.mk (bSt (by repeat (first | (with_reducible first | exact HB.out | apply bAl | apply bDN | apply bD1 | refine bSe ?_ GE244.out) | exact HB.out)) hb); clear HO254; clear BK244; clear HB; have HO254 := n0_; have HO264 := n1_; have BK244 := n2_; have HB := n3_; clear n0_ n1_ n2_ n3_; (try clear hb); (try clear hb2); (try clear hk); (try clear hi); (try clear ho0)) | ((with_reducible refine gDs (N := 5) rfl ?_); refine bEv ?hg (N := 5) ?hd (cs := #[.int .i64 0, .int .i64 0, .int .i64 0, .int .i64 0, .int .i64 0, .int .i64 0, .slice none 0 0]) (t := 29) ?hr ?_; (case hd => rfl); (case hg => rfl); (case hr => first | (go_simp; done) | (go_simp; rfl)); intro gb265 hg w42 hbox hb; have n0_ := Aside0.mk (Kd.S_below (by (with_reducible repeat (first | apply Kd.S_alloc | apply Kd.S_drewN | apply Kd.S_drew)); exact HO254.out) hb); have n1_ := Aside0.mk (Kd.S_below (by (with_reducible repeat (first | apply Kd.S_alloc | apply Kd.S_drewN | apply Kd.S_drew)); exact HO264.out) hb); have n2_ := Aside0.mk (kBe (g := gb244) (o := .cells #[.int .i64 a0_0, .int .i64 a0_1, .int .i64 a0_2, .int .i64 a0_3, .int .i64 a0_4, .int .i64 a0_5, .slice A0_6 l0_6.length c0_6] 24 (0, 0)) (by (with_reducible repeat first | refine kDN ?_ _ | refine kDr ?_ | refine kAl ?_ _); exact BK244.out) hb); have n3_ := Aside0.mk (bSt (by repeat (first | (with_reducible first | exact HB.out | apply bAl | apply bDN | apply bD1 | refine bSe ?_ GE244.out) | exact HB.out)) hb); have n4_ := Aside0.mk (hbox); have n5_ := Aside0.mk ((by rw [hg]; exact (bSz (by repeat (first | (with_reducible first | exact HB.out | apply bAl | apply bDN | apply bD1 | refine bSe ?_ GE244.out) | exact HB.out))) : w.heap.size ≤ gb265)); have n6_ := Aside0.mk ((by rw [hg]; exact (bSz (by repeat (first | (with_reducible first | exact HB.out | apply bAl | apply bDN | apply bD1 | refine bSe ?_ GE244.out) | exact HB.out))) : w.heap.size ≤ gb265)); have n7_ := Aside0.mk ((by rw [hg]; exact Nat.ne_of_lt (blk_lt (g := gb244) (o := .cells #[.int .i64 a0_0, .int .i64 a0_1, .int .i64 a0_2, .int .i64 a0_3, .int .i64 a0_4, .int .i64 a0_5, .slice A0_6 l0_6.length c0_6] 24 (0, 0)) (by (with_reducible repeat first | refine kDN ?_ _ | refine kDr ?_ | refine kAl ?_ _); exact BK244.out)) : gb244 ≠ gb265)); have n8_ := Aside0.mk ((by rw [hg]; exact Nat.ne_of_gt (blk_lt (g := gb244) (o := .cells #[.int .i64 a0_0, .int .i64 a0_1, .int .i64 a0_2, .int .i64 a0_3, .int .i64 a0_4, .int .i64 a0_5, .slice A0_6 l0_6.length c0_6] 24 (0, 0)) (by (with_reducible repeat first | refine kDN ?_ _ | refine kDr ?_ | refine kAl ?_ _); exact BK244.out)) : gb265 ≠ gb244)); clear HO254; clear HO264; clear BK244; clear HB; have HO254 := n0_; have HO264 := n1_; have BK244 := n2_; have HB := n3_; have BK265 := n4_; have GW265 := n5_; have GE265 := n6_; have NB244_265 := n7_; have NB265_244 := n8_; clear n0_ n1_ n2_ n3_ n4_ n5_ n6_ n7_ n8_; clear hb hbox hg; have hnb43 := NB265_244.out; have hnc43 := NB244_265.out; have hcz44_0 : w42.cell? ⟨gb265, 0, none⟩ = some (.int .i64 0) := (kCe BK265.out 0).trans rfl; have hcz44_1 : w42.cell? ⟨gb265, 1, none⟩ = some (.int .i64 0) := (kCe BK265.out 1).trans rfl; have hcz44_2 : w42.cell? ⟨gb265, 2, none⟩ = some (.int .i64 0) := (kCe BK265.out 2).trans rfl; have hcz44_3 : w42.cell? ⟨gb265, 3, none⟩ = some (.int .i64 0) := (kCe BK265.out 3).trans rfl; have hcz44_4 : w42.cell? ⟨gb265, 4, none⟩ = some (.int .i64 0) := (kCe BK265.out 4).trans rfl; have hcz44_5 : w42.cell? ⟨gb265, 5, none⟩ = some (.int .i64 0) := (kCe BK265.out 5).trans rfl; have hcz44_6 : w42.cell? ⟨gb265, 6, none⟩ = some (.slice none 0 0) := (kCe BK265.out 6).trans rfl; have hfz44_0 := kFr BK265.out 0; have hfz44_1 := kFr BK265.out 1; have hfz44_2 := kFr BK265.out 2; have hfz44_3 := kFr BK265.out 3; have hfz44_4 := kFr BK265.out 4; have hfz44_5 := kFr BK265.out 5; have hfz44_6 := kFr BK265.out 6; obtain ⟨Ao45, co45, eo45⟩ := Kd.S_slice HO264.out; subst eo45) | ((with_reducible refine gCa (f := 15) rfl ?_); refine goesL_ (some 18) rfl rfl Try.func15 (by kernel_rfl) rfl #[.agg #[.int .i64 t256, .int .i64 t257, .int .i64 t258, .int .i64 t259, .int .i64 t260, .int .i64 t261, .slice Ao45 t262.length co45]] rfl (by (try simp only [List.map_toArray, List.map_cons, List.map_nil]); first | done | rfl | (simp only [List.length_drop, List.length_take]; rfl)) ?_; (with_reducible refine (impl_LastOffset.calls k t256 t257 t258 t259 t260 t261 _ _ t262 t266 _ ?side1 ?side2 A10.out).mono ?_); (case side1 => refine (Kd.S_reads' (e := 56) (base := w.heap.size) (ok := fun k_ => (True ∧ some k_ ≠ (.slice Ao38 t252.length co38 : Value).ownBlock)) (n := t262.length) (c := co45) ?_).2.2; exact (by (with_reducible repeat (first | apply Kd.S_alloc | apply Kd.S_drewN | apply Kd.S_drew)); exact (Kd.S_mono (Kd.S_far (p := ⟨gb265, 6, none⟩) (Kd.S_far (p := ⟨gb265, 5, none⟩) (Kd.S_far (p := ⟨gb265, 4, none⟩) (Kd.S_far (p := ⟨gb265, 3, none⟩) (Kd.S_far (p := ⟨gb265, 2, none⟩) (Kd.S_far (p := ⟨gb265, 1, none⟩) (Kd.S_far (p := ⟨gb265, 0, none⟩) (Kd.S_types HO264.out BK265.out (by decide)) (fun _ hk => hk.2) (.int .i64 t256)) (fun _ hk => hk.2) (.int .i64 t257)) (fun _ hk => hk.2) (.int .i64 t258)) (fun _ hk => hk.2) (.int .i64 t259)) (fun _ hk => hk.2) (.int .i64 t260)) (fun _ hk => hk.2) (.int .i64 t261)) (fun _ hk => hk.2) (.slice Ao45 t262.length co45)) (fun _ h_ => h_.1)))); (case side2 => exact (Kd.S_reads' HO264.out).2.1); rintro e w46 ⟨rfl, hb⟩; refine ⟨_, rfl, ?_⟩; have n0_ := Aside0.mk (Kd.S_below (by (with_reducible repeat (first | apply Kd.S_alloc | apply Kd.S_drewN | apply Kd.S_drew)); exact (Kd.S_mono (Kd.S_far (p := ⟨gb265, 6, none⟩) (Kd.S_far (p := ⟨gb265, 5, none⟩) (Kd.S_far (p := ⟨gb265, 4, none⟩) (Kd.S_far (p := ⟨gb265, 3, none⟩) (Kd.S_far (p := ⟨gb265, 2, none⟩) (Kd.S_far (p := ⟨gb265, 1, none⟩) (Kd.S_far (p := ⟨gb265, 0, none⟩) (Kd.S_types HO254.out BK265.out (by decide)) (fun _ hk => hk.2) (.int .i64 t256)) (fun _ hk => hk.2) (.int .i64 t257)) (fun _ hk => hk.2) (.int .i64 t258)) (fun _ hk => hk.2) (.int .i64 t259)) (fun _ hk => hk.2) (.int .i64 t260)) (fun _ hk => hk.2) (.int .i64 t261)) (fun _ hk => hk.2) (.slice Ao45 t262.length co45)) (fun _ h_ => h_.1))) hb); have n1_ := Aside0.mk (Kd.S_below (by (with_reducible repeat (first | apply Kd.S_alloc | apply Kd.S_drewN | apply Kd.S_drew)); exact (Kd.S_mono (Kd.S_far (p := ⟨gb265, 6, none⟩) (Kd.S_far (p := ⟨gb265, 5, none⟩) (Kd.S_far (p := ⟨gb265, 4, none⟩) (Kd.S_far (p := ⟨gb265, 3, none⟩) (Kd.S_far (p := ⟨gb265, 2, none⟩) (Kd.S_far (p := ⟨gb265, 1, none⟩) (Kd.S_far (p := ⟨gb265, 0, none⟩) (Kd.S_types HO264.out BK265.out (by decide)) (fun _ hk => hk.2) (.int .i64 t256)) (fun _ hk => hk.2) (.int .i64 t257)) (fun _ hk => hk.2) (.int .i64 t258)) (fun _ hk => hk.2) (.int .i64 t259)) (fun _ hk => hk.2) (.int .i64 t260)) (fun _ hk => hk.2) (.int .i64 t261)) (fun _ hk => hk.2) (.slice Ao45 t262.length co45)) (fun _ h_ => h_.1))) hb); have n2_ := Aside0.mk (kBe (g := gb244) (o := .cells #[.int .i64 a0_0, .int .i64 a0_1, .int .i64 a0_2, .int .i64 a0_3, .int .i64 a0_4, .int .i64 a0_5, .slice A0_6 l0_6.length c0_6] 24 (0, 0)) (by (with_reducible repeat first | refine kDN ?_ _ | refine kDr ?_ | refine kAl ?_ _); refine blk_far ?_ NB244_265.out _; (with_reducible repeat first | refine kDN ?_ _ | refine kDr ?_ | refine kAl ?_ _); refine blk_far ?_ NB244_265.out _; (with_reducible repeat first | refine kDN ?_ _ | refine kDr ?_ | refine kAl ?_ _); refine blk_far ?_ NB244_265.out _; (with_reducible repeat first | refine kDN ?_ _ | refine kDr ?_ | refine kAl ?_ _); refine blk_far ?_ NB244_265.out _; (with_reducible repeat first | refine kDN ?_ _ | refine kDr ?_ | refine kAl ?_ _); refine blk_far ?_ NB244_265.out _; (with_reducible repeat first | refine kDN ?_ _ | refine kDr ?_ | refine kAl ?_ _); refine blk_far ?_ NB244_265.out _; (with_reducible repeat first | refine kDN ?_ _ | refine kDr ?_ | refine kAl ?_ _); refine blk_far ?_ NB244_265.out _; (with_reducible repeat first | refine kDN ?_ _ | refine kDr ?_ | refine kAl ?_ _); exact BK244.out) hb); have n3_ := Aside0.mk (kBe (g := gb265) (o := .cells #[.int .i64 t256, .int .i64 t257, .int .i64 t258, .int .i64 t259, .int .i64 t260, .int .i64 t261, .slice Ao45 t262.length co45] 29 (0, 0)) (by (with_reducible repeat first | refine kDN ?_ _ | refine kDr ?_ | refine kAl ?_ _); refine blk_put (cs := #[.int .i64 t256, .int .i64 t257, .int .i64 t258, .int .i64 t259, .int .i64 t260, .int .i64 t261, .slice none 0 0]) ?_ 6 _ rfl; (with_reducible repeat first | refine kDN ?_ _ | refine kDr ?_ | refine kAl ?_ _); refine blk_put (cs := #[.int .i64 t256, .int .i64 t257, .int .i64 t258, .int .i64 t259, .int .i64 t260, .int .i64 0, .slice none 0 0]) ?_ 5 _ rfl; (with_reducible repeat first | refine kDN ?_ _ | refine kDr ?_ | refine kAl ?_ _); refine blk_put (cs := #[.int .i64 t256, .int .i64 t257, .int .i64 t258, .int .i64 t259, .int .i64 0, .int .i64 0, .slice none 0 0]) ?_ 4 _ rfl; (with_reducible repeat first | refine kDN ?_ _ | refine kDr ?_ | refine kAl ?_ _); refine blk_put (cs := #[.int .i64 t256, .int .i64 t257, .int .i64 t258, .int .i64 0, .int .i64 0, .int .i64 0, .slice none 0 0]) ?_ 3 _ rfl; (with_reducible repeat first | refine kDN ?_ _ | refine kDr ?_ | refine kAl ?_ _); refine blk_put (cs := #[.int .i64 t256, .int .i64 t257, .int .i64 0, .int .i64 0, .int .i64 0, .int .i64 0, .slice none 0 0]) ?_ 2 _ rfl; (with_reducible repeat first | refine kDN ?_ _ | refine kDr ?_ | refine kAl ?_ _); refine blk_put (cs := #[.int .i64 t256, .int .i64 0, .int .i64 0, .int .i64 0, .int .i64 0, .int .i64 0, .slice none 0 0]) ?_ 1 _ rfl; (with_reducible repeat first | refine kDN ?_ _ | refine kDr ?_ | refine kAl ?_ _); refine blk_put (cs := #[.int .i64 0, .int .i64 0, .int .i64 0, .int .i64 0, .int .i64 0, .int .i64 0, .slice none 0 0]) ?_ 0 _ rfl; (with_reducible repeat first | refine kDN ?_ _ | refine kDr ?_ | refine kAl ?_ _); exact BK265.out) hb); have n4_ := Aside0.mk (bSt (by repeat (first | (with_reducible first | exact HB.out | apply bAl | apply bDN | apply bD1 | refine bSe ?_ GE244.out | refine bSe ?_ GE265.out) | exact HB.out)) hb); clear HO254; clear HO264; clear BK244; clear BK265; clear HB; have HO254 := n0_; have HO264 := n1_; have BK244 := n2_; have BK265 := n3_; have HB := n4_; clear n0_ n1_ n2_ n3_ n4_; (try clear hb); (try clear hb2); (try clear hk); (try clear hi)))
    have n0_ := Aside0.mk (Kd.S_drew HO254.out)
    have n1_ := Aside0.mk (Kd.S_drew HO264.out)
    have n2_ := Aside0.mk (kDr BK244.out)
    have n3_ := Aside0.mk (kDr BK265.out)
    have n4_ := Aside0.mk (bD1 HB.out)
    clear HO254
    clear HO264
    clear BK244
    clear BK265
    clear HB
    have HO254 := n0_
    have HO264 := n1_
    have BK244 := n2_
    have BK265 := n3_
    have HB := n4_
    clear n0_ n1_ n2_ n3_ n4_
    refine start_ (n := 5) (S := fun w' => w'.cell? ⟨gb265, 0, none⟩ = some (.int .i64 t256) ∧ w'.cell? ⟨gb265, 1, none⟩ = some (.int .i64 t257) ∧ w'.cell? ⟨gb265, 2, none⟩ = some (.int .i64 t258) ∧ w'.cell? ⟨gb265, 3, none⟩ = some (.int .i64 t259) ∧ w'.cell? ⟨gb265, 4, none⟩ = some (.int .i64 t260) ∧ w'.cell? ⟨gb265, 5, none⟩ = some (.int .i64 t261) ∧ w'.cell? ⟨gb265, 6, none⟩ = some (.slice Ao45 t262.length co45) ∧ w'.cell? ⟨gb244, 0, none⟩ = some (.int .i64 a0_0) ∧ w'.cell? ⟨gb244, 1, none⟩ = some (.int .i64 a0_1) ∧ w'.cell? ⟨gb244, 2, none⟩ = some (.int .i64 a0_2) ∧ w'.cell? ⟨gb244, 3, none⟩ = some (.int .i64 a0_3) ∧ w'.cell? ⟨gb244, 4, none⟩ = some (.int .i64 a0_4) ∧ w'.cell? ⟨gb244, 5, none⟩ = some (.int .i64 a0_5) ∧ w'.cell? ⟨gb244, 6, none⟩ = some (.slice A0_6 l0_6.length c0_6)) (ds := []) #[ff,ff,ff,ff,ff] (by kernel_rfl) rfl rfl ⟨(kCe BK265.out 0).trans rfl, (kCe BK265.out 1).trans rfl, (kCe BK265.out 2).trans rfl, (kCe BK265.out 3).trans rfl, (kCe BK265.out 4).trans rfl, (kCe BK265.out 5).trans rfl, (kCe BK265.out 6).trans rfl, (kCe BK244.out 0).trans rfl, (kCe BK244.out 1).trans rfl, (kCe BK244.out 2).trans rfl, (kCe BK244.out 3).trans rfl, (kCe BK244.out 4).trans rfl, (kCe BK244.out 5).trans rfl, (kCe BK244.out 6).trans rfl⟩ (fun hHeld => ?_)
    generalize w46.drew = w47 at HO254 HO264 BK244 BK265 HB hHeld ⊢
    refine take_ (i := 0) (N := some 22) (v := ?_) (a' := ?_) #[tt,ff,ff,ff,ff] rfl rfl (by kernel_rfl) (fun _ _ _ h => h) (Or.inl ⟨by rfl, ?_⟩) hHeld ?_ ?_
    rotate_left
    ·
     rintro w' ⟨s0, s1, s2, s3, s4, s5, s6, s7, s8, s9, s10, s11, s12, s13⟩
     go_simp
     with_reducible rfl
    rotate_left
    ·
     simp only [Act.put, sIB, sCZ, sCS, i64_w, i32_w]
     rfl
    refine take_ (i := 1) (N := some 23) (v := ?_) (a' := ?_) #[tt,tt,ff,ff,ff] rfl rfl (by kernel_rfl) (fun _ _ _ h => h) (Or.inl ⟨by rfl, ?_⟩) hHeld ?_ ?_
    rotate_left
    ·
     rintro w' ⟨s0, s1, s2, s3, s4, s5, s6, s7, s8, s9, s10, s11, s12, s13⟩
     go_simp
     with_reducible rfl
    rotate_left
    ·
     simp only [Act.put, sIB, sCZ, sCS, i64_w, i32_w]
     rfl
    refine one_ (i := 2) (N := some 24) #[tt,tt,tt,ff,ff] rfl rfl (by kernel_rfl) (by decide) (fun K hK => ?_)
    refine goes_ Try.func11 (by kernel_rfl) rfl #[.agg #[.int .i64 a0_0, .int .i64 a0_1, .int .i64 a0_2, .int .i64 a0_3, .int .i64 a0_4, .int .i64 a0_5, .slice A0_6 l0_6.length c0_6]] (by rfl) rfl rfl (by (try simp only [List.map_toArray, List.map_cons, List.map_nil]); first | done | rfl | (simp only [List.length_drop, List.length_take]; rfl)) ?_
    with_reducible refine (laws_toBatch.calls k a0_0 a0_1 a0_2 a0_3 a0_4 a0_5 _ _ l0_6 t267 t268 t269 t270 t271 t272 t273 _ ?side1 ?side2 A12.out).mono ?_
    (case side1 => repeat (first | exact (Kd.C_below HR0_6.out HB.out) | (with_reducible refine Kd.C_alloc ?_ _) | (with_reducible refine Kd.C_drewN ?_ _) | (with_reducible refine Kd.C_drew ?_)))
    (case side2 => exact HC0_6.out)
    rintro e w48 ⟨v274, rfl, ho0, hb⟩
    refine ⟨_, rfl, ?_⟩
    have n0_ := Aside0.mk (Kd.S_elder' (by (with_reducible repeat (first | apply Kd.S_alloc | apply Kd.S_drewN | apply Kd.S_drew)); exact HO254.out) (Kd.S_base ho0) hb)
    have n1_ := Aside0.mk (Kd.S_elder' (by (with_reducible repeat (first | apply Kd.S_alloc | apply Kd.S_drewN | apply Kd.S_drew)); exact HO264.out) (Kd.S_base ho0) hb)
    have n2_ := Aside0.mk (Kd.S_lower (Kd.S_new' (Kd.S_new' ho0 (Kd.S_lt (by (with_reducible repeat (first | apply Kd.S_alloc | apply Kd.S_drewN | apply Kd.S_drew)); exact HO254.out))) (Kd.S_lt (by (with_reducible repeat (first | apply Kd.S_alloc | apply Kd.S_drewN | apply Kd.S_drew)); exact HO264.out))) (bSz (by repeat (first | (with_reducible first | exact HB.out | apply bAl | apply bDN | apply bD1 | refine bSe ?_ GE244.out | refine bSe ?_ GE265.out) | exact HB.out))))
    have n3_ := Aside0.mk (kBe (g := gb244) (o := .cells #[.int .i64 a0_0, .int .i64 a0_1, .int .i64 a0_2, .int .i64 a0_3, .int .i64 a0_4, .int .i64 a0_5, .slice A0_6 l0_6.length c0_6] 24 (0, 0)) (by (with_reducible repeat first | refine kDN ?_ _ | refine kDr ?_ | refine kAl ?_ _); exact BK244.out) hb)
    have n4_ := Aside0.mk (kBe (g := gb265) (o := .cells #[.int .i64 t256, .int .i64 t257, .int .i64 t258, .int .i64 t259, .int .i64 t260, .int .i64 t261, .slice Ao45 t262.length co45] 29 (0, 0)) (by (with_reducible repeat first | refine kDN ?_ _ | refine kDr ?_ | refine kAl ?_ _); exact BK265.out) hb)
    have n5_ := Aside0.mk (bSt (by repeat (first | (with_reducible first | exact HB.out | apply bAl | apply bDN | apply bD1 | refine bSe ?_ GE244.out | refine bSe ?_ GE265.out) | exact HB.out)) hb)
    clear HO254
    clear HO264
    clear BK244
    clear BK265
    clear HB
    have HO254 := n0_
    have HO264 := n1_
    have HO275 := n2_
    have BK244 := n3_
    have BK265 := n4_
    have HB := n5_
    clear n0_ n1_ n2_ n3_ n4_ n5_
    (try clear hb)
    (try clear hb2)
    (try clear hk)
    (try clear hi)
    (try clear ho0)
    obtain ⟨Ao49, co49, eo49⟩ := Kd.S_slice HO275.out
    (first | subst eo49 | (injection eo49 with f1_ f2_ f3_; have f4_ := f1_.symm; have f5_ := f3_.symm; clear f1_ f2_ f3_; subst f4_; subst f5_))
    refine hK.out _ _ ⟨(kCe BK265.out 0).trans rfl, (kCe BK265.out 1).trans rfl, (kCe BK265.out 2).trans rfl, (kCe BK265.out 3).trans rfl, (kCe BK265.out 4).trans rfl, (kCe BK265.out 5).trans rfl, (kCe BK265.out 6).trans rfl, (kCe BK244.out 0).trans rfl, (kCe BK244.out 1).trans rfl, (kCe BK244.out 2).trans rfl, (kCe BK244.out 3).trans rfl, (kCe BK244.out 4).trans rfl, (kCe BK244.out 5).trans rfl, (kCe BK244.out 6).trans rfl⟩ (fun hHeld => ?_)
    clear hK K
    refine norm_ (a' := ?_) ?_ ?_
    rotate_left
    ·
     show Act.put _ (some 24) _ = _
     simp only [Act.put, sIB, sCZ, sCS, i64_w, i32_w]
     rfl
    refine one_ (i := 3) (N := some 25) #[tt,tt,tt,tt,ff] rfl rfl (by kernel_rfl) (by decide) (fun K hK => ?_)
    refine goes_ Try.func13 (by kernel_rfl) rfl #[.agg #[.int .i64 t256, .int .i64 t257, .int .i64 t258, .int .i64 t259, .int .i64 t260, .int .i64 t261, .slice Ao45 t262.length co45], .agg #[.int .i64 t267, .int .i64 t268, .int .i64 t269, .int .i64 t270, .int .i64 t271, .int .i64 t272, .slice Ao49 t273.length co49]] (by rfl) rfl rfl (by (try simp only [List.map_toArray, List.map_cons, List.map_nil]); first | done | rfl | (simp only [List.length_drop, List.length_take]; rfl)) ?_
    with_reducible refine (laws_eqBatch.calls k t256 t257 t258 t259 t260 t261 _ _ t262 t267 t268 t269 t270 t271 t272 _ _ t273 false _ ?side1 ?side2 ?side3 ?side4 A13.out).mono ?_
    (case side1 => repeat (first | exact (Kd.S_reads' HO264.out).2.2 | (with_reducible refine Kd.C_alloc ?_ _) | (with_reducible refine Kd.C_drewN ?_ _) | (with_reducible refine Kd.C_drew ?_)))
    (case side2 => exact (Kd.S_reads' HO264.out).2.1)
    (case side3 => repeat (first | exact (Kd.S_reads' HO275.out).2.2 | (with_reducible refine Kd.C_alloc ?_ _) | (with_reducible refine Kd.C_drewN ?_ _) | (with_reducible refine Kd.C_drew ?_)))
    (case side4 => exact (Kd.S_reads' HO275.out).2.1)
    rintro e w50 ⟨rfl, hb⟩
    refine ⟨_, rfl, ?_⟩
    have n0_ := Aside0.mk (Kd.S_below (by (with_reducible repeat (first | apply Kd.S_alloc | apply Kd.S_drewN | apply Kd.S_drew)); exact HO254.out) hb)
    have n1_ := Aside0.mk (Kd.S_below (by (with_reducible repeat (first | apply Kd.S_alloc | apply Kd.S_drewN | apply Kd.S_drew)); exact HO264.out) hb)
    have n2_ := Aside0.mk (Kd.S_below (by (with_reducible repeat (first | apply Kd.S_alloc | apply Kd.S_drewN | apply Kd.S_drew)); exact HO275.out) hb)
    have n3_ := Aside0.mk (kBe (g := gb244) (o := .cells #[.int .i64 a0_0, .int .i64 a0_1, .int .i64 a0_2, .int .i64 a0_3, .int .i64 a0_4, .int .i64 a0_5, .slice A0_6 l0_6.length c0_6] 24 (0, 0)) (by (with_reducible repeat first | refine kDN ?_ _ | refine kDr ?_ | refine kAl ?_ _); exact BK244.out) hb)
    have n4_ := Aside0.mk (kBe (g := gb265) (o := .cells #[.int .i64 t256, .int .i64 t257, .int .i64 t258, .int .i64 t259, .int .i64 t260, .int .i64 t261, .slice Ao45 t262.length co45] 29 (0, 0)) (by (with_reducible repeat first | refine kDN ?_ _ | refine kDr ?_ | refine kAl ?_ _); exact BK265.out) hb)
    have n5_ := Aside0.mk (bSt (by repeat (first | (with_reducible first | exact HB.out | apply bAl | apply bDN | apply bD1 | refine bSe ?_ GE244.out | refine bSe ?_ GE265.out) | exact HB.out)) hb)
    clear HO254
    clear HO264
    clear HO275
    clear BK244
    clear BK265
    clear HB
    have HO254 := n0_
    have HO264 := n1_
    have HO275 := n2_
    have BK244 := n3_
    have BK265 := n4_
    have HB := n5_
    clear n0_ n1_ n2_ n3_ n4_ n5_
    (try clear hb)
    (try clear hb2)
    (try clear hk)
    (try clear hi)
    refine hK.out _ _ ⟨(kCe BK265.out 0).trans rfl, (kCe BK265.out 1).trans rfl, (kCe BK265.out 2).trans rfl, (kCe BK265.out 3).trans rfl, (kCe BK265.out 4).trans rfl, (kCe BK265.out 5).trans rfl, (kCe BK265.out 6).trans rfl, (kCe BK244.out 0).trans rfl, (kCe BK244.out 1).trans rfl, (kCe BK244.out 2).trans rfl, (kCe BK244.out 3).trans rfl, (kCe BK244.out 4).trans rfl, (kCe BK244.out 5).trans rfl, (kCe BK244.out 6).trans rfl⟩ (fun hHeld => ?_)
    clear hK K
    refine norm_ (a' := ?_) ?_ ?_
    rotate_left
    ·
     show Act.put _ (some 25) _ = _
     simp only [Act.put, sIB, sCZ, sCS, i64_w, i32_w]
     rfl
    refine pure_ (i := 4) (N := some 26) (v := ?_) (a' := ?_) #[tt,tt,tt,tt,tt] rfl rfl (by kernel_rfl) (fun _ _ _ h => h) (Or.inl ⟨by rfl, ?_⟩) ?_ ?_
    rotate_left
    ·
     intro w'
     go_simp
     with_reducible rfl
    rotate_left
    ·
     simp only [Act.put, sIB, sCZ, sCS, i64_w, i32_w]
     rfl
    refine done_ (by kernel_rfl) ?_
    try go_wp2
    go_ret
    exact ⟨by first | rfl | (simp [errW_none, errW_some] <;> rfl) | (simp [*, errW_none, errW_some] <;> rfl), by repeat (first | (with_reducible first | exact HB.out | apply bAl | apply bDN | apply bD1 | refine bSe ?_ GE244.out | refine bSe ?_ GE265.out) | exact HB.out)⟩
  ·
   rw [if_neg c11] at H
   have c11b0 : (t266 == t255) = false := beq_eq_false_iff_ne.mpr c11
   have c11b1 : (t266 != t255) = true := bne_iff_ne.mpr c11
   obtain rfl := Option.some.inj H
   go_enter Try.func4, Try.ntmps4
   go_wp2_with (first | ((with_reducible refine gDs (N := 1) rfl ?_); refine bEv ?hg (N := 1) ?hd (cs := #[.int .i64 a0_0, .int .i64 a0_1, .int .i64 a0_2, .int .i64 a0_3, .int .i64 a0_4, .int .i64 a0_5, .slice A0_6 l0_6.length c0_6]) (t := 24) ?hr ?_; (case hd => rfl); (case hg => rfl); (case hr => first | (go_simp; done) | (go_simp; rfl)); intro gb244 hg w51 hbox hb; have n0_ := Aside0.mk (bSt (by repeat (first | (with_reducible first | exact HB.out | apply bAl | apply bDN | apply bD1) | exact HB.out)) hb); have n1_ := Aside0.mk (hbox); have n2_ := Aside0.mk ((by rw [hg]; exact (bSz (by repeat (first | (with_reducible first | exact HB.out | apply bAl | apply bDN | apply bD1) | exact HB.out))) : w.heap.size ≤ gb244)); have n3_ := Aside0.mk ((by rw [hg]; exact (bSz (by repeat (first | (with_reducible first | exact HB.out | apply bAl | apply bDN | apply bD1) | exact HB.out))) : w.heap.size ≤ gb244)); clear HB; have HB := n0_; have BK244 := n1_; have GW244 := n2_; have GE244 := n3_; clear n0_ n1_ n2_ n3_; clear hb hbox hg; have hcz52_0 : w51.cell? ⟨gb244, 0, none⟩ = some (.int .i64 a0_0) := (kCe BK244.out 0).trans rfl; have hcz52_1 : w51.cell? ⟨gb244, 1, none⟩ = some (.int .i64 a0_1) := (kCe BK244.out 1).trans rfl; have hcz52_2 : w51.cell? ⟨gb244, 2, none⟩ = some (.int .i64 a0_2) := (kCe BK244.out 2).trans rfl; have hcz52_3 : w51.cell? ⟨gb244, 3, none⟩ = some (.int .i64 a0_3) := (kCe BK244.out 3).trans rfl; have hcz52_4 : w51.cell? ⟨gb244, 4, none⟩ = some (.int .i64 a0_4) := (kCe BK244.out 4).trans rfl; have hcz52_5 : w51.cell? ⟨gb244, 5, none⟩ = some (.int .i64 a0_5) := (kCe BK244.out 5).trans rfl; have hcz52_6 : w51.cell? ⟨gb244, 6, none⟩ = some (.slice A0_6 l0_6.length c0_6) := (kCe BK244.out 6).trans rfl; have hfz52_0 := kFr BK244.out 0; have hfz52_1 := kFr BK244.out 1; have hfz52_2 := kFr BK244.out 2; have hfz52_3 := kFr BK244.out 3; have hfz52_4 := kFr BK244.out 4; have hfz52_5 := kFr BK244.out 5; have hfz52_6 := kFr BK244.out 6) | ((with_reducible refine gCa (f := 9) rfl ?_); refine goesL_ (some 9) rfl rfl Try.func9 (by kernel_rfl) rfl #[.agg #[.int .i64 a0_0, .int .i64 a0_1, .int .i64 a0_2, .int .i64 a0_3, .int .i64 a0_4, .int .i64 a0_5, .slice A0_6 l0_6.length c0_6], .int .i64 1048576] rfl (by (try simp only [List.map_toArray, List.map_cons, List.map_nil]); first | done | rfl | (simp only [List.length_drop, List.length_take]; rfl)) ?_; (with_reducible refine (laws_szBatch.calls k a0_0 a0_1 a0_2 a0_3 a0_4 a0_5 _ _ l0_6 1048576 t245 _ ?side1 ?side2 A2.out).mono ?_); (case side1 => repeat (first | exact (Kd.C_below HR0_6.out HB.out) | (with_reducible refine Kd.C_alloc ?_ _) | (with_reducible refine Kd.C_drewN ?_ _) | (with_reducible refine Kd.C_drew ?_))); (case side2 => exact HC0_6.out); rintro e w53 ⟨rfl, hb⟩; refine ⟨_, rfl, ?_⟩; have n0_ := Aside0.mk (kBe (g := gb244) (o := .cells #[.int .i64 a0_0, .int .i64 a0_1, .int .i64 a0_2, .int .i64 a0_3, .int .i64 a0_4, .int .i64 a0_5, .slice A0_6 l0_6.length c0_6] 24 (0, 0)) (by (with_reducible repeat first | refine kDN ?_ _ | refine kDr ?_ | refine kAl ?_ _); exact BK244.out) hb); have n1_ := Aside0.mk (bSt (by repeat (first | (with_reducible first | exact HB.out | apply bAl | apply bDN | apply bD1 | refine bSe ?_ GE244.out) | exact HB.out)) hb); clear BK244; clear HB; have BK244 := n0_; have HB := n1_; clear n0_ n1_; (try clear hb); (try clear hb2); (try clear hk); (try clear hi); have hcz54_0 : w53.cell? ⟨gb244, 0, none⟩ = some (.int .i64 a0_0) := (kCe BK244.out 0).trans rfl; have hcz54_1 : w53.cell? ⟨gb244, 1, none⟩ = some (.int .i64 a0_1) := (kCe BK244.out 1).trans rfl; have hcz54_2 : w53.cell? ⟨gb244, 2, none⟩ = some (.int .i64 a0_2) := (kCe BK244.out 2).trans rfl; have hcz54_3 : w53.cell? ⟨gb244, 3, none⟩ = some (.int .i64 a0_3) := (kCe BK244.out 3).trans rfl; have hcz54_4 : w53.cell? ⟨gb244, 4, none⟩ = some (.int .i64 a0_4) := (kCe BK244.out 4).trans rfl; have hcz54_5 : w53.cell? ⟨gb244, 5, none⟩ = some (.int .i64 a0_5) := (kCe BK244.out 5).trans rfl; have hcz54_6 : w53.cell? ⟨gb244, 6, none⟩ = some (.slice A0_6 l0_6.length c0_6) := (kCe BK244.out 6).trans rfl; have hfz54_0 := kFr BK244.out 0; have hfz54_1 := kFr BK244.out 1; have hfz54_2 := kFr BK244.out 2; have hfz54_3 := kFr BK244.out 3; have hfz54_4 := kFr BK244.out 4; have hfz54_5 := kFr BK244.out 5; have hfz54_6 := kFr BK244.out 6) | ((with_reducible refine gCa (f := 11) rfl ?_); refine goesL_ (some 13) rfl rfl Try.func11 (by kernel_rfl) rfl #[.agg #[.int .i64 a0_0, .int .i64 a0_1, .int .i64 a0_2, .int .i64 a0_3, .int .i64 a0_4, .int .i64 a0_5, .slice A0_6 l0_6.length c0_6]] rfl (by (try simp only [List.map_toArray, List.map_cons, List.map_nil]); first | done | rfl | (simp only [List.length_drop, List.length_take]; rfl)) ?_; (with_reducible refine (laws_toBatch.calls k a0_0 a0_1 a0_2 a0_3 a0_4 a0_5 _ _ l0_6 t246 t247 t248 t249 t250 t251 t252 _ ?side1 ?side2 A7.out).mono ?_); (case side1 => repeat (first | exact (Kd.C_below HR0_6.out HB.out) | (with_reducible refine Kd.C_alloc ?_ _) | (with_reducible refine Kd.C_drewN ?_ _) | (with_reducible refine Kd.C_drew ?_))); (case side2 => exact HC0_6.out); rintro e w55 ⟨v253, rfl, ho0, hb⟩; refine ⟨_, rfl, ?_⟩; have n0_ := Aside0.mk (Kd.S_lower ho0 (bSz (by repeat (first | (with_reducible first | exact HB.out | apply bAl | apply bDN | apply bD1 | refine bSe ?_ GE244.out) | exact HB.out)))); have n1_ := Aside0.mk (kBe (g := gb244) (o := .cells #[.int .i64 a0_0, .int .i64 a0_1, .int .i64 a0_2, .int .i64 a0_3, .int .i64 a0_4, .int .i64 a0_5, .slice A0_6 l0_6.length c0_6] 24 (0, 0)) (by (with_reducible repeat first | refine kDN ?_ _ | refine kDr ?_ | refine kAl ?_ _); exact BK244.out) hb); have n2_ := Aside0.mk (bSt (by repeat (first | (with_reducible first | exact HB.out | apply bAl | apply bDN | apply bD1 | refine bSe ?_ GE244.out) | exact HB.out)) hb); clear BK244; clear HB; have HO254 := n0_; have BK244 := n1_; have HB := n2_; clear n0_ n1_ n2_; (try clear hb); (try clear hb2); (try clear hk); (try clear hi); (try clear ho0); obtain ⟨Ao56, co56, eo56⟩ := Kd.S_slice HO254.out; subst eo56) | ((with_reducible refine gCa (f := 14) rfl ?_); refine goesL_ (some 14) rfl rfl Try.func14 (by kernel_rfl) rfl #[.agg #[.int .i64 t246, .int .i64 t247, .int .i64 t248, .int .i64 t249, .int .i64 t250, .int .i64 t251, .slice Ao56 t252.length co56]] rfl (by (try simp only [List.map_toArray, List.map_cons, List.map_nil]); first | done | rfl | (simp only [List.length_drop, List.length_take]; rfl)) ?_; (with_reducible refine (spec_LastOffset.calls k t246 t247 t248 t249 t250 t251 _ _ t252 t255 _ ?side1 ?side2 A8.out).mono ?_); (case side1 => repeat (first | exact (Kd.S_reads' HO254.out).2.2 | (with_reducible refine Kd.C_alloc ?_ _) | (with_reducible refine Kd.C_drewN ?_ _) | (with_reducible refine Kd.C_drew ?_))); (case side2 => exact (Kd.S_reads' HO254.out).2.1); rintro e w57 ⟨rfl, hb⟩; refine ⟨_, rfl, ?_⟩; have n0_ := Aside0.mk (Kd.S_below (by (with_reducible repeat (first | apply Kd.S_alloc | apply Kd.S_drewN | apply Kd.S_drew)); exact HO254.out) hb); have n1_ := Aside0.mk (kBe (g := gb244) (o := .cells #[.int .i64 a0_0, .int .i64 a0_1, .int .i64 a0_2, .int .i64 a0_3, .int .i64 a0_4, .int .i64 a0_5, .slice A0_6 l0_6.length c0_6] 24 (0, 0)) (by (with_reducible repeat first | refine kDN ?_ _ | refine kDr ?_ | refine kAl ?_ _); exact BK244.out) hb); have n2_ := Aside0.mk (bSt (by repeat (first | (with_reducible first | exact HB.out | apply bAl | apply bDN | apply bD1 | refine bSe ?_ GE244.out) | exact HB.out)) hb); clear HO254; clear BK244; clear HB; have HO254 := n0_; have BK244 := n1_; have HB := n2_; clear n0_ n1_ n2_; (try clear hb); (try clear hb2); (try clear hk); (try clear hi); have hcz58_0 : w57.cell? ⟨gb244, 0, none⟩ = some (.int .i64 a0_0) := (kCe BK244.out 0).trans rfl; have hcz58_1 : w57.cell? ⟨gb244, 1, none⟩ = some (.int .i64 a0_1) := (kCe BK244.out 1).trans rfl; have hcz58_2 : w57.cell? ⟨gb244, 2, none⟩ = some (.int .i64 a0_2) := (kCe BK244.out 2).trans rfl; have hcz58_3 : w57.cell? ⟨gb244, 3, none⟩ = some (.int .i64 a0_3) := (kCe BK244.out 3).trans rfl; have hcz58_4 : w57.cell? ⟨gb244, 4, none⟩ = some (.int .i64 a0_4) := (kCe BK244.out 4).trans rfl; have hcz58_5 : w57.cell? ⟨gb244, 5, none⟩ = some (.int .i64 a0_5) := (kCe BK244.out 5).trans rfl; have hcz58_6 : w57.cell? ⟨gb244, 6, none⟩ = some (.slice A0_6 l0_6.length c0_6) := (kCe BK244.out 6).trans rfl; have hfz58_0 := kFr BK244.out 0; have hfz58_1 := kFr BK244.out 1; have hfz58_2 := kFr BK244.out 2; have hfz58_3 := kFr BK244.out 3; have hfz58_4 := kFr BK244.out 4; have hfz58_5 := kFr BK244.out 5; have hfz58_6 := kFr BK244.out 6) | ((with_reducible refine gCa (f := 11) rfl ?_); refine goesL_ (some 16) rfl rfl Try.func11 (by kernel_rfl) rfl #[.agg #[.int .i64 a0_0, .int .i64 a0_1, .int .i64 a0_2, .int .i64 a0_3, .int .i64 a0_4, .int .i64 a0_5, .slice A0_6 l0_6.length c0_6]] rfl (by (try simp only [List.map_toArray, List.map_cons, List.map_nil]); first | done | rfl | (simp only [List.length_drop, List.length_take]; rfl)) ?_; (with_reducible refine (laws_toBatch.calls k a0_0 a0_1 a0_2 a0_3 a0_4 a0_5 _ _ l0_6 t256 t257 t258 t259 t260 t261 t262 _ ?side1 ?side2 A9.out).mono ?_); (case side1 => repeat (first | exact (Kd.C_below HR0_6.out HB.out) | (with_reducible refine Kd.C_alloc ?_ _) | (with_reducible refine Kd.C_drewN ?_ _) | (with_reducible refine Kd.C_drew ?_))); (case side2 => exact HC0_6.out); rintro e w59 ⟨v263, rfl, ho0, hb⟩; refine ⟨_, rfl, ?_⟩; have n0_ := Aside0.mk (Kd.S_elder' (by (with_reducible repeat (first | apply Kd.S_alloc | apply Kd.S_drewN | apply Kd.S_drew)); exact HO254.out) (Kd.S_base ho0) hb); have n1_ := Aside0.mk (Kd.S_lower (Kd.S_new' ho0 (Kd.S_lt (by (with_reducible repeat (first | apply Kd.S_alloc | apply Kd.S_drewN | apply Kd.S_drew)); exact HO254.out))) (bSz (by repeat (first | (with_reducible first | exact HB.out | apply bAl | apply bDN | apply bD1 | refine bSe ?_ GE244.out) | exact HB.out)))); have n2_ := Aside0.mk (kBe (g := gb244) (o := .cells #[.int .i64 a0_0, .int .i64 a0_1, .int .i64 a0_2, .int .i64 a0_3, .int .i64 a0_4, .int .i64 a0_5, .slice A0_6 l0_6.length c0_6] 24 (0, 0)) (by (with_reducible repeat first | refine kDN ?_ _ | refine kDr ?_ | refine kAl ?_ _); exact BK244.out) hb); have n3_ := Aside0.mk (bSt (by repeat (first | (with_reducible first | exact HB.out | apply bAl | apply bDN | apply bD1 | refine bSe ?_ GE244.out) | exact HB.out)) hb); clear HO254; clear BK244; clear HB; have HO254 := n0_; have HO264 := n1_; have BK244 := n2_; have HB := n3_; clear n0_ n1_ n2_ n3_; (try clear hb); (try clear hb2); (try clear hk); (try clear hi); (try clear ho0)) | ((with_reducible refine gDs (N := 5) rfl ?_); refine bEv ?hg (N := 5) ?hd (cs := #[.int .i64 0, .int .i64 0, .int .i64 0, .int .i64 0, .int .i64 0, .int .i64 0, .slice none 0 0]) (t := 29) ?hr ?_; (case hd => rfl); (case hg => rfl); (case hr => first | (go_simp; done) | (go_simp; rfl)); intro gb265 hg w60 hbox hb; have n0_ := Aside0.mk (Kd.S_below (by (with_reducible repeat (first | apply Kd.S_alloc | apply Kd.S_drewN | apply Kd.S_drew)); exact HO254.out) hb); have n1_ := Aside0.mk (Kd.S_below (by (with_reducible repeat (first | apply Kd.S_alloc | apply Kd.S_drewN | apply Kd.S_drew)); exact HO264.out) hb); have n2_ := Aside0.mk (kBe (g := gb244) (o := .cells #[.int .i64 a0_0, .int .i64 a0_1, .int .i64 a0_2, .int .i64 a0_3, .int .i64 a0_4, .int .i64 a0_5, .slice A0_6 l0_6.length c0_6] 24 (0, 0)) (by (with_reducible repeat first | refine kDN ?_ _ | refine kDr ?_ | refine kAl ?_ _); exact BK244.out) hb); have n3_ := Aside0.mk (bSt (by repeat (first | (with_reducible first | exact HB.out | apply bAl | apply bDN | apply bD1 | refine bSe ?_ GE244.out) | exact HB.out)) hb); have n4_ := Aside0.mk (hbox); have n5_ := Aside0.mk ((by rw [hg]; exact (bSz (by repeat (first | (with_reducible first | exact HB.out | apply bAl | apply bDN | apply bD1 | refine bSe ?_ GE244.out) | exact HB.out))) : w.heap.size ≤ gb265)); have n6_ := Aside0.mk ((by rw [hg]; exact (bSz (by repeat (first | (with_reducible first | exact HB.out | apply bAl | apply bDN | apply bD1 | refine bSe ?_ GE244.out) | exact HB.out))) : w.heap.size ≤ gb265)); have n7_ := Aside0.mk ((by rw [hg]; exact Nat.ne_of_lt (blk_lt (g := gb244) (o := .cells #[.int .i64 a0_0, .int .i64 a0_1, .int .i64 a0_2, .int .i64 a0_3, .int .i64 a0_4, .int .i64 a0_5, .slice A0_6 l0_6.length c0_6] 24 (0, 0)) (by (with_reducible repeat first | refine kDN ?_ _ | refine kDr ?_ | refine kAl ?_ _); exact BK244.out)) : gb244 ≠ gb265)); have n8_ := Aside0.mk ((by rw [hg]; exact Nat.ne_of_gt (blk_lt (g := gb244) (o := .cells #[.int .i64 a0_0, .int .i64 a0_1, .int .i64 a0_2, .int .i64 a0_3, .int .i64 a0_4, .int .i64 a0_5, .slice A0_6 l0_6.length c0_6] 24 (0, 0)) (by (with_reducible repeat first | refine kDN ?_ _ | refine kDr ?_ | refine kAl ?_ _); exact BK244.out)) : gb265 ≠ gb244)); clear HO254; clear HO264; clear BK244; clear HB; have HO254 := n0_; have HO264 := n1_; have BK244 := n2_; have HB := n3_; have BK265 := n4_; have GW265 := n5_; have GE265 := n6_; have NB244_265 := n7_; have NB265_244 := n8_; clear n0_ n1_ n2_ n3_ n4_ n5_ n6_ n7_ n8_; clear hb hbox hg; have hnb61 := NB265_244.out; have hnc61 := NB244_265.out; have hcz62_0 : w60.cell? ⟨gb265, 0, none⟩ = some (.int .i64 0) := (kCe BK265.out 0).trans rfl; have hcz62_1 : w60.cell? ⟨gb265, 1, none⟩ = some (.int .i64 0) := (kCe BK265.out 1).trans rfl; have hcz62_2 : w60.cell? ⟨gb265, 2, none⟩ = some (.int .i64 0) := (kCe BK265.out 2).trans rfl; have hcz62_3 : w60.cell? ⟨gb265, 3, none⟩ = some (.int .i64 0) := (kCe BK265.out 3).trans rfl; have hcz62_4 : w60.cell? ⟨gb265, 4, none⟩ = some (.int .i64 0) := (kCe BK265.out 4).trans rfl; have hcz62_5 : w60.cell? ⟨gb265, 5, none⟩ = some (.int .i64 0) := (kCe BK265.out 5).trans rfl; have hcz62_6 : w60.cell? ⟨gb265, 6, none⟩ = some (.slice none 0 0) := (kCe BK265.out 6).trans rfl; have hfz62_0 := kFr BK265.out 0; have hfz62_1 := kFr BK265.out 1; have hfz62_2 := kFr BK265.out 2; have hfz62_3 := kFr BK265.out 3; have hfz62_4 := kFr BK265.out 4; have hfz62_5 := kFr BK265.out 5; have hfz62_6 := kFr BK265.out 6; obtain ⟨Ao63, co63, eo63⟩ := Kd.S_slice HO264.out; subst eo63) | ((with_reducible refine gCa (f := 15) rfl ?_); refine goesL_ (some 18) rfl rfl Try.func15 (by kernel_rfl) rfl #[.agg #[.int .i64 t256, .int .i64 t257, .int .i64 t258, .int .i64 t259, .int .i64 t260, .int .i64 t261, .slice Ao63 t262.length co63]] rfl (by (try simp only [List.map_toArray, List.map_cons, List.map_nil]); first | done | rfl | (simp only [List.length_drop, List.length_take]; rfl)) ?_; (with_reducible refine (impl_LastOffset.calls k t256 t257 t258 t259 t260 t261 _ _ t262 t266 _ ?side1 ?side2 A10.out).mono ?_); (case side1 => refine (Kd.S_reads' (e := 56) (base := w.heap.size) (ok := fun k_ => (True ∧ some k_ ≠ (.slice Ao56 t252.length co56 : Value).ownBlock)) (n := t262.length) (c := co63) ?_).2.2; exact (by (with_reducible repeat (first | apply Kd.S_alloc | apply Kd.S_drewN | apply Kd.S_drew)); exact (Kd.S_mono (Kd.S_far (p := ⟨gb265, 6, none⟩) (Kd.S_far (p := ⟨gb265, 5, none⟩) (Kd.S_far (p := ⟨gb265, 4, none⟩) (Kd.S_far (p := ⟨gb265, 3, none⟩) (Kd.S_far (p := ⟨gb265, 2, none⟩) (Kd.S_far (p := ⟨gb265, 1, none⟩) (Kd.S_far (p := ⟨gb265, 0, none⟩) (Kd.S_types HO264.out BK265.out (by decide)) (fun _ hk => hk.2) (.int .i64 t256)) (fun _ hk => hk.2) (.int .i64 t257)) (fun _ hk => hk.2) (.int .i64 t258)) (fun _ hk => hk.2) (.int .i64 t259)) (fun _ hk => hk.2) (.int .i64 t260)) (fun _ hk => hk.2) (.int .i64 t261)) (fun _ hk => hk.2) (.slice Ao63 t262.length co63)) (fun _ h_ => h_.1)))); (case side2 => exact (Kd.S_reads' HO264.out).2.1); rintro e w64 ⟨rfl, hb⟩; refine ⟨_, rfl, ?_⟩; have n0_ := Aside0.mk (Kd.S_below (by (with_reducible repeat (first | apply Kd.S_alloc | apply Kd.S_drewN | apply Kd.S_drew)); exact (Kd.S_mono (Kd.S_far (p := ⟨gb265, 6, none⟩) (Kd.S_far (p := ⟨gb265, 5, none⟩) (Kd.S_far (p := ⟨gb265, 4, none⟩) (Kd.S_far (p := ⟨gb265, 3, none⟩) (Kd.S_far (p := ⟨gb265, 2, none⟩) (Kd.S_far (p := ⟨gb265, 1, none⟩) (Kd.S_far (p := ⟨gb265, 0, none⟩) (Kd.S_types HO254.out BK265.out (by decide)) (fun _ hk => hk.2) (.int .i64 t256)) (fun _ hk => hk.2) (.int .i64 t257)) (fun _ hk => hk.2) (.int .i64 t258)) (fun _ hk => hk.2) (.int .i64 t259)) (fun _ hk => hk.2) (.int .i64 t260)) (fun _ hk => hk.2) (.int .i64 t261)) (fun _ hk => hk.2) (.slice Ao63 t262.length co63)) (fun _ h_ => h_.1))) hb); have n1_ := Aside0.mk (Kd.S_below (by (with_reducible repeat (first | apply Kd.S_alloc | apply Kd.S_drewN | apply Kd.S_drew)); exact (Kd.S_mono (Kd.S_far (p := ⟨gb265, 6, none⟩) (Kd.S_far (p := ⟨gb265, 5, none⟩) (Kd.S_far (p := ⟨gb265, 4, none⟩) (Kd.S_far (p := ⟨gb265, 3, none⟩) (Kd.S_far (p := ⟨gb265, 2, none⟩) (Kd.S_far (p := ⟨gb265, 1, none⟩) (Kd.S_far (p := ⟨gb265, 0, none⟩) (Kd.S_types HO264.out BK265.out (by decide)) (fun _ hk => hk.2) (.int .i64 t256)) (fun _ hk => hk.2) (.int .i64 t257)) (fun _ hk => hk.2) (.int .i64 t258)) (fun _ hk => hk.2) (.int .i64 t259)) (fun _ hk => hk.2) (.int .i64 t260)) (fun _ hk => hk.2) (.int .i64 t261)) (fun _ hk => hk.2) (.slice Ao63 t262.length co63)) (fun _ h_ => h_.1))) hb); have n2_ := Aside0.mk (kBe (g := gb244) (o := .cells #[.int .i64 a0_0, .int .i64 a0_1, .int .i64 a0_2, .int .i64 a0_3, .int .i64 a0_4, .int .i64 a0_5, .slice A0_6 l0_6.length c0_6] 24 (0, 0)) (by (with_reducible repeat first | refine kDN ?_ _ | refine kDr ?_ | refine kAl ?_ _); refine blk_far ?_ NB244_265.out _; (with_reducible repeat first | refine kDN ?_ _ | refine kDr ?_ | refine kAl ?_ _); refine blk_far ?_ NB244_265.out _; (with_reducible repeat first | refine kDN ?_ _ | refine kDr ?_ | refine kAl ?_ _); refine blk_far ?_ NB244_265.out _; (with_reducible repeat first | refine kDN ?_ _ | refine kDr ?_ | refine kAl ?_ _); refine blk_far ?_ NB244_265.out _; (with_reducible repeat first | refine kDN ?_ _ | refine kDr ?_ | refine kAl ?_ _); refine blk_far ?_ NB244_265.out _; (with_reducible repeat first | refine kDN ?_ _ | refine kDr ?_ | refine kAl ?_ _); refine blk_far ?_ NB244_265.out _; (with_reducible repeat first | refine kDN ?_ _ | refine kDr ?_ | refine kAl ?_ _); refine blk_far ?_ NB244_265.out _; (with_reducible repeat first | refine kDN ?_ _ | refine kDr ?_ | refine kAl ?_ _); exact BK244.out) hb); have n3_ := Aside0.mk (kBe (g := gb265) (o := .cells #[.int .i64 t256, .int .i64 t257, .int .i64 t258, .int .i64 t259, .int .i64 t260, .int .i64 t261, .slice Ao63 t262.length co63] 29 (0, 0)) (by (with_reducible repeat first | refine kDN ?_ _ | refine kDr ?_ | refine kAl ?_ _); refine blk_put (cs := #[.int .i64 t256, .int .i64 t257, .int .i64 t258, .int .i64 t259, .int .i64 t260, .int .i64 t261, .slice none 0 0]) ?_ 6 _ rfl; (with_reducible repeat first | refine kDN ?_ _ | refine kDr ?_ | refine kAl ?_ _); refine blk_put (cs := #[.int .i64 t256, .int .i64 t257, .int .i64 t258, .int .i64 t259, .int .i64 t260, .int .i64 0, .slice none 0 0]) ?_ 5 _ rfl; (with_reducible repeat first | refine kDN ?_ _ | refine kDr ?_ | refine kAl ?_ _); refine blk_put (cs := #[.int .i64 t256, .int .i64 t257, .int .i64 t258, .int .i64 t259, .int .i64 0, .int .i64 0, .slice none 0 0]) ?_ 4 _ rfl; (with_reducible repeat first | refine kDN ?_ _ | refine kDr ?_ | refine kAl ?_ _); refine blk_put (cs := #[.int .i64 t256, .int .i64 t257, .int .i64 t258, .int .i64 0, .int .i64 0, .int .i64 0, .slice none 0 0]) ?_ 3 _ rfl; (with_reducible repeat first | refine kDN ?_ _ | refine kDr ?_ | refine kAl ?_ _); refine blk_put (cs := #[.int .i64 t256, .int .i64 t257, .int .i64 0, .int .i64 0, .int .i64 0, .int .i64 0, .slice none 0 0]) ?_ 2 _ rfl; (with_reducible repeat first | refine kDN ?_ _ | refine kDr ?_ | refine kAl ?_ _); refine blk_put (cs := #[.int .i64 t256, .int .i64 0, .int .i64 0, .int .i64 0, .int .i64 0, .int .i64 0, .slice none 0 0]) ?_ 1 _ rfl; (with_reducible repeat first | refine kDN ?_ _ | refine kDr ?_ | refine kAl ?_ _); refine blk_put (cs := #[.int .i64 0, .int .i64 0, .int .i64 0, .int .i64 0, .int .i64 0, .int .i64 0, .slice none 0 0]) ?_ 0 _ rfl; (with_reducible repeat first | refine kDN ?_ _ | refine kDr ?_ | refine kAl ?_ _); exact BK265.out) hb); have n4_ := Aside0.mk (bSt (by repeat (first | (with_reducible first | exact HB.out | apply bAl | apply bDN | apply bD1 | refine bSe ?_ GE244.out | refine bSe ?_ GE265.out) | exact HB.out)) hb); clear HO254; clear HO264; clear BK244; clear BK265; clear HB; have HO254 := n0_; have HO264 := n1_; have BK244 := n2_; have BK265 := n3_; have HB := n4_; clear n0_ n1_ n2_ n3_ n4_; (try clear hb); (try clear hb2); (try clear hk); (try clear hi)))
   go_ret
   exact ⟨by first | rfl | (simp [errW_none, errW_some] <;> rfl) | (simp [*, errW_none, errW_some] <;> rfl), by repeat (first | (with_reducible first | exact HB.out | apply bAl | apply bDN | apply bD1 | refine bSe ?_ GE244.out | refine bSe ?_ GE265.out) | exact HB.out)⟩

end Go.Proofs.Ytjbcgflpeomkfaa.F

namespace Go.Proofs.Ytjbcgflpeomkfaa.Open
open Go.RowKit Go.Proofs.YtjbcgflpeomkfaaW.PrintWords
set_option linter.unusedVariables false

/-- Whatever is read at type t is of the kind d, and Wf is known of it. -/
structure Rd {α : Type} (P : Program) (d : Kd α) (Wf : α → Prop) (t : TypeId) : Prop where
  cells : P.cellsOf t = d.sz
  out : ∀ {H : Type} {enc : TypeId × Value → H} {W : World} {sp : Nat → Bool} {fuel : Nat} {cs : List Value} {x : DataW H × List MemPlace}, DataW.trod enc P W 0 sp true fuel t cs = some x → ∃ y, d.K W y cs ∧ Wf y

def wfInt (k : IntKind) (n : Int) : Prop := (Lit.int k n).wf = true
def wfStr (s : ByteArray) : Prop := s.size ≤ maxLen
def wfBool (_ : Bool) : Prop := True
def wfList {α : Type} (Wf : α → Prop) (xs : List α) : Prop := xs.length ≤ maxLen ∧ ∀ x ∈ xs, Wf x
def wfPair {α β : Type} (Wa : α → Prop) (Wb : β → Prop) (x : α × β) : Prop := Wa x.1 ∧ Wb x.2

section
variable {P : Program}
theorem Rd.int {t : TypeId} {k : IntKind} (hc : P.cellsOf t = 1) (ht : P.underlying t = some (.int k)) : Rd P (Kd.int k) (wfInt k) t := by
  refine ⟨hc, fun {H enc W sp fuel cs x} h => ?_⟩
  cases fuel with
  | zero => simp [DataW.trod] at h
  | succ fuel =>
    rw [DataW.trod.eq_def] at h
    simp only [ht] at h
    split at h <;> simp_all
    obtain ⟨⟨rfl, hw⟩, _⟩ := h
    exact ⟨_, rfl, hw⟩
theorem Rd.bool {t : TypeId} (hc : P.cellsOf t = 1) (ht : P.underlying t = some .bool) : Rd P Kd.bool wfBool t := by
  refine ⟨hc, fun {H enc W sp fuel cs x} h => ?_⟩
  cases fuel with
  | zero => simp [DataW.trod] at h
  | succ fuel =>
    rw [DataW.trod.eq_def] at h
    simp only [ht] at h
    split at h <;> simp_all
    rename_i b
    cases b
    · exact Or.inl ⟨rfl, trivial⟩
    · exact Or.inr ⟨rfl, trivial⟩
theorem Rd.string {t : TypeId} (hc : P.cellsOf t = 1) (ht : P.underlying t = some .string) : Rd P Kd.string wfStr t := by
  refine ⟨hc, fun {H enc W sp fuel cs x} h => ?_⟩
  cases fuel with
  | zero => simp [DataW.trod] at h
  | succ fuel =>
    rw [DataW.trod.eq_def] at h
    simp only [ht] at h
    split at h <;> simp_all
    rename_i s
    exact ⟨s, rfl, h.1⟩
theorem Rd.slice {α : Type} [Inhabited α] {d : Kd α} {Wf : α → Prop} {t e : TypeId} (hc : P.cellsOf t = 1) (ht : P.underlying t = some (.slice e)) (h : Rd P d Wf e) : Rd P (Kd.slice e d) (wfList Wf) t := by
  refine ⟨hc, fun {H enc W sp fuel cs x} h0 => ?_⟩
  rcases Go.Deep.open_slice ht h0 with ⟨rfl, _⟩ | ⟨a, len, cap, m, n, D, Pl, rfl, hb, hl, hm, hmm, _, hx⟩
  · exact ⟨[], ⟨none, 0, rfl, Nat.le_refl _, rfl, by simp, fun h => absurd h (Nat.lt_irrefl _)⟩, by simp, by simp⟩
  · have hlm : len ≤ m := by rw [hmm]; split <;> omega
    obtain ⟨f, hf⟩ := Go.Deep.choose_lt (n := len) (p := fun i y => ∃ cs', W.cells? 0 (a.add (i * P.cellsOf e)) (P.cellsOf e) = some cs' ∧ d.K W y cs' ∧ Wf y) (fun i hi => by
      obtain ⟨cs', h1, h2⟩ := hx i (by omega)
      obtain ⟨y, hy⟩ := h.out h2
      exact ⟨y, cs', h1, hy⟩)
    have hlen : ((List.range len).map f).length = len := by simp
    refine ⟨(List.range len).map f, ⟨some a, cap, by rw [hlen], by rw [hlen]; exact hl, hlen.trans hlen.symm, ?_, fun hp => ⟨a, rfl, ?_⟩⟩, by rw [hlen]; exact Nat.le_trans hl hm, ?_⟩
    · rw [hlen]; simp only [maxLen] at hm; omega
    · intro j p hj
      have hjl : j < len := by have := (List.getElem?_eq_some_iff.1 hj).1; simpa using this
      obtain rfl : f j = p := by simpa [hjl] using hj
      obtain ⟨cs', h1, h2, _⟩ := hf j hjl
      rw [h.cells] at h1
      obtain ⟨_, hlc, hcell⟩ := World.cells?_some h1
      refine ⟨cs', hlc, h2, fun i u hu => ?_⟩
      have hi : i < d.sz := by have := (List.getElem?_eq_some_iff.1 hu).1; omega
      have := hcell i hi
      rw [Go.Deep.add_add] at this
      rw [this, hu]
    · intro x hx2
      obtain ⟨i, hi, rfl⟩ := List.mem_map.1 hx2
      obtain ⟨_, _, _, hw⟩ := hf i (List.mem_range.1 hi)
      exact hw

/-- Fields from place off on, one behind the other. -/
structure RdF {α : Type} (P : Program) (d : Kd α) (Wf : α → Prop) (fs : List Field) (off : Nat) : Prop where
  out : ∀ {H : Type} {enc : TypeId × Value → H} {W : World} {sp : Nat → Bool} {fuel : Nat} {cs : List Value} {xs : List (DataW H × List MemPlace)}, cs.length = off + d.sz →
    fs.mapM (fun f => DataW.trod enc P W 0 sp true fuel f.type ((cs.drop f.offset).take (P.cellsOf f.type))) = some xs → ∃ y, d.K W y (cs.drop off) ∧ Wf y
theorem RdF.last {α : Type} {d : Kd α} {Wf : α → Prop} {f : Field} {off : Nat} (ho : f.offset = off) (h : Rd P d Wf f.type) : RdF P d Wf [f] off := by
  refine ⟨fun {H enc W sp fuel cs xs} hl h0 => ?_⟩
  simp only [List.mapM_cons, List.mapM_nil] at h0
  obtain ⟨x, hx, _⟩ := Option.bind_eq_some_iff.1 h0
  rw [ho, h.cells, List.take_of_length_le (by simp; omega)] at hx
  exact h.out hx
theorem RdF.cons {α β : Type} {d : Kd α} {d' : Kd β} {Wf : α → Prop} {Wf' : β → Prop} {f : Field} {fs : List Field} {off : Nat} (ho : f.offset = off) (h : Rd P d Wf f.type) (h' : RdF P d' Wf' fs (off + d.sz)) : RdF P (Kd.pair d d') (wfPair Wf Wf') (f :: fs) off := by
  refine ⟨fun {H enc W sp fuel cs xs} hl h0 => ?_⟩
  have hl' : cs.length = off + (d.sz + d'.sz) := hl
  simp only [List.mapM_cons] at h0
  obtain ⟨x, hx, h1⟩ := Option.bind_eq_some_iff.1 h0
  obtain ⟨ys, hy, _⟩ := Option.bind_eq_some_iff.1 h1
  rw [ho, h.cells] at hx
  obtain ⟨a, ha, hwa⟩ := h.out hx
  obtain ⟨b, hb, hwb⟩ := h'.out (by omega) hy
  refine ⟨(a, b), ⟨(cs.drop off).take d.sz, cs.drop (off + d.sz), ?_, ha, hb⟩, hwa, hwb⟩
  rw [← List.drop_drop, List.take_append_drop]
theorem Rd.struct {α : Type} {d : Kd α} {Wf : α → Prop} {t : TypeId} {fs : Array Field} (hc : P.cellsOf t = d.sz) (ht : P.underlying t = some (.struct fs)) (h : RdF P d Wf fs.toList 0) : Rd P d Wf t := by
  refine ⟨hc, fun {H enc W sp fuel cs x} h0 => ?_⟩
  cases fuel with
  | zero => simp [DataW.trod] at h0
  | succ fuel =>
    rw [DataW.trod.eq_def] at h0
    simp only [ht] at h0
    by_cases hl : cs.length = P.cellsOf t
    · simp only [hl, if_true] at h0
      obtain ⟨xs, hxs, _⟩ := Option.map_eq_some_iff.1 h0
      have := h.out (by rw [hl, hc]; omega) hxs
      simpa using this
    · simp [hl] at h0
theorem Rd.iso {α β : Type} {d : Kd α} {Wf : α → Prop} {t : TypeId} (f : β → α) (g : α → β) (hfg : ∀ y, f (g y) = y) (h : Rd P d Wf t) : Rd P (Kd.iso d f) (fun x => Wf (f x)) t :=
  ⟨h.cells, fun h0 => by
    obtain ⟨y, h1, h2⟩ := h.out h0
    exact ⟨g y, by show d.K _ (f (g y)) _; rw [hfg]; exact h1, by show Wf (f (g y)); rw [hfg]; exact h2⟩⟩
end
end Go.Proofs.Ytjbcgflpeomkfaa.Open

namespace Go.Proofs.Ytjbcgflpeomkfaa.Kinds
open Go.RowKit Go.Proofs.Ytjbcgflpeomkfaa.F Go.Proofs.Ytjbcgflpeomkfaa.Open Go.Proofs.YtjbcgflpeomkfaaW.PrintWords
set_option linter.unusedVariables false
theorem rd3 : Rd Try.prog (Kd.int .i64) (wfInt .i64) 3 := Rd.int (by kernel_rfl) Try.underlying3
theorem rd4 : Rd Try.prog Kd.bool wfBool 4 := Rd.bool (by kernel_rfl) Try.underlying4
theorem rd9 : Rd Try.prog Kd.string wfStr 9 := Rd.string (by kernel_rfl) Try.underlying9
instance : Inhabited S93 := ⟨z93⟩
def Wf93 (x : S93) : Prop := (wfPair wfStr wfStr) (x.f0, x.f1)
theorem rd93 : Rd Try.prog k93 Wf93 93 := Rd.iso (fun x : S93 => (x.f0, x.f1)) (fun y => (⟨y.1, y.2⟩ : S93)) (fun _ => rfl) (Rd.struct (by kernel_rfl) Try.underlying93 (RdF.cons rfl rd9 (RdF.last rfl rd9)))
theorem rd70 : Rd Try.prog (Kd.slice 93 k93) (wfList Wf93) 70 := Rd.slice (by kernel_rfl) Try.underlying70 rd93
instance : Inhabited S72 := ⟨z72⟩
def Wf72 (x : S72) : Prop := (wfPair (wfInt .i64) (wfPair wfBool (wfPair wfStr (wfPair wfBool (wfPair wfStr (wfList Wf93)))))) (x.f0, x.f1, x.f2, x.f3, x.f4, x.f5)
theorem rd72 : Rd Try.prog k72 Wf72 72 := Rd.iso (fun x : S72 => (x.f0, x.f1, x.f2, x.f3, x.f4, x.f5)) (fun y => (⟨y.1, y.2.1, y.2.2.1, y.2.2.2.1, y.2.2.2.2.1, y.2.2.2.2.2⟩ : S72)) (fun _ => rfl) (Rd.struct (by kernel_rfl) Try.underlying72 (RdF.cons rfl rd3 (RdF.cons rfl rd4 (RdF.cons rfl rd9 (RdF.cons rfl rd4 (RdF.cons rfl rd9 (RdF.last rfl rd70)))))))
theorem rd22 : Rd Try.prog (Kd.slice 72 k72) (wfList Wf72) 22 := Rd.slice (by kernel_rfl) Try.underlying22 rd72
instance : Inhabited S24 := ⟨z24⟩
def Wf24 (x : S24) : Prop := (wfPair (wfInt .i64) (wfPair (wfInt .i64) (wfPair (wfInt .i64) (wfPair (wfInt .i64) (wfPair (wfInt .i64) (wfPair (wfInt .i64) (wfList Wf72))))))) (x.f0, x.f1, x.f2, x.f3, x.f4, x.f5, x.f6)
theorem rd24 : Rd Try.prog k24 Wf24 24 := Rd.iso (fun x : S24 => (x.f0, x.f1, x.f2, x.f3, x.f4, x.f5, x.f6)) (fun y => (⟨y.1, y.2.1, y.2.2.1, y.2.2.2.1, y.2.2.2.2.1, y.2.2.2.2.2.1, y.2.2.2.2.2.2⟩ : S24)) (fun _ => rfl) (Rd.struct (by kernel_rfl) Try.underlying24 (RdF.cons rfl rd3 (RdF.cons rfl rd3 (RdF.cons rfl rd3 (RdF.cons rfl rd3 (RdF.cons rfl rd3 (RdF.cons rfl rd3 (RdF.last rfl rd22))))))))
instance : Inhabited S74 := ⟨z74⟩
def Wf74 (x : S74) : Prop := (wfPair wfStr wfStr) (x.f0, x.f1)
theorem rd74 : Rd Try.prog k74 Wf74 74 := Rd.iso (fun x : S74 => (x.f0, x.f1)) (fun y => (⟨y.1, y.2⟩ : S74)) (fun _ => rfl) (Rd.struct (by kernel_rfl) Try.underlying74 (RdF.cons rfl rd9 (RdF.last rfl rd9)))
theorem rd54 : Rd Try.prog (Kd.slice 74 k74) (wfList Wf74) 54 := Rd.slice (by kernel_rfl) Try.underlying54 rd74
instance : Inhabited S56 := ⟨z56⟩
def Wf56 (x : S56) : Prop := (wfPair (wfInt .i64) (wfPair wfBool (wfPair wfStr (wfPair wfBool (wfPair wfStr (wfList Wf74)))))) (x.f0, x.f1, x.f2, x.f3, x.f4, x.f5)
theorem rd56 : Rd Try.prog k56 Wf56 56 := Rd.iso (fun x : S56 => (x.f0, x.f1, x.f2, x.f3, x.f4, x.f5)) (fun y => (⟨y.1, y.2.1, y.2.2.1, y.2.2.2.1, y.2.2.2.2.1, y.2.2.2.2.2⟩ : S56)) (fun _ => rfl) (Rd.struct (by kernel_rfl) Try.underlying56 (RdF.cons rfl rd3 (RdF.cons rfl rd4 (RdF.cons rfl rd9 (RdF.cons rfl rd4 (RdF.cons rfl rd9 (RdF.last rfl rd54)))))))
theorem rd27 : Rd Try.prog (Kd.slice 56 k56) (wfList Wf56) 27 := Rd.slice (by kernel_rfl) Try.underlying27 rd56
instance : Inhabited S29 := ⟨z29⟩
def Wf29 (x : S29) : Prop := (wfPair (wfInt .i64) (wfPair (wfInt .i64) (wfPair (wfInt .i64) (wfPair (wfInt .i64) (wfPair (wfInt .i64) (wfPair (wfInt .i64) (wfList Wf56))))))) (x.f0, x.f1, x.f2, x.f3, x.f4, x.f5, x.f6)
theorem rd29 : Rd Try.prog k29 Wf29 29 := Rd.iso (fun x : S29 => (x.f0, x.f1, x.f2, x.f3, x.f4, x.f5, x.f6)) (fun y => (⟨y.1, y.2.1, y.2.2.1, y.2.2.2.1, y.2.2.2.2.1, y.2.2.2.2.2.1, y.2.2.2.2.2.2⟩ : S29)) (fun _ => rfl) (Rd.struct (by kernel_rfl) Try.underlying29 (RdF.cons rfl rd3 (RdF.cons rfl rd3 (RdF.cons rfl rd3 (RdF.cons rfl rd3 (RdF.cons rfl rd3 (RdF.cons rfl rd3 (RdF.last rfl rd27))))))))
theorem rd62 : Rd Try.prog (Kd.slice 29 k29) (wfList Wf29) 62 := Rd.slice (by kernel_rfl) Try.underlying62 rd29
instance : Inhabited S64 := ⟨z64⟩
def Wf64 (x : S64) : Prop := (wfPair (wfInt .i64) (wfList Wf29)) (x.f0, x.f1)
theorem rd64 : Rd Try.prog k64 Wf64 64 := Rd.iso (fun x : S64 => (x.f0, x.f1)) (fun y => (⟨y.1, y.2⟩ : S64)) (fun _ => rfl) (Rd.struct (by kernel_rfl) Try.underlying64 (RdF.cons rfl rd3 (RdF.last rfl rd62)))
theorem rd78 : Rd Try.prog (Kd.slice 24 k24) (wfList Wf24) 78 := Rd.slice (by kernel_rfl) Try.underlying78 rd24
instance : Inhabited S80 := ⟨z80⟩
def Wf80 (x : S80) : Prop := (wfPair (wfInt .i64) (wfList Wf24)) (x.f0, x.f1)
theorem rd80 : Rd Try.prog k80 Wf80 80 := Rd.iso (fun x : S80 => (x.f0, x.f1)) (fun y => (⟨y.1, y.2⟩ : S80)) (fun _ => rfl) (Rd.struct (by kernel_rfl) Try.underlying80 (RdF.cons rfl rd3 (RdF.last rfl rd78)))
theorem rd2 : Rd Try.prog (Kd.int .i64) (wfInt .i64) 2 := Rd.int (by kernel_rfl) Try.underlying2
theorem rd5 : Rd Try.prog (Kd.int .u8) (wfInt .u8) 5 := Rd.int (by kernel_rfl) Try.underlying5
theorem rd12 : Rd Try.prog (Kd.int .u64) (wfInt .u64) 12 := Rd.int (by kernel_rfl) Try.underlying12
theorem rd21 : Rd Try.prog (Kd.int .i32) (wfInt .i32) 21 := Rd.int (by kernel_rfl) Try.underlying21
theorem rd34 : Rd Try.prog (Kd.slice 80 k80) (wfList Wf80) 34 := Rd.slice (by kernel_rfl) Try.underlying34 rd80
theorem rd39 : Rd Try.prog (Kd.slice 64 k64) (wfList Wf64) 39 := Rd.slice (by kernel_rfl) Try.underlying39 rd64
theorem rd98 : Rd Try.prog (Kd.slice 5 (Kd.int .u8)) (wfList (wfInt .u8)) 98 := Rd.slice (by kernel_rfl) Try.underlying98 rd5
theorem rd106 : Rd Try.prog (Kd.int .u32) (wfInt .u32) 106 := Rd.int (by kernel_rfl) Try.underlying106
end Go.Proofs.Ytjbcgflpeomkfaa.Kinds

namespace Go.Proofs.Ytjbcgflpeomkfaa.KindsFnExactLastOffset
open Go.RowKit Go.Proofs.Ytjbcgflpeomkfaa.F Go.Proofs.Ytjbcgflpeomkfaa.Open Go.Proofs.YtjbcgflpeomkfaaW.PrintWords Go.Proofs.Ytjbcgflpeomkfaa.Kinds
set_option linter.unusedVariables false
def kp24 := (Kd.pair (Kd.int .i64) (Kd.pair (Kd.int .i64) (Kd.pair (Kd.int .i64) (Kd.pair (Kd.int .i64) (Kd.pair (Kd.int .i64) (Kd.pair (Kd.int .i64) (Kd.slice 72 k72)))))))
def wp24 := (wfPair (wfInt .i64) (wfPair (wfInt .i64) (wfPair (wfInt .i64) (wfPair (wfInt .i64) (wfPair (wfInt .i64) (wfPair (wfInt .i64) (wfList Wf72)))))))
theorem rdp24 : Rd Try.prog kp24 wp24 24 := (Rd.struct (by kernel_rfl) Try.underlying24 (RdF.cons rfl rd3 (RdF.cons rfl rd3 (RdF.cons rfl rd3 (RdF.cons rfl rd3 (RdF.cons rfl rd3 (RdF.cons rfl rd3 (RdF.last rfl rd22))))))))
theorem kp24_open {w : World} {b0 : Int} {b1 : Int} {b2 : Int} {b3 : Int} {b4 : Int} {b5 : Int} {b6 : List (S72)} {cs : List Value} (h : kp24.K w (b0, b1, b2, b3, b4, b5, b6) cs) : ∃ Ab6 cb6, cs = [.int .i64 b0, .int .i64 b1, .int .i64 b2, .int .i64 b3, .int .i64 b4, .int .i64 b5, .slice Ab6 b6.length cb6] ∧ b6.length ≤ cb6 ∧ Kd.C k72 w Ab6 b6.length b6 := by
  obtain ⟨_, _, rfl, rfl, ⟨_, _, rfl, rfl, ⟨_, _, rfl, rfl, ⟨_, _, rfl, rfl, ⟨_, _, rfl, rfl, ⟨_, _, rfl, rfl, ⟨Ab6, cb6, rfl, lb6, gb6⟩⟩⟩⟩⟩⟩⟩ := h
  exact ⟨Ab6, cb6, rfl, lb6, gb6⟩
end Go.Proofs.Ytjbcgflpeomkfaa.KindsFnExactLastOffset

namespace Go.Proofs.Ytjbcgflpeomkfaa.G
open Go.RowKit Go.Proofs.YtjbcgflpeomkfaaW.PrintWords Go.Proofs.YtjbcgflpeomkfaaW.PrintLast Go.Proofs.YtjbcgflpeomkfaaW.PrintMore
set_option linter.unusedVariables false

theorem wrapI {x : Int} (h0 : -9223372036854775808 ≤ x) (h : x ≤ 9223372036854775807) : wrap64 x = x := by
  unfold wrap64; omega
theorem wrapU {x : Int} (h0 : 0 ≤ x) (h : x < 18446744073709551616) : IntKind.u64.wrap x = x := by
  simp [IntKind.wrap, IntKind.bits, IntKind.signed]; omega
theorem tmod_pos {a b : Int} (h : 0 ≤ a) : Int.tmod a b = a % b := Int.tmod_eq_emod_of_nonneg h
theorem tdiv_pos {a b : Int} (h : 0 ≤ a) : Int.tdiv a b = a / b := Int.tdiv_eq_ediv_of_nonneg h
theorem wraps_i64 (n : Int) (h0 : 0 ≤ n) (h : n < 2 ^ 63) : IntKind.i64.wrap n = n := by rw [IntKind.wrap_i64]; omega
theorem wraps_u64 (n : Int) (h0 : 0 ≤ n) (h : n < 2 ^ 64) : IntKind.u64.wrap n = n := wrapU h0 (by omega)
theorem wfI {n : Int} (h : (Lit.int .i64 n).wf = true) : -9223372036854775808 ≤ n ∧ n ≤ 9223372036854775807 := by
  simp [Lit.wf, IntKind.min, IntKind.max, IntKind.bits, IntKind.signed] at h
  omega
theorem wf8 {n : Int} (h : (Lit.int .u8 n).wf = true) : 0 ≤ n ∧ n < 256 := by
  simp [Lit.wf, IntKind.min, IntKind.max, IntKind.bits, IntKind.signed] at h
  omega

/-- Bits: what stays of a byte's mask, of a number's last bit. -/
theorem and127 {c : Int} (h0 : 0 ≤ c) (h : c < 256) : Go.bits .and .u8 c 127 = c % 128 := bits_mask .u8 8 (by decide) wraps_u8 7 (by decide) c h0 h
theorem and1 {u : Int} (h0 : 0 ≤ u) (h : u < 18446744073709551616) : Go.bits .and .u64 u 1 = u % 2 := bits_mask .u64 64 (by decide) wraps_u64 1 (by decide) u h0 (by omega)
theorem xor_neg {n : Int} (h0 : 0 ≤ n) (h : n < 9223372036854775808) : Go.bits .xor .i64 (-1) n = -n - 1 := by
  obtain ⟨a, rfl⟩ := Int.eq_ofNat_of_zero_le h0
  have e : (BitVec.ofInt 64 (-1) ^^^ BitVec.ofInt 64 (a : Int)) = ~~~ (BitVec.ofNat 64 a) := by
    rw [show BitVec.ofInt 64 (-1) = BitVec.allOnes 64 by decide, BitVec.ofInt_natCast, BitVec.allOnes_xor]
  show IntKind.i64.wrap (((BitVec.ofInt 64 (-1) ^^^ BitVec.ofInt 64 (a : Int)).toNat : Nat) : Int) = _
  rw [e, BitVec.toNat_not, BitVec.toNat_ofNat, IntKind.wrap_i64]
  omega
theorem xor_all {u : Int} (h0 : 0 ≤ u) (h : u < 18446744073709551616) : Go.bits .xor .u64 18446744073709551615 u = 18446744073709551615 - u := by
  obtain ⟨a, rfl⟩ := Int.eq_ofNat_of_zero_le h0
  have e : (BitVec.ofInt 64 18446744073709551615 ^^^ BitVec.ofInt 64 (a : Int)) = ~~~ (BitVec.ofNat 64 a) := by
    rw [show BitVec.ofInt 64 18446744073709551615 = BitVec.allOnes 64 by decide, BitVec.ofInt_natCast, BitVec.allOnes_xor]
  show IntKind.u64.wrap (((BitVec.ofInt 64 18446744073709551615 ^^^ BitVec.ofInt 64 (a : Int)).toNat : Nat) : Int) = _
  rw [e, BitVec.toNat_not, BitVec.toNat_ofNat, wrapU (by omega) (by omega)]
  omega
set_option maxRecDepth 100000 in
theorem or128 {x : Int} (h0 : 0 ≤ x) (h : x < 256) : Go.bits .or .u8 x 128 = x % 128 + 128 := by
  obtain ⟨a, rfl⟩ := Int.eq_ofNat_of_zero_le h0
  have ha : a < 256 := by omega
  have h2 := (bits_nat .u8 8 (by decide) wraps_u8 a 128 (by omega) (by omega)).2
  have h3 : ∀ n, n < 256 → n ||| 128 = n % 128 + 128 := by decide
  rw [h3 a ha] at h2
  have h4 : Go.bits .or .u8 (a : Int) 128 = ((a % 128 + 128 : Nat) : Int) := h2
  rw [h4]
  omega

theorem getD_map {α β : Type} (f : α → β) (xs : List α) (i : Nat) (a : α) (b : β) (hi : i < xs.length) : (xs.map f).getD i b = f (xs.getD i a) := by
  rw [List.getD_eq_getElem?_getD, List.getD_eq_getElem?_getD, List.getElem?_map, List.getElem?_eq_getElem hi]; rfl
theorem getD_mem {α : Type} (xs : List α) (i : Nat) (a : α) (hi : i < xs.length) : xs.getD i a ∈ xs := by
  rw [List.getD_eq_getElem?_getD, List.getElem?_eq_getElem hi]; exact List.getElem_mem hi
theorem getD_set_self {α : Type} (xs : List α) (i : Nat) (v a : α) (hi : i < xs.length) : (xs.set i v).getD i a = v := by
  rw [List.getD_eq_getElem?_getD, List.getElem?_set_self hi]; rfl
theorem getD_set_ne {α : Type} (xs : List α) (i j : Nat) (v a : α) (h : i ≠ j) : (xs.set i v).getD j a = xs.getD j a := by
  rw [List.getD_eq_getElem?_getD, List.getElem?_set_ne h, List.getD_eq_getElem?_getD]
theorem ext_getD {α : Type} (xs ys : List α) (a : α) (hl : xs.length = ys.length) (h : ∀ j, j < xs.length → xs.getD j a = ys.getD j a) : xs = ys := by
  apply List.ext_getElem hl
  intro i h1 h2
  have := h i h1
  simpa [List.getD_eq_getElem?_getD, List.getElem?_eq_getElem h1, List.getElem?_eq_getElem h2] using this
theorem drop_cons {α : Type} (xs : List α) (i : Nat) (a : α) (hi : i < xs.length) : xs.drop i = xs.getD i a :: xs.drop (i + 1) := by
  rw [List.drop_eq_getElem_cons hi, List.getD_eq_getElem?_getD, List.getElem?_eq_getElem hi]; rfl
theorem take_snoc {α : Type} (xs : List α) (i : Nat) (a : α) (hi : i < xs.length) : xs.take (i + 1) = xs.take i ++ [xs.getD i a] := by
  rw [List.take_succ_eq_append_getElem hi, List.getD_eq_getElem?_getD, List.getElem?_eq_getElem hi]; rfl
theorem rd_getD (xs : List Int) (i : Nat) : rd xs (i : Int) = xs.getD i 0 := by unfold rd; rw [Int.toNat_natCast]

theorem ev_bind_ex {α β : Type} {g : Nat → Option α} {f : Nat → α → Option β} {a : α} {P : β → Prop} (h : Ev g a) (k : ∃ r, Ev (fun n => f n a) r ∧ P r) : ∃ r, Ev (fun n => (g n).bind (f n)) r ∧ P r := by
  obtain ⟨r, h1, h2⟩ := k
  exact ⟨r, Ev.bind h h1, h2⟩
theorem ev_step_ex {α : Type} {g f : Nat → Option α} {P : α → Prop} (h : ∀ k, g (k + 1) = f k) (k : ∃ r, Ev f r ∧ P r) : ∃ r, Ev g r ∧ P r := by
  obtain ⟨r, h1, h2⟩ := k
  exact ⟨r, Ev.step h h1, h2⟩
theorem ev_congr_ex {α : Type} {g f : Nat → Option α} {P : α → Prop} (h : ∀ k, g k = f k) (k : ∃ r, Ev f r ∧ P r) : ∃ r, Ev g r ∧ P r := by
  obtain ⟨r, h1, h2⟩ := k
  exact ⟨r, Ev.congr h h1, h2⟩
theorem allFrom {α : Type} (a : α) (xs : List α) (P : α → Prop) (h : ∀ j : Nat, j < xs.length → P (xs.getD j a)) : ∀ x ∈ xs, P x := by
  intro x hx
  obtain ⟨i, hi, rfl⟩ := List.getElem_of_mem hx
  have := h i hi
  rwa [List.getD_eq_getElem?_getD, List.getElem?_eq_getElem hi] at this

/-- A loop over places i, i + 1, .., n - 1, then the end. -/
theorem loop_up {ρ : Type} (n : Nat) (l : Int → Nat → Option ρ) (r : ρ) (step : ∀ i : Nat, i < n → Ev (l (i + 1 : Nat)) r → Ev (l i) r) (fin : Ev (l n) r) (i : Nat) (hi : i ≤ n) : Ev (l i) r := by
  obtain ⟨d, hd⟩ : ∃ d, i + d = n := ⟨n - i, by omega⟩
  induction d generalizing i with
  | zero => obtain rfl : i = n := by omega
            exact fin
  | succ d ih => exact step i (by omega) (ih (i + 1) (by omega) (by omega))
/-- A loop that lays one element after the other. -/
theorem loop_set {α β : Type} (a : α) (b : β) (conv : α → β) (xs : List α) (l : List β → Int → Nat → Option (List β))
    (step : ∀ (ys : List β) (i : Nat) (r : List β), i < xs.length → ys.length = xs.length → Ev (l (ys.set i (conv (xs.getD i a))) (i + 1 : Nat)) r → Ev (l ys i) r)
    (fin : ∀ ys : List β, ys.length = xs.length → Ev (l ys xs.length) ys) (ys : List β) (hl : ys.length = xs.length) : Ev (l ys (0 : Nat)) (xs.map conv) := by
  have key : ∀ (d : Nat) (ys : List β) (i : Nat), i + d = xs.length → ys.length = xs.length → (∀ j, j < i → ys.getD j b = conv (xs.getD j a)) → Ev (l ys i) (xs.map conv) := by
    intro d
    induction d with
    | zero =>
      intro ys i hi hl hy
      obtain rfl : i = xs.length := by omega
      have : ys = xs.map conv := ext_getD _ _ b (by simpa using hl) (fun j hj => by rw [hy j (by omega), getD_map conv xs j a b (by omega)])
      rw [← this]; exact fin ys hl
    | succ d ih =>
      intro ys i hi hl hy
      refine step ys i _ (by omega) hl (ih _ (i + 1) (by omega) (by simpa using hl) (fun j hj => ?_))
      by_cases e : i = j
      · subst e; rw [getD_set_self _ _ _ _ (by omega)]
      · rw [getD_set_ne _ _ _ _ _ e]; exact hy j (by omega)
  exact key xs.length ys 0 (by omega) hl (fun j hj => absurd hj (by omega))
/-- A loop that writes marks: whatever each element becomes, the number goes up. -/
theorem loop_mark {α : Type} (a : α) (cost : α → Nat) (Ok : α → α → Int → Prop) (xs : List α) (l : List α → Int → Int → Nat → Option (Int × List α))
    (step : ∀ (ys : List α) (i : Nat) (m : Int), i < xs.length → ys.length = xs.length → ys.getD i a = xs.getD i a → 0 ≤ m → ∃ y, Ok (xs.getD i a) y m ∧ ∀ r : Int × List α, Ev (l (ys.set i y) (m + cost (xs.getD i a)) (i + 1 : Nat)) r → Ev (l ys m i) r)
    (fin : ∀ (ys : List α) (m : Int), ys.length = xs.length → Ev (l ys m xs.length) (m, ys)) (m : Int) (hm : 0 ≤ m) :
    ∃ ys : List α, ys.length = xs.length ∧ (∀ j, j < xs.length → Ok (xs.getD j a) (ys.getD j a) (m + ((xs.take j).map cost).sum)) ∧ Ev (l xs m (0 : Nat)) (m + (xs.map cost).sum, ys) := by
  have key : ∀ (d : Nat) (ys : List α) (i : Nat), i + d = xs.length → ys.length = xs.length → (∀ j, i ≤ j → ys.getD j a = xs.getD j a) → (∀ j, j < i → Ok (xs.getD j a) (ys.getD j a) (m + ((xs.take j).map cost).sum)) →
      ∃ zs : List α, zs.length = xs.length ∧ (∀ j, j < xs.length → Ok (xs.getD j a) (zs.getD j a) (m + ((xs.take j).map cost).sum)) ∧ Ev (l ys (m + ((xs.take i).map cost).sum) i) (m + (xs.map cost).sum, zs) := by
    intro d
    induction d with
    | zero =>
      intro ys i hi hl hs hy
      obtain rfl : i = xs.length := by omega
      refine ⟨ys, hl, hy, ?_⟩
      rw [List.take_length]; exact fin ys _ hl
    | succ d ih =>
      intro ys i hi hl hs hy
      obtain ⟨y, hok, hst⟩ := step ys i (m + ((xs.take i).map cost).sum) (by omega) hl (hs i (Nat.le_refl _)) (by omega)
      obtain ⟨zs, h1, h2, h3⟩ := ih (ys.set i y) (i + 1) (by omega) (by simpa using hl) (fun j hj => by rw [getD_set_ne _ _ _ _ _ (by omega)]; exact hs j (by omega)) (fun j hj => by
        by_cases e : i = j
        · subst e; rw [getD_set_self _ _ _ _ (by omega)]; exact hok
        · rw [getD_set_ne _ _ _ _ _ e]; exact hy j (by omega))
      refine ⟨zs, h1, h2, hst _ ?_⟩
      rw [take_snoc xs i a (by omega)] at h3
      simpa [Int.add_assoc] using h3
  obtain ⟨zs, h1, h2, h3⟩ := key xs.length xs 0 (by omega) rfl (fun _ _ => rfl) (fun j hj => absurd hj (by omega))
  exact ⟨zs, h1, h2, by simpa using h3⟩
end Go.Proofs.Ytjbcgflpeomkfaa.G

namespace Go.Proofs.Ytjbcgflpeomkfaa.G
open Go.RowKit Go.Proofs.Ytjbcgflpeomkfaa.F Go.Proofs.YtjbcgflpeomkfaaW.PrintWords Go.Proofs.YtjbcgflpeomkfaaW.PrintLast Go.Proofs.YtjbcgflpeomkfaaW.PrintMore
set_option linter.unusedVariables false
set_option linter.unusedSimpArgs false

theorem rdt93 (xs : List S93) (i : Nat) : rd_T93 xs (i : Int) = xs.getD i z93 := rfl
def Lim93 (x : S93) : Prop := x.f0.size ≤ 9223372036854775807 ∧ x.f1.size ≤ 9223372036854775807
def Sm93 (x : S93) : Prop := x.f0.size ≤ 1048576 ∧ x.f1.size ≤ 1048576
theorem rdt74 (xs : List S74) (i : Nat) : rd_T74 xs (i : Int) = xs.getD i z74 := rfl
def Lim74 (x : S74) : Prop := x.f0.size ≤ 9223372036854775807 ∧ x.f1.size ≤ 9223372036854775807
def Sm74 (x : S74) : Prop := x.f0.size ≤ 1048576 ∧ x.f1.size ≤ 1048576
def convHead (x : S93) : S74 := ⟨x.f0, x.f1⟩
theorem szHead_ev (v0 : ByteArray) (v1 : ByteArray) (left : Int) (h0 : 0 ≤ left) (h1 : left ≤ 1048576) (wv0 : v0.size ≤ 9223372036854775807) (wv1 : v1.size ≤ 9223372036854775807) : ∃ r, Ev (fun k => laws_szHead.f v0 v1 left) r ∧ r ≤ left ∧ (0 ≤ r → v0.size ≤ 1048576 ∧ v1.size ≤ 1048576) := by
  unfold laws_szHead.f
  have ec1 : wrap64 (left - (v0.size : Int)) = left - (v0.size : Int) := wrapI (by omega) (by omega)
  by_cases c1 : left - (v0.size : Int) < 0
  · simp only [ec1, if_pos c1]; exact ⟨-1, Ev.now _, by omega, fun h => absurd h (by omega)⟩
  simp only [ec1, if_neg c1]
  have ec2 : wrap64 (left - (v0.size : Int) - (v1.size : Int)) = left - (v0.size : Int) - (v1.size : Int) := wrapI (by omega) (by omega)
  by_cases c2 : left - (v0.size : Int) - (v1.size : Int) < 0
  · simp only [ec2, if_pos c2]; exact ⟨-1, Ev.now _, by omega, fun h => absurd h (by omega)⟩
  simp only [ec2, if_neg c2]
  exact ⟨_, Ev.now _, by omega, fun h => ⟨(by omega), (by omega)⟩⟩
theorem szHeadS_l (xs : List (S93)) (w : xs.length ≤ 9223372036854775807 ∧ ∀ y ∈ xs, Lim93 y) (hn : xs.length ≤ 1048576) (d : Nat) : ∀ (i : Nat) (left : Int), i + d = xs.length → 0 ≤ left → left ≤ 1048576 → ∃ r, Ev (fun k => laws_szHeadS.l0 k xs left i) r ∧ r ≤ left ∧ (0 ≤ r → ∀ j : Nat, i ≤ j → j < xs.length → Sm93 (xs.getD j z93)) := by
  induction d with
  | zero =>
    intro i left hi h0 h1
    refine ev_step_ex (f := fun _ => some left) (fun k => by rw [laws_szHeadS.l0, if_neg (by omega)]) ⟨left, Ev.now _, Int.le_refl _, fun _ j h2 h3 => absurd h3 (by omega)⟩
  | succ d ih =>
    intro i left hi h0 h1
    have hw := w.2 (xs.getD i z93) (getD_mem xs i _ (by omega))
    obtain ⟨t, q, l, s⟩ := szHead_ev (xs.getD i z93).f0 (xs.getD i z93).f1 left h0 h1 hw.1 hw.2
    refine ev_step_ex (fun k => by rw [laws_szHeadS.l0, if_pos (by omega), if_pos (by omega)]) ?_
    refine ev_bind_ex q ?_
    by_cases c : t < 0
    · simp only [if_pos c]; exact ⟨-1, Ev.now _, by omega, fun h => absurd h (by omega)⟩
    simp only [if_neg c, wrapI (x := (i : Int) + 1) (by omega) (by omega)]
    obtain ⟨r, a, b, g⟩ := ih (i + 1) t (by omega) (by omega) (by omega)
    refine ⟨r, a, by omega, fun h j h2 h3 => ?_⟩
    by_cases e : i = j
    · subst e; exact ⟨(s (by omega)).1, (s (by omega)).2⟩
    · exact g h j (by omega) h3
theorem szHeadS_ev (xs : List (S93)) (left : Int) (h0 : 0 ≤ left) (h1 : left ≤ 1048576) (w : xs.length ≤ 9223372036854775807 ∧ ∀ y ∈ xs, Lim93 y) : ∃ r, Ev (fun k => laws_szHeadS.f k xs left) r ∧ r ≤ left ∧ (0 ≤ r → xs.length ≤ 1048576 ∧ ∀ y ∈ xs, Sm93 y) := by
  have hl := w.1
  have e : wrap64 (left - (xs.length : Int)) = left - (xs.length : Int) := wrapI (by omega) (by omega)
  unfold laws_szHeadS.f
  by_cases c : left - (xs.length : Int) < 0
  · simp only [e, if_pos c]; exact ⟨-1, Ev.now _, by omega, fun h => absurd h (by omega)⟩
  simp only [e, if_neg c]
  obtain ⟨r, a, b, g⟩ := szHeadS_l xs w (by omega) xs.length 0 (left - (xs.length : Int)) (by omega) (by omega) (by omega)
  exact ⟨r, a, by omega, fun h => ⟨by omega, allFrom z93 xs _ (fun j hj => g h j (Nat.zero_le _) hj)⟩⟩
theorem toHead_ev (v0 : ByteArray) (v1 : ByteArray) (wv0 : v0.size ≤ 1048576) (wv1 : v1.size ≤ 1048576) : Ev (fun k => laws_toHead.f v0 v1) (v0, v1) := by
  unfold laws_toHead.f
  exact Ev.now _
theorem toHeadS_ev (xs : List (S93)) (w : xs.length ≤ 1048576 ∧ ∀ y ∈ xs, Sm93 y) : Ev (fun k => laws_toHeadS.f k xs) (xs.map convHead) := by
  have hl := w.1
  refine Ev.congr (f := fun k => laws_toHeadS.l0 k xs (List.replicate xs.length z74) ((0 : Nat) : Int)) (fun k => by unfold laws_toHeadS.f; rw [if_pos (by omega), if_pos (by omega)]; rfl) ?_
  refine loop_set z93 z74 convHead xs (fun ys i k => laws_toHeadS.l0 k xs ys i) (fun ys i r hi hl h => ?_) (fun ys hl => ?_) _ (by simp)
  · have hw := w.2 (xs.getD i z93) (getD_mem xs i _ hi)
    refine Ev.step (fun k => by rw [laws_toHeadS.l0, if_pos (by omega), if_pos (by omega), rdt93]) (Ev.bind (toHead_ev (xs.getD i z93).f0 (xs.getD i z93).f1 hw.1 hw.2) ?_)
    simp only [if_pos (show (i : Int) < (ys.length : Int) by omega), wrapI (x := (i : Int) + 1) (by omega) (by omega), Int.toNat_natCast]
    exact h
  · exact Ev.step (f := fun _ => some ys) (fun k => by rw [laws_toHeadS.l0, if_neg (by omega)]) (Ev.now _)
theorem eqHead_ev (v0 : ByteArray) (v1 : ByteArray)  : Ev (fun k => laws_eqHead.f v0 v1 v0 v1) true := by
  unfold laws_eqHead.f
  simp only [if_true, bne_self_eq_false, Bool.false_eq_true, if_false]
  exact Ev.now _
theorem eqHeadS_ev (xs : List (S74)) (w : xs.length ≤ 1048576 ∧ ∀ y ∈ xs, Sm74 y) : Ev (fun k => laws_eqHeadS.f k xs xs) true := by
  have hl := w.1
  refine Ev.congr (f := fun k => laws_eqHeadS.l0 k xs xs ((0 : Nat) : Int)) (fun k => by unfold laws_eqHeadS.f; rw [if_pos rfl]; rfl) ?_
  refine loop_up xs.length (fun i k => laws_eqHeadS.l0 k xs xs i) true (fun i hi h => ?_) ?_ 0 (Nat.zero_le _)
  · have hw := w.2 (xs.getD i z74) (getD_mem xs i _ hi)
    refine Ev.step (fun k => by rw [laws_eqHeadS.l0, if_pos (by omega), if_pos (by omega), if_pos (by omega), rdt74]) (Ev.bind (eqHead_ev (xs.getD i z74).f0 (xs.getD i z74).f1 ) ?_)
    simp only [if_true, wrapI (x := (i : Int) + 1) (by omega) (by omega)]
    exact h
  · exact Ev.step (f := fun _ => some true) (fun k => by rw [laws_eqHeadS.l0, if_neg (by omega)]) (Ev.now _)

end Go.Proofs.Ytjbcgflpeomkfaa.G

namespace Go.Proofs.Ytjbcgflpeomkfaa.G
open Go.RowKit Go.Proofs.Ytjbcgflpeomkfaa.F Go.Proofs.YtjbcgflpeomkfaaW.PrintWords Go.Proofs.YtjbcgflpeomkfaaW.PrintLast Go.Proofs.YtjbcgflpeomkfaaW.PrintMore
set_option linter.unusedVariables false
set_option linter.unusedSimpArgs false

theorem rdt72 (xs : List S72) (i : Nat) : rd_T72 xs (i : Int) = xs.getD i z72 := rfl
def Lim72 (x : S72) : Prop := x.f2.size ≤ 9223372036854775807 ∧ x.f4.size ≤ 9223372036854775807 ∧ (x.f5.length ≤ 9223372036854775807 ∧ ∀ y ∈ x.f5, Lim93 y)
def Sm72 (x : S72) : Prop := x.f2.size ≤ 1048576 ∧ x.f4.size ≤ 1048576 ∧ (x.f5.length ≤ 1048576 ∧ ∀ y ∈ x.f5, Sm93 y)
theorem rdt56 (xs : List S56) (i : Nat) : rd_T56 xs (i : Int) = xs.getD i z56 := rfl
def Lim56 (x : S56) : Prop := x.f2.size ≤ 9223372036854775807 ∧ x.f4.size ≤ 9223372036854775807 ∧ (x.f5.length ≤ 9223372036854775807 ∧ ∀ y ∈ x.f5, Lim74 y)
def Sm56 (x : S56) : Prop := x.f2.size ≤ 1048576 ∧ x.f4.size ≤ 1048576 ∧ (x.f5.length ≤ 1048576 ∧ ∀ y ∈ x.f5, Sm74 y)
def convRecord (x : S72) : S56 := ⟨x.f0, x.f1, x.f2, x.f3, x.f4, (x.f5.map convHead)⟩
theorem szRecord_ev (v0 : Int) (v1 : Bool) (v2 : ByteArray) (v3 : Bool) (v4 : ByteArray) (v5 : List (S93)) (left : Int) (h0 : 0 ≤ left) (h1 : left ≤ 1048576) (wv2 : v2.size ≤ 9223372036854775807) (wv4 : v4.size ≤ 9223372036854775807) (wv5 : v5.length ≤ 9223372036854775807 ∧ ∀ y ∈ v5, Lim93 y) : ∃ r, Ev (fun k => laws_szRecord.f k v0 v1 v2 v3 v4 v5 left) r ∧ r ≤ left ∧ (0 ≤ r → v2.size ≤ 1048576 ∧ v4.size ≤ 1048576 ∧ (v5.length ≤ 1048576 ∧ ∀ y ∈ v5, Sm93 y)) := by
  unfold laws_szRecord.f
  have ec1 : wrap64 (left - (v2.size : Int)) = left - (v2.size : Int) := wrapI (by omega) (by omega)
  by_cases c1 : left - (v2.size : Int) < 0
  · simp only [ec1, if_pos c1]; exact ⟨-1, Ev.now _, by omega, fun h => absurd h (by omega)⟩
  simp only [ec1, if_neg c1]
  have ec2 : wrap64 (left - (v2.size : Int) - (v4.size : Int)) = left - (v2.size : Int) - (v4.size : Int) := wrapI (by omega) (by omega)
  by_cases c2 : left - (v2.size : Int) - (v4.size : Int) < 0
  · simp only [ec2, if_pos c2]; exact ⟨-1, Ev.now _, by omega, fun h => absurd h (by omega)⟩
  simp only [ec2, if_neg c2]
  obtain ⟨rc3, qc3, lc3, sc3⟩ := szHeadS_ev v5 (left - (v2.size : Int) - (v4.size : Int)) (by omega) (by omega) wv5
  refine ev_bind_ex qc3 ?_
  by_cases c3 : rc3 < 0
  · simp only [if_pos c3]; exact ⟨-1, Ev.now _, by omega, fun h => absurd h (by omega)⟩
  simp only [if_neg c3]
  exact ⟨_, Ev.now _, by omega, fun h => ⟨(by omega), (by omega), (sc3 (by omega))⟩⟩
theorem szRecordS_l (xs : List (S72)) (w : xs.length ≤ 9223372036854775807 ∧ ∀ y ∈ xs, Lim72 y) (hn : xs.length ≤ 1048576) (d : Nat) : ∀ (i : Nat) (left : Int), i + d = xs.length → 0 ≤ left → left ≤ 1048576 → ∃ r, Ev (fun k => laws_szRecordS.l0 k xs left i) r ∧ r ≤ left ∧ (0 ≤ r → ∀ j : Nat, i ≤ j → j < xs.length → Sm72 (xs.getD j z72)) := by
  induction d with
  | zero =>
    intro i left hi h0 h1
    refine ev_step_ex (f := fun _ => some left) (fun k => by rw [laws_szRecordS.l0, if_neg (by omega)]) ⟨left, Ev.now _, Int.le_refl _, fun _ j h2 h3 => absurd h3 (by omega)⟩
  | succ d ih =>
    intro i left hi h0 h1
    have hw := w.2 (xs.getD i z72) (getD_mem xs i _ (by omega))
    obtain ⟨t, q, l, s⟩ := szRecord_ev (xs.getD i z72).f0 (xs.getD i z72).f1 (xs.getD i z72).f2 (xs.getD i z72).f3 (xs.getD i z72).f4 (xs.getD i z72).f5 left h0 h1 hw.1 hw.2.1 hw.2.2
    refine ev_step_ex (fun k => by rw [laws_szRecordS.l0, if_pos (by omega), if_pos (by omega)]) ?_
    refine ev_bind_ex q ?_
    by_cases c : t < 0
    · simp only [if_pos c]; exact ⟨-1, Ev.now _, by omega, fun h => absurd h (by omega)⟩
    simp only [if_neg c, wrapI (x := (i : Int) + 1) (by omega) (by omega)]
    obtain ⟨r, a, b, g⟩ := ih (i + 1) t (by omega) (by omega) (by omega)
    refine ⟨r, a, by omega, fun h j h2 h3 => ?_⟩
    by_cases e : i = j
    · subst e; exact ⟨(s (by omega)).1, (s (by omega)).2.1, (s (by omega)).2.2⟩
    · exact g h j (by omega) h3
theorem szRecordS_ev (xs : List (S72)) (left : Int) (h0 : 0 ≤ left) (h1 : left ≤ 1048576) (w : xs.length ≤ 9223372036854775807 ∧ ∀ y ∈ xs, Lim72 y) : ∃ r, Ev (fun k => laws_szRecordS.f k xs left) r ∧ r ≤ left ∧ (0 ≤ r → xs.length ≤ 1048576 ∧ ∀ y ∈ xs, Sm72 y) := by
  have hl := w.1
  have e : wrap64 (left - (xs.length : Int)) = left - (xs.length : Int) := wrapI (by omega) (by omega)
  unfold laws_szRecordS.f
  by_cases c : left - (xs.length : Int) < 0
  · simp only [e, if_pos c]; exact ⟨-1, Ev.now _, by omega, fun h => absurd h (by omega)⟩
  simp only [e, if_neg c]
  obtain ⟨r, a, b, g⟩ := szRecordS_l xs w (by omega) xs.length 0 (left - (xs.length : Int)) (by omega) (by omega) (by omega)
  exact ⟨r, a, by omega, fun h => ⟨by omega, allFrom z72 xs _ (fun j hj => g h j (Nat.zero_le _) hj)⟩⟩
theorem toRecord_ev (v0 : Int) (v1 : Bool) (v2 : ByteArray) (v3 : Bool) (v4 : ByteArray) (v5 : List (S93)) (wv2 : v2.size ≤ 1048576) (wv4 : v4.size ≤ 1048576) (wv5 : v5.length ≤ 1048576 ∧ ∀ y ∈ v5, Sm93 y) : Ev (fun k => laws_toRecord.f k v0 v1 v2 v3 v4 v5) (v0, v1, v2, v3, v4, (v5.map convHead)) := by
  unfold laws_toRecord.f
  refine Ev.bind (toHeadS_ev v5 wv5) ?_
  exact Ev.now _
theorem toRecordS_ev (xs : List (S72)) (w : xs.length ≤ 1048576 ∧ ∀ y ∈ xs, Sm72 y) : Ev (fun k => laws_toRecordS.f k xs) (xs.map convRecord) := by
  have hl := w.1
  refine Ev.congr (f := fun k => laws_toRecordS.l0 k xs (List.replicate xs.length z56) ((0 : Nat) : Int)) (fun k => by unfold laws_toRecordS.f; rw [if_pos (by omega), if_pos (by omega)]; rfl) ?_
  refine loop_set z72 z56 convRecord xs (fun ys i k => laws_toRecordS.l0 k xs ys i) (fun ys i r hi hl h => ?_) (fun ys hl => ?_) _ (by simp)
  · have hw := w.2 (xs.getD i z72) (getD_mem xs i _ hi)
    refine Ev.step (fun k => by rw [laws_toRecordS.l0, if_pos (by omega), if_pos (by omega), rdt72]) (Ev.bind (toRecord_ev (xs.getD i z72).f0 (xs.getD i z72).f1 (xs.getD i z72).f2 (xs.getD i z72).f3 (xs.getD i z72).f4 (xs.getD i z72).f5 hw.1 hw.2.1 hw.2.2) ?_)
    simp only [if_pos (show (i : Int) < (ys.length : Int) by omega), wrapI (x := (i : Int) + 1) (by omega) (by omega), Int.toNat_natCast]
    exact h
  · exact Ev.step (f := fun _ => some ys) (fun k => by rw [laws_toRecordS.l0, if_neg (by omega)]) (Ev.now _)
theorem eqRecord_ev (v0 : Int) (v1 : Bool) (v2 : ByteArray) (v3 : Bool) (v4 : ByteArray) (v5 : List (S74)) (wv5 : v5.length ≤ 1048576 ∧ ∀ y ∈ v5, Sm74 y) : Ev (fun k => laws_eqRecord.f k v0 v1 v2 v3 v4 v5 v0 v1 v2 v3 v4 v5) true := by
  unfold laws_eqRecord.f
  simp only [if_true, bne_self_eq_false, Bool.false_eq_true, if_false]
  refine Ev.bind (eqHeadS_ev v5 wv5) ?_
  simp only [if_true, bne_self_eq_false, Bool.false_eq_true, if_false]
  exact Ev.now _
theorem eqRecordS_ev (xs : List (S56)) (w : xs.length ≤ 1048576 ∧ ∀ y ∈ xs, Sm56 y) : Ev (fun k => laws_eqRecordS.f k xs xs) true := by
  have hl := w.1
  refine Ev.congr (f := fun k => laws_eqRecordS.l0 k xs xs ((0 : Nat) : Int)) (fun k => by unfold laws_eqRecordS.f; rw [if_pos rfl]; rfl) ?_
  refine loop_up xs.length (fun i k => laws_eqRecordS.l0 k xs xs i) true (fun i hi h => ?_) ?_ 0 (Nat.zero_le _)
  · have hw := w.2 (xs.getD i z56) (getD_mem xs i _ hi)
    refine Ev.step (fun k => by rw [laws_eqRecordS.l0, if_pos (by omega), if_pos (by omega), if_pos (by omega), rdt56]) (Ev.bind (eqRecord_ev (xs.getD i z56).f0 (xs.getD i z56).f1 (xs.getD i z56).f2 (xs.getD i z56).f3 (xs.getD i z56).f4 (xs.getD i z56).f5 hw.2.2) ?_)
    simp only [if_true, wrapI (x := (i : Int) + 1) (by omega) (by omega)]
    exact h
  · exact Ev.step (f := fun _ => some true) (fun k => by rw [laws_eqRecordS.l0, if_neg (by omega)]) (Ev.now _)

end Go.Proofs.Ytjbcgflpeomkfaa.G

namespace Go.Proofs.Ytjbcgflpeomkfaa.G
open Go.RowKit Go.Proofs.Ytjbcgflpeomkfaa.F Go.Proofs.YtjbcgflpeomkfaaW.PrintWords Go.Proofs.YtjbcgflpeomkfaaW.PrintLast Go.Proofs.YtjbcgflpeomkfaaW.PrintMore
set_option linter.unusedVariables false
set_option linter.unusedSimpArgs false

theorem rdt24 (xs : List S24) (i : Nat) : rd_T24 xs (i : Int) = xs.getD i z24 := rfl
def Lim24 (x : S24) : Prop := (x.f6.length ≤ 9223372036854775807 ∧ ∀ y ∈ x.f6, Lim72 y)
def Sm24 (x : S24) : Prop := (x.f6.length ≤ 1048576 ∧ ∀ y ∈ x.f6, Sm72 y)
theorem rdt29 (xs : List S29) (i : Nat) : rd_T29 xs (i : Int) = xs.getD i z29 := rfl
def Lim29 (x : S29) : Prop := (x.f6.length ≤ 9223372036854775807 ∧ ∀ y ∈ x.f6, Lim56 y)
def Sm29 (x : S29) : Prop := (x.f6.length ≤ 1048576 ∧ ∀ y ∈ x.f6, Sm56 y)
def convBatch (x : S24) : S29 := ⟨x.f0, x.f1, x.f2, x.f3, x.f4, x.f5, (x.f6.map convRecord)⟩
theorem szBatch_ev (v0 : Int) (v1 : Int) (v2 : Int) (v3 : Int) (v4 : Int) (v5 : Int) (v6 : List (S72)) (left : Int) (h0 : 0 ≤ left) (h1 : left ≤ 1048576) (wv6 : v6.length ≤ 9223372036854775807 ∧ ∀ y ∈ v6, Lim72 y) : ∃ r, Ev (fun k => laws_szBatch.f k v0 v1 v2 v3 v4 v5 v6 left) r ∧ r ≤ left ∧ (0 ≤ r → (v6.length ≤ 1048576 ∧ ∀ y ∈ v6, Sm72 y)) := by
  unfold laws_szBatch.f
  obtain ⟨rc1, qc1, lc1, sc1⟩ := szRecordS_ev v6 (left) (by omega) (by omega) wv6
  refine ev_bind_ex qc1 ?_
  by_cases c1 : rc1 < 0
  · simp only [if_pos c1]; exact ⟨-1, Ev.now _, by omega, fun h => absurd h (by omega)⟩
  simp only [if_neg c1]
  exact ⟨_, Ev.now _, by omega, fun h => (sc1 (by omega))⟩
theorem toBatch_ev (v0 : Int) (v1 : Int) (v2 : Int) (v3 : Int) (v4 : Int) (v5 : Int) (v6 : List (S72)) (wv6 : v6.length ≤ 1048576 ∧ ∀ y ∈ v6, Sm72 y) : Ev (fun k => laws_toBatch.f k v0 v1 v2 v3 v4 v5 v6) (v0, v1, v2, v3, v4, v5, (v6.map convRecord)) := by
  unfold laws_toBatch.f
  refine Ev.bind (toRecordS_ev v6 wv6) ?_
  exact Ev.now _
theorem eqBatch_ev (v0 : Int) (v1 : Int) (v2 : Int) (v3 : Int) (v4 : Int) (v5 : Int) (v6 : List (S56)) (wv6 : v6.length ≤ 1048576 ∧ ∀ y ∈ v6, Sm56 y) : Ev (fun k => laws_eqBatch.f k v0 v1 v2 v3 v4 v5 v6 v0 v1 v2 v3 v4 v5 v6) true := by
  unfold laws_eqBatch.f
  simp only [if_true, bne_self_eq_false, Bool.false_eq_true, if_false]
  refine Ev.bind (eqRecordS_ev v6 wv6) ?_
  simp only [if_true, bne_self_eq_false, Bool.false_eq_true, if_false]
  exact Ev.now _

end Go.Proofs.Ytjbcgflpeomkfaa.G

namespace Go.Proofs.Ytjbcgflpeomkfaa.G
open Go.RowKit Go.Proofs.Ytjbcgflpeomkfaa.F Go.Proofs.YtjbcgflpeomkfaaW.PrintWords Go.Proofs.YtjbcgflpeomkfaaW.PrintLast Go.Proofs.YtjbcgflpeomkfaaW.PrintMore
theorem l1In_eq (a b c : Int) : spec_l1In.f a b c = some (decide (b ≤ a ∧ a ≤ c)) := by
  unfold spec_l1In.f
  by_cases h : a ≥ b
  · rw [if_pos h]; congr 1
    by_cases h2 : a ≤ c
    · rw [decide_eq_true h2, decide_eq_true ⟨h, h2⟩]
    · rw [decide_eq_false h2, decide_eq_false (fun x => h2 x.2)]
  · rw [if_neg h, decide_eq_false (fun x => h x.1)]
theorem within_eq (a b c : Int) : impl_within.f a b c = some (decide (b ≤ a ∧ a ≤ c)) := by
  unfold impl_within.f
  by_cases h : a ≥ b
  · rw [if_pos h]; congr 1
    by_cases h2 : a ≤ c
    · rw [decide_eq_true h2, decide_eq_true ⟨h, h2⟩]
    · rw [decide_eq_false h2, decide_eq_false (fun x => h2 x.2)]
  · rw [if_neg h, decide_eq_false (fun x => h x.1)]
end Go.Proofs.Ytjbcgflpeomkfaa.G

namespace Go.Proofs.Ytjbcgflpeomkfaa.G
open Go.RowKit Go.Proofs.Ytjbcgflpeomkfaa.F Go.Proofs.YtjbcgflpeomkfaaW.PrintWords Go.Proofs.YtjbcgflpeomkfaaW.PrintLast Go.Proofs.YtjbcgflpeomkfaaW.PrintMore
set_option linter.unusedVariables false
set_option linter.unusedSimpArgs false

theorem textOk_eq (s : ByteArray) : impl_textOk.f s = some (decide (s.size ≤ 100)) := by
  unfold impl_textOk.f; congr 1
  by_cases h : s.size ≤ 100
  · rw [decide_eq_true h, decide_eq_true (by omega)]
  · rw [decide_eq_false h, decide_eq_false (by omega)]
theorem timeOk_eq (n : Int) : impl_timeOk.f n = some (decide (0 ≤ n ∧ n ≤ 1000000000000)) := by
  unfold impl_timeOk.f
  by_cases h : n ≥ 0
  · rw [if_pos h]; congr 1
    by_cases h2 : n ≤ 1000000000000
    · rw [decide_eq_true h2, decide_eq_true ⟨h, h2⟩]
    · rw [decide_eq_false h2, decide_eq_false (fun x => h2 x.2)]
  · rw [if_neg h, decide_eq_false (fun x => h x.1)]
theorem toList_nil (s : ByteArray) : s.toList = ([] : List UInt8) ↔ s.size = 0 := by
  rw [ByteArray.toList_eq]
  constructor
  · intro h; have := congrArg List.length h; simpa using this
  · intro h; exact List.eq_nil_of_length_eq_zero (by simpa using h)

/-- A head that is right. -/
def headOk (h : S74) : Bool := decide (1 ≤ h.f0.size ∧ h.f0.size ≤ 100 ∧ h.f1.size ≤ 100)
/-- A record that is right, by its fields. -/
def recordOk (t : Int) (keyed : Bool) (key : ByteArray) (gone : Bool) (value : ByteArray) (heads : List S74) : Bool :=
  decide (0 ≤ t ∧ t ≤ 1000000000000) && decide (key.size ≤ 100) && decide (value.size ≤ 100) && decide (heads.length ≤ 3) && (keyed || decide (key.size = 0)) && (!gone || decide (value.size = 0)) && heads.all headOk

theorem heads_all (xs : List S74) (i : Nat) (hi : i < xs.length) : (xs.drop i).all headOk = (headOk (xs.getD i z74) && (xs.drop (i + 1)).all headOk) := by
  rw [drop_cons xs i z74 hi, List.all_cons]
theorem specHeads_l (xs : List S74) (hn : xs.length ≤ 1048576) (a b c d e) (m : Nat) : ∀ i : Nat, i + m = xs.length → Ev (fun k => spec_RecordOk.l0 k (i : Int) a b c d e xs) ((xs.drop i).all headOk) := by
  induction m with
  | zero =>
    intro i hi
    refine Ev.step (f := fun _ => some true) (fun k => by rw [spec_RecordOk.l0, if_neg (by omega)]) ?_
    rw [List.drop_of_length_le (by omega)]; exact Ev.now _
  | succ m ih =>
    intro i hi
    have ew : wrap64 ((i : Int) + 1) = ((i + 1 : Nat) : Int) := by rw [wrapI (by omega) (by omega)]; omega
    have h := ih (i + 1) (by omega)
    have hr : rd_T74 xs (i : Int) = xs.getD i z74 := rfl
    rw [heads_all xs i (by omega)]
    generalize xs.getD i z74 = x at hr
    by_cases h1 : x.f0.size = 0
    · have : headOk x = false := decide_eq_false (by omega)
      rw [this, Bool.false_and]
      exact Ev.step (f := fun _ => some false) (fun k => by rw [spec_RecordOk.l0, if_pos (by omega), if_pos (by omega), hr, if_pos ((toList_nil _).2 h1)]) (Ev.now _)
    · have hne : ¬ x.f0.toList = ([] : List UInt8) := fun h => h1 ((toList_nil _).1 h)
      by_cases h2 : x.f0.size ≤ 100
      · by_cases h3 : x.f1.size ≤ 100
        · have : headOk x = true := decide_eq_true (by omega)
          rw [this, Bool.true_and]
          exact Ev.step (fun k => by rw [spec_RecordOk.l0, if_pos (by omega), if_pos (by omega), hr, if_neg hne, if_neg (by omega), if_neg (by omega), ew]) h
        · have : headOk x = false := decide_eq_false (by omega)
          rw [this, Bool.false_and]
          exact Ev.step (f := fun _ => some false) (fun k => by rw [spec_RecordOk.l0, if_pos (by omega), if_pos (by omega), hr, if_neg hne, if_neg (by omega), if_pos (by omega)]) (Ev.now _)
      · have : headOk x = false := decide_eq_false (by omega)
        rw [this, Bool.false_and]
        exact Ev.step (f := fun _ => some false) (fun k => by rw [spec_RecordOk.l0, if_pos (by omega), if_pos (by omega), hr, if_neg hne, if_pos (by omega)]) (Ev.now _)
theorem implHeads_l (xs : List S74) (hn : xs.length ≤ 1048576) (m : Nat) : ∀ i : Nat, i + m = xs.length → Ev (fun k => impl_RecordOk.l0 k xs (xs.length : Int) (i : Int)) ((xs.drop i).all headOk) := by
  induction m with
  | zero =>
    intro i hi
    refine Ev.step (f := fun _ => some true) (fun k => by rw [impl_RecordOk.l0, if_neg (by omega)]) ?_
    rw [List.drop_of_length_le (by omega)]; exact Ev.now _
  | succ m ih =>
    intro i hi
    have ew : wrap64 ((i : Int) + 1) = ((i + 1 : Nat) : Int) := by rw [wrapI (by omega) (by omega)]; omega
    have h := ih (i + 1) (by omega)
    have hr : rd_T74 xs (i : Int) = xs.getD i z74 := rfl
    rw [heads_all xs i (by omega)]
    generalize xs.getD i z74 = x at hr
    by_cases h1 : x.f0.size = 0
    · have : headOk x = false := decide_eq_false (by omega)
      rw [this, Bool.false_and]
      exact Ev.step (f := fun _ => some false) (fun k => by rw [impl_RecordOk.l0, if_pos (by omega), if_pos (by omega), if_pos (by omega), hr, if_pos ((toList_nil _).2 h1)]) (Ev.now _)
    · have hne : ¬ x.f0.toList = ([] : List UInt8) := fun h => h1 ((toList_nil _).1 h)
      by_cases h2 : x.f0.size ≤ 100
      · by_cases h3 : x.f1.size ≤ 100
        · have : headOk x = true := decide_eq_true (by omega)
          rw [this, Bool.true_and]
          exact Ev.step (fun k => by rw [impl_RecordOk.l0, if_pos (by omega), if_pos (by omega), if_pos (by omega), hr, if_neg hne, textOk_eq, decide_eq_true h2, textOk_eq, decide_eq_true h3]; simp only [Option.bind_some, if_true]; rw [ew]) h
        · have : headOk x = false := decide_eq_false (by omega)
          rw [this, Bool.false_and]
          exact Ev.step (f := fun _ => some false) (fun k => by rw [impl_RecordOk.l0, if_pos (by omega), if_pos (by omega), if_pos (by omega), hr, if_neg hne, textOk_eq, decide_eq_true h2, textOk_eq, decide_eq_false h3]; rfl) (Ev.now _)
      · have : headOk x = false := decide_eq_false (by omega)
        rw [this, Bool.false_and]
        exact Ev.step (f := fun _ => some false) (fun k => by rw [impl_RecordOk.l0, if_pos (by omega), if_pos (by omega), if_pos (by omega), hr, if_neg hne, textOk_eq, decide_eq_false h2]; rfl) (Ev.now _)

theorem specRecordOk_ev (t : Int) (keyed : Bool) (key : ByteArray) (gone : Bool) (value : ByteArray) (heads : List S74) (hn : heads.length ≤ 1048576) :
    Ev (fun k => spec_RecordOk.f k t keyed key gone value heads) (recordOk t keyed key gone value heads) := by
  have hl : Ev (fun k => spec_RecordOk.l0 k 0 t keyed key gone value heads) ((heads.drop 0).all headOk) := specHeads_l heads hn t keyed key gone value heads.length 0 (by omega)
  rw [List.drop_zero] at hl
  have h1 : Ev (fun k => spec_RecordOk.j1 k true t keyed key gone value heads) false := Ev.step (f := fun _ => some false) (fun k => by rw [spec_RecordOk.j1, if_pos rfl]) (Ev.now _)
  have h0 : Ev (fun k => spec_RecordOk.j1 k false t keyed key gone value heads) (heads.all headOk) := Ev.step (fun k => by rw [spec_RecordOk.j1, if_neg (by decide)]) hl
  have hb (b : Bool) (r : Bool) (p : b = true → r = false) (q : b = false → r = heads.all headOk) : Ev (fun k => spec_RecordOk.j1 k b t keyed key gone value heads) r := by
    cases b
    · rw [q rfl]; exact h0
    · rw [p rfl]; exact h1
  have hj : Ev (fun k => spec_RecordOk.j0 k true t keyed key gone value heads) false := Ev.step (f := fun _ => some false) (fun k => by rw [spec_RecordOk.j0, if_pos rfl]) (Ev.now _)
  have ev : (value.toList != ([] : List UInt8)) = !(decide (value.size = 0)) := by
    by_cases h : value.size = 0
    · rw [decide_eq_true h, (toList_nil _).2 h]; rfl
    · rw [decide_eq_false h]; simpa using fun h' => h ((toList_nil _).1 h')
  have hj0 : Ev (fun k => spec_RecordOk.j0 k false t keyed key gone value heads) ((keyed || decide (key.size = 0)) && (!gone || decide (value.size = 0)) && heads.all headOk) := by
    cases keyed <;> cases gone
    all_goals (by_cases hk : key.size = 0 <;> by_cases hv : value.size = 0)
    all_goals first
      | (refine Ev.step (fun k => by rw [spec_RecordOk.j0, if_neg (by decide), if_pos rfl, if_pos rfl, ev]) (hb _ _ ?_ ?_) <;> simp [hk, hv])
      | (refine Ev.step (fun k => by rw [spec_RecordOk.j0, if_neg (by decide), if_pos rfl, if_neg (by decide)]) (hb _ _ ?_ ?_) <;> simp [hk, hv])
      | (refine Ev.step (fun k => by rw [spec_RecordOk.j0, if_neg (by decide), if_neg (by decide), if_pos ((toList_nil _).2 hk), if_pos rfl, ev]) (hb _ _ ?_ ?_) <;> simp [hk, hv])
      | (refine Ev.step (fun k => by rw [spec_RecordOk.j0, if_neg (by decide), if_neg (by decide), if_pos ((toList_nil _).2 hk), if_neg (by decide)]) (hb _ _ ?_ ?_) <;> simp [hk, hv])
      | (refine Ev.step (fun k => by rw [spec_RecordOk.j0, if_neg (by decide), if_neg (by decide), if_neg (fun h => hk ((toList_nil _).1 h))]) (hb _ _ ?_ ?_) <;> simp [hk, hv])
  unfold spec_RecordOk.f recordOk
  rw [l1In_eq]
  simp only [Option.bind_some]
  by_cases ht : 0 ≤ t ∧ t ≤ 1000000000000
  · by_cases hk : key.size ≤ 100
    · by_cases hv : value.size ≤ 100
      · simp only [decide_eq_true ht, decide_eq_true hk, decide_eq_true hv, if_true, if_neg (show ¬ (key.size : Int) > 100 by omega), if_neg (show ¬ (value.size : Int) > 100 by omega), Bool.true_and]
        by_cases hh : heads.length ≤ 3
        · simp only [decide_eq_false (show ¬ (heads.length : Int) > 3 by omega), decide_eq_true hh, Bool.true_and]
          exact hj0
        · simp only [decide_eq_true (show (heads.length : Int) > 3 by omega), decide_eq_false hh, Bool.false_and]
          exact hj
      · simp only [decide_eq_true ht, decide_eq_true hk, decide_eq_false hv, if_true, if_neg (show ¬ (key.size : Int) > 100 by omega), if_pos (show (value.size : Int) > 100 by omega), Bool.true_and, Bool.false_and]
        exact hj
    · simp only [decide_eq_true ht, decide_eq_false hk, if_true, if_pos (show (key.size : Int) > 100 by omega), Bool.true_and, Bool.false_and]
      exact hj
  · simp only [decide_eq_false ht, Bool.false_eq_true, if_false, Bool.false_and]
    exact hj
theorem implRecordOk_ev (t : Int) (keyed : Bool) (key : ByteArray) (gone : Bool) (value : ByteArray) (heads : List S74) (hn : heads.length ≤ 1048576) :
    Ev (fun k => impl_RecordOk.f k t keyed key gone value heads) (recordOk t keyed key gone value heads) := by
  have hl : Ev (fun k => impl_RecordOk.l0 k heads (heads.length : Int) 0) ((heads.drop 0).all headOk) := implHeads_l heads hn heads.length 0 (by omega)
  rw [List.drop_zero] at hl
  have hj : Ev (fun k => impl_RecordOk.j0 k true t keyed key gone value heads) false := Ev.step (f := fun _ => some false) (fun k => by rw [impl_RecordOk.j0, if_pos rfl]) (Ev.now _)
  have hj0 : Ev (fun k => impl_RecordOk.j0 k (decide ((heads.length : Int) > 3)) t keyed key gone value heads) (decide (heads.length ≤ 3) && heads.all headOk) := by
    by_cases hh : heads.length ≤ 3
    · rw [decide_eq_false (show ¬ (heads.length : Int) > 3 by omega), decide_eq_true hh, Bool.true_and]
      exact Ev.step (fun k => by rw [impl_RecordOk.j0, if_neg (by decide)]) hl
    · rw [decide_eq_true (show (heads.length : Int) > 3 by omega), decide_eq_false hh, Bool.false_and]
      exact hj
  have hin : Ev (fun k => (impl_textOk.f key).bind fun t212 => if t212 = true then (impl_textOk.f value).bind fun t213 => if t213 = true then impl_RecordOk.j0 k (decide ((heads.length : Int) > 3)) t keyed key gone value heads else impl_RecordOk.j0 k true t keyed key gone value heads else impl_RecordOk.j0 k true t keyed key gone value heads) (decide (key.size ≤ 100) && decide (value.size ≤ 100) && (decide (heads.length ≤ 3) && heads.all headOk)) := by
    rw [textOk_eq, textOk_eq]
    simp only [Option.bind_some]
    by_cases hk : key.size ≤ 100
    · by_cases hv : value.size ≤ 100
      · simpa only [decide_eq_true hk, decide_eq_true hv, if_true, Bool.true_and] using hj0
      · simpa only [decide_eq_true hk, decide_eq_false hv, if_true, Bool.true_and, Bool.false_and, Bool.false_eq_true, if_false] using hj
    · simpa only [decide_eq_false hk, Bool.false_and, Bool.false_eq_true, if_false] using hj
  unfold impl_RecordOk.f
  rw [timeOk_eq]
  simp only [Option.bind_some]
  have e : recordOk t keyed key gone value heads = (decide (0 ≤ t ∧ t ≤ 1000000000000) && ((keyed || decide (key.size = 0)) && ((!gone || decide (value.size = 0)) && (decide (key.size ≤ 100) && decide (value.size ≤ 100) && (decide (heads.length ≤ 3) && heads.all headOk))))) := by
    unfold recordOk
    cases decide (0 ≤ t ∧ t ≤ 1000000000000) <;> cases decide (key.size ≤ 100) <;> cases decide (value.size ≤ 100) <;> cases decide (heads.length ≤ 3) <;> cases (keyed || decide (key.size = 0)) <;> cases (!gone || decide (value.size = 0)) <;> cases heads.all headOk <;> rfl
  rw [e]
  by_cases ht : 0 ≤ t ∧ t ≤ 1000000000000
  · simp only [decide_eq_true ht, if_true, Bool.true_and]
    cases keyed <;> cases gone
    · simp only [Bool.false_eq_true, if_false, Bool.false_or, Bool.not_false, Bool.true_or, Bool.true_and]
      by_cases hk : key.size = 0
      · simpa only [if_pos ((toList_nil _).2 hk), decide_eq_true hk, Bool.true_and] using hin
      · simpa only [if_neg (fun h => hk ((toList_nil _).1 h)), decide_eq_false hk, Bool.false_and] using hj
    · simp only [Bool.false_eq_true, if_false, if_true, Bool.false_or, Bool.not_true]
      by_cases hk : key.size = 0
      · by_cases hv : value.size = 0
        · simpa only [if_pos ((toList_nil _).2 hk), if_pos ((toList_nil _).2 hv), decide_eq_true hk, decide_eq_true hv, Bool.true_and] using hin
        · simpa only [if_pos ((toList_nil _).2 hk), if_neg (fun h => hv ((toList_nil _).1 h)), decide_eq_true hk, decide_eq_false hv, Bool.true_and, Bool.false_and] using hj
      · simpa only [if_neg (fun h => hk ((toList_nil _).1 h)), decide_eq_false hk, Bool.false_and] using hj
    · simp only [Bool.false_eq_true, if_false, if_true, Bool.true_or, Bool.not_false, Bool.true_and]
      exact hin
    · simp only [if_true, Bool.true_or, Bool.not_true, Bool.false_or, Bool.true_and]
      by_cases hv : value.size = 0
      · simpa only [if_pos ((toList_nil _).2 hv), decide_eq_true hv, Bool.true_and] using hin
      · simpa only [if_neg (fun h => hv ((toList_nil _).1 h)), decide_eq_false hv, Bool.false_and] using hj
  · simpa only [decide_eq_false ht, Bool.false_eq_true, if_false, Bool.false_and] using hj
end Go.Proofs.Ytjbcgflpeomkfaa.G

namespace Go.Proofs.Ytjbcgflpeomkfaa.G
open Go.RowKit Go.Proofs.Ytjbcgflpeomkfaa.F Go.Proofs.YtjbcgflpeomkfaaW.PrintWords Go.Proofs.YtjbcgflpeomkfaaW.PrintLast Go.Proofs.YtjbcgflpeomkfaaW.PrintMore
set_option linter.unusedVariables false
set_option linter.unusedSimpArgs false

theorem offsetOk_eq (n : Int) : impl_offsetOk.f n = some (decide (0 ≤ n ∧ n ≤ 1000000000)) := by
  unfold impl_offsetOk.f
  by_cases h : n ≥ 0
  · rw [if_pos h]; congr 1
    by_cases h2 : n ≤ 1000000000
    · rw [decide_eq_true h2, decide_eq_true ⟨h, h2⟩]
    · rw [decide_eq_false h2, decide_eq_false (fun x => h2 x.2)]
  · rw [if_neg h, decide_eq_false (fun x => h x.1)]

def recOk (r : S56) : Bool := recordOk r.f0 r.f1 r.f2 r.f3 r.f4 r.f5
/-- A list of records whose heads' lists are of sizes that the machine's numbers hold. -/
def RecsSm (rs : List S56) : Prop := rs.length ≤ 1048576 ∧ ∀ r ∈ rs, r.f5.length ≤ 1048576
theorem recs_all (xs : List S56) (i : Nat) (hi : i < xs.length) : (xs.drop i).all recOk = (recOk (xs.getD i z56) && (xs.drop (i + 1)).all recOk) := by
  rw [drop_cons xs i z56 hi, List.all_cons]

theorem implRecs_l (xs : List S56) (hn : RecsSm xs) (m : Nat) : ∀ i : Nat, i + m = xs.length → Ev (fun k => impl_recordsOk.l0 k xs (xs.length : Int) (i : Int)) ((xs.drop i).all recOk) := by
  have hl := hn.1
  induction m with
  | zero =>
    intro i hi
    refine Ev.step (f := fun _ => some true) (fun k => by rw [impl_recordsOk.l0, if_neg (by omega)]) ?_
    rw [List.drop_of_length_le (by omega)]; exact Ev.now _
  | succ m ih =>
    intro i hi
    have ew : wrap64 ((i : Int) + 1) = ((i + 1 : Nat) : Int) := by rw [wrapI (by omega) (by omega)]; omega
    have h := ih (i + 1) (by omega)
    have hr : rd_T56 xs (i : Int) = xs.getD i z56 := rfl
    have hx := hn.2 _ (getD_mem xs i z56 (by omega))
    rw [recs_all xs i (by omega)]
    generalize xs.getD i z56 = x at hr hx
    refine Ev.step (fun k => by rw [impl_recordsOk.l0, if_pos (by omega), if_pos (by omega), if_pos (by omega), hr]) (Ev.bind (implRecordOk_ev _ _ _ _ _ _ hx) ?_)
    show Ev _ (recordOk x.f0 x.f1 x.f2 x.f3 x.f4 x.f5 && _)
    cases recordOk x.f0 x.f1 x.f2 x.f3 x.f4 x.f5
    · simp only [Bool.false_eq_true, if_false, Bool.false_and]; exact Ev.now _
    · simp only [if_true, Bool.true_and, ew]; exact h
theorem implRecordsOk_ev (xs : List S56) (hn : RecsSm xs) : Ev (fun k => impl_recordsOk.f k xs) (xs.all recOk) := by
  have h := implRecs_l xs hn xs.length 0 (by omega)
  rw [List.drop_zero] at h
  exact Ev.congr (fun k => by unfold impl_recordsOk.f; rfl) h

def txt1 : List UInt8 := [99, 111, 109, 109, 105, 116]
def txt2 : List UInt8 := [97, 98, 111, 114, 116]
def markRec (r : S56) : Bool := r.f1 && (decide (r.f2.toList = txt1) || decide (r.f2.toList = txt2)) && !r.f3 && decide (r.f4.toList = []) && decide (r.f5.length = 0)
theorem markRec_eq (r : S56) : (if r.f1 = true then (if (r.f2).toList = ([99, 111, 109, 109, 105, 116] : List UInt8) then (if (r.f3 = true) then (some false) else (if (r.f4).toList = ([] : List UInt8) then (some (((r.f5).length : Int) == 0)) else (some false))) else (if (r.f2).toList = ([97, 98, 111, 114, 116] : List UInt8) then (if (r.f3 = true) then (some false) else (if (r.f4).toList = ([] : List UInt8) then (some (((r.f5).length : Int) == 0)) else (some false))) else (some false))) else (some false)) = some (markRec r) := by
  unfold markRec txt1 txt2
  have e : (((r.f5).length : Int) == 0) = decide (r.f5.length = 0) := by
    by_cases h : r.f5.length = 0
    · rw [decide_eq_true h, h]; rfl
    · rw [decide_eq_false h]; exact beq_false_of_ne (by omega)
  rw [e]
  generalize decide (r.f5.length = 0) = q
  by_cases h4 : r.f4.toList = [] <;> by_cases h2 : r.f2.toList = [99, 111, 109, 109, 105, 116] <;> by_cases h3 : r.f2.toList = [97, 98, 111, 114, 116] <;> cases r.f1 <;> cases r.f3 <;> simp [h4, h2, h3]

def batchOk (b e p t s f : Int) (rs : List S56) : Bool :=
  decide (0 ≤ b ∧ b ≤ 1000000000) && decide (0 ≤ e ∧ e ≤ 1000000) && decide (-1 ≤ p ∧ p ≤ 1000000000) && decide (0 ≤ t ∧ t ≤ 1000) && decide (0 ≤ s ∧ s ≤ 1000000000) && decide (0 ≤ f ∧ f ≤ 7) &&
  (decide (1 ≤ (rs.length : Int) ∧ (rs.length : Int) ≤ 40) && (rs.all recOk && (decide (b + rs.length - 1 ≤ 1000000000) && decide (s + rs.length - 1 ≤ 1000000000) && (decide (p ≠ -1) || decide (t = 0 ∧ s = 0 ∧ f / 2 % 2 = 0)) &&
  (decide (f < 4) || (decide (f / 2 % 2 = 1) && decide (rs.length = 1) && markRec (rs.getD 0 z56))))))

theorem specRecs_l (b e p t s f : Int) (xs : List S56) (hn : RecsSm xs) (h1 : 1 ≤ xs.length) (hf2 : f ≥ 4 → f / 2 % 2 = 1) (m : Nat) : ∀ i : Nat, i + m = xs.length → Ev (fun k => spec_BatchOk.l0 k (i : Int) b e p t s f xs) ((xs.drop i).all recOk && (decide (f < 4) || (decide (f / 2 % 2 = 1) && decide (xs.length = 1) && markRec (xs.getD 0 z56)))) := by
  have hl := hn.1
  induction m with
  | zero =>
    intro i hi
    rw [List.drop_of_length_le (by omega), List.all_nil, Bool.true_and]
    refine Ev.step (f := fun _ => some (decide (f < 4) || (decide (f / 2 % 2 = 1) && decide (xs.length = 1) && markRec (xs.getD 0 z56)))) (fun k => ?_) (Ev.now _)
    rw [spec_BatchOk.l0, if_neg (by omega)]
    have hr : rd_T56 xs 0 = xs.getD 0 z56 := rfl
    by_cases hf : f ≥ 4
    · have := hf2 hf
      rw [if_pos hf, if_pos (by omega), hr, decide_eq_false (show ¬ f < 4 by omega), decide_eq_true this, Bool.false_or, Bool.true_and]
      by_cases hx : xs.length = 1
      · rw [if_pos (by omega), decide_eq_true hx, Bool.true_and]; exact markRec_eq _
      · rw [if_neg (by omega), decide_eq_false hx, Bool.false_and]
    · rw [if_neg hf, decide_eq_true (show f < 4 by omega), Bool.true_or]
  | succ m ih =>
    intro i hi
    have ew : wrap64 ((i : Int) + 1) = ((i + 1 : Nat) : Int) := by rw [wrapI (by omega) (by omega)]; omega
    have h := ih (i + 1) (by omega)
    have hr : rd_T56 xs (i : Int) = xs.getD i z56 := rfl
    have hx := hn.2 _ (getD_mem xs i z56 (by omega))
    rw [recs_all xs i (by omega)]
    generalize xs.getD i z56 = x at hr hx
    refine Ev.step (fun k => by rw [spec_BatchOk.l0, if_pos (by omega), if_pos (by omega), hr]) (Ev.bind (specRecordOk_ev _ _ _ _ _ _ hx) ?_)
    show Ev _ (recordOk x.f0 x.f1 x.f2 x.f3 x.f4 x.f5 && _ && _)
    cases recordOk x.f0 x.f1 x.f2 x.f3 x.f4 x.f5
    · simp only [Bool.false_eq_true, if_false, Bool.false_and]; exact Ev.now _
    · simp only [if_true, Bool.true_and, ew]; exact h
theorem specBatchOk_ev (b e p t s f : Int) (xs : List S56) (hn : RecsSm xs) : Ev (fun k => spec_BatchOk.f k b e p t s f xs) (batchOk b e p t s f xs) := by
  have hl := hn.1
  have hj : Ev (fun k => spec_BatchOk.j0 k true b e p t s f xs) false := Ev.step (f := fun _ => some false) (fun k => by rw [spec_BatchOk.j0, if_pos rfl]) (Ev.now _)
  have hj1 : Ev (fun k => spec_BatchOk.j1 k true b e p t s f xs) false := Ev.step (f := fun _ => some false) (fun k => by rw [spec_BatchOk.j1, if_pos rfl]) (Ev.now _)
  have hj2 : Ev (fun k => spec_BatchOk.j2 k true b e p t s f xs) false := Ev.step (f := fun _ => some false) (fun k => by rw [spec_BatchOk.j2, if_pos rfl]) (Ev.now _)
  unfold spec_BatchOk.f batchOk
  simp only [l1In_eq, Option.bind_some]
  by_cases h1 : 0 ≤ b ∧ b ≤ 1000000000
  case neg => simpa only [decide_eq_false h1, Bool.false_eq_true, if_false, Bool.false_and] using hj
  by_cases h2 : 0 ≤ e ∧ e ≤ 1000000
  case neg => simpa only [decide_eq_true h1, decide_eq_false h2, if_true, Bool.false_eq_true, if_false, Bool.true_and, Bool.false_and] using hj
  by_cases h3 : -1 ≤ p ∧ p ≤ 1000000000
  case neg => simpa only [decide_eq_true h1, decide_eq_true h2, decide_eq_false h3, if_true, Bool.false_eq_true, if_false, Bool.true_and, Bool.false_and] using hj
  by_cases h4 : 0 ≤ t ∧ t ≤ 1000
  case neg => simpa only [decide_eq_true h1, decide_eq_true h2, decide_eq_true h3, decide_eq_false h4, if_true, Bool.false_eq_true, if_false, Bool.true_and, Bool.false_and] using hj
  by_cases h5 : 0 ≤ s ∧ s ≤ 1000000000
  case neg => simpa only [decide_eq_true h1, decide_eq_true h2, decide_eq_true h3, decide_eq_true h4, decide_eq_false h5, if_true, Bool.false_eq_true, if_false, Bool.true_and, Bool.false_and] using hj
  by_cases h6 : 0 ≤ f ∧ f ≤ 7
  case neg => simpa only [decide_eq_true h1, decide_eq_true h2, decide_eq_true h3, decide_eq_true h4, decide_eq_true h5, decide_eq_false h6, if_true, Bool.not_false, Bool.true_and, Bool.false_and] using hj
  simp only [decide_eq_true h1, decide_eq_true h2, decide_eq_true h3, decide_eq_true h4, decide_eq_true h5, decide_eq_true h6, if_true, Bool.not_true, Bool.true_and]
  have ef : Int.tmod (wrap64 (Int.tdiv f 2)) 2 = f / 2 % 2 := by rw [tdiv_pos (by omega), wrapI (by omega) (by omega), tmod_pos (by omega)]
  -- what stands behind the second cut
  have hB : (f ≥ 4 → f / 2 % 2 = 1) → Ev (fun k => spec_BatchOk.j1 k false b e p t s f xs) (decide (1 ≤ (xs.length : Int) ∧ (xs.length : Int) ≤ 40) && (xs.all recOk && (decide (b + xs.length - 1 ≤ 1000000000) && decide (s + xs.length - 1 ≤ 1000000000) && (decide (f < 4) || (decide (f / 2 % 2 = 1) && decide (xs.length = 1) && markRec (xs.getD 0 z56)))))) := by
    intro hf2
    refine Ev.step (fun k => by rw [spec_BatchOk.j1, if_neg (by decide), l1In_eq, Option.bind_some]) ?_
    by_cases g1 : 1 ≤ (xs.length : Int) ∧ (xs.length : Int) ≤ 40
    case neg => simpa only [decide_eq_false g1, Bool.false_eq_true, if_false, Bool.false_and] using hj2
    have eb : wrap64 (wrap64 (b + (xs.length : Int)) - 1) = b + xs.length - 1 := by rw [wrapI (x := b + (xs.length : Int)) (by omega) (by omega), wrapI (by omega) (by omega)]
    have es : wrap64 (wrap64 (s + (xs.length : Int)) - 1) = s + xs.length - 1 := by rw [wrapI (x := s + (xs.length : Int)) (by omega) (by omega), wrapI (by omega) (by omega)]
    simp only [decide_eq_true g1, if_true, Bool.true_and, eb, es]
    by_cases g2 : b + (xs.length : Int) - 1 ≤ 1000000000
    case neg => simpa only [if_pos (show b + (xs.length : Int) - 1 > 1000000000 by omega), decide_eq_false g2, Bool.false_and, Bool.and_false] using hj2
    simp only [if_neg (show ¬ b + (xs.length : Int) - 1 > 1000000000 by omega), decide_eq_true g2, Bool.true_and]
    by_cases g3 : s + (xs.length : Int) - 1 ≤ 1000000000
    case neg => simpa only [decide_eq_true (show s + (xs.length : Int) - 1 > 1000000000 by omega), decide_eq_false g3, Bool.false_and, Bool.and_false] using hj2
    simp only [decide_eq_false (show ¬ s + (xs.length : Int) - 1 > 1000000000 by omega), decide_eq_true g3, Bool.true_and]
    have h := specRecs_l b e p t s f xs hn (by omega) hf2 xs.length 0 (by omega)
    rw [List.drop_zero] at h
    exact Ev.step (fun k => by rw [spec_BatchOk.j2, if_neg (by decide)]; rfl) h
  have hC : Ev (fun k => if f ≥ 4 then spec_BatchOk.j1 k (f / 2 % 2 == 0) b e p t s f xs else spec_BatchOk.j1 k false b e p t s f xs) (decide (1 ≤ (xs.length : Int) ∧ (xs.length : Int) ≤ 40) && (xs.all recOk && (decide (b + xs.length - 1 ≤ 1000000000) && decide (s + xs.length - 1 ≤ 1000000000) && (decide (f < 4) || (decide (f / 2 % 2 = 1) && decide (xs.length = 1) && markRec (xs.getD 0 z56)))))) := by
    by_cases g : f ≥ 4
    · simp only [if_pos g]
      by_cases g2 : f / 2 % 2 = 0
      · simp only [g2, beq_self_eq_true, decide_eq_false (show ¬ f < 4 by omega), decide_eq_false (show ¬ ((0 : Int) = 1) by decide), Bool.false_and, Bool.or_false, Bool.and_false]
        exact hj1
      · simp only [beq_false_of_ne g2]
        exact hB (fun _ => by omega)
    · simp only [if_neg g]
      exact hB (fun x => absurd x g)
  refine Ev.step (fun k => by rw [spec_BatchOk.j0, if_neg (by decide), ef]) ?_
  by_cases g : p < 0
  · simp only [if_pos g, decide_eq_false (show ¬ p ≠ -1 by omega), Bool.false_or]
    by_cases g1 : t = 0
    case neg => simpa only [if_neg g1, decide_eq_false (show ¬ (t = 0 ∧ s = 0 ∧ f / 2 % 2 = 0) from fun x => g1 x.1), Bool.false_and, Bool.and_false] using hj1
    by_cases g2 : s = 0
    case neg => simpa only [if_pos g1, if_neg g2, decide_eq_false (show ¬ (t = 0 ∧ s = 0 ∧ f / 2 % 2 = 0) from fun x => g2 x.2.1), Bool.false_and, Bool.and_false] using hj1
    by_cases g3 : f / 2 % 2 = 1
    · simpa only [if_pos g1, if_pos g2, if_pos g3, decide_eq_false (show ¬ (t = 0 ∧ s = 0 ∧ f / 2 % 2 = 0) from fun x => by omega), Bool.false_and, Bool.and_false] using hj1
    · simp only [if_pos g1, if_pos g2, if_neg g3, decide_eq_true (show t = 0 ∧ s = 0 ∧ f / 2 % 2 = 0 from ⟨g1, g2, by omega⟩), Bool.and_true]
      exact hC
  · simp only [if_neg g, decide_eq_true (show p ≠ -1 by omega), Bool.true_or, Bool.and_true]
    exact hC

set_option maxRecDepth 10000 in
theorem flag2 (f : Int) (h0 : 0 ≤ f) (h : f ≤ 7) : Go.bits .and .i64 f 2 = f / 2 % 2 * 2 := by
  obtain ⟨n, rfl⟩ := Int.eq_ofNat_of_zero_le h0
  have hn : n < 8 := by omega
  have : ∀ m : Nat, m < 8 → Go.bits .and .i64 (m : Int) 2 = (m : Int) / 2 % 2 * 2 := by decide
  exact this n hn
set_option maxRecDepth 10000 in
theorem flag4 (f : Int) (h0 : 0 ≤ f) (h : f ≤ 7) : Go.bits .and .i64 f 4 = f / 4 * 4 := by
  obtain ⟨n, rfl⟩ := Int.eq_ofNat_of_zero_le h0
  have hn : n < 8 := by omega
  have : ∀ m : Nat, m < 8 → Go.bits .and .i64 (m : Int) 4 = (m : Int) / 4 * 4 := by decide
  exact this n hn
theorem implBatchOk_ev (b e p t s f : Int) (xs : List S56) (hn : RecsSm xs) : Ev (fun k => impl_BatchOk.f k b e p t s f xs) (batchOk b e p t s f xs) := by
  have hl := hn.1
  have hj : Ev (fun k => impl_BatchOk.j0 k (xs.length : Int) true b e p t s f xs) false := Ev.step (f := fun _ => some false) (fun k => by rw [impl_BatchOk.j0, if_pos rfl]) (Ev.now _)
  have hj1 : Ev (fun k => impl_BatchOk.j1 k (xs.length : Int) true b e p t s f xs) false := Ev.step (f := fun _ => some false) (fun k => by rw [impl_BatchOk.j1, if_pos rfl]) (Ev.now _)
  unfold impl_BatchOk.f batchOk
  simp only [offsetOk_eq, within_eq, Option.bind_some]
  by_cases h1 : 0 ≤ b ∧ b ≤ 1000000000
  case neg => simpa only [decide_eq_false h1, Bool.false_eq_true, if_false, Bool.false_and] using hj
  by_cases h2 : 0 ≤ e ∧ e ≤ 1000000
  case neg => simpa only [decide_eq_true h1, decide_eq_false h2, if_true, Bool.false_eq_true, if_false, Bool.true_and, Bool.false_and] using hj
  by_cases h3 : -1 ≤ p ∧ p ≤ 1000000000
  case neg => simpa only [decide_eq_true h1, decide_eq_true h2, decide_eq_false h3, if_true, Bool.false_eq_true, if_false, Bool.true_and, Bool.false_and] using hj
  by_cases h4 : 0 ≤ t ∧ t ≤ 1000
  case neg => simpa only [decide_eq_true h1, decide_eq_true h2, decide_eq_true h3, decide_eq_false h4, if_true, Bool.false_eq_true, if_false, Bool.true_and, Bool.false_and] using hj
  by_cases h5 : 0 ≤ s ∧ s ≤ 1000000000
  case neg => simpa only [decide_eq_true h1, decide_eq_true h2, decide_eq_true h3, decide_eq_true h4, decide_eq_false h5, if_true, Bool.false_eq_true, if_false, Bool.true_and, Bool.false_and] using hj
  by_cases h6 : 0 ≤ f ∧ f ≤ 7
  case neg => simpa only [decide_eq_true h1, decide_eq_true h2, decide_eq_true h3, decide_eq_true h4, decide_eq_true h5, decide_eq_false h6, if_true, Bool.false_eq_true, if_false, Bool.true_and, Bool.false_and] using hj
  by_cases h7 : 1 ≤ (xs.length : Int) ∧ (xs.length : Int) ≤ 40
  case neg => simpa only [decide_eq_true h1, decide_eq_true h2, decide_eq_true h3, decide_eq_true h4, decide_eq_true h5, decide_eq_true h6, decide_eq_false h7, if_true, Bool.false_eq_true, if_false, Bool.true_and, Bool.false_and] using hj
  simp only [decide_eq_true h1, decide_eq_true h2, decide_eq_true h3, decide_eq_true h4, decide_eq_true h5, decide_eq_true h6, decide_eq_true h7, if_true, Bool.true_and]
  refine Ev.bind (implRecordsOk_ev xs hn) ?_
  cases hra : xs.all recOk
  case false => simpa only [Bool.not_false, Bool.false_and] using hj
  simp only [Bool.not_true, Bool.true_and]
  have eb : wrap64 (wrap64 (b + (xs.length : Int)) - 1) = b + xs.length - 1 := by rw [wrapI (x := b + (xs.length : Int)) (by omega) (by omega), wrapI (by omega) (by omega)]
  have es : wrap64 (wrap64 (s + (xs.length : Int)) - 1) = s + xs.length - 1 := by rw [wrapI (x := s + (xs.length : Int)) (by omega) (by omega), wrapI (by omega) (by omega)]
  refine Ev.step (fun k => by rw [impl_BatchOk.j0, if_neg (by decide), eb, es]) ?_
  simp only [offsetOk_eq, Option.bind_some]
  by_cases g2 : b + (xs.length : Int) - 1 ≤ 1000000000
  case neg => simpa only [decide_eq_false (show ¬ (0 ≤ b + (xs.length : Int) - 1 ∧ b + (xs.length : Int) - 1 ≤ 1000000000) from fun x => g2 x.2), decide_eq_false g2, Bool.false_eq_true, if_false, Bool.false_and] using hj1
  by_cases g3 : s + (xs.length : Int) - 1 ≤ 1000000000
  case neg => simpa only [decide_eq_true (show 0 ≤ b + (xs.length : Int) - 1 ∧ b + (xs.length : Int) - 1 ≤ 1000000000 from ⟨by omega, g2⟩), decide_eq_false (show ¬ (0 ≤ s + (xs.length : Int) - 1 ∧ s + (xs.length : Int) - 1 ≤ 1000000000) from fun x => g3 x.2), decide_eq_true g2, decide_eq_false g3, if_true, Bool.false_eq_true, if_false, Bool.false_and, Bool.and_false] using hj1
  simp only [decide_eq_true (show 0 ≤ b + (xs.length : Int) - 1 ∧ b + (xs.length : Int) - 1 ≤ 1000000000 from ⟨by omega, g2⟩), decide_eq_true (show 0 ≤ s + (xs.length : Int) - 1 ∧ s + (xs.length : Int) - 1 ≤ 1000000000 from ⟨by omega, g3⟩), decide_eq_true g2, decide_eq_true g3, if_true, Bool.true_and, flag2 f h6.1 h6.2]
  have hE : Ev (fun k => impl_BatchOk.j1 k (xs.length : Int) false b e p t s f xs) (decide (f < 4) || (decide (f / 2 % 2 = 1) && decide (xs.length = 1) && markRec (xs.getD 0 z56))) := by
    refine Ev.step (f := fun _ => some (decide (f < 4) || (decide (f / 2 % 2 = 1) && decide (xs.length = 1) && markRec (xs.getD 0 z56)))) (fun k => ?_) (Ev.now _)
    have hr : rd_T56 xs 0 = xs.getD 0 z56 := rfl
    rw [impl_BatchOk.j1, if_neg (by decide), flag4 f h6.1 h6.2, flag2 f h6.1 h6.2]
    by_cases g4 : f < 4
    · rw [if_pos (by omega), decide_eq_true g4, Bool.true_or]
    · rw [if_neg (by omega), if_pos (by omega), decide_eq_false g4, Bool.false_or]
      by_cases g5 : f / 2 % 2 = 1
      · rw [if_neg (by omega), decide_eq_true g5, Bool.true_and, hr]
        by_cases g6 : xs.length = 1
        · rw [if_pos (by omega), decide_eq_true g6, Bool.true_and]; exact markRec_eq _
        · rw [if_neg (by omega), decide_eq_false g6, Bool.false_and]
      · rw [if_pos (by omega), decide_eq_false g5, Bool.false_and, Bool.false_and]
  by_cases g : p = -1
  · simp only [if_pos g, decide_eq_false (show ¬ p ≠ -1 from fun x => x g), Bool.false_or]
    by_cases k1 : t = 0
    case neg => simpa only [if_neg k1, decide_eq_false (show ¬ (t = 0 ∧ s = 0 ∧ f / 2 % 2 = 0) from fun x => k1 x.1), Bool.false_and] using hj1
    by_cases k2 : s = 0
    case neg => simpa only [if_pos k1, if_neg k2, decide_eq_false (show ¬ (t = 0 ∧ s = 0 ∧ f / 2 % 2 = 0) from fun x => k2 x.2.1), Bool.false_and] using hj1
    simp only [if_pos k1, if_pos k2]
    by_cases k3 : f / 2 % 2 = 0
    · have e1 : (f / 2 % 2 * 2 != 0) = false := by rw [k3]; rfl
      simp only [e1, decide_eq_true (show t = 0 ∧ s = 0 ∧ f / 2 % 2 = 0 from ⟨k1, k2, k3⟩), Bool.true_and]
      exact hE
    · have : (f / 2 % 2 * 2 != 0) = true := bne_iff_ne.2 (by omega)
      simpa only [this, decide_eq_false (show ¬ (t = 0 ∧ s = 0 ∧ f / 2 % 2 = 0) from fun x => k3 x.2.2), Bool.false_and] using hj1
  · simp only [if_neg g, decide_eq_true (show p ≠ -1 from g), Bool.true_or, Bool.true_and]
    exact hE
end Go.Proofs.Ytjbcgflpeomkfaa.G

namespace Go.Proofs.Ytjbcgflpeomkfaa.G
open Go.Proofs.Ytjbcgflpeomkfaa.F
theorem recsSm {xs : List S56} (h : xs.length ≤ 1048576 ∧ ∀ y ∈ xs, Sm56 y) : RecsSm xs := ⟨h.1, fun r hr => (h.2 r hr).2.2.1⟩
end Go.Proofs.Ytjbcgflpeomkfaa.G

namespace Go.Proofs.Ytjbcgflpeomkfaa.G
theorem strLim {s : ByteArray} (h : Open.wfStr s) : s.size ≤ 9223372036854775807 := by simp only [Open.wfStr, maxLen] at h; omega
theorem listLim {α : Type} {W : α → Prop} {xs : List α} (h : Open.wfList W xs) : xs.length ≤ 9223372036854775807 := by have := h.1; simp only [maxLen] at this; omega
theorem strsLim {xs : List ByteArray} (h : Open.wfList Open.wfStr xs) : xs.length ≤ 9223372036854775807 ∧ ∀ y ∈ xs, y.size ≤ 9223372036854775807 := ⟨listLim h, fun y hy => strLim (h.2 y hy)⟩
end Go.Proofs.Ytjbcgflpeomkfaa.G

namespace Go.Proofs.Ytjbcgflpeomkfaa.G
open Go.RowKit Go.Proofs.Ytjbcgflpeomkfaa Go.Proofs.Ytjbcgflpeomkfaa.F Go.Proofs.YtjbcgflpeomkfaaW.PrintWords
set_option linter.unusedVariables false

theorem lim_Head {x : S93} (h : Kinds.Wf93 x) : Lim93 x := ⟨(strLim h.1), (strLim h.2)⟩
theorem limS_Head {xs : List S93} (h : Open.wfList Kinds.Wf93 xs) : xs.length ≤ 9223372036854775807 ∧ ∀ y ∈ xs, Lim93 y := ⟨listLim h, fun y hy => lim_Head (h.2 y hy)⟩
theorem sm_Head {x : S93} (h : Sm93 x) : Sm74 (convHead x) := ⟨h.1, h.2⟩
theorem smS_Head {xs : List S93} (h : xs.length ≤ 1048576 ∧ ∀ y ∈ xs, Sm93 y) : (xs.map convHead).length ≤ 1048576 ∧ ∀ y ∈ xs.map convHead, Sm74 y := ⟨by simpa using h.1, fun y hy => by obtain ⟨z, hz, rfl⟩ := List.mem_map.1 hy; exact sm_Head (h.2 z hz)⟩

end Go.Proofs.Ytjbcgflpeomkfaa.G

namespace Go.Proofs.Ytjbcgflpeomkfaa.G
open Go.RowKit Go.Proofs.Ytjbcgflpeomkfaa Go.Proofs.Ytjbcgflpeomkfaa.F Go.Proofs.YtjbcgflpeomkfaaW.PrintWords
set_option linter.unusedVariables false

theorem lim_Record {x : S72} (h : Kinds.Wf72 x) : Lim72 x := ⟨(strLim h.2.2.1), (strLim h.2.2.2.2.1), (limS_Head h.2.2.2.2.2)⟩
theorem limS_Record {xs : List S72} (h : Open.wfList Kinds.Wf72 xs) : xs.length ≤ 9223372036854775807 ∧ ∀ y ∈ xs, Lim72 y := ⟨listLim h, fun y hy => lim_Record (h.2 y hy)⟩
theorem sm_Record {x : S72} (h : Sm72 x) : Sm56 (convRecord x) := ⟨h.1, h.2.1, (smS_Head h.2.2)⟩
theorem smS_Record {xs : List S72} (h : xs.length ≤ 1048576 ∧ ∀ y ∈ xs, Sm72 y) : (xs.map convRecord).length ≤ 1048576 ∧ ∀ y ∈ xs.map convRecord, Sm56 y := ⟨by simpa using h.1, fun y hy => by obtain ⟨z, hz, rfl⟩ := List.mem_map.1 hy; exact sm_Record (h.2 z hz)⟩

end Go.Proofs.Ytjbcgflpeomkfaa.G

namespace Go.Proofs.Ytjbcgflpeomkfaa.G
open Go.RowKit Go.Proofs.Ytjbcgflpeomkfaa Go.Proofs.Ytjbcgflpeomkfaa.F Go.Proofs.YtjbcgflpeomkfaaW.PrintWords
set_option linter.unusedVariables false

theorem lim_Batch {x : S24} (h : Kinds.Wf24 x) : Lim24 x := (limS_Record h.2.2.2.2.2.2)
theorem limS_Batch {xs : List S24} (h : Open.wfList Kinds.Wf24 xs) : xs.length ≤ 9223372036854775807 ∧ ∀ y ∈ xs, Lim24 y := ⟨listLim h, fun y hy => lim_Batch (h.2 y hy)⟩
theorem sm_Batch {x : S24} (h : Sm24 x) : Sm29 (convBatch x) := (smS_Record h)
theorem smS_Batch {xs : List S24} (h : xs.length ≤ 1048576 ∧ ∀ y ∈ xs, Sm24 y) : (xs.map convBatch).length ≤ 1048576 ∧ ∀ y ∈ xs.map convBatch, Sm29 y := ⟨by simpa using h.1, fun y hy => by obtain ⟨z, hz, rfl⟩ := List.mem_map.1 hy; exact sm_Batch (h.2 z hz)⟩

end Go.Proofs.Ytjbcgflpeomkfaa.G

namespace Go.Proofs.Ytjbcgflpeomkfaa.Pure
open Go.RowKit Go.Proofs.Ytjbcgflpeomkfaa.F Go.Proofs.Ytjbcgflpeomkfaa.G Go.Proofs.Ytjbcgflpeomkfaa Go.Proofs.YtjbcgflpeomkfaaW.PrintWords Go.Proofs.YtjbcgflpeomkfaaW.PrintLast Go.Proofs.YtjbcgflpeomkfaaW.PrintMore
set_option linter.unusedVariables false

theorem FnExactLastOffset (a0_0 : Int) (a0_1 : Int) (a0_2 : Int) (a0_3 : Int) (a0_4 : Int) (a0_5 : Int) (a0_6 : List (S72)) (w0 : KindsFnExactLastOffset.wp24 (a0_0, a0_1, a0_2, a0_3, a0_4, a0_5, a0_6)) : Ev (fun k => laws_FnExactLastOffset.f k a0_0 a0_1 a0_2 a0_3 a0_4 a0_5 a0_6) true := by
  obtain ⟨_, _, _, _, _, _, wr⟩ := w0
  obtain ⟨r, q, l, s⟩ := szBatch_ev a0_0 a0_1 a0_2 a0_3 a0_4 a0_5 a0_6 1048576 (by omega) (by omega) (limS_Record wr)
  unfold laws_FnExactLastOffset.f
  refine Ev.bind q ?_
  by_cases c : r < 0
  · simp only [if_pos c]; exact Ev.now _
  simp only [if_neg c]
  have hs := s (by omega)
  have ht := toBatch_ev a0_0 a0_1 a0_2 a0_3 a0_4 a0_5 a0_6 hs
  have hm := smS_Record hs
  have hr := recsSm hm
  have e1 : Ev (fun k => spec_LastOffset.f k a0_0 a0_1 a0_2 a0_3 a0_4 a0_5 (a0_6.map convRecord)) (if batchOk a0_0 a0_1 a0_2 a0_3 a0_4 a0_5 (a0_6.map convRecord) = true then wrap64 ((wrap64 (a0_0 + ((a0_6.map convRecord).length : Int))) - 1) else -1) := by
    unfold spec_LastOffset.f
    refine Ev.bind (specBatchOk_ev _ _ _ _ _ _ _ hr) ?_
    cases batchOk a0_0 a0_1 a0_2 a0_3 a0_4 a0_5 (a0_6.map convRecord) <;> exact Ev.now _
  have e2 : Ev (fun k => impl_LastOffset.f k a0_0 a0_1 a0_2 a0_3 a0_4 a0_5 (a0_6.map convRecord)) (if batchOk a0_0 a0_1 a0_2 a0_3 a0_4 a0_5 (a0_6.map convRecord) = true then wrap64 ((wrap64 (a0_0 + ((a0_6.map convRecord).length : Int))) - 1) else -1) := by
    unfold impl_LastOffset.f
    refine Ev.bind (implBatchOk_ev _ _ _ _ _ _ _ hr) ?_
    cases batchOk a0_0 a0_1 a0_2 a0_3 a0_4 a0_5 (a0_6.map convRecord) <;> exact Ev.now _
  refine Ev.bind ht (Ev.bind e1 (Ev.bind ht (Ev.bind e2 ?_)))
  simp only [if_true]
  refine Ev.bind ht (Ev.bind (eqBatch_ev _ _ _ _ _ _ _ hm) ?_)
  simp only [if_true]
  exact Ev.now _
end Go.Proofs.Ytjbcgflpeomkfaa.Pure

namespace Go.Proofs.Ytjbcgflpeomkfaa.fnExactLastOffset
open Go.ChangeShapes Go.WideShapes Go.ChangeAt Go.RowKit
open Go.ChangeMaps (open_string shut_string)
open Go.Proofs.YtjbcgflpeomkfaaW.PrintWords Go.Proofs.Ytjbcgflpeomkfaa.F
set_option linter.unusedVariables false
theorem own : ownKnob Try.prog.godebug = none := by kernel_rfl
theorem laidOut : laidOutB Try.prog = true := by kernel_rfl
set_option maxRecDepth 100000 in
theorem lifted (os : Os) (started : os.Started) (H : Type) (enc : TypeId × Value → H) :
    ReturnsInHanded {} Try.checked os 4 .any (Rows.fnExactLastOffsetSpec.pre6 enc Try.prog Try.f4 Rows.fnExactLastOffsetRow.domain false) (Rows.fnExactLastOffsetSpec.post enc Try.prog Try.f4 false true false false) := by
  refine returnsInHanded_of_change_sized (C := Try.checked) own started (by kernel_rfl) Try.func4
    (ChangeSpec.witness6 (enc := enc) (C := Try.checked) false ⟨#[], #[.agg #[.int .i64 0, .int .i64 0, .int .i64 0, .int .i64 0, .int .i64 0, .int .i64 0, .slice none 0 0]], []⟩ 8 (by kernel_rfl) (by kernel_rfl) (by kernel_rfl) (by kernel_rfl)) ?_
  intro W base args ds gs before hval0 hW hcnd hsz0 _
  have hval : ∀ (j : Nat) t v, Try.f4.params[j]? = some t → args[j]? = some v → Value.okWide Try.prog W .any base t v := hval0
  have hW' := hW
  obtain ⟨p, q, hA0, hV, rfl, hfz, hnd⟩ := hW
  have hA : DataW.TrodAll enc Try.prog W 0 (fun _ => true) true Try.f4.params.toList args.toList ds p := hA0
  rw [Try.params4] at hA hval
  obtain ⟨v0, vs0, d0, ds0, p0, q0, hargs, rfl, rfl, h0, r0⟩ := trodAll_cons hA
  obtain ⟨rfl, rfl, rfl⟩ := trodAll_nil r0
  obtain rfl : args = #[v0] := by cases args; simp_all
  obtain ⟨rfl, rfl⟩ := trodVars_none hV
  have k0 := h0
  have lt0 : ∀ x ∈ p0, x.block < W.heap.size := by obtain ⟨m, hm⟩ := k0; exact DataW.trod_lt m _ _ _ hm
  obtain ⟨cs0, rfl, _⟩ := okWide_struct Try.underlying24 (hval 0 24 v0 rfl rfl)
  obtain ⟨⟨a0_0, a0_1, a0_2, a0_3, a0_4, a0_5, a0_6⟩, hK0, w0⟩ : ∃ y, KindsFnExactLastOffset.kp24.K W y cs0.toList ∧ KindsFnExactLastOffset.wp24 y := by
    obtain ⟨fuel, hf⟩ := h0
    exact KindsFnExactLastOffset.rdp24.out hf
  obtain ⟨Aa0_6, ca0_6, e0, la0_6, ga0_6⟩ := KindsFnExactLastOffset.kp24_open hK0
  obtain rfl : cs0 = #[.int .i64 a0_0, .int .i64 a0_1, .int .i64 a0_2, .int .i64 a0_3, .int .i64 a0_4, .int .i64 a0_5, .slice Aa0_6 a0_6.length ca0_6] := Array.toList_inj.1 e0
  clear hA0 hval0 hsz0
  obtain ⟨kk, hk⟩ := Ev.rounds (Pure.FnExactLastOffset a0_0 a0_1 a0_2 a0_3 a0_4 a0_5 a0_6 w0)
  refine (F.laws_FnExactLastOffset.calls kk a0_0 a0_1 a0_2 a0_3 a0_4 a0_5 Aa0_6 ca0_6 a0_6 true W ga0_6 la0_6 hk).mono fun e W' ⟨he, bel⟩ => ?_
  subst he
  exact ⟨_, rfl, _, _, _, [], _, [], hW', trodAll_mk1 (shut_bool Try.underlying4 _), (trodAll_cons_mk (Below.trod laidOut (by kernel_rfl) (of_decide_eq_true (by kernel_rfl)) k0 bel lt0) trodAll_mk0), rfl, bel.frame _, fun h => by cases h⟩
theorem over : Rows.fnExactLastOffsetRow.holds Try.pinned (OpenSpec.ofChange Rows.fnExactLastOffsetSpec) :=
  OpenClaim.holds_of_wide 4 Try.f4 rfl rfl rfl rfl rfl rfl rfl ⟨rfl, rfl, rfl, rfl, rfl⟩ rfl rfl rfl rfl rfl (by kernel_rfl) Try.func4 (by kernel_rfl)
    (of_decide_eq_true (by kernel_rfl)) (by unfold Func.isWrapper; first | (rw [if_pos (by decide +kernel)]; kernel_rfl) | (rw [if_neg (by decide +kernel)]; exact ⟨rfl, rfl⟩))
    (fun os started H enc _ => lifted os started H enc)
theorem proved : Rows.FnExactLastOffsetSaid := over
#print axioms proved
end Go.Proofs.Ytjbcgflpeomkfaa.fnExactLastOffset
namespace Go.Proofs.Ytjbcgflpeomkfaa
/-- The row, under a short name, for the claim. -/
theorem fnExactLastOffset_holds : Rows.FnExactLastOffsetSaid := fnExactLastOffset.proved
end Go.Proofs.Ytjbcgflpeomkfaa
