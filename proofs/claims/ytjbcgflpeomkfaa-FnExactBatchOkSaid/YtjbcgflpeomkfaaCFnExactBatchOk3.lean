/-
FnExactBatchOk: for every batch the law answers true: the program's BatchOk answers as the reference's, and leaves its argument as it was.
Conditions: none beyond the statement's own.
(Part 3 of 6.)
-/
import Derived.Test.YtjbcgflpeomkfaaCFnExactBatchOk2
namespace Go.Proofs.Ytjbcgflpeomkfaa.F
open Go.RowKit Go.Proofs.YtjbcgflpeomkfaaW.PrintWords Go.Proofs.YtjbcgflpeomkfaaW.PrintLast Go.Proofs.YtjbcgflpeomkfaaW.PrintMore
attribute [local go_sem] max2_int min2_int max_two min_two max_three min_three max_four min_four   -- for this text's walks alone
attribute [local go_sem high] Go.Proofs.Ytjbcgflpeomkfaa.Add.string_leq Go.Proofs.Ytjbcgflpeomkfaa.Add.string_gtr
open Go.Proofs.YtjbcgflpeomkfaaW.PrintWords renaming pw_below_drewN → bDN, below_drew1 → bD1, below_alloc → bAl, blk_drewN → kDN, blk_drew → kDr, blk_alloc → kAl, below_set → bSe, below_size → bSz, below_step → bSt, blk_cell → kCe, blk_frozen → kFr, blk_below → kBe, gate_callee → gCa, gate_guard → gGu, gate_dst → gDs, box_event → bEv
set_option linter.unusedVariables false
set_option linter.unusedSimpArgs false

/-! ### spec_BatchOk: function 10 -/
mutual
def spec_BatchOk.j0 : Nat → Bool → Int → Int → Int → Int → Int → Int → List (S56) → Option (Bool)
 | 0, _, _, _, _, _, _, _, _ => none
 | k + 1, x38, x115000, x115001, x115002, x115003, x115004, x115005, x115006 => if x38 = true then (some false) else (if x115002 < 0 then (if x115003 = 0 then (if x115004 = 0 then (if (Int.tmod (wrap64 (Int.tdiv x115005 2)) 2) = 1 then (spec_BatchOk.j1 k true x115000 x115001 x115002 x115003 x115004 x115005 x115006) else (if x115005 ≥ 4 then (spec_BatchOk.j1 k ((Int.tmod (wrap64 (Int.tdiv x115005 2)) 2) == 0) x115000 x115001 x115002 x115003 x115004 x115005 x115006) else (spec_BatchOk.j1 k false x115000 x115001 x115002 x115003 x115004 x115005 x115006))) else (spec_BatchOk.j1 k true x115000 x115001 x115002 x115003 x115004 x115005 x115006)) else (spec_BatchOk.j1 k true x115000 x115001 x115002 x115003 x115004 x115005 x115006)) else (if x115005 ≥ 4 then (spec_BatchOk.j1 k ((Int.tmod (wrap64 (Int.tdiv x115005 2)) 2) == 0) x115000 x115001 x115002 x115003 x115004 x115005 x115006) else (spec_BatchOk.j1 k false x115000 x115001 x115002 x115003 x115004 x115005 x115006)))
def spec_BatchOk.j1 : Nat → Bool → Int → Int → Int → Int → Int → Int → List (S56) → Option (Bool)
 | 0, _, _, _, _, _, _, _, _ => none
 | k + 1, x70, x115000, x115001, x115002, x115003, x115004, x115005, x115006 => if x70 = true then (some false) else ((spec_l1In.f (x115006.length : Int) 1 40).bind fun t121 => (if t121 = true then (if (wrap64 ((wrap64 (x115000 + (x115006.length : Int))) - 1)) > 1000000000 then (spec_BatchOk.j2 k true x115000 x115001 x115002 x115003 x115004 x115005 x115006) else (spec_BatchOk.j2 k (decide ((wrap64 ((wrap64 (x115004 + (x115006.length : Int))) - 1)) > 1000000000)) x115000 x115001 x115002 x115003 x115004 x115005 x115006)) else (spec_BatchOk.j2 k true x115000 x115001 x115002 x115003 x115004 x115005 x115006)))
def spec_BatchOk.j2 : Nat → Bool → Int → Int → Int → Int → Int → Int → List (S56) → Option (Bool)
 | 0, _, _, _, _, _, _, _, _ => none
 | k + 1, x95, x115000, x115001, x115002, x115003, x115004, x115005, x115006 => if x95 = true then (some false) else (spec_BatchOk.l0 k 0 x115000 x115001 x115002 x115003 x115004 x115005 x115006)
def spec_BatchOk.l0 : Nat → Int → Int → Int → Int → Int → Int → Int → List (S56) → Option (Bool)
 | 0, _, _, _, _, _, _, _, _ => none
 | k + 1, x3, x115000, x115001, x115002, x115003, x115004, x115005, x115006 => if x3 < (x115006.length : Int) then (if 0 ≤ x3 then ((spec_RecordOk.f k ((rd_T56 x115006 x3).f0) ((rd_T56 x115006 x3).f1) ((rd_T56 x115006 x3).f2) ((rd_T56 x115006 x3).f3) ((rd_T56 x115006 x3).f4) ((rd_T56 x115006 x3).f5)).bind fun t123 => (if t123 = true then (spec_BatchOk.l0 k (wrap64 (x3 + 1)) x115000 x115001 x115002 x115003 x115004 x115005 x115006) else (some false))) else (none)) else (if x115005 ≥ 4 then (if 0 < (x115006.length : Int) then (if (x115006.length : Int) = 1 then (if (rd_T56 x115006 0).f1 = true then (if ((rd_T56 x115006 0).f2).toList = ([99, 111, 109, 109, 105, 116] : List UInt8) then (if ((rd_T56 x115006 0).f3 = true) then (some false) else (if ((rd_T56 x115006 0).f4).toList = ([] : List UInt8) then (some ((((rd_T56 x115006 0).f5).length : Int) == 0)) else (some false))) else (if ((rd_T56 x115006 0).f2).toList = ([97, 98, 111, 114, 116] : List UInt8) then (if ((rd_T56 x115006 0).f3 = true) then (some false) else (if ((rd_T56 x115006 0).f4).toList = ([] : List UInt8) then (some ((((rd_T56 x115006 0).f5).length : Int) == 0)) else (some false))) else (some false))) else (some false)) else (some false)) else (none)) else (some true))
end
def spec_BatchOk.f (k : Nat) (a0_0 : Int) (a0_1 : Int) (a0_2 : Int) (a0_3 : Int) (a0_4 : Int) (a0_5 : Int) (l0_6 : List (S56)) : Option (Bool) := (spec_l1In.f a0_0 0 1000000000).bind fun t115 => (if t115 = true then ((spec_l1In.f a0_1 0 1000000).bind fun t116 => (if t116 = true then ((spec_l1In.f a0_2 (-1) 1000000000).bind fun t117 => (if t117 = true then ((spec_l1In.f a0_3 0 1000).bind fun t118 => (if t118 = true then ((spec_l1In.f a0_4 0 1000000000).bind fun t119 => (if t119 = true then ((spec_l1In.f a0_5 0 7).bind fun t120 => (spec_BatchOk.j0 k (!t120) a0_0 a0_1 a0_2 a0_3 a0_4 a0_5 l0_6)) else (spec_BatchOk.j0 k true a0_0 a0_1 a0_2 a0_3 a0_4 a0_5 l0_6))) else (spec_BatchOk.j0 k true a0_0 a0_1 a0_2 a0_3 a0_4 a0_5 l0_6))) else (spec_BatchOk.j0 k true a0_0 a0_1 a0_2 a0_3 a0_4 a0_5 l0_6))) else (spec_BatchOk.j0 k true a0_0 a0_1 a0_2 a0_3 a0_4 a0_5 l0_6))) else (spec_BatchOk.j0 k true a0_0 a0_1 a0_2 a0_3 a0_4 a0_5 l0_6))
theorem spec_BatchOk.mono_l : ∀ k, (∀ y0 y1 y2 y3 y4 y5 y6 y7, LeO (spec_BatchOk.j0 k y0 y1 y2 y3 y4 y5 y6 y7) (spec_BatchOk.j0 (k + 1) y0 y1 y2 y3 y4 y5 y6 y7)) ∧ (∀ y0 y1 y2 y3 y4 y5 y6 y7, LeO (spec_BatchOk.j1 k y0 y1 y2 y3 y4 y5 y6 y7) (spec_BatchOk.j1 (k + 1) y0 y1 y2 y3 y4 y5 y6 y7)) ∧ (∀ y0 y1 y2 y3 y4 y5 y6 y7, LeO (spec_BatchOk.j2 k y0 y1 y2 y3 y4 y5 y6 y7) (spec_BatchOk.j2 (k + 1) y0 y1 y2 y3 y4 y5 y6 y7)) ∧ (∀ y0 y1 y2 y3 y4 y5 y6 y7, LeO (spec_BatchOk.l0 k y0 y1 y2 y3 y4 y5 y6 y7) (spec_BatchOk.l0 (k + 1) y0 y1 y2 y3 y4 y5 y6 y7))
 | 0 => ⟨fun _ _ _ _ _ _ _ _ r h => by simp [spec_BatchOk.j0] at h, fun _ _ _ _ _ _ _ _ r h => by simp [spec_BatchOk.j1] at h, fun _ _ _ _ _ _ _ _ r h => by simp [spec_BatchOk.j2] at h, fun _ _ _ _ _ _ _ _ r h => by simp [spec_BatchOk.l0] at h⟩
 | k + 1 => by
  obtain ⟨ih0, ih1, ih2, ih3⟩ := spec_BatchOk.mono_l k
  refine ⟨?_, ?_, ?_, ?_⟩
  ·
   intro y0 y1 y2 y3 y4 y5 y6 y7
   unfold spec_BatchOk.j0
   repeat' first
   | (with_reducible exact ih0 _ _ _ _ _ _ _ _)
   | (with_reducible exact ih1 _ _ _ _ _ _ _ _)
   | (with_reducible exact ih2 _ _ _ _ _ _ _ _)
   | (with_reducible exact ih3 _ _ _ _ _ _ _ _)
   | (with_reducible exact spec_RecordOk.mono _ _ _ _ _ _ _)
   | (with_reducible exact LeO.refl _)
   | (with_reducible exact LeO.none _)
   | (with_reducible refine LeO.ite ?_ ?_)
   | (with_reducible refine LeO.bind ?_ (fun _ => ?_))
   | exact ih0 _ _ _ _ _ _ _ _
   | exact ih1 _ _ _ _ _ _ _ _
   | exact ih2 _ _ _ _ _ _ _ _
   | exact ih3 _ _ _ _ _ _ _ _
   | exact spec_RecordOk.mono _ _ _ _ _ _ _
   | exact LeO.none _
   | refine LeO.ite ?_ ?_
   | refine LeO.bind ?_ (fun _ => ?_)
  ·
   intro y0 y1 y2 y3 y4 y5 y6 y7
   unfold spec_BatchOk.j1
   repeat' first
   | (with_reducible exact ih0 _ _ _ _ _ _ _ _)
   | (with_reducible exact ih1 _ _ _ _ _ _ _ _)
   | (with_reducible exact ih2 _ _ _ _ _ _ _ _)
   | (with_reducible exact ih3 _ _ _ _ _ _ _ _)
   | (with_reducible exact spec_RecordOk.mono _ _ _ _ _ _ _)
   | (with_reducible exact LeO.refl _)
   | (with_reducible exact LeO.none _)
   | (with_reducible refine LeO.ite ?_ ?_)
   | (with_reducible refine LeO.bind ?_ (fun _ => ?_))
   | exact ih0 _ _ _ _ _ _ _ _
   | exact ih1 _ _ _ _ _ _ _ _
   | exact ih2 _ _ _ _ _ _ _ _
   | exact ih3 _ _ _ _ _ _ _ _
   | exact spec_RecordOk.mono _ _ _ _ _ _ _
   | exact LeO.none _
   | refine LeO.ite ?_ ?_
   | refine LeO.bind ?_ (fun _ => ?_)
  ·
   intro y0 y1 y2 y3 y4 y5 y6 y7
   unfold spec_BatchOk.j2
   repeat' first
   | (with_reducible exact ih0 _ _ _ _ _ _ _ _)
   | (with_reducible exact ih1 _ _ _ _ _ _ _ _)
   | (with_reducible exact ih2 _ _ _ _ _ _ _ _)
   | (with_reducible exact ih3 _ _ _ _ _ _ _ _)
   | (with_reducible exact spec_RecordOk.mono _ _ _ _ _ _ _)
   | (with_reducible exact LeO.refl _)
   | (with_reducible exact LeO.none _)
   | (with_reducible refine LeO.ite ?_ ?_)
   | (with_reducible refine LeO.bind ?_ (fun _ => ?_))
   | exact ih0 _ _ _ _ _ _ _ _
   | exact ih1 _ _ _ _ _ _ _ _
   | exact ih2 _ _ _ _ _ _ _ _
   | exact ih3 _ _ _ _ _ _ _ _
   | exact spec_RecordOk.mono _ _ _ _ _ _ _
   | exact LeO.none _
   | refine LeO.ite ?_ ?_
   | refine LeO.bind ?_ (fun _ => ?_)
  ·
   intro y0 y1 y2 y3 y4 y5 y6 y7
   unfold spec_BatchOk.l0
   repeat' first
   | (with_reducible exact ih0 _ _ _ _ _ _ _ _)
   | (with_reducible exact ih1 _ _ _ _ _ _ _ _)
   | (with_reducible exact ih2 _ _ _ _ _ _ _ _)
   | (with_reducible exact ih3 _ _ _ _ _ _ _ _)
   | (with_reducible exact spec_RecordOk.mono _ _ _ _ _ _ _)
   | (with_reducible exact LeO.refl _)
   | (with_reducible exact LeO.none _)
   | (with_reducible refine LeO.ite ?_ ?_)
   | (with_reducible refine LeO.bind ?_ (fun _ => ?_))
   | exact ih0 _ _ _ _ _ _ _ _
   | exact ih1 _ _ _ _ _ _ _ _
   | exact ih2 _ _ _ _ _ _ _ _
   | exact ih3 _ _ _ _ _ _ _ _
   | exact spec_RecordOk.mono _ _ _ _ _ _ _
   | exact LeO.none _
   | refine LeO.ite ?_ ?_
   | refine LeO.bind ?_ (fun _ => ?_)
theorem spec_BatchOk.mono : ∀ a0 a1 a2 a3 a4 a5 a6 k, LeO (spec_BatchOk.f k a0 a1 a2 a3 a4 a5 a6) (spec_BatchOk.f (k + 1) a0 a1 a2 a3 a4 a5 a6) := by
 intro a0 a1 a2 a3 a4 a5 a6 k
 obtain ⟨ih0, ih1, ih2, ih3⟩ := spec_BatchOk.mono_l k
 unfold spec_BatchOk.f
 repeat' first
   | (with_reducible exact ih0 _ _ _ _ _ _ _ _)
   | (with_reducible exact ih1 _ _ _ _ _ _ _ _)
   | (with_reducible exact ih2 _ _ _ _ _ _ _ _)
   | (with_reducible exact ih3 _ _ _ _ _ _ _ _)
   | (with_reducible exact spec_RecordOk.mono _ _ _ _ _ _ _)
   | (with_reducible exact LeO.refl _)
   | (with_reducible exact LeO.none _)
   | (with_reducible refine LeO.ite ?_ ?_)
   | (with_reducible refine LeO.bind ?_ (fun _ => ?_))
   | exact ih0 _ _ _ _ _ _ _ _
   | exact ih1 _ _ _ _ _ _ _ _
   | exact ih2 _ _ _ _ _ _ _ _
   | exact ih3 _ _ _ _ _ _ _ _
   | exact spec_RecordOk.mono _ _ _ _ _ _ _
   | exact LeO.none _
   | refine LeO.ite ?_ ?_
   | refine LeO.bind ?_ (fun _ => ?_)
set_option maxHeartbeats 8000000 in
set_option maxRecDepth 100000 in
theorem spec_BatchOk.calls (k : Nat) (a0_0 : Int) (a0_1 : Int) (a0_2 : Int) (a0_3 : Int) (a0_4 : Int) (a0_5 : Int) (A0_6 : Option Addr) (c0_6 : Nat) (l0_6 : List (S56)) (r : Bool) (w : World) (hr0_6 : Kd.C k56 w A0_6 l0_6.length l0_6) (hc0_6 : l0_6.length ≤ c0_6) (h : spec_BatchOk.f k a0_0 a0_1 a0_2 a0_3 a0_4 a0_5 l0_6 = some r) :
  Calls Try.prog 10 #[.agg #[.int .i64 a0_0, .int .i64 a0_1, .int .i64 a0_2, .int .i64 a0_3, .int .i64 a0_4, .int .i64 a0_5, .slice A0_6 l0_6.length c0_6]] w fun e w' => e = .returned (.bool r) ∧ Below w.heap.size w w' := by
 have hu29 := Try.underlying29
 have hu56 := Try.underlying56
 have HR0_6 := Aside0.mk hr0_6
 have HC0_6 := Aside0.mk hc0_6
 clear hr0_6 hc0_6
 have HB := Aside0.mk (Below.refl w.heap.size w)
 have H : ((spec_l1In.f a0_0 0 1000000000).bind fun t115 => (if t115 = true then ((spec_l1In.f a0_1 0 1000000).bind fun t116 => (if t116 = true then ((spec_l1In.f a0_2 (-1) 1000000000).bind fun t117 => (if t117 = true then ((spec_l1In.f a0_3 0 1000).bind fun t118 => (if t118 = true then ((spec_l1In.f a0_4 0 1000000000).bind fun t119 => (if t119 = true then ((spec_l1In.f a0_5 0 7).bind fun t120 => (spec_BatchOk.j0 k (!t120) a0_0 a0_1 a0_2 a0_3 a0_4 a0_5 l0_6)) else (spec_BatchOk.j0 k true a0_0 a0_1 a0_2 a0_3 a0_4 a0_5 l0_6))) else (spec_BatchOk.j0 k true a0_0 a0_1 a0_2 a0_3 a0_4 a0_5 l0_6))) else (spec_BatchOk.j0 k true a0_0 a0_1 a0_2 a0_3 a0_4 a0_5 l0_6))) else (spec_BatchOk.j0 k true a0_0 a0_1 a0_2 a0_3 a0_4 a0_5 l0_6))) else (spec_BatchOk.j0 k true a0_0 a0_1 a0_2 a0_3 a0_4 a0_5 l0_6))) = some r := h
 clear h
 have HC2 := Aside0.mk H
 clear H
 go_enter Try.func10, Try.ntmps10
 go_upto_region 1 with (first | ((with_reducible refine gDs (N := 1) rfl ?_); (try (refine gGu (by rfl) ?_; dsimp only)); refine bEv ?hg (N := 1) ?hd (cs := #[.int .i64 a0_0, .int .i64 a0_1, .int .i64 a0_2, .int .i64 a0_3, .int .i64 a0_4, .int .i64 a0_5, .slice A0_6 l0_6.length c0_6]) (t := 29) ?hr ?_; (case hd => rfl); (case hg => rfl); (case hr => first | (go_simp; done) | (go_simp; rfl)); intro gb114 hg w3 hbox hb; have n0_ := Aside0.mk (bSt (by repeat (first | (with_reducible first | exact HB.out | apply bAl | apply bDN | apply bD1) | exact HB.out)) hb); have n1_ := Aside0.mk (hbox); have n2_ := Aside0.mk ((by rw [hg]; exact (bSz (by repeat (first | (with_reducible first | exact HB.out | apply bAl | apply bDN | apply bD1) | exact HB.out))) : w.heap.size ≤ gb114)); have n3_ := Aside0.mk ((by rw [hg]; exact (bSz (by repeat (first | (with_reducible first | exact HB.out | apply bAl | apply bDN | apply bD1) | exact HB.out))) : w.heap.size ≤ gb114)); clear HB; have HB := n0_; have BK114 := n1_; have GW114 := n2_; have GE114 := n3_; clear n0_ n1_ n2_ n3_; clear hb hbox hg))
 (try simp only [Act.put, List.setIfInBounds_toArray, List.set_cons_zero, List.set_cons_succ])
 go_cut [38] (fun v38 wc => ∃ (kq : Nat) (x38_1 : Bool), v38 = .bool x38_1 ∧ Aside0 (spec_BatchOk.j0 kq x38_1 a0_0 a0_1 a0_2 a0_3 a0_4 a0_5 l0_6 = some r) ∧ Aside0 (kq ≤ k) ∧ Aside0 (wc.heap[gb114]? = some (.cells #[.int .i64 a0_0, .int .i64 a0_1, .int .i64 a0_2, .int .i64 a0_3, .int .i64 a0_4, .int .i64 a0_5, (.slice A0_6 l0_6.length c0_6)] 29 (0, 0))) ∧ Aside0 (Below w.heap.size w wc))
 case first =>
  have H := HC2.out
  clear HC2
  replace H := Option.bind_eq_some_iff.mp H
  obtain ⟨t115, A40, H⟩ := H
  have A4 := Aside0.mk A40
  clear A40
  by_cases c5 : t115 = true
  ·
   subst c5
   rw [if_pos rfl] at H
   replace H := Option.bind_eq_some_iff.mp H
   obtain ⟨t116, A60, H⟩ := H
   have A6 := Aside0.mk A60
   clear A60
   by_cases c7 : t116 = true
   ·
    subst c7
    rw [if_pos rfl] at H
    replace H := Option.bind_eq_some_iff.mp H
    obtain ⟨t117, A80, H⟩ := H
    have A8 := Aside0.mk A80
    clear A80
    by_cases c9 : t117 = true
    ·
     subst c9
     rw [if_pos rfl] at H
     replace H := Option.bind_eq_some_iff.mp H
     obtain ⟨t118, A100, H⟩ := H
     have A10 := Aside0.mk A100
     clear A100
     by_cases c11 : t118 = true
     ·
      subst c11
      rw [if_pos rfl] at H
      replace H := Option.bind_eq_some_iff.mp H
      obtain ⟨t119, A120, H⟩ := H
      have A12 := Aside0.mk A120
      clear A120
      by_cases c13 : t119 = true
      ·
       subst c13
       rw [if_pos rfl] at H
       replace H := Option.bind_eq_some_iff.mp H
       obtain ⟨t120, A140, H⟩ := H
       have A14 := Aside0.mk A140
       clear A140
       have H' := Aside0.mk H
       clear H
       have hcz15_0 : w3.cell? ⟨gb114, 0, none⟩ = some (.int .i64 a0_0) := (kCe BK114.out 0).trans rfl
       have hcz15_1 : w3.cell? ⟨gb114, 1, none⟩ = some (.int .i64 a0_1) := (kCe BK114.out 1).trans rfl
       have hcz15_2 : w3.cell? ⟨gb114, 2, none⟩ = some (.int .i64 a0_2) := (kCe BK114.out 2).trans rfl
       have hcz15_3 : w3.cell? ⟨gb114, 3, none⟩ = some (.int .i64 a0_3) := (kCe BK114.out 3).trans rfl
       have hcz15_4 : w3.cell? ⟨gb114, 4, none⟩ = some (.int .i64 a0_4) := (kCe BK114.out 4).trans rfl
       have hcz15_5 : w3.cell? ⟨gb114, 5, none⟩ = some (.int .i64 a0_5) := (kCe BK114.out 5).trans rfl
       have hcz15_6 : w3.cell? ⟨gb114, 6, none⟩ = some (.slice A0_6 l0_6.length c0_6) := (kCe BK114.out 6).trans rfl
       have hfz15_0 := kFr BK114.out 0
       have hfz15_1 := kFr BK114.out 1
       have hfz15_2 := kFr BK114.out 2
       have hfz15_3 := kFr BK114.out 3
       have hfz15_4 := kFr BK114.out 4
       have hfz15_5 := kFr BK114.out 5
       have hfz15_6 := kFr BK114.out 6
       go_wp2_with (first | ((with_reducible refine gCa (f := 30) rfl ?_); refine goesL_ (some 7) rfl rfl Try.func30 (by kernel_rfl) rfl #[.int .i64 a0_0, .int .i64 0, .int .i64 1000000000] rfl (by (try simp only [List.map_toArray, List.map_cons, List.map_nil]); first | done | rfl | (simp only [List.length_drop, List.length_take]; rfl)) ?_; (with_reducible refine (spec_l1In.calls a0_0 0 1000000000 true _ A4.out).mono ?_); rintro e w' ⟨rfl, ⟨nd, rfl⟩⟩; refine ⟨_, rfl, ?_⟩) | (go_at_call 30; (with_reducible refine (spec_l1In.calls a0_1 0 1000000 true _ A6.out).mono ?_); rintro e w' ⟨rfl, ⟨nd, rfl⟩⟩) | (go_at_call 30; (with_reducible refine (spec_l1In.calls a0_2 (-1) 1000000000 true _ A8.out).mono ?_); rintro e w' ⟨rfl, ⟨nd, rfl⟩⟩) | (go_at_call 30; (with_reducible refine (spec_l1In.calls a0_3 0 1000 true _ A10.out).mono ?_); rintro e w' ⟨rfl, ⟨nd, rfl⟩⟩) | (go_at_call 30; (with_reducible refine (spec_l1In.calls a0_4 0 1000000000 true _ A12.out).mono ?_); rintro e w' ⟨rfl, ⟨nd, rfl⟩⟩) | (go_at_call 30; (with_reducible refine (spec_l1In.calls a0_5 0 7 t120 _ A14.out).mono ?_); rintro e w' ⟨rfl, ⟨nd, rfl⟩⟩))
       go_meet
       case rel => exact ⟨_, (!t120), (by first | rfl | (simp; done) | (simp [*]; done) | exact Go.Proofs.Ytjbcgflpeomkfaa.Add.isEmpty_bne _), H', ⟨by first | omega | exact Nat.le_refl _⟩, ⟨by (with_reducible repeat first | refine kDN ?_ _ | refine kDr ?_ | refine kAl ?_ _); exact BK114.out⟩, ⟨by repeat (first | (with_reducible first | exact HB.out | apply bAl | apply bDN | apply bD1 | refine bSe ?_ GE114.out) | exact HB.out)⟩⟩
      ·
       replace c13 := Bool.eq_false_iff.mpr c13
       subst c13
       rw [if_neg (show ¬ (false = true) by decide)] at H
       have H' := Aside0.mk H
       clear H
       have hcz16_0 : w3.cell? ⟨gb114, 0, none⟩ = some (.int .i64 a0_0) := (kCe BK114.out 0).trans rfl
       have hcz16_1 : w3.cell? ⟨gb114, 1, none⟩ = some (.int .i64 a0_1) := (kCe BK114.out 1).trans rfl
       have hcz16_2 : w3.cell? ⟨gb114, 2, none⟩ = some (.int .i64 a0_2) := (kCe BK114.out 2).trans rfl
       have hcz16_3 : w3.cell? ⟨gb114, 3, none⟩ = some (.int .i64 a0_3) := (kCe BK114.out 3).trans rfl
       have hcz16_4 : w3.cell? ⟨gb114, 4, none⟩ = some (.int .i64 a0_4) := (kCe BK114.out 4).trans rfl
       have hcz16_5 : w3.cell? ⟨gb114, 5, none⟩ = some (.int .i64 a0_5) := (kCe BK114.out 5).trans rfl
       have hcz16_6 : w3.cell? ⟨gb114, 6, none⟩ = some (.slice A0_6 l0_6.length c0_6) := (kCe BK114.out 6).trans rfl
       have hfz16_0 := kFr BK114.out 0
       have hfz16_1 := kFr BK114.out 1
       have hfz16_2 := kFr BK114.out 2
       have hfz16_3 := kFr BK114.out 3
       have hfz16_4 := kFr BK114.out 4
       have hfz16_5 := kFr BK114.out 5
       have hfz16_6 := kFr BK114.out 6
       go_wp2_with (first | ((with_reducible refine gCa (f := 30) rfl ?_); refine goesL_ (some 7) rfl rfl Try.func30 (by kernel_rfl) rfl #[.int .i64 a0_0, .int .i64 0, .int .i64 1000000000] rfl (by (try simp only [List.map_toArray, List.map_cons, List.map_nil]); first | done | rfl | (simp only [List.length_drop, List.length_take]; rfl)) ?_; (with_reducible refine (spec_l1In.calls a0_0 0 1000000000 true _ A4.out).mono ?_); rintro e w' ⟨rfl, ⟨nd, rfl⟩⟩; refine ⟨_, rfl, ?_⟩) | (go_at_call 30; (with_reducible refine (spec_l1In.calls a0_1 0 1000000 true _ A6.out).mono ?_); rintro e w' ⟨rfl, ⟨nd, rfl⟩⟩) | (go_at_call 30; (with_reducible refine (spec_l1In.calls a0_2 (-1) 1000000000 true _ A8.out).mono ?_); rintro e w' ⟨rfl, ⟨nd, rfl⟩⟩) | (go_at_call 30; (with_reducible refine (spec_l1In.calls a0_3 0 1000 true _ A10.out).mono ?_); rintro e w' ⟨rfl, ⟨nd, rfl⟩⟩) | (go_at_call 30; (with_reducible refine (spec_l1In.calls a0_4 0 1000000000 false _ A12.out).mono ?_); rintro e w' ⟨rfl, ⟨nd, rfl⟩⟩))
       go_meet
       case rel => exact ⟨_, (true), (by first | rfl | (simp; done) | (simp [*]; done) | exact Go.Proofs.Ytjbcgflpeomkfaa.Add.isEmpty_bne _), H', ⟨by first | omega | exact Nat.le_refl _⟩, ⟨by (with_reducible repeat first | refine kDN ?_ _ | refine kDr ?_ | refine kAl ?_ _); exact BK114.out⟩, ⟨by repeat (first | (with_reducible first | exact HB.out | apply bAl | apply bDN | apply bD1 | refine bSe ?_ GE114.out) | exact HB.out)⟩⟩
     ·
      replace c11 := Bool.eq_false_iff.mpr c11
      subst c11
      rw [if_neg (show ¬ (false = true) by decide)] at H
      have H' := Aside0.mk H
      clear H
      have hcz17_0 : w3.cell? ⟨gb114, 0, none⟩ = some (.int .i64 a0_0) := (kCe BK114.out 0).trans rfl
      have hcz17_1 : w3.cell? ⟨gb114, 1, none⟩ = some (.int .i64 a0_1) := (kCe BK114.out 1).trans rfl
      have hcz17_2 : w3.cell? ⟨gb114, 2, none⟩ = some (.int .i64 a0_2) := (kCe BK114.out 2).trans rfl
      have hcz17_3 : w3.cell? ⟨gb114, 3, none⟩ = some (.int .i64 a0_3) := (kCe BK114.out 3).trans rfl
      have hcz17_4 : w3.cell? ⟨gb114, 4, none⟩ = some (.int .i64 a0_4) := (kCe BK114.out 4).trans rfl
      have hcz17_5 : w3.cell? ⟨gb114, 5, none⟩ = some (.int .i64 a0_5) := (kCe BK114.out 5).trans rfl
      have hcz17_6 : w3.cell? ⟨gb114, 6, none⟩ = some (.slice A0_6 l0_6.length c0_6) := (kCe BK114.out 6).trans rfl
      have hfz17_0 := kFr BK114.out 0
      have hfz17_1 := kFr BK114.out 1
      have hfz17_2 := kFr BK114.out 2
      have hfz17_3 := kFr BK114.out 3
      have hfz17_4 := kFr BK114.out 4
      have hfz17_5 := kFr BK114.out 5
      have hfz17_6 := kFr BK114.out 6
      go_wp2_with (first | ((with_reducible refine gCa (f := 30) rfl ?_); refine goesL_ (some 7) rfl rfl Try.func30 (by kernel_rfl) rfl #[.int .i64 a0_0, .int .i64 0, .int .i64 1000000000] rfl (by (try simp only [List.map_toArray, List.map_cons, List.map_nil]); first | done | rfl | (simp only [List.length_drop, List.length_take]; rfl)) ?_; (with_reducible refine (spec_l1In.calls a0_0 0 1000000000 true _ A4.out).mono ?_); rintro e w' ⟨rfl, ⟨nd, rfl⟩⟩; refine ⟨_, rfl, ?_⟩) | (go_at_call 30; (with_reducible refine (spec_l1In.calls a0_1 0 1000000 true _ A6.out).mono ?_); rintro e w' ⟨rfl, ⟨nd, rfl⟩⟩) | (go_at_call 30; (with_reducible refine (spec_l1In.calls a0_2 (-1) 1000000000 true _ A8.out).mono ?_); rintro e w' ⟨rfl, ⟨nd, rfl⟩⟩) | (go_at_call 30; (with_reducible refine (spec_l1In.calls a0_3 0 1000 false _ A10.out).mono ?_); rintro e w' ⟨rfl, ⟨nd, rfl⟩⟩))
      go_meet
      case rel => exact ⟨_, (true), (by first | rfl | (simp; done) | (simp [*]; done) | exact Go.Proofs.Ytjbcgflpeomkfaa.Add.isEmpty_bne _), H', ⟨by first | omega | exact Nat.le_refl _⟩, ⟨by (with_reducible repeat first | refine kDN ?_ _ | refine kDr ?_ | refine kAl ?_ _); exact BK114.out⟩, ⟨by repeat (first | (with_reducible first | exact HB.out | apply bAl | apply bDN | apply bD1 | refine bSe ?_ GE114.out) | exact HB.out)⟩⟩
    ·
     replace c9 := Bool.eq_false_iff.mpr c9
     subst c9
     rw [if_neg (show ¬ (false = true) by decide)] at H
     have H' := Aside0.mk H
     clear H
     have hcz18_0 : w3.cell? ⟨gb114, 0, none⟩ = some (.int .i64 a0_0) := (kCe BK114.out 0).trans rfl
     have hcz18_1 : w3.cell? ⟨gb114, 1, none⟩ = some (.int .i64 a0_1) := (kCe BK114.out 1).trans rfl
     have hcz18_2 : w3.cell? ⟨gb114, 2, none⟩ = some (.int .i64 a0_2) := (kCe BK114.out 2).trans rfl
     have hcz18_3 : w3.cell? ⟨gb114, 3, none⟩ = some (.int .i64 a0_3) := (kCe BK114.out 3).trans rfl
     have hcz18_4 : w3.cell? ⟨gb114, 4, none⟩ = some (.int .i64 a0_4) := (kCe BK114.out 4).trans rfl
     have hcz18_5 : w3.cell? ⟨gb114, 5, none⟩ = some (.int .i64 a0_5) := (kCe BK114.out 5).trans rfl
     have hcz18_6 : w3.cell? ⟨gb114, 6, none⟩ = some (.slice A0_6 l0_6.length c0_6) := (kCe BK114.out 6).trans rfl
     have hfz18_0 := kFr BK114.out 0
     have hfz18_1 := kFr BK114.out 1
     have hfz18_2 := kFr BK114.out 2
     have hfz18_3 := kFr BK114.out 3
     have hfz18_4 := kFr BK114.out 4
     have hfz18_5 := kFr BK114.out 5
     have hfz18_6 := kFr BK114.out 6
     go_wp2_with (first | ((with_reducible refine gCa (f := 30) rfl ?_); refine goesL_ (some 7) rfl rfl Try.func30 (by kernel_rfl) rfl #[.int .i64 a0_0, .int .i64 0, .int .i64 1000000000] rfl (by (try simp only [List.map_toArray, List.map_cons, List.map_nil]); first | done | rfl | (simp only [List.length_drop, List.length_take]; rfl)) ?_; (with_reducible refine (spec_l1In.calls a0_0 0 1000000000 true _ A4.out).mono ?_); rintro e w' ⟨rfl, ⟨nd, rfl⟩⟩; refine ⟨_, rfl, ?_⟩) | (go_at_call 30; (with_reducible refine (spec_l1In.calls a0_1 0 1000000 true _ A6.out).mono ?_); rintro e w' ⟨rfl, ⟨nd, rfl⟩⟩) | (go_at_call 30; (with_reducible refine (spec_l1In.calls a0_2 (-1) 1000000000 false _ A8.out).mono ?_); rintro e w' ⟨rfl, ⟨nd, rfl⟩⟩))
     go_meet
     case rel => exact ⟨_, (true), (by first | rfl | (simp; done) | (simp [*]; done) | exact Go.Proofs.Ytjbcgflpeomkfaa.Add.isEmpty_bne _), H', ⟨by first | omega | exact Nat.le_refl _⟩, ⟨by (with_reducible repeat first | refine kDN ?_ _ | refine kDr ?_ | refine kAl ?_ _); exact BK114.out⟩, ⟨by repeat (first | (with_reducible first | exact HB.out | apply bAl | apply bDN | apply bD1 | refine bSe ?_ GE114.out) | exact HB.out)⟩⟩
   ·
    replace c7 := Bool.eq_false_iff.mpr c7
    subst c7
    rw [if_neg (show ¬ (false = true) by decide)] at H
    have H' := Aside0.mk H
    clear H
    have hcz19_0 : w3.cell? ⟨gb114, 0, none⟩ = some (.int .i64 a0_0) := (kCe BK114.out 0).trans rfl
    have hcz19_1 : w3.cell? ⟨gb114, 1, none⟩ = some (.int .i64 a0_1) := (kCe BK114.out 1).trans rfl
    have hcz19_2 : w3.cell? ⟨gb114, 2, none⟩ = some (.int .i64 a0_2) := (kCe BK114.out 2).trans rfl
    have hcz19_3 : w3.cell? ⟨gb114, 3, none⟩ = some (.int .i64 a0_3) := (kCe BK114.out 3).trans rfl
    have hcz19_4 : w3.cell? ⟨gb114, 4, none⟩ = some (.int .i64 a0_4) := (kCe BK114.out 4).trans rfl
    have hcz19_5 : w3.cell? ⟨gb114, 5, none⟩ = some (.int .i64 a0_5) := (kCe BK114.out 5).trans rfl
    have hcz19_6 : w3.cell? ⟨gb114, 6, none⟩ = some (.slice A0_6 l0_6.length c0_6) := (kCe BK114.out 6).trans rfl
    have hfz19_0 := kFr BK114.out 0
    have hfz19_1 := kFr BK114.out 1
    have hfz19_2 := kFr BK114.out 2
    have hfz19_3 := kFr BK114.out 3
    have hfz19_4 := kFr BK114.out 4
    have hfz19_5 := kFr BK114.out 5
    have hfz19_6 := kFr BK114.out 6
    go_wp2_with (first | ((with_reducible refine gCa (f := 30) rfl ?_); refine goesL_ (some 7) rfl rfl Try.func30 (by kernel_rfl) rfl #[.int .i64 a0_0, .int .i64 0, .int .i64 1000000000] rfl (by (try simp only [List.map_toArray, List.map_cons, List.map_nil]); first | done | rfl | (simp only [List.length_drop, List.length_take]; rfl)) ?_; (with_reducible refine (spec_l1In.calls a0_0 0 1000000000 true _ A4.out).mono ?_); rintro e w' ⟨rfl, ⟨nd, rfl⟩⟩; refine ⟨_, rfl, ?_⟩) | (go_at_call 30; (with_reducible refine (spec_l1In.calls a0_1 0 1000000 false _ A6.out).mono ?_); rintro e w' ⟨rfl, ⟨nd, rfl⟩⟩))
    go_meet
    case rel => exact ⟨_, (true), (by first | rfl | (simp; done) | (simp [*]; done) | exact Go.Proofs.Ytjbcgflpeomkfaa.Add.isEmpty_bne _), H', ⟨by first | omega | exact Nat.le_refl _⟩, ⟨by (with_reducible repeat first | refine kDN ?_ _ | refine kDr ?_ | refine kAl ?_ _); exact BK114.out⟩, ⟨by repeat (first | (with_reducible first | exact HB.out | apply bAl | apply bDN | apply bD1 | refine bSe ?_ GE114.out) | exact HB.out)⟩⟩
  ·
   replace c5 := Bool.eq_false_iff.mpr c5
   subst c5
   rw [if_neg (show ¬ (false = true) by decide)] at H
   have H' := Aside0.mk H
   clear H
   have hcz20_0 : w3.cell? ⟨gb114, 0, none⟩ = some (.int .i64 a0_0) := (kCe BK114.out 0).trans rfl
   have hcz20_1 : w3.cell? ⟨gb114, 1, none⟩ = some (.int .i64 a0_1) := (kCe BK114.out 1).trans rfl
   have hcz20_2 : w3.cell? ⟨gb114, 2, none⟩ = some (.int .i64 a0_2) := (kCe BK114.out 2).trans rfl
   have hcz20_3 : w3.cell? ⟨gb114, 3, none⟩ = some (.int .i64 a0_3) := (kCe BK114.out 3).trans rfl
   have hcz20_4 : w3.cell? ⟨gb114, 4, none⟩ = some (.int .i64 a0_4) := (kCe BK114.out 4).trans rfl
   have hcz20_5 : w3.cell? ⟨gb114, 5, none⟩ = some (.int .i64 a0_5) := (kCe BK114.out 5).trans rfl
   have hcz20_6 : w3.cell? ⟨gb114, 6, none⟩ = some (.slice A0_6 l0_6.length c0_6) := (kCe BK114.out 6).trans rfl
   have hfz20_0 := kFr BK114.out 0
   have hfz20_1 := kFr BK114.out 1
   have hfz20_2 := kFr BK114.out 2
   have hfz20_3 := kFr BK114.out 3
   have hfz20_4 := kFr BK114.out 4
   have hfz20_5 := kFr BK114.out 5
   have hfz20_6 := kFr BK114.out 6
   go_wp2_with (first | ((with_reducible refine gCa (f := 30) rfl ?_); refine goesL_ (some 7) rfl rfl Try.func30 (by kernel_rfl) rfl #[.int .i64 a0_0, .int .i64 0, .int .i64 1000000000] rfl (by (try simp only [List.map_toArray, List.map_cons, List.map_nil]); first | done | rfl | (simp only [List.length_drop, List.length_take]; rfl)) ?_; (with_reducible refine (spec_l1In.calls a0_0 0 1000000000 false _ A4.out).mono ?_); rintro e w' ⟨rfl, ⟨nd, rfl⟩⟩; refine ⟨_, rfl, ?_⟩))
   go_meet
   case rel => exact ⟨_, (true), (by first | rfl | (simp; done) | (simp [*]; done) | exact Go.Proofs.Ytjbcgflpeomkfaa.Add.isEmpty_bne _), H', ⟨by first | omega | exact Nat.le_refl _⟩, ⟨by (with_reducible repeat first | refine kDN ?_ _ | refine kDr ?_ | refine kAl ?_ _); exact BK114.out⟩, ⟨by repeat (first | (with_reducible first | exact HB.out | apply bAl | apply bDN | apply bD1 | refine bSe ?_ GE114.out) | exact HB.out)⟩⟩
 case rest =>
  clear HC2
  try clear c1
  try clear p2
  try clear c3
  try clear c5
  try clear c7
  try clear c9
  try clear c10
  try clear c11
  try clear c13
  try clear hcz15_0
  try clear hcz15_1
  try clear hcz15_2
  try clear hcz15_3
  try clear hcz15_4
  try clear hcz15_5
  try clear hcz15_6
  try clear hcz16_0
  try clear hcz16_1
  try clear hcz16_2
  try clear hcz16_3
  try clear hcz16_4
  try clear hcz16_5
  try clear hcz16_6
  try clear hcz17_0
  try clear hcz17_1
  try clear hcz17_2
  try clear hcz17_3
  try clear hcz17_4
  try clear hcz17_5
  try clear hcz17_6
  try clear hcz18_0
  try clear hcz18_1
  try clear hcz18_2
  try clear hcz18_3
  try clear hcz18_4
  try clear hcz18_5
  try clear hcz18_6
  try clear hcz19_0
  try clear hcz19_1
  try clear hcz19_2
  try clear hcz19_3
  try clear hcz19_4
  try clear hcz19_5
  try clear hcz19_6
  try clear hcz20_0
  try clear hcz20_1
  try clear hcz20_2
  try clear hcz20_3
  try clear hcz20_4
  try clear hcz20_5
  try clear hcz20_6
  try clear hfz15_0
  try clear hfz15_1
  try clear hfz15_2
  try clear hfz15_3
  try clear hfz15_4
  try clear hfz15_5
  try clear hfz15_6
  try clear hfz16_0
  try clear hfz16_1
  try clear hfz16_2
  try clear hfz16_3
  try clear hfz16_4
  try clear hfz16_5
  try clear hfz16_6
  try clear hfz17_0
  try clear hfz17_1
  try clear hfz17_2
  try clear hfz17_3
  try clear hfz17_4
  try clear hfz17_5
  try clear hfz17_6
  try clear hfz18_0
  try clear hfz18_1
  try clear hfz18_2
  try clear hfz18_3
  try clear hfz18_4
  try clear hfz18_5
  try clear hfz18_6
  try clear hfz19_0
  try clear hfz19_1
  try clear hfz19_2
  try clear hfz19_3
  try clear hfz19_4
  try clear hfz19_5
  try clear hfz19_6
  try clear hfz20_0
  try clear hfz20_1
  try clear hfz20_2
  try clear hfz20_3
  try clear hfz20_4
  try clear hfz20_5
  try clear hfz20_6
  obtain ⟨kq, x38_1, rfl, HA, HJ1, BK114, HB⟩ := hcut
  cases kq with
  | zero => exact absurd HA.out (by simp [spec_BatchOk.j0])
  | succ kj1 =>
   have H := HA.out
   clear HA
   simp only [spec_BatchOk.j0] at H
   by_cases c21 : x38_1 = true
   ·
    subst c21
    rw [if_pos rfl] at H
    obtain rfl := Option.some.inj H
    go_wp2
    go_ret
    exact ⟨by first | rfl | (simp [errW_none, errW_some] <;> rfl) | (simp [*, errW_none, errW_some] <;> rfl), by repeat (first | (with_reducible first | exact HB.out | apply bAl | apply bDN | apply bD1 | refine bSe ?_ GE114.out) | exact HB.out)⟩
   ·
    replace c21 := Bool.eq_false_iff.mpr c21
    subst c21
    rw [if_neg (show ¬ (false = true) by decide)] at H
    have HC22 := Aside0.mk H
    clear H
    go_upto_region 3 with (fail)
    go_cut [70] (fun v70 wc => ∃ (kq : Nat) (x70_21 : Bool), v70 = .bool x70_21 ∧ Aside0 (spec_BatchOk.j1 kq x70_21 a0_0 a0_1 a0_2 a0_3 a0_4 a0_5 l0_6 = some r) ∧ Aside0 (kq ≤ kj1) ∧ Aside0 (wc.heap[gb114]? = some (.cells #[.int .i64 a0_0, .int .i64 a0_1, .int .i64 a0_2, .int .i64 a0_3, .int .i64 a0_4, .int .i64 a0_5, (.slice A0_6 l0_6.length c0_6)] 29 (0, 0))) ∧ Aside0 (Below w.heap.size w wc))
    case first =>
     have H := HC22.out
     clear HC22
     by_cases c23 : a0_2 < 0
     ·
      rw [if_pos c23] at H
      have c23b0 : decide (a0_2 < 0) = true := decide_eq_true c23
      clear c23
      (first | rw [c23b0] | (simp only [i64_w, i32_w]; rw [c23b0]) | skip)
      by_cases c24 : a0_3 = 0
      ·
       rw [if_pos c24] at H
       have c24b0 : (a0_3 == 0) = true := beq_iff_eq.mpr c24
       have c24b1 : (a0_3 != 0) = false := bne_eq_false_iff_eq.mpr c24
       clear c24
       by_cases c25 : a0_4 = 0
       ·
        rw [if_pos c25] at H
        have c25b0 : (a0_4 == 0) = true := beq_iff_eq.mpr c25
        have c25b1 : (a0_4 != 0) = false := bne_eq_false_iff_eq.mpr c25
        clear c25
        by_cases c26 : (Int.tmod (wrap64 (Int.tdiv a0_5 2)) 2) = 1
        ·
         rw [if_pos c26] at H
         have c26b0 : ((Int.tmod (wrap64 (Int.tdiv a0_5 2)) 2) == 1) = true := beq_iff_eq.mpr c26
         have c26b1 : ((Int.tmod (wrap64 (Int.tdiv a0_5 2)) 2) != 1) = false := bne_eq_false_iff_eq.mpr c26
         clear c26
         have H' := Aside0.mk H
         clear H
         have hcz27_0 : wc.cell? ⟨gb114, 0, none⟩ = some (.int .i64 a0_0) := (kCe BK114.out 0).trans rfl
         have hcz27_1 : wc.cell? ⟨gb114, 1, none⟩ = some (.int .i64 a0_1) := (kCe BK114.out 1).trans rfl
         have hcz27_2 : wc.cell? ⟨gb114, 2, none⟩ = some (.int .i64 a0_2) := (kCe BK114.out 2).trans rfl
         have hcz27_3 : wc.cell? ⟨gb114, 3, none⟩ = some (.int .i64 a0_3) := (kCe BK114.out 3).trans rfl
         have hcz27_4 : wc.cell? ⟨gb114, 4, none⟩ = some (.int .i64 a0_4) := (kCe BK114.out 4).trans rfl
         have hcz27_5 : wc.cell? ⟨gb114, 5, none⟩ = some (.int .i64 a0_5) := (kCe BK114.out 5).trans rfl
         have hcz27_6 : wc.cell? ⟨gb114, 6, none⟩ = some (.slice A0_6 l0_6.length c0_6) := (kCe BK114.out 6).trans rfl
         have hfz27_0 := kFr BK114.out 0
         have hfz27_1 := kFr BK114.out 1
         have hfz27_2 := kFr BK114.out 2
         have hfz27_3 := kFr BK114.out 3
         have hfz27_4 := kFr BK114.out 4
         have hfz27_5 := kFr BK114.out 5
         have hfz27_6 := kFr BK114.out 6
         go_wp2
         go_meet
         case rel => exact ⟨_, (true), (by first | rfl | (simp; done) | (simp [*]; done) | exact Go.Proofs.Ytjbcgflpeomkfaa.Add.isEmpty_bne _), H', ⟨by have := HJ1.out; first | omega | exact Nat.le_refl _⟩, ⟨by (with_reducible repeat first | refine kDN ?_ _ | refine kDr ?_ | refine kAl ?_ _); exact BK114.out⟩, ⟨by repeat (first | (with_reducible first | exact HB.out | apply bAl | apply bDN | apply bD1 | refine bSe ?_ GE114.out) | exact HB.out)⟩⟩
        ·
         rw [if_neg c26] at H
         have c26b0 : ((Int.tmod (wrap64 (Int.tdiv a0_5 2)) 2) == 1) = false := beq_eq_false_iff_ne.mpr c26
         have c26b1 : ((Int.tmod (wrap64 (Int.tdiv a0_5 2)) 2) != 1) = true := bne_iff_ne.mpr c26
         by_cases c28 : a0_5 ≥ 4
         ·
          rw [if_pos c28] at H
          have c28b0 : decide (4 ≤ a0_5) = true := decide_eq_true c28
          clear c28
          have H' := Aside0.mk H
          clear H
          have hcz29_0 : wc.cell? ⟨gb114, 0, none⟩ = some (.int .i64 a0_0) := (kCe BK114.out 0).trans rfl
          have hcz29_1 : wc.cell? ⟨gb114, 1, none⟩ = some (.int .i64 a0_1) := (kCe BK114.out 1).trans rfl
          have hcz29_2 : wc.cell? ⟨gb114, 2, none⟩ = some (.int .i64 a0_2) := (kCe BK114.out 2).trans rfl
          have hcz29_3 : wc.cell? ⟨gb114, 3, none⟩ = some (.int .i64 a0_3) := (kCe BK114.out 3).trans rfl
          have hcz29_4 : wc.cell? ⟨gb114, 4, none⟩ = some (.int .i64 a0_4) := (kCe BK114.out 4).trans rfl
          have hcz29_5 : wc.cell? ⟨gb114, 5, none⟩ = some (.int .i64 a0_5) := (kCe BK114.out 5).trans rfl
          have hcz29_6 : wc.cell? ⟨gb114, 6, none⟩ = some (.slice A0_6 l0_6.length c0_6) := (kCe BK114.out 6).trans rfl
          have hfz29_0 := kFr BK114.out 0
          have hfz29_1 := kFr BK114.out 1
          have hfz29_2 := kFr BK114.out 2
          have hfz29_3 := kFr BK114.out 3
          have hfz29_4 := kFr BK114.out 4
          have hfz29_5 := kFr BK114.out 5
          have hfz29_6 := kFr BK114.out 6
          go_wp2
          go_meet
          case rel => exact ⟨_, (((Int.tmod (wrap64 (Int.tdiv a0_5 2)) 2) == 0)), (by first | rfl | (simp; done) | (simp [*]; done) | exact Go.Proofs.Ytjbcgflpeomkfaa.Add.isEmpty_bne _), H', ⟨by have := HJ1.out; first | omega | exact Nat.le_refl _⟩, ⟨by (with_reducible repeat first | refine kDN ?_ _ | refine kDr ?_ | refine kAl ?_ _); exact BK114.out⟩, ⟨by repeat (first | (with_reducible first | exact HB.out | apply bAl | apply bDN | apply bD1 | refine bSe ?_ GE114.out) | exact HB.out)⟩⟩
         ·
          rw [if_neg c28] at H
          have c28b0 : decide (4 ≤ a0_5) = false := decide_eq_false c28
          clear c28
          have H' := Aside0.mk H
          clear H
          have hcz30_0 : wc.cell? ⟨gb114, 0, none⟩ = some (.int .i64 a0_0) := (kCe BK114.out 0).trans rfl
          have hcz30_1 : wc.cell? ⟨gb114, 1, none⟩ = some (.int .i64 a0_1) := (kCe BK114.out 1).trans rfl
          have hcz30_2 : wc.cell? ⟨gb114, 2, none⟩ = some (.int .i64 a0_2) := (kCe BK114.out 2).trans rfl
          have hcz30_3 : wc.cell? ⟨gb114, 3, none⟩ = some (.int .i64 a0_3) := (kCe BK114.out 3).trans rfl
          have hcz30_4 : wc.cell? ⟨gb114, 4, none⟩ = some (.int .i64 a0_4) := (kCe BK114.out 4).trans rfl
          have hcz30_5 : wc.cell? ⟨gb114, 5, none⟩ = some (.int .i64 a0_5) := (kCe BK114.out 5).trans rfl
          have hcz30_6 : wc.cell? ⟨gb114, 6, none⟩ = some (.slice A0_6 l0_6.length c0_6) := (kCe BK114.out 6).trans rfl
          have hfz30_0 := kFr BK114.out 0
          have hfz30_1 := kFr BK114.out 1
          have hfz30_2 := kFr BK114.out 2
          have hfz30_3 := kFr BK114.out 3
          have hfz30_4 := kFr BK114.out 4
          have hfz30_5 := kFr BK114.out 5
          have hfz30_6 := kFr BK114.out 6
          go_wp2
          go_meet
          case rel => exact ⟨_, (false), (by first | rfl | (simp; done) | (simp [*]; done) | exact Go.Proofs.Ytjbcgflpeomkfaa.Add.isEmpty_bne _), H', ⟨by have := HJ1.out; first | omega | exact Nat.le_refl _⟩, ⟨by (with_reducible repeat first | refine kDN ?_ _ | refine kDr ?_ | refine kAl ?_ _); exact BK114.out⟩, ⟨by repeat (first | (with_reducible first | exact HB.out | apply bAl | apply bDN | apply bD1 | refine bSe ?_ GE114.out) | exact HB.out)⟩⟩
       ·
        rw [if_neg c25] at H
        have c25b0 : (a0_4 == 0) = false := beq_eq_false_iff_ne.mpr c25
        have c25b1 : (a0_4 != 0) = true := bne_iff_ne.mpr c25
        have H' := Aside0.mk H
        clear H
        have hcz31_0 : wc.cell? ⟨gb114, 0, none⟩ = some (.int .i64 a0_0) := (kCe BK114.out 0).trans rfl
        have hcz31_1 : wc.cell? ⟨gb114, 1, none⟩ = some (.int .i64 a0_1) := (kCe BK114.out 1).trans rfl
        have hcz31_2 : wc.cell? ⟨gb114, 2, none⟩ = some (.int .i64 a0_2) := (kCe BK114.out 2).trans rfl
        have hcz31_3 : wc.cell? ⟨gb114, 3, none⟩ = some (.int .i64 a0_3) := (kCe BK114.out 3).trans rfl
        have hcz31_4 : wc.cell? ⟨gb114, 4, none⟩ = some (.int .i64 a0_4) := (kCe BK114.out 4).trans rfl
        have hcz31_5 : wc.cell? ⟨gb114, 5, none⟩ = some (.int .i64 a0_5) := (kCe BK114.out 5).trans rfl
        have hcz31_6 : wc.cell? ⟨gb114, 6, none⟩ = some (.slice A0_6 l0_6.length c0_6) := (kCe BK114.out 6).trans rfl
        have hfz31_0 := kFr BK114.out 0
        have hfz31_1 := kFr BK114.out 1
        have hfz31_2 := kFr BK114.out 2
        have hfz31_3 := kFr BK114.out 3
        have hfz31_4 := kFr BK114.out 4
        have hfz31_5 := kFr BK114.out 5
        have hfz31_6 := kFr BK114.out 6
        go_wp2
        go_meet
        case rel => exact ⟨_, (true), (by first | rfl | (simp; done) | (simp [*]; done) | exact Go.Proofs.Ytjbcgflpeomkfaa.Add.isEmpty_bne _), H', ⟨by have := HJ1.out; first | omega | exact Nat.le_refl _⟩, ⟨by (with_reducible repeat first | refine kDN ?_ _ | refine kDr ?_ | refine kAl ?_ _); exact BK114.out⟩, ⟨by repeat (first | (with_reducible first | exact HB.out | apply bAl | apply bDN | apply bD1 | refine bSe ?_ GE114.out) | exact HB.out)⟩⟩
      ·
       rw [if_neg c24] at H
       have c24b0 : (a0_3 == 0) = false := beq_eq_false_iff_ne.mpr c24
       have c24b1 : (a0_3 != 0) = true := bne_iff_ne.mpr c24
       have H' := Aside0.mk H
       clear H
       have hcz32_0 : wc.cell? ⟨gb114, 0, none⟩ = some (.int .i64 a0_0) := (kCe BK114.out 0).trans rfl
       have hcz32_1 : wc.cell? ⟨gb114, 1, none⟩ = some (.int .i64 a0_1) := (kCe BK114.out 1).trans rfl
       have hcz32_2 : wc.cell? ⟨gb114, 2, none⟩ = some (.int .i64 a0_2) := (kCe BK114.out 2).trans rfl
       have hcz32_3 : wc.cell? ⟨gb114, 3, none⟩ = some (.int .i64 a0_3) := (kCe BK114.out 3).trans rfl
       have hcz32_4 : wc.cell? ⟨gb114, 4, none⟩ = some (.int .i64 a0_4) := (kCe BK114.out 4).trans rfl
       have hcz32_5 : wc.cell? ⟨gb114, 5, none⟩ = some (.int .i64 a0_5) := (kCe BK114.out 5).trans rfl
       have hcz32_6 : wc.cell? ⟨gb114, 6, none⟩ = some (.slice A0_6 l0_6.length c0_6) := (kCe BK114.out 6).trans rfl
       have hfz32_0 := kFr BK114.out 0
       have hfz32_1 := kFr BK114.out 1
       have hfz32_2 := kFr BK114.out 2
       have hfz32_3 := kFr BK114.out 3
       have hfz32_4 := kFr BK114.out 4
       have hfz32_5 := kFr BK114.out 5
       have hfz32_6 := kFr BK114.out 6
       go_wp2
       go_meet
       case rel => exact ⟨_, (true), (by first | rfl | (simp; done) | (simp [*]; done) | exact Go.Proofs.Ytjbcgflpeomkfaa.Add.isEmpty_bne _), H', ⟨by have := HJ1.out; first | omega | exact Nat.le_refl _⟩, ⟨by (with_reducible repeat first | refine kDN ?_ _ | refine kDr ?_ | refine kAl ?_ _); exact BK114.out⟩, ⟨by repeat (first | (with_reducible first | exact HB.out | apply bAl | apply bDN | apply bD1 | refine bSe ?_ GE114.out) | exact HB.out)⟩⟩
     ·
      rw [if_neg c23] at H
      have c23b0 : decide (a0_2 < 0) = false := decide_eq_false c23
      clear c23
      (first | rw [c23b0] | (simp only [i64_w, i32_w]; rw [c23b0]) | skip)
      by_cases c33 : a0_5 ≥ 4
      ·
       rw [if_pos c33] at H
       have c33b0 : decide (4 ≤ a0_5) = true := decide_eq_true c33
       clear c33
       have H' := Aside0.mk H
       clear H
       have hcz34_0 : wc.cell? ⟨gb114, 0, none⟩ = some (.int .i64 a0_0) := (kCe BK114.out 0).trans rfl
       have hcz34_1 : wc.cell? ⟨gb114, 1, none⟩ = some (.int .i64 a0_1) := (kCe BK114.out 1).trans rfl
       have hcz34_2 : wc.cell? ⟨gb114, 2, none⟩ = some (.int .i64 a0_2) := (kCe BK114.out 2).trans rfl
       have hcz34_3 : wc.cell? ⟨gb114, 3, none⟩ = some (.int .i64 a0_3) := (kCe BK114.out 3).trans rfl
       have hcz34_4 : wc.cell? ⟨gb114, 4, none⟩ = some (.int .i64 a0_4) := (kCe BK114.out 4).trans rfl
       have hcz34_5 : wc.cell? ⟨gb114, 5, none⟩ = some (.int .i64 a0_5) := (kCe BK114.out 5).trans rfl
       have hcz34_6 : wc.cell? ⟨gb114, 6, none⟩ = some (.slice A0_6 l0_6.length c0_6) := (kCe BK114.out 6).trans rfl
       have hfz34_0 := kFr BK114.out 0
       have hfz34_1 := kFr BK114.out 1
       have hfz34_2 := kFr BK114.out 2
       have hfz34_3 := kFr BK114.out 3
       have hfz34_4 := kFr BK114.out 4
       have hfz34_5 := kFr BK114.out 5
       have hfz34_6 := kFr BK114.out 6
       go_wp2
       go_meet
       case rel => exact ⟨_, (((Int.tmod (wrap64 (Int.tdiv a0_5 2)) 2) == 0)), (by first | rfl | (simp; done) | (simp [*]; done) | exact Go.Proofs.Ytjbcgflpeomkfaa.Add.isEmpty_bne _), H', ⟨by have := HJ1.out; first | omega | exact Nat.le_refl _⟩, ⟨by (with_reducible repeat first | refine kDN ?_ _ | refine kDr ?_ | refine kAl ?_ _); exact BK114.out⟩, ⟨by repeat (first | (with_reducible first | exact HB.out | apply bAl | apply bDN | apply bD1 | refine bSe ?_ GE114.out) | exact HB.out)⟩⟩
      ·
       rw [if_neg c33] at H
       have c33b0 : decide (4 ≤ a0_5) = false := decide_eq_false c33
       clear c33
       have H' := Aside0.mk H
       clear H
       have hcz35_0 : wc.cell? ⟨gb114, 0, none⟩ = some (.int .i64 a0_0) := (kCe BK114.out 0).trans rfl
       have hcz35_1 : wc.cell? ⟨gb114, 1, none⟩ = some (.int .i64 a0_1) := (kCe BK114.out 1).trans rfl
       have hcz35_2 : wc.cell? ⟨gb114, 2, none⟩ = some (.int .i64 a0_2) := (kCe BK114.out 2).trans rfl
       have hcz35_3 : wc.cell? ⟨gb114, 3, none⟩ = some (.int .i64 a0_3) := (kCe BK114.out 3).trans rfl
       have hcz35_4 : wc.cell? ⟨gb114, 4, none⟩ = some (.int .i64 a0_4) := (kCe BK114.out 4).trans rfl
       have hcz35_5 : wc.cell? ⟨gb114, 5, none⟩ = some (.int .i64 a0_5) := (kCe BK114.out 5).trans rfl
       have hcz35_6 : wc.cell? ⟨gb114, 6, none⟩ = some (.slice A0_6 l0_6.length c0_6) := (kCe BK114.out 6).trans rfl
       have hfz35_0 := kFr BK114.out 0
       have hfz35_1 := kFr BK114.out 1
       have hfz35_2 := kFr BK114.out 2
       have hfz35_3 := kFr BK114.out 3
       have hfz35_4 := kFr BK114.out 4
       have hfz35_5 := kFr BK114.out 5
       have hfz35_6 := kFr BK114.out 6
       go_wp2
       go_meet
       case rel => exact ⟨_, (false), (by first | rfl | (simp; done) | (simp [*]; done) | exact Go.Proofs.Ytjbcgflpeomkfaa.Add.isEmpty_bne _), H', ⟨by have := HJ1.out; first | omega | exact Nat.le_refl _⟩, ⟨by (with_reducible repeat first | refine kDN ?_ _ | refine kDr ?_ | refine kAl ?_ _); exact BK114.out⟩, ⟨by repeat (first | (with_reducible first | exact HB.out | apply bAl | apply bDN | apply bD1 | refine bSe ?_ GE114.out) | exact HB.out)⟩⟩
    case rest =>
     clear HC22
     try clear c1
     try clear c2
     try clear p2
     try clear c3
     try clear c5
     try clear p6
     try clear c7
     try clear c9
     try clear c10
     try clear c11
     try clear c13
     try clear c21
     try clear c23
     try clear c23b0
     try clear c24
     try clear c24b0
     try clear c24b1
     try clear c25
     try clear c25b0
     try clear c25b1
     try clear c26
     try clear c26b0
     try clear c26b1
     try clear c28
     try clear c28b0
     try clear c30
     try clear c33
     try clear c33b0
     try clear hcz15_0
     try clear hcz15_1
     try clear hcz15_2
     try clear hcz15_3
     try clear hcz15_4
     try clear hcz15_5
     try clear hcz15_6
     try clear hcz16_0
     try clear hcz16_1
     try clear hcz16_2
     try clear hcz16_3
     try clear hcz16_4
     try clear hcz16_5
     try clear hcz16_6
     try clear hcz17_0
     try clear hcz17_1
     try clear hcz17_2
     try clear hcz17_3
     try clear hcz17_4
     try clear hcz17_5
     try clear hcz17_6
     try clear hcz18_0
     try clear hcz18_1
     try clear hcz18_2
     try clear hcz18_3
     try clear hcz18_4
     try clear hcz18_5
     try clear hcz18_6
     try clear hcz19_0
     try clear hcz19_1
     try clear hcz19_2
     try clear hcz19_3
     try clear hcz19_4
     try clear hcz19_5
     try clear hcz19_6
     try clear hcz20_0
     try clear hcz20_1
     try clear hcz20_2
     try clear hcz20_3
     try clear hcz20_4
     try clear hcz20_5
     try clear hcz20_6
     try clear hcz27_0
     try clear hcz27_1
     try clear hcz27_2
     try clear hcz27_3
     try clear hcz27_4
     try clear hcz27_5
     try clear hcz27_6
     try clear hcz29_0
     try clear hcz29_1
     try clear hcz29_2
     try clear hcz29_3
     try clear hcz29_4
     try clear hcz29_5
     try clear hcz29_6
     try clear hcz30_0
     try clear hcz30_1
     try clear hcz30_2
     try clear hcz30_3
     try clear hcz30_4
     try clear hcz30_5
     try clear hcz30_6
     try clear hcz31_0
     try clear hcz31_1
     try clear hcz31_2
     try clear hcz31_3
     try clear hcz31_4
     try clear hcz31_5
     try clear hcz31_6
     try clear hcz32_0
     try clear hcz32_1
     try clear hcz32_2
     try clear hcz32_3
     try clear hcz32_4
     try clear hcz32_5
     try clear hcz32_6
     try clear hcz34_0
     try clear hcz34_1
     try clear hcz34_2
     try clear hcz34_3
     try clear hcz34_4
     try clear hcz34_5
     try clear hcz34_6
     try clear hcz35_0
     try clear hcz35_1
     try clear hcz35_2
     try clear hcz35_3
     try clear hcz35_4
     try clear hcz35_5
     try clear hcz35_6
     try clear hfz15_0
     try clear hfz15_1
     try clear hfz15_2
     try clear hfz15_3
     try clear hfz15_4
     try clear hfz15_5
     try clear hfz15_6
     try clear hfz16_0
     try clear hfz16_1
     try clear hfz16_2
     try clear hfz16_3
     try clear hfz16_4
     try clear hfz16_5
     try clear hfz16_6
     try clear hfz17_0
     try clear hfz17_1
     try clear hfz17_2
     try clear hfz17_3
     try clear hfz17_4
     try clear hfz17_5
     try clear hfz17_6
     try clear hfz18_0
     try clear hfz18_1
     try clear hfz18_2
     try clear hfz18_3
     try clear hfz18_4
     try clear hfz18_5
     try clear hfz18_6
     try clear hfz19_0
     try clear hfz19_1
     try clear hfz19_2
     try clear hfz19_3
     try clear hfz19_4
     try clear hfz19_5
     try clear hfz19_6
     try clear hfz20_0
     try clear hfz20_1
     try clear hfz20_2
     try clear hfz20_3
     try clear hfz20_4
     try clear hfz20_5
     try clear hfz20_6
     try clear hfz27_0
     try clear hfz27_1
     try clear hfz27_2
     try clear hfz27_3
     try clear hfz27_4
     try clear hfz27_5
     try clear hfz27_6
     try clear hfz29_0
     try clear hfz29_1
     try clear hfz29_2
     try clear hfz29_3
     try clear hfz29_4
     try clear hfz29_5
     try clear hfz29_6
     try clear hfz30_0
     try clear hfz30_1
     try clear hfz30_2
     try clear hfz30_3
     try clear hfz30_4
     try clear hfz30_5
     try clear hfz30_6
     try clear hfz31_0
     try clear hfz31_1
     try clear hfz31_2
     try clear hfz31_3
     try clear hfz31_4
     try clear hfz31_5
     try clear hfz31_6
     try clear hfz32_0
     try clear hfz32_1
     try clear hfz32_2
     try clear hfz32_3
     try clear hfz32_4
     try clear hfz32_5
     try clear hfz32_6
     try clear hfz34_0
     try clear hfz34_1
     try clear hfz34_2
     try clear hfz34_3
     try clear hfz34_4
     try clear hfz34_5
     try clear hfz34_6
     try clear hfz35_0
     try clear hfz35_1
     try clear hfz35_2
     try clear hfz35_3
     try clear hfz35_4
     try clear hfz35_5
     try clear hfz35_6
     try clear p2
     obtain ⟨kq, x70_21, rfl, HA, HJ21, BK114, HB⟩ := hcut
     cases kq with
     | zero => exact absurd HA.out (by simp [spec_BatchOk.j1])
     | succ kj21 =>
      have H := HA.out
      clear HA
      simp only [spec_BatchOk.j1] at H
      by_cases c36 : x70_21 = true
      ·
       subst c36
       rw [if_pos rfl] at H
       obtain rfl := Option.some.inj H
       go_wp2
       go_ret
       exact ⟨by first | rfl | (simp [errW_none, errW_some] <;> rfl) | (simp [*, errW_none, errW_some] <;> rfl), by repeat (first | (with_reducible first | exact HB.out | apply bAl | apply bDN | apply bD1 | refine bSe ?_ GE114.out) | exact HB.out)⟩
      ·
       replace c36 := Bool.eq_false_iff.mpr c36
       subst c36
       rw [if_neg (show ¬ (false = true) by decide)] at H
       have HC37 := Aside0.mk H
       clear H
       go_upto_region 5 with (fail)
       go_cut [95] (fun v95 wc => ∃ (kq : Nat) (x95_36 : Bool), v95 = .bool x95_36 ∧ Aside0 (spec_BatchOk.j2 kq x95_36 a0_0 a0_1 a0_2 a0_3 a0_4 a0_5 l0_6 = some r) ∧ Aside0 (kq ≤ kj21) ∧ Aside0 (wc.heap[gb114]? = some (.cells #[.int .i64 a0_0, .int .i64 a0_1, .int .i64 a0_2, .int .i64 a0_3, .int .i64 a0_4, .int .i64 a0_5, (.slice A0_6 l0_6.length c0_6)] 29 (0, 0))) ∧ Aside0 (Below w.heap.size w wc))
       case first =>
        have H := HC37.out
        clear HC37
        replace H := Option.bind_eq_some_iff.mp H
        obtain ⟨t121, A380, H⟩ := H
        have A38 := Aside0.mk A380
        clear A380
        by_cases c39 : t121 = true
        ·
         subst c39
         rw [if_pos rfl] at H
         by_cases c40 : (wrap64 ((wrap64 (a0_0 + (l0_6.length : Int))) - 1)) > 1000000000
         ·
          rw [if_pos c40] at H
          have c40b0 : decide (1000000000 < (wrap64 ((wrap64 (a0_0 + (l0_6.length : Int))) - 1))) = true := decide_eq_true c40
          clear c40
          (first | rw [c40b0] | (simp only [i64_w, i32_w]; rw [c40b0]) | skip)
          have H' := Aside0.mk H
          clear H
          have hcz41_0 : wc.cell? ⟨gb114, 0, none⟩ = some (.int .i64 a0_0) := (kCe BK114.out 0).trans rfl
          have hcz41_1 : wc.cell? ⟨gb114, 1, none⟩ = some (.int .i64 a0_1) := (kCe BK114.out 1).trans rfl
          have hcz41_2 : wc.cell? ⟨gb114, 2, none⟩ = some (.int .i64 a0_2) := (kCe BK114.out 2).trans rfl
          have hcz41_3 : wc.cell? ⟨gb114, 3, none⟩ = some (.int .i64 a0_3) := (kCe BK114.out 3).trans rfl
          have hcz41_4 : wc.cell? ⟨gb114, 4, none⟩ = some (.int .i64 a0_4) := (kCe BK114.out 4).trans rfl
          have hcz41_5 : wc.cell? ⟨gb114, 5, none⟩ = some (.int .i64 a0_5) := (kCe BK114.out 5).trans rfl
          have hcz41_6 : wc.cell? ⟨gb114, 6, none⟩ = some (.slice A0_6 l0_6.length c0_6) := (kCe BK114.out 6).trans rfl
          have hfz41_0 := kFr BK114.out 0
          have hfz41_1 := kFr BK114.out 1
          have hfz41_2 := kFr BK114.out 2
          have hfz41_3 := kFr BK114.out 3
          have hfz41_4 := kFr BK114.out 4
          have hfz41_5 := kFr BK114.out 5
          have hfz41_6 := kFr BK114.out 6
          go_wp2_with (first | ((with_reducible refine gCa (f := 30) rfl ?_); refine goesL_ (some 74) rfl rfl Try.func30 (by kernel_rfl) rfl #[.int .i64 (l0_6.length : Int), .int .i64 1, .int .i64 40] rfl (by (try simp only [List.map_toArray, List.map_cons, List.map_nil]); first | done | rfl | (simp only [List.length_drop, List.length_take]; rfl)) ?_; (with_reducible refine (spec_l1In.calls (l0_6.length : Int) 1 40 true _ A38.out).mono ?_); rintro e w' ⟨rfl, ⟨nd, rfl⟩⟩; refine ⟨_, rfl, ?_⟩))
          go_meet
          case rel => exact ⟨_, (true), (by first | rfl | (simp; done) | (simp [*]; done) | exact Go.Proofs.Ytjbcgflpeomkfaa.Add.isEmpty_bne _), H', ⟨by have := HJ1.out; have := HJ21.out; first | omega | exact Nat.le_refl _⟩, ⟨by (with_reducible repeat first | refine kDN ?_ _ | refine kDr ?_ | refine kAl ?_ _); exact BK114.out⟩, ⟨by repeat (first | (with_reducible first | exact HB.out | apply bAl | apply bDN | apply bD1 | refine bSe ?_ GE114.out) | exact HB.out)⟩⟩
         ·
          rw [if_neg c40] at H
          have c40b0 : decide (1000000000 < (wrap64 ((wrap64 (a0_0 + (l0_6.length : Int))) - 1))) = false := decide_eq_false c40
          clear c40
          (first | rw [c40b0] | (simp only [i64_w, i32_w]; rw [c40b0]) | skip)
          have H' := Aside0.mk H
          clear H
          have hcz42_0 : wc.cell? ⟨gb114, 0, none⟩ = some (.int .i64 a0_0) := (kCe BK114.out 0).trans rfl
          have hcz42_1 : wc.cell? ⟨gb114, 1, none⟩ = some (.int .i64 a0_1) := (kCe BK114.out 1).trans rfl
          have hcz42_2 : wc.cell? ⟨gb114, 2, none⟩ = some (.int .i64 a0_2) := (kCe BK114.out 2).trans rfl
          have hcz42_3 : wc.cell? ⟨gb114, 3, none⟩ = some (.int .i64 a0_3) := (kCe BK114.out 3).trans rfl
          have hcz42_4 : wc.cell? ⟨gb114, 4, none⟩ = some (.int .i64 a0_4) := (kCe BK114.out 4).trans rfl
          have hcz42_5 : wc.cell? ⟨gb114, 5, none⟩ = some (.int .i64 a0_5) := (kCe BK114.out 5).trans rfl
          have hcz42_6 : wc.cell? ⟨gb114, 6, none⟩ = some (.slice A0_6 l0_6.length c0_6) := (kCe BK114.out 6).trans rfl
          have hfz42_0 := kFr BK114.out 0
          have hfz42_1 := kFr BK114.out 1
          have hfz42_2 := kFr BK114.out 2
          have hfz42_3 := kFr BK114.out 3
          have hfz42_4 := kFr BK114.out 4
          have hfz42_5 := kFr BK114.out 5
          have hfz42_6 := kFr BK114.out 6
          go_wp2_with (first | ((with_reducible refine gCa (f := 30) rfl ?_); refine goesL_ (some 74) rfl rfl Try.func30 (by kernel_rfl) rfl #[.int .i64 (l0_6.length : Int), .int .i64 1, .int .i64 40] rfl (by (try simp only [List.map_toArray, List.map_cons, List.map_nil]); first | done | rfl | (simp only [List.length_drop, List.length_take]; rfl)) ?_; (with_reducible refine (spec_l1In.calls (l0_6.length : Int) 1 40 true _ A38.out).mono ?_); rintro e w' ⟨rfl, ⟨nd, rfl⟩⟩; refine ⟨_, rfl, ?_⟩))
          go_meet
          case rel => exact ⟨_, (decide ((wrap64 ((wrap64 (a0_4 + (l0_6.length : Int))) - 1)) > 1000000000)), (by first | rfl | (simp; done) | (simp [*]; done) | exact Go.Proofs.Ytjbcgflpeomkfaa.Add.isEmpty_bne _), H', ⟨by have := HJ1.out; have := HJ21.out; first | omega | exact Nat.le_refl _⟩, ⟨by (with_reducible repeat first | refine kDN ?_ _ | refine kDr ?_ | refine kAl ?_ _); exact BK114.out⟩, ⟨by repeat (first | (with_reducible first | exact HB.out | apply bAl | apply bDN | apply bD1 | refine bSe ?_ GE114.out) | exact HB.out)⟩⟩
        ·
         replace c39 := Bool.eq_false_iff.mpr c39
         subst c39
         rw [if_neg (show ¬ (false = true) by decide)] at H
         have H' := Aside0.mk H
         clear H
         have hcz43_0 : wc.cell? ⟨gb114, 0, none⟩ = some (.int .i64 a0_0) := (kCe BK114.out 0).trans rfl
         have hcz43_1 : wc.cell? ⟨gb114, 1, none⟩ = some (.int .i64 a0_1) := (kCe BK114.out 1).trans rfl
         have hcz43_2 : wc.cell? ⟨gb114, 2, none⟩ = some (.int .i64 a0_2) := (kCe BK114.out 2).trans rfl
         have hcz43_3 : wc.cell? ⟨gb114, 3, none⟩ = some (.int .i64 a0_3) := (kCe BK114.out 3).trans rfl
         have hcz43_4 : wc.cell? ⟨gb114, 4, none⟩ = some (.int .i64 a0_4) := (kCe BK114.out 4).trans rfl
         have hcz43_5 : wc.cell? ⟨gb114, 5, none⟩ = some (.int .i64 a0_5) := (kCe BK114.out 5).trans rfl
         have hcz43_6 : wc.cell? ⟨gb114, 6, none⟩ = some (.slice A0_6 l0_6.length c0_6) := (kCe BK114.out 6).trans rfl
         have hfz43_0 := kFr BK114.out 0
         have hfz43_1 := kFr BK114.out 1
         have hfz43_2 := kFr BK114.out 2
         have hfz43_3 := kFr BK114.out 3
         have hfz43_4 := kFr BK114.out 4
         have hfz43_5 := kFr BK114.out 5
         have hfz43_6 := kFr BK114.out 6
         go_wp2_with (first | ((with_reducible refine gCa (f := 30) rfl ?_); refine goesL_ (some 74) rfl rfl Try.func30 (by kernel_rfl) rfl #[.int .i64 (l0_6.length : Int), .int .i64 1, .int .i64 40] rfl (by (try simp only [List.map_toArray, List.map_cons, List.map_nil]); first | done | rfl | (simp only [List.length_drop, List.length_take]; rfl)) ?_; (with_reducible refine (spec_l1In.calls (l0_6.length : Int) 1 40 false _ A38.out).mono ?_); rintro e w' ⟨rfl, ⟨nd, rfl⟩⟩; refine ⟨_, rfl, ?_⟩))
         go_meet
         case rel => exact ⟨_, (true), (by first | rfl | (simp; done) | (simp [*]; done) | exact Go.Proofs.Ytjbcgflpeomkfaa.Add.isEmpty_bne _), H', ⟨by have := HJ1.out; have := HJ21.out; first | omega | exact Nat.le_refl _⟩, ⟨by (with_reducible repeat first | refine kDN ?_ _ | refine kDr ?_ | refine kAl ?_ _); exact BK114.out⟩, ⟨by repeat (first | (with_reducible first | exact HB.out | apply bAl | apply bDN | apply bD1 | refine bSe ?_ GE114.out) | exact HB.out)⟩⟩
       case rest =>
        clear HC37
        try clear c1
        try clear c2
        try clear p2
        try clear c3
        try clear c4
        try clear c5
        try clear p6
        try clear c7
        try clear c9
        try clear c10
        try clear c11
        try clear c13
        try clear c21
        try clear c23
        try clear c23b0
        try clear c24
        try clear c24b0
        try clear c24b1
        try clear c25
        try clear c25b0
        try clear c25b1
        try clear c26
        try clear c26b0
        try clear c26b1
        try clear c28
        try clear c28b0
        try clear c30
        try clear c33
        try clear c33b0
        try clear c36
        try clear c39
        try clear c40
        try clear c40b0
        try clear hcz15_0
        try clear hcz15_1
        try clear hcz15_2
        try clear hcz15_3
        try clear hcz15_4
        try clear hcz15_5
        try clear hcz15_6
        try clear hcz16_0
        try clear hcz16_1
        try clear hcz16_2
        try clear hcz16_3
        try clear hcz16_4
        try clear hcz16_5
        try clear hcz16_6
        try clear hcz17_0
        try clear hcz17_1
        try clear hcz17_2
        try clear hcz17_3
        try clear hcz17_4
        try clear hcz17_5
        try clear hcz17_6
        try clear hcz18_0
        try clear hcz18_1
        try clear hcz18_2
        try clear hcz18_3
        try clear hcz18_4
        try clear hcz18_5
        try clear hcz18_6
        try clear hcz19_0
        try clear hcz19_1
        try clear hcz19_2
        try clear hcz19_3
        try clear hcz19_4
        try clear hcz19_5
        try clear hcz19_6
        try clear hcz20_0
        try clear hcz20_1
        try clear hcz20_2
        try clear hcz20_3
        try clear hcz20_4
        try clear hcz20_5
        try clear hcz20_6
        try clear hcz27_0
        try clear hcz27_1
        try clear hcz27_2
        try clear hcz27_3
        try clear hcz27_4
        try clear hcz27_5
        try clear hcz27_6
        try clear hcz29_0
        try clear hcz29_1
        try clear hcz29_2
        try clear hcz29_3
        try clear hcz29_4
        try clear hcz29_5
        try clear hcz29_6
        try clear hcz30_0
        try clear hcz30_1
        try clear hcz30_2
        try clear hcz30_3
        try clear hcz30_4
        try clear hcz30_5
        try clear hcz30_6
        try clear hcz31_0
        try clear hcz31_1
        try clear hcz31_2
        try clear hcz31_3
        try clear hcz31_4
        try clear hcz31_5
        try clear hcz31_6
        try clear hcz32_0
        try clear hcz32_1
        try clear hcz32_2
        try clear hcz32_3
        try clear hcz32_4
        try clear hcz32_5
        try clear hcz32_6
        try clear hcz34_0
        try clear hcz34_1
        try clear hcz34_2
        try clear hcz34_3
        try clear hcz34_4
        try clear hcz34_5
        try clear hcz34_6
        try clear hcz35_0
        try clear hcz35_1
        try clear hcz35_2
        try clear hcz35_3
        try clear hcz35_4
        try clear hcz35_5
        try clear hcz35_6
        try clear hcz41_0
        try clear hcz41_1
        try clear hcz41_2
        try clear hcz41_3
        try clear hcz41_4
        try clear hcz41_5
        try clear hcz41_6
        try clear hcz42_0
        try clear hcz42_1
        try clear hcz42_2
        try clear hcz42_3
        try clear hcz42_4
        try clear hcz42_5
        try clear hcz42_6
        try clear hcz43_0
        try clear hcz43_1
        try clear hcz43_2
        try clear hcz43_3
        try clear hcz43_4
        try clear hcz43_5
        try clear hcz43_6
        try clear hfz15_0
        try clear hfz15_1
        try clear hfz15_2
        try clear hfz15_3
        try clear hfz15_4
        try clear hfz15_5
        try clear hfz15_6
        try clear hfz16_0
        try clear hfz16_1
        try clear hfz16_2
        try clear hfz16_3
        try clear hfz16_4
        try clear hfz16_5
        try clear hfz16_6
        try clear hfz17_0
        try clear hfz17_1
        try clear hfz17_2
        try clear hfz17_3
        try clear hfz17_4
        try clear hfz17_5
        try clear hfz17_6
        try clear hfz18_0
        try clear hfz18_1
        try clear hfz18_2
        try clear hfz18_3
        try clear hfz18_4
        try clear hfz18_5
        try clear hfz18_6
        try clear hfz19_0
        try clear hfz19_1
        try clear hfz19_2
        try clear hfz19_3
        try clear hfz19_4
        try clear hfz19_5
        try clear hfz19_6
        try clear hfz20_0
        try clear hfz20_1
        try clear hfz20_2
        try clear hfz20_3
        try clear hfz20_4
        try clear hfz20_5
        try clear hfz20_6
        try clear hfz27_0
        try clear hfz27_1
        try clear hfz27_2
        try clear hfz27_3
        try clear hfz27_4
        try clear hfz27_5
        try clear hfz27_6
        try clear hfz29_0
        try clear hfz29_1
        try clear hfz29_2
        try clear hfz29_3
        try clear hfz29_4
        try clear hfz29_5
        try clear hfz29_6
        try clear hfz30_0
        try clear hfz30_1
        try clear hfz30_2
        try clear hfz30_3
        try clear hfz30_4
        try clear hfz30_5
        try clear hfz30_6
        try clear hfz31_0
        try clear hfz31_1
        try clear hfz31_2
        try clear hfz31_3
        try clear hfz31_4
        try clear hfz31_5
        try clear hfz31_6
        try clear hfz32_0
        try clear hfz32_1
        try clear hfz32_2
        try clear hfz32_3
        try clear hfz32_4
        try clear hfz32_5
        try clear hfz32_6
        try clear hfz34_0
        try clear hfz34_1
        try clear hfz34_2
        try clear hfz34_3
        try clear hfz34_4
        try clear hfz34_5
        try clear hfz34_6
        try clear hfz35_0
        try clear hfz35_1
        try clear hfz35_2
        try clear hfz35_3
        try clear hfz35_4
        try clear hfz35_5
        try clear hfz35_6
        try clear hfz41_0
        try clear hfz41_1
        try clear hfz41_2
        try clear hfz41_3
        try clear hfz41_4
        try clear hfz41_5
        try clear hfz41_6
        try clear hfz42_0
        try clear hfz42_1
        try clear hfz42_2
        try clear hfz42_3
        try clear hfz42_4
        try clear hfz42_5
        try clear hfz42_6
        try clear hfz43_0
        try clear hfz43_1
        try clear hfz43_2
        try clear hfz43_3
        try clear hfz43_4
        try clear hfz43_5
        try clear hfz43_6
        try clear p2
        try clear p6
        obtain ⟨kq, x95_36, rfl, HA, HJ36, BK114, HB⟩ := hcut
        cases kq with
        | zero => exact absurd HA.out (by simp [spec_BatchOk.j2])
        | succ kj36 =>
         have H := HA.out
         clear HA
         simp only [spec_BatchOk.j2] at H
         by_cases c44 : x95_36 = true
         ·
          subst c44
          rw [if_pos rfl] at H
          obtain rfl := Option.some.inj H
          go_wp2
          go_ret
          exact ⟨by first | rfl | (simp [errW_none, errW_some] <;> rfl) | (simp [*, errW_none, errW_some] <;> rfl), by repeat (first | (with_reducible first | exact HB.out | apply bAl | apply bDN | apply bD1 | refine bSe ?_ GE114.out) | exact HB.out)⟩
         ·
          replace c44 := Bool.eq_false_iff.mpr c44
          subst c44
          rw [if_neg (show ¬ (false = true) by decide)] at H
          have H' := Aside0.mk H
          clear H
          go_wp2
          go_loopg [3] kj36 (fun kq v3 w' => ∃ (x3_4 : Int), v3 = .int .i64 x3_4 ∧ Aside0 (spec_BatchOk.l0 kq x3_4 a0_0 a0_1 a0_2 a0_3 a0_4 a0_5 l0_6 = some r) ∧ Aside0 (kq ≤ kj36) ∧ Aside0 (w'.heap[gb114]? = some (.cells #[.int .i64 a0_0, .int .i64 a0_1, .int .i64 a0_2, .int .i64 a0_3, .int .i64 a0_4, .int .i64 a0_5, (.slice A0_6 l0_6.length c0_6)] 29 (0, 0))) ∧ Aside0 (Below w.heap.size w w'))
          case atStart => exact ⟨(0), (by first | rfl | (simp; done) | (simp [*]; done) | exact Go.Proofs.Ytjbcgflpeomkfaa.Add.isEmpty_bne _), H', ⟨Nat.le_refl _⟩, ⟨by (with_reducible repeat first | refine kDN ?_ _ | refine kDr ?_ | refine kAl ?_ _); exact BK114.out⟩, ⟨by repeat (first | (with_reducible first | exact HB.out | apply bAl | apply bDN | apply bD1 | refine bSe ?_ GE114.out) | exact HB.out)⟩⟩
          case round =>
           clear H'
           try clear c1
           try clear c2
           try clear p2
           try clear c3
           try clear c4
           try clear c5
           try clear p6
           try clear c7
           try clear c9
           try clear c10
           try clear c11
           try clear c13
           try clear c21
           try clear c23
           try clear c23b0
           try clear c24
           try clear c24b0
           try clear c24b1
           try clear c25
           try clear c25b0
           try clear c25b1
           try clear c26
           try clear c26b0
           try clear c26b1
           try clear c28
           try clear c28b0
           try clear c30
           try clear c33
           try clear c33b0
           try clear c36
           try clear c39
           try clear c40
           try clear c40b0
           try clear c44
           try clear hcz15_0
           try clear hcz15_1
           try clear hcz15_2
           try clear hcz15_3
           try clear hcz15_4
           try clear hcz15_5
           try clear hcz15_6
           try clear hcz16_0
           try clear hcz16_1
           try clear hcz16_2
           try clear hcz16_3
           try clear hcz16_4
           try clear hcz16_5
           try clear hcz16_6
           try clear hcz17_0
           try clear hcz17_1
           try clear hcz17_2
           try clear hcz17_3
           try clear hcz17_4
           try clear hcz17_5
           try clear hcz17_6
           try clear hcz18_0
           try clear hcz18_1
           try clear hcz18_2
           try clear hcz18_3
           try clear hcz18_4
           try clear hcz18_5
           try clear hcz18_6
           try clear hcz19_0
           try clear hcz19_1
           try clear hcz19_2
           try clear hcz19_3
           try clear hcz19_4
           try clear hcz19_5
           try clear hcz19_6
           try clear hcz20_0
           try clear hcz20_1
           try clear hcz20_2
           try clear hcz20_3
           try clear hcz20_4
           try clear hcz20_5
           try clear hcz20_6
           try clear hcz27_0
           try clear hcz27_1
           try clear hcz27_2
           try clear hcz27_3
           try clear hcz27_4
           try clear hcz27_5
           try clear hcz27_6
           try clear hcz29_0
           try clear hcz29_1
           try clear hcz29_2
           try clear hcz29_3
           try clear hcz29_4
           try clear hcz29_5
           try clear hcz29_6
           try clear hcz30_0
           try clear hcz30_1
           try clear hcz30_2
           try clear hcz30_3
           try clear hcz30_4
           try clear hcz30_5
           try clear hcz30_6
           try clear hcz31_0
           try clear hcz31_1
           try clear hcz31_2
           try clear hcz31_3
           try clear hcz31_4
           try clear hcz31_5
           try clear hcz31_6
           try clear hcz32_0
           try clear hcz32_1
           try clear hcz32_2
           try clear hcz32_3
           try clear hcz32_4
           try clear hcz32_5
           try clear hcz32_6
           try clear hcz34_0
           try clear hcz34_1
           try clear hcz34_2
           try clear hcz34_3
           try clear hcz34_4
           try clear hcz34_5
           try clear hcz34_6
           try clear hcz35_0
           try clear hcz35_1
           try clear hcz35_2
           try clear hcz35_3
           try clear hcz35_4
           try clear hcz35_5
           try clear hcz35_6
           try clear hcz41_0
           try clear hcz41_1
           try clear hcz41_2
           try clear hcz41_3
           try clear hcz41_4
           try clear hcz41_5
           try clear hcz41_6
           try clear hcz42_0
           try clear hcz42_1
           try clear hcz42_2
           try clear hcz42_3
           try clear hcz42_4
           try clear hcz42_5
           try clear hcz42_6
           try clear hcz43_0
           try clear hcz43_1
           try clear hcz43_2
           try clear hcz43_3
           try clear hcz43_4
           try clear hcz43_5
           try clear hcz43_6
           try clear hfz15_0
           try clear hfz15_1
           try clear hfz15_2
           try clear hfz15_3
           try clear hfz15_4
           try clear hfz15_5
           try clear hfz15_6
           try clear hfz16_0
           try clear hfz16_1
           try clear hfz16_2
           try clear hfz16_3
           try clear hfz16_4
           try clear hfz16_5
           try clear hfz16_6
           try clear hfz17_0
           try clear hfz17_1
           try clear hfz17_2
           try clear hfz17_3
           try clear hfz17_4
           try clear hfz17_5
           try clear hfz17_6
           try clear hfz18_0
           try clear hfz18_1
           try clear hfz18_2
           try clear hfz18_3
           try clear hfz18_4
           try clear hfz18_5
           try clear hfz18_6
           try clear hfz19_0
           try clear hfz19_1
           try clear hfz19_2
           try clear hfz19_3
           try clear hfz19_4
           try clear hfz19_5
           try clear hfz19_6
           try clear hfz20_0
           try clear hfz20_1
           try clear hfz20_2
           try clear hfz20_3
           try clear hfz20_4
           try clear hfz20_5
           try clear hfz20_6
           try clear hfz27_0
           try clear hfz27_1
           try clear hfz27_2
           try clear hfz27_3
           try clear hfz27_4
           try clear hfz27_5
           try clear hfz27_6
           try clear hfz29_0
           try clear hfz29_1
           try clear hfz29_2
           try clear hfz29_3
           try clear hfz29_4
           try clear hfz29_5
           try clear hfz29_6
           try clear hfz30_0
           try clear hfz30_1
           try clear hfz30_2
           try clear hfz30_3
           try clear hfz30_4
           try clear hfz30_5
           try clear hfz30_6
           try clear hfz31_0
           try clear hfz31_1
           try clear hfz31_2
           try clear hfz31_3
           try clear hfz31_4
           try clear hfz31_5
           try clear hfz31_6
           try clear hfz32_0
           try clear hfz32_1
           try clear hfz32_2
           try clear hfz32_3
           try clear hfz32_4
           try clear hfz32_5
           try clear hfz32_6
           try clear hfz34_0
           try clear hfz34_1
           try clear hfz34_2
           try clear hfz34_3
           try clear hfz34_4
           try clear hfz34_5
           try clear hfz34_6
           try clear hfz35_0
           try clear hfz35_1
           try clear hfz35_2
           try clear hfz35_3
           try clear hfz35_4
           try clear hfz35_5
           try clear hfz35_6
           try clear hfz41_0
           try clear hfz41_1
           try clear hfz41_2
           try clear hfz41_3
           try clear hfz41_4
           try clear hfz41_5
           try clear hfz41_6
           try clear hfz42_0
           try clear hfz42_1
           try clear hfz42_2
           try clear hfz42_3
           try clear hfz42_4
           try clear hfz42_5
           try clear hfz42_6
           try clear hfz43_0
           try clear hfz43_1
           try clear hfz43_2
           try clear hfz43_3
           try clear hfz43_4
           try clear hfz43_5
           try clear hfz43_6
           try clear p2
           try clear p6
           obtain ⟨x3_4, rfl, HA, HK4, BK114, HB⟩ := hrel
           cases gk with
           | zero => exact absurd HA.out (by simp [spec_BatchOk.l0])
           | succ k4 =>
            have H := HA.out
            clear HA
            simp only [spec_BatchOk.l0] at H
            by_cases c45 : x3_4 < (l0_6.length : Int)
            ·
             rw [if_pos c45] at H
             have c45b0 : decide (x3_4 < (l0_6.length : Int)) = true := decide_eq_true c45
             clear c45
             by_cases c46 : 0 ≤ x3_4
             ·
              rw [if_pos c46] at H
              have c46b0 : decide (0 ≤ x3_4) = true := decide_eq_true c46
              clear c46
              replace H := Option.bind_eq_some_iff.mp H
              obtain ⟨t123, A470, H⟩ := H
              have A47 := Aside0.mk A470
              clear A470
              by_cases c48 : t123 = true
              ·
               subst c48
               rw [if_pos rfl] at H
               have H' := Aside0.mk H
               clear H
               have hcz49_0 : wr.cell? ⟨gb114, 0, none⟩ = some (.int .i64 a0_0) := (kCe BK114.out 0).trans rfl
               have hcz49_1 : wr.cell? ⟨gb114, 1, none⟩ = some (.int .i64 a0_1) := (kCe BK114.out 1).trans rfl
               have hcz49_2 : wr.cell? ⟨gb114, 2, none⟩ = some (.int .i64 a0_2) := (kCe BK114.out 2).trans rfl
               have hcz49_3 : wr.cell? ⟨gb114, 3, none⟩ = some (.int .i64 a0_3) := (kCe BK114.out 3).trans rfl
               have hcz49_4 : wr.cell? ⟨gb114, 4, none⟩ = some (.int .i64 a0_4) := (kCe BK114.out 4).trans rfl
               have hcz49_5 : wr.cell? ⟨gb114, 5, none⟩ = some (.int .i64 a0_5) := (kCe BK114.out 5).trans rfl
               have hcz49_6 : wr.cell? ⟨gb114, 6, none⟩ = some (.slice A0_6 l0_6.length c0_6) := (kCe BK114.out 6).trans rfl
               have hfz49_0 := kFr BK114.out 0
               have hfz49_1 := kFr BK114.out 1
               have hfz49_2 := kFr BK114.out 2
               have hfz49_3 := kFr BK114.out 3
               have hfz49_4 := kFr BK114.out 4
               have hfz49_5 := kFr BK114.out 5
               have hfz49_6 := kFr BK114.out 6
               have p122 : 0 ≤ (x3_4 : Int) := of_decide_eq_true (by first | (with_reducible assumption) | assumption)
               have q122 : x3_4 < (l0_6.length : Int) := of_decide_eq_true (by first | (with_reducible assumption) | assumption)
               obtain ⟨ad122, A122_5, c122_5, e122, hx122_0, hx122_1, hx122_2, hx122_3, hx122_4, hx122_5, hl122_5, hi122_5⟩ := at_T56 HR0_6.out x3_4 p122 q122
               cases e122
               replace hx122_0 := (HB.out.cell (World.block_lt_of_cell? w _ hx122_0)).trans hx122_0
               replace hx122_1 := (HB.out.cell (World.block_lt_of_cell? w _ hx122_1)).trans hx122_1
               replace hx122_2 := (HB.out.cell (World.block_lt_of_cell? w _ hx122_2)).trans hx122_2
               replace hx122_3 := (HB.out.cell (World.block_lt_of_cell? w _ hx122_3)).trans hx122_3
               replace hx122_4 := (HB.out.cell (World.block_lt_of_cell? w _ hx122_4)).trans hx122_4
               replace hx122_5 := (HB.out.cell (World.block_lt_of_cell? w _ hx122_5)).trans hx122_5
               have HR122_5 := Aside0.mk hi122_5
               have HC122_5 := Aside0.mk hl122_5
               clear hi122_5 hl122_5
               replace p122 := eq_true p122
               replace q122 := eq_true q122
               go_wp2_with (first | ((with_reducible refine gCa (f := 31) rfl ?_); refine goesL_ (some 108) rfl rfl Try.func31 (by kernel_rfl) rfl #[.agg #[.int .i64 ((rd_T56 l0_6 x3_4).f0), .bool ((rd_T56 l0_6 x3_4).f1), .string ((rd_T56 l0_6 x3_4).f2), .bool ((rd_T56 l0_6 x3_4).f3), .string ((rd_T56 l0_6 x3_4).f4), .slice A122_5 ((rd_T56 l0_6 x3_4).f5).length c122_5]] rfl (by (try simp only [List.map_toArray, List.map_cons, List.map_nil]); first | done | rfl | (simp only [List.length_drop, List.length_take]; rfl)) ?_; (with_reducible refine (spec_RecordOk.calls k4 ((rd_T56 l0_6 x3_4).f0) ((rd_T56 l0_6 x3_4).f1) ((rd_T56 l0_6 x3_4).f2) ((rd_T56 l0_6 x3_4).f3) ((rd_T56 l0_6 x3_4).f4) _ _ ((rd_T56 l0_6 x3_4).f5) true _ ?side1 ?side2 A47.out).mono ?_); (case side1 => repeat (first | exact (Kd.C_below HR122_5.out HB.out) | (with_reducible refine Kd.C_alloc ?_ _) | (with_reducible refine Kd.C_drewN ?_ _) | (with_reducible refine Kd.C_drew ?_))); (case side2 => exact HC122_5.out); rintro e w50 ⟨rfl, hb⟩; refine ⟨_, rfl, ?_⟩; have n0_ := Aside0.mk (kBe (g := gb114) (o := .cells #[.int .i64 a0_0, .int .i64 a0_1, .int .i64 a0_2, .int .i64 a0_3, .int .i64 a0_4, .int .i64 a0_5, .slice (some ad122) l0_6.length c0_6] 29 (0, 0)) (by (with_reducible repeat first | refine kDN ?_ _ | refine kDr ?_ | refine kAl ?_ _); exact BK114.out) hb); have n1_ := Aside0.mk (bSt (by repeat (first | (with_reducible first | exact HB.out | apply bAl | apply bDN | apply bD1 | refine bSe ?_ GE114.out) | exact HB.out)) hb); clear BK114; clear HB; have BK114 := n0_; have HB := n1_; clear n0_ n1_; (try clear hb); (try clear hb2); (try clear hk); (try clear hi)))
               go_roundg k4
               case measure => have := HJ1.out; have := HJ21.out; have := HJ36.out; have := HK4.out; omega
               case rel => exact ⟨(wrap64 (x3_4 + 1)), (by first | rfl | (simp; done) | (simp [*]; done) | exact Go.Proofs.Ytjbcgflpeomkfaa.Add.isEmpty_bne _), H', ⟨by have := HJ1.out; have := HJ21.out; have := HJ36.out; have := HK4.out; omega⟩, ⟨by (with_reducible repeat first | refine kDN ?_ _ | refine kDr ?_ | refine kAl ?_ _); exact BK114.out⟩, ⟨by repeat (first | (with_reducible first | exact HB.out | apply bAl | apply bDN | apply bD1 | refine bSe ?_ GE114.out) | exact HB.out)⟩⟩
              ·
               replace c48 := Bool.eq_false_iff.mpr c48
               subst c48
               rw [if_neg (show ¬ (false = true) by decide)] at H
               obtain rfl := Option.some.inj H
               have hcz51_0 : wr.cell? ⟨gb114, 0, none⟩ = some (.int .i64 a0_0) := (kCe BK114.out 0).trans rfl
               have hcz51_1 : wr.cell? ⟨gb114, 1, none⟩ = some (.int .i64 a0_1) := (kCe BK114.out 1).trans rfl
               have hcz51_2 : wr.cell? ⟨gb114, 2, none⟩ = some (.int .i64 a0_2) := (kCe BK114.out 2).trans rfl
               have hcz51_3 : wr.cell? ⟨gb114, 3, none⟩ = some (.int .i64 a0_3) := (kCe BK114.out 3).trans rfl
               have hcz51_4 : wr.cell? ⟨gb114, 4, none⟩ = some (.int .i64 a0_4) := (kCe BK114.out 4).trans rfl
               have hcz51_5 : wr.cell? ⟨gb114, 5, none⟩ = some (.int .i64 a0_5) := (kCe BK114.out 5).trans rfl
               have hcz51_6 : wr.cell? ⟨gb114, 6, none⟩ = some (.slice A0_6 l0_6.length c0_6) := (kCe BK114.out 6).trans rfl
               have hfz51_0 := kFr BK114.out 0
               have hfz51_1 := kFr BK114.out 1
               have hfz51_2 := kFr BK114.out 2
               have hfz51_3 := kFr BK114.out 3
               have hfz51_4 := kFr BK114.out 4
               have hfz51_5 := kFr BK114.out 5
               have hfz51_6 := kFr BK114.out 6
               have p122 : 0 ≤ (x3_4 : Int) := of_decide_eq_true (by first | (with_reducible assumption) | assumption)
               have q122 : x3_4 < (l0_6.length : Int) := of_decide_eq_true (by first | (with_reducible assumption) | assumption)
               obtain ⟨ad122, A122_5, c122_5, e122, hx122_0, hx122_1, hx122_2, hx122_3, hx122_4, hx122_5, hl122_5, hi122_5⟩ := at_T56 HR0_6.out x3_4 p122 q122
               cases e122
               replace hx122_0 := (HB.out.cell (World.block_lt_of_cell? w _ hx122_0)).trans hx122_0
               replace hx122_1 := (HB.out.cell (World.block_lt_of_cell? w _ hx122_1)).trans hx122_1
               replace hx122_2 := (HB.out.cell (World.block_lt_of_cell? w _ hx122_2)).trans hx122_2
               replace hx122_3 := (HB.out.cell (World.block_lt_of_cell? w _ hx122_3)).trans hx122_3
               replace hx122_4 := (HB.out.cell (World.block_lt_of_cell? w _ hx122_4)).trans hx122_4
               replace hx122_5 := (HB.out.cell (World.block_lt_of_cell? w _ hx122_5)).trans hx122_5
               have HR122_5 := Aside0.mk hi122_5
               have HC122_5 := Aside0.mk hl122_5
               clear hi122_5 hl122_5
               replace p122 := eq_true p122
               replace q122 := eq_true q122
               go_wp2_with (first | ((with_reducible refine gCa (f := 31) rfl ?_); refine goesL_ (some 108) rfl rfl Try.func31 (by kernel_rfl) rfl #[.agg #[.int .i64 ((rd_T56 l0_6 x3_4).f0), .bool ((rd_T56 l0_6 x3_4).f1), .string ((rd_T56 l0_6 x3_4).f2), .bool ((rd_T56 l0_6 x3_4).f3), .string ((rd_T56 l0_6 x3_4).f4), .slice A122_5 ((rd_T56 l0_6 x3_4).f5).length c122_5]] rfl (by (try simp only [List.map_toArray, List.map_cons, List.map_nil]); first | done | rfl | (simp only [List.length_drop, List.length_take]; rfl)) ?_; (with_reducible refine (spec_RecordOk.calls k4 ((rd_T56 l0_6 x3_4).f0) ((rd_T56 l0_6 x3_4).f1) ((rd_T56 l0_6 x3_4).f2) ((rd_T56 l0_6 x3_4).f3) ((rd_T56 l0_6 x3_4).f4) _ _ ((rd_T56 l0_6 x3_4).f5) false _ ?side1 ?side2 A47.out).mono ?_); (case side1 => repeat (first | exact (Kd.C_below HR122_5.out HB.out) | (with_reducible refine Kd.C_alloc ?_ _) | (with_reducible refine Kd.C_drewN ?_ _) | (with_reducible refine Kd.C_drew ?_))); (case side2 => exact HC122_5.out); rintro e w52 ⟨rfl, hb⟩; refine ⟨_, rfl, ?_⟩; have n0_ := Aside0.mk (kBe (g := gb114) (o := .cells #[.int .i64 a0_0, .int .i64 a0_1, .int .i64 a0_2, .int .i64 a0_3, .int .i64 a0_4, .int .i64 a0_5, .slice (some ad122) l0_6.length c0_6] 29 (0, 0)) (by (with_reducible repeat first | refine kDN ?_ _ | refine kDr ?_ | refine kAl ?_ _); exact BK114.out) hb); have n1_ := Aside0.mk (bSt (by repeat (first | (with_reducible first | exact HB.out | apply bAl | apply bDN | apply bD1 | refine bSe ?_ GE114.out) | exact HB.out)) hb); clear BK114; clear HB; have BK114 := n0_; have HB := n1_; clear n0_ n1_; (try clear hb); (try clear hb2); (try clear hk); (try clear hi)))
               go_ret
               exact ⟨by first | rfl | (simp [errW_none, errW_some] <;> rfl) | (simp [*, errW_none, errW_some] <;> rfl), by repeat (first | (with_reducible first | exact HB.out | apply bAl | apply bDN | apply bD1 | refine bSe ?_ GE114.out) | exact HB.out)⟩
             ·
              rw [if_neg c46] at H
              exact absurd H (by simp)
            ·
             rw [if_neg c45] at H
             have c45b0 : decide (x3_4 < (l0_6.length : Int)) = false := decide_eq_false c45
             clear c45
             by_cases c53 : a0_5 ≥ 4
             ·
              rw [if_pos c53] at H
              have c53b0 : decide (4 ≤ a0_5) = true := decide_eq_true c53
              clear c53
              by_cases c54 : 0 < (l0_6.length : Int)
              ·
               rw [if_pos c54] at H
               have c54b0 : decide (0 < (l0_6.length : Int)) = true := decide_eq_true c54
               have c54b1 : decide (0 < l0_6.length) = true := decide_eq_true (by omega)
               clear c54
               by_cases c55 : (l0_6.length : Int) = 1
               ·
                rw [if_pos c55] at H
                have c55b0 : ((l0_6.length : Int) == 1) = true := beq_iff_eq.mpr c55
                have c55b1 : ((l0_6.length : Int) != 1) = false := bne_eq_false_iff_eq.mpr c55
                clear c55
                obtain ⟨bq56, hbq56⟩ : ∃ b_ : Bool, b_ = ((rd_T56 l0_6 0).f1) := ⟨_, rfl⟩
                replace H : (if bq56 = true then (if ((rd_T56 l0_6 0).f2).toList = ([99, 111, 109, 109, 105, 116] : List UInt8) then (if ((rd_T56 l0_6 0).f3 = true) then (some false) else (if ((rd_T56 l0_6 0).f4).toList = ([] : List UInt8) then (some ((((rd_T56 l0_6 0).f5).length : Int) == 0)) else (some false))) else (if ((rd_T56 l0_6 0).f2).toList = ([97, 98, 111, 114, 116] : List UInt8) then (if ((rd_T56 l0_6 0).f3 = true) then (some false) else (if ((rd_T56 l0_6 0).f4).toList = ([] : List UInt8) then (some ((((rd_T56 l0_6 0).f5).length : Int) == 0)) else (some false))) else (some false))) else (some false)) = some r := by rw [← hbq56] at H; exact H
                have Nbq56 := Aside0.mk hbq56
                clear hbq56
                by_cases c57 : bq56 = true
                ·
                 subst c57
                 rw [if_pos rfl] at H
                 by_cases c58 : ((rd_T56 l0_6 0).f2).toList = ([99, 111, 109, 109, 105, 116] : List UInt8)
                 ·
                  rw [if_pos c58] at H
                  have c58b0 : (((rd_T56 l0_6 0).f2).toList == ([99, 111, 109, 109, 105, 116] : List UInt8)) = true := beq_iff_eq.mpr c58
                  have c58b1 : (((rd_T56 l0_6 0).f2).toList != ([99, 111, 109, 109, 105, 116] : List UInt8)) = false := bne_eq_false_iff_eq.mpr c58
                  clear c58
                  obtain ⟨bq59, hbq59⟩ : ∃ b_ : Bool, b_ = ((rd_T56 l0_6 0).f3) := ⟨_, rfl⟩
                  replace H : (if (bq59 = true) then (some false) else (if ((rd_T56 l0_6 0).f4).toList = ([] : List UInt8) then (some ((((rd_T56 l0_6 0).f5).length : Int) == 0)) else (some false))) = some r := by rw [← hbq59] at H; exact H
                  have Nbq59 := Aside0.mk hbq59
                  clear hbq59
                  by_cases c60 : (bq59 = true)
                  ·
                   subst c60
                   rw [if_pos rfl] at H
                   obtain rfl := Option.some.inj H
                   have hcz61_0 : wr.cell? ⟨gb114, 0, none⟩ = some (.int .i64 a0_0) := (kCe BK114.out 0).trans rfl
                   have hcz61_1 : wr.cell? ⟨gb114, 1, none⟩ = some (.int .i64 a0_1) := (kCe BK114.out 1).trans rfl
                   have hcz61_2 : wr.cell? ⟨gb114, 2, none⟩ = some (.int .i64 a0_2) := (kCe BK114.out 2).trans rfl
                   have hcz61_3 : wr.cell? ⟨gb114, 3, none⟩ = some (.int .i64 a0_3) := (kCe BK114.out 3).trans rfl
                   have hcz61_4 : wr.cell? ⟨gb114, 4, none⟩ = some (.int .i64 a0_4) := (kCe BK114.out 4).trans rfl
                   have hcz61_5 : wr.cell? ⟨gb114, 5, none⟩ = some (.int .i64 a0_5) := (kCe BK114.out 5).trans rfl
                   have hcz61_6 : wr.cell? ⟨gb114, 6, none⟩ = some (.slice A0_6 l0_6.length c0_6) := (kCe BK114.out 6).trans rfl
                   have hfz61_0 := kFr BK114.out 0
                   have hfz61_1 := kFr BK114.out 1
                   have hfz61_2 := kFr BK114.out 2
                   have hfz61_3 := kFr BK114.out 3
                   have hfz61_4 := kFr BK114.out 4
                   have hfz61_5 := kFr BK114.out 5
                   have hfz61_6 := kFr BK114.out 6
                   have p124 : 0 ≤ (0 : Int) := (by omega)
                   have q124 : 0 < (l0_6.length : Int) := of_decide_eq_true (by first | (with_reducible assumption) | assumption)
                   obtain ⟨ad124, A124_5, c124_5, e124, hx124_0, hx124_1, hx124_2, hx124_3, hx124_4, hx124_5, hl124_5, hi124_5⟩ := at_T56 HR0_6.out 0 p124 q124
                   (try rw [← Nbq56.out] at hx124_1)
                   (try rw [← Nbq59.out] at hx124_1)
                   (try rw [← Nbq56.out] at hx124_3)
                   (try rw [← Nbq59.out] at hx124_3)
                   cases e124
                   have qi124 : (0 < l0_6.length) = True := eq_true (by omega)
                   (try rw [show ((0 : Int)).toNat = 0 from rfl] at hx124_0)
                   (try rw [show 0 * 6 = 0 from rfl] at hx124_0)
                   (try rw [Addr.add_zero'] at hx124_0)
                   (try rw [show ((0 : Int)).toNat = 0 from rfl] at hx124_1)
                   (try rw [show 0 * 6 = 0 from rfl] at hx124_1)
                   (try rw [Addr.add_zero'] at hx124_1)
                   (try rw [show ((0 : Int)).toNat = 0 from rfl] at hx124_2)
                   (try rw [show 0 * 6 = 0 from rfl] at hx124_2)
                   (try rw [Addr.add_zero'] at hx124_2)
                   (try rw [show ((0 : Int)).toNat = 0 from rfl] at hx124_3)
                   (try rw [show 0 * 6 = 0 from rfl] at hx124_3)
                   (try rw [Addr.add_zero'] at hx124_3)
                   (try rw [show ((0 : Int)).toNat = 0 from rfl] at hx124_4)
                   (try rw [show 0 * 6 = 0 from rfl] at hx124_4)
                   (try rw [Addr.add_zero'] at hx124_4)
                   (try rw [show ((0 : Int)).toNat = 0 from rfl] at hx124_5)
                   (try rw [show 0 * 6 = 0 from rfl] at hx124_5)
                   (try rw [Addr.add_zero'] at hx124_5)
                   replace hx124_0 := (HB.out.cell (World.block_lt_of_cell? w _ hx124_0)).trans hx124_0
                   replace hx124_1 := (HB.out.cell (World.block_lt_of_cell? w _ hx124_1)).trans hx124_1
                   replace hx124_2 := (HB.out.cell (World.block_lt_of_cell? w _ hx124_2)).trans hx124_2
                   replace hx124_3 := (HB.out.cell (World.block_lt_of_cell? w _ hx124_3)).trans hx124_3
                   replace hx124_4 := (HB.out.cell (World.block_lt_of_cell? w _ hx124_4)).trans hx124_4
                   replace hx124_5 := (HB.out.cell (World.block_lt_of_cell? w _ hx124_5)).trans hx124_5
                   have HR124_5 := Aside0.mk hi124_5
                   have HC124_5 := Aside0.mk hl124_5
                   clear hi124_5 hl124_5
                   replace p124 := eq_true p124
                   replace q124 := eq_true q124
                   go_wp2_with (first | ((with_reducible refine gDs (N := 4) rfl ?_); (try (refine gGu (by rfl) ?_; dsimp only)); refine bEv ?hg (N := 4) ?hd (cs := #[.int .i64 0, .bool false, .string (⟨#[]⟩ : ByteArray), .bool false, .string (⟨#[]⟩ : ByteArray), .slice none 0 0]) (t := 56) ?hr ?_; (case hd => rfl); (case hg => rfl); (case hr => first | (go_simp; done) | (go_simp; rfl)); intro gb125 hg w62 hbox hb; have n0_ := Aside0.mk (kBe (g := gb114) (o := .cells #[.int .i64 a0_0, .int .i64 a0_1, .int .i64 a0_2, .int .i64 a0_3, .int .i64 a0_4, .int .i64 a0_5, .slice (some ad124) l0_6.length c0_6] 29 (0, 0)) (by (with_reducible repeat first | refine kDN ?_ _ | refine kDr ?_ | refine kAl ?_ _); exact BK114.out) hb); have n1_ := Aside0.mk (bSt (by repeat (first | (with_reducible first | exact HB.out | apply bAl | apply bDN | apply bD1 | refine bSe ?_ GE114.out) | exact HB.out)) hb); have n2_ := Aside0.mk (hbox); have n3_ := Aside0.mk ((by rw [hg]; exact (bSz (by repeat (first | (with_reducible first | exact HB.out | apply bAl | apply bDN | apply bD1 | refine bSe ?_ GE114.out) | exact HB.out))) : w.heap.size ≤ gb125)); have n4_ := Aside0.mk ((by rw [hg]; exact (bSz (by repeat (first | (with_reducible first | exact HB.out | apply bAl | apply bDN | apply bD1 | refine bSe ?_ GE114.out) | exact HB.out))) : w.heap.size ≤ gb125)); have n5_ := Aside0.mk ((by rw [hg]; exact Nat.ne_of_lt (blk_lt (g := gb114) (o := .cells #[.int .i64 a0_0, .int .i64 a0_1, .int .i64 a0_2, .int .i64 a0_3, .int .i64 a0_4, .int .i64 a0_5, .slice (some ad124) l0_6.length c0_6] 29 (0, 0)) (by (with_reducible repeat first | refine kDN ?_ _ | refine kDr ?_ | refine kAl ?_ _); exact BK114.out)) : gb114 ≠ gb125)); have n6_ := Aside0.mk ((by rw [hg]; exact Nat.ne_of_gt (blk_lt (g := gb114) (o := .cells #[.int .i64 a0_0, .int .i64 a0_1, .int .i64 a0_2, .int .i64 a0_3, .int .i64 a0_4, .int .i64 a0_5, .slice (some ad124) l0_6.length c0_6] 29 (0, 0)) (by (with_reducible repeat first | refine kDN ?_ _ | refine kDr ?_ | refine kAl ?_ _); exact BK114.out)) : gb125 ≠ gb114)); clear BK114; clear HB; have BK114 := n0_; have HB := n1_; have BK125 := n2_; have GW125 := n3_; have GE125 := n4_; have NB114_125 := n5_; have NB125_114 := n6_; clear n0_ n1_ n2_ n3_ n4_ n5_ n6_; clear hb hbox hg; have hnb63 := NB125_114.out; have hnc63 := NB114_125.out; have hcz64_0 : w62.cell? ⟨gb125, 0, none⟩ = some (.int .i64 0) := (kCe BK125.out 0).trans rfl; have hcz64_1 : w62.cell? ⟨gb125, 1, none⟩ = some (.bool false) := (kCe BK125.out 1).trans rfl; have hcz64_2 : w62.cell? ⟨gb125, 2, none⟩ = some (.string (⟨#[]⟩ : ByteArray)) := (kCe BK125.out 2).trans rfl; have hcz64_3 : w62.cell? ⟨gb125, 3, none⟩ = some (.bool false) := (kCe BK125.out 3).trans rfl; have hcz64_4 : w62.cell? ⟨gb125, 4, none⟩ = some (.string (⟨#[]⟩ : ByteArray)) := (kCe BK125.out 4).trans rfl; have hcz64_5 : w62.cell? ⟨gb125, 5, none⟩ = some (.slice none 0 0) := (kCe BK125.out 5).trans rfl; have hfz64_0 := kFr BK125.out 0; have hfz64_1 := kFr BK125.out 1; have hfz64_2 := kFr BK125.out 2; have hfz64_3 := kFr BK125.out 3; have hfz64_4 := kFr BK125.out 4; have hfz64_5 := kFr BK125.out 5; have hcz65_0 : w62.cell? ⟨gb114, 0, none⟩ = some (.int .i64 a0_0) := (kCe BK114.out 0).trans rfl; have hcz65_1 : w62.cell? ⟨gb114, 1, none⟩ = some (.int .i64 a0_1) := (kCe BK114.out 1).trans rfl; have hcz65_2 : w62.cell? ⟨gb114, 2, none⟩ = some (.int .i64 a0_2) := (kCe BK114.out 2).trans rfl; have hcz65_3 : w62.cell? ⟨gb114, 3, none⟩ = some (.int .i64 a0_3) := (kCe BK114.out 3).trans rfl; have hcz65_4 : w62.cell? ⟨gb114, 4, none⟩ = some (.int .i64 a0_4) := (kCe BK114.out 4).trans rfl; have hcz65_5 : w62.cell? ⟨gb114, 5, none⟩ = some (.int .i64 a0_5) := (kCe BK114.out 5).trans rfl; have hcz65_6 : w62.cell? ⟨gb114, 6, none⟩ = some (.slice (some ad124) l0_6.length c0_6) := (kCe BK114.out 6).trans rfl; have hfz65_0 := kFr BK114.out 0; have hfz65_1 := kFr BK114.out 1; have hfz65_2 := kFr BK114.out 2; have hfz65_3 := kFr BK114.out 3; have hfz65_4 := kFr BK114.out 4; have hfz65_5 := kFr BK114.out 5; have hfz65_6 := kFr BK114.out 6))
                   go_ret
                   exact ⟨by first | rfl | (simp [errW_none, errW_some] <;> rfl) | (simp [*, errW_none, errW_some] <;> rfl), by repeat (first | (with_reducible first | exact HB.out | apply bAl | apply bDN | apply bD1 | refine bSe ?_ GE114.out | refine bSe ?_ GE125.out) | exact HB.out)⟩
                  ·
                   replace c60 := Bool.eq_false_iff.mpr c60
                   subst c60
                   rw [if_neg (show ¬ (false = true) by decide)] at H
                   by_cases c66 : ((rd_T56 l0_6 0).f4).toList = ([] : List UInt8)
                   ·
                    rw [if_pos c66] at H
                    have c66b0 : (((rd_T56 l0_6 0).f4).toList == ([] : List UInt8)) = true := beq_iff_eq.mpr c66
                    have c66b1 : (((rd_T56 l0_6 0).f4).toList != ([] : List UInt8)) = false := bne_eq_false_iff_eq.mpr c66
                    clear c66
                    obtain rfl := Option.some.inj H
                    have hcz67_0 : wr.cell? ⟨gb114, 0, none⟩ = some (.int .i64 a0_0) := (kCe BK114.out 0).trans rfl
                    have hcz67_1 : wr.cell? ⟨gb114, 1, none⟩ = some (.int .i64 a0_1) := (kCe BK114.out 1).trans rfl
                    have hcz67_2 : wr.cell? ⟨gb114, 2, none⟩ = some (.int .i64 a0_2) := (kCe BK114.out 2).trans rfl
                    have hcz67_3 : wr.cell? ⟨gb114, 3, none⟩ = some (.int .i64 a0_3) := (kCe BK114.out 3).trans rfl
                    have hcz67_4 : wr.cell? ⟨gb114, 4, none⟩ = some (.int .i64 a0_4) := (kCe BK114.out 4).trans rfl
                    have hcz67_5 : wr.cell? ⟨gb114, 5, none⟩ = some (.int .i64 a0_5) := (kCe BK114.out 5).trans rfl
                    have hcz67_6 : wr.cell? ⟨gb114, 6, none⟩ = some (.slice A0_6 l0_6.length c0_6) := (kCe BK114.out 6).trans rfl
                    have hfz67_0 := kFr BK114.out 0
                    have hfz67_1 := kFr BK114.out 1
                    have hfz67_2 := kFr BK114.out 2
                    have hfz67_3 := kFr BK114.out 3
                    have hfz67_4 := kFr BK114.out 4
                    have hfz67_5 := kFr BK114.out 5
                    have hfz67_6 := kFr BK114.out 6
                    have p124 : 0 ≤ (0 : Int) := (by omega)
                    have q124 : 0 < (l0_6.length : Int) := of_decide_eq_true (by first | (with_reducible assumption) | assumption)
                    obtain ⟨ad124, A124_5, c124_5, e124, hx124_0, hx124_1, hx124_2, hx124_3, hx124_4, hx124_5, hl124_5, hi124_5⟩ := at_T56 HR0_6.out 0 p124 q124
                    (try rw [← Nbq56.out] at hx124_1)
                    (try rw [← Nbq59.out] at hx124_1)
                    (try rw [← Nbq56.out] at hx124_3)
                    (try rw [← Nbq59.out] at hx124_3)
                    cases e124
                    have qi124 : (0 < l0_6.length) = True := eq_true (by omega)
                    (try rw [show ((0 : Int)).toNat = 0 from rfl] at hx124_0)
                    (try rw [show 0 * 6 = 0 from rfl] at hx124_0)
                    (try rw [Addr.add_zero'] at hx124_0)
                    (try rw [show ((0 : Int)).toNat = 0 from rfl] at hx124_1)
                    (try rw [show 0 * 6 = 0 from rfl] at hx124_1)
                    (try rw [Addr.add_zero'] at hx124_1)
                    (try rw [show ((0 : Int)).toNat = 0 from rfl] at hx124_2)
                    (try rw [show 0 * 6 = 0 from rfl] at hx124_2)
                    (try rw [Addr.add_zero'] at hx124_2)
                    (try rw [show ((0 : Int)).toNat = 0 from rfl] at hx124_3)
                    (try rw [show 0 * 6 = 0 from rfl] at hx124_3)
                    (try rw [Addr.add_zero'] at hx124_3)
                    (try rw [show ((0 : Int)).toNat = 0 from rfl] at hx124_4)
                    (try rw [show 0 * 6 = 0 from rfl] at hx124_4)
                    (try rw [Addr.add_zero'] at hx124_4)
                    (try rw [show ((0 : Int)).toNat = 0 from rfl] at hx124_5)
                    (try rw [show 0 * 6 = 0 from rfl] at hx124_5)
                    (try rw [Addr.add_zero'] at hx124_5)
                    replace hx124_0 := (HB.out.cell (World.block_lt_of_cell? w _ hx124_0)).trans hx124_0
                    replace hx124_1 := (HB.out.cell (World.block_lt_of_cell? w _ hx124_1)).trans hx124_1
                    replace hx124_2 := (HB.out.cell (World.block_lt_of_cell? w _ hx124_2)).trans hx124_2
                    replace hx124_3 := (HB.out.cell (World.block_lt_of_cell? w _ hx124_3)).trans hx124_3
                    replace hx124_4 := (HB.out.cell (World.block_lt_of_cell? w _ hx124_4)).trans hx124_4
                    replace hx124_5 := (HB.out.cell (World.block_lt_of_cell? w _ hx124_5)).trans hx124_5
                    have HR124_5 := Aside0.mk hi124_5
                    have HC124_5 := Aside0.mk hl124_5
                    clear hi124_5 hl124_5
                    replace p124 := eq_true p124
                    replace q124 := eq_true q124
                    go_wp2_with (first | ((with_reducible refine gDs (N := 4) rfl ?_); (try (refine gGu (by rfl) ?_; dsimp only)); refine bEv ?hg (N := 4) ?hd (cs := #[.int .i64 0, .bool false, .string (⟨#[]⟩ : ByteArray), .bool false, .string (⟨#[]⟩ : ByteArray), .slice none 0 0]) (t := 56) ?hr ?_; (case hd => rfl); (case hg => rfl); (case hr => first | (go_simp; done) | (go_simp; rfl)); intro gb125 hg w68 hbox hb; have n0_ := Aside0.mk (kBe (g := gb114) (o := .cells #[.int .i64 a0_0, .int .i64 a0_1, .int .i64 a0_2, .int .i64 a0_3, .int .i64 a0_4, .int .i64 a0_5, .slice (some ad124) l0_6.length c0_6] 29 (0, 0)) (by (with_reducible repeat first | refine kDN ?_ _ | refine kDr ?_ | refine kAl ?_ _); exact BK114.out) hb); have n1_ := Aside0.mk (bSt (by repeat (first | (with_reducible first | exact HB.out | apply bAl | apply bDN | apply bD1 | refine bSe ?_ GE114.out) | exact HB.out)) hb); have n2_ := Aside0.mk (hbox); have n3_ := Aside0.mk ((by rw [hg]; exact (bSz (by repeat (first | (with_reducible first | exact HB.out | apply bAl | apply bDN | apply bD1 | refine bSe ?_ GE114.out) | exact HB.out))) : w.heap.size ≤ gb125)); have n4_ := Aside0.mk ((by rw [hg]; exact (bSz (by repeat (first | (with_reducible first | exact HB.out | apply bAl | apply bDN | apply bD1 | refine bSe ?_ GE114.out) | exact HB.out))) : w.heap.size ≤ gb125)); have n5_ := Aside0.mk ((by rw [hg]; exact Nat.ne_of_lt (blk_lt (g := gb114) (o := .cells #[.int .i64 a0_0, .int .i64 a0_1, .int .i64 a0_2, .int .i64 a0_3, .int .i64 a0_4, .int .i64 a0_5, .slice (some ad124) l0_6.length c0_6] 29 (0, 0)) (by (with_reducible repeat first | refine kDN ?_ _ | refine kDr ?_ | refine kAl ?_ _); exact BK114.out)) : gb114 ≠ gb125)); have n6_ := Aside0.mk ((by rw [hg]; exact Nat.ne_of_gt (blk_lt (g := gb114) (o := .cells #[.int .i64 a0_0, .int .i64 a0_1, .int .i64 a0_2, .int .i64 a0_3, .int .i64 a0_4, .int .i64 a0_5, .slice (some ad124) l0_6.length c0_6] 29 (0, 0)) (by (with_reducible repeat first | refine kDN ?_ _ | refine kDr ?_ | refine kAl ?_ _); exact BK114.out)) : gb125 ≠ gb114)); clear BK114; clear HB; have BK114 := n0_; have HB := n1_; have BK125 := n2_; have GW125 := n3_; have GE125 := n4_; have NB114_125 := n5_; have NB125_114 := n6_; clear n0_ n1_ n2_ n3_ n4_ n5_ n6_; clear hb hbox hg; have hnb69 := NB125_114.out; have hnc69 := NB114_125.out; have hcz70_0 : w68.cell? ⟨gb125, 0, none⟩ = some (.int .i64 0) := (kCe BK125.out 0).trans rfl; have hcz70_1 : w68.cell? ⟨gb125, 1, none⟩ = some (.bool false) := (kCe BK125.out 1).trans rfl; have hcz70_2 : w68.cell? ⟨gb125, 2, none⟩ = some (.string (⟨#[]⟩ : ByteArray)) := (kCe BK125.out 2).trans rfl; have hcz70_3 : w68.cell? ⟨gb125, 3, none⟩ = some (.bool false) := (kCe BK125.out 3).trans rfl; have hcz70_4 : w68.cell? ⟨gb125, 4, none⟩ = some (.string (⟨#[]⟩ : ByteArray)) := (kCe BK125.out 4).trans rfl; have hcz70_5 : w68.cell? ⟨gb125, 5, none⟩ = some (.slice none 0 0) := (kCe BK125.out 5).trans rfl; have hfz70_0 := kFr BK125.out 0; have hfz70_1 := kFr BK125.out 1; have hfz70_2 := kFr BK125.out 2; have hfz70_3 := kFr BK125.out 3; have hfz70_4 := kFr BK125.out 4; have hfz70_5 := kFr BK125.out 5; have hcz71_0 : w68.cell? ⟨gb114, 0, none⟩ = some (.int .i64 a0_0) := (kCe BK114.out 0).trans rfl; have hcz71_1 : w68.cell? ⟨gb114, 1, none⟩ = some (.int .i64 a0_1) := (kCe BK114.out 1).trans rfl; have hcz71_2 : w68.cell? ⟨gb114, 2, none⟩ = some (.int .i64 a0_2) := (kCe BK114.out 2).trans rfl; have hcz71_3 : w68.cell? ⟨gb114, 3, none⟩ = some (.int .i64 a0_3) := (kCe BK114.out 3).trans rfl; have hcz71_4 : w68.cell? ⟨gb114, 4, none⟩ = some (.int .i64 a0_4) := (kCe BK114.out 4).trans rfl; have hcz71_5 : w68.cell? ⟨gb114, 5, none⟩ = some (.int .i64 a0_5) := (kCe BK114.out 5).trans rfl; have hcz71_6 : w68.cell? ⟨gb114, 6, none⟩ = some (.slice (some ad124) l0_6.length c0_6) := (kCe BK114.out 6).trans rfl; have hfz71_0 := kFr BK114.out 0; have hfz71_1 := kFr BK114.out 1; have hfz71_2 := kFr BK114.out 2; have hfz71_3 := kFr BK114.out 3; have hfz71_4 := kFr BK114.out 4; have hfz71_5 := kFr BK114.out 5; have hfz71_6 := kFr BK114.out 6))
                    go_ret
                    exact ⟨by first | rfl | (simp [errW_none, errW_some] <;> rfl) | (simp [*, errW_none, errW_some] <;> rfl), by repeat (first | (with_reducible first | exact HB.out | apply bAl | apply bDN | apply bD1 | refine bSe ?_ GE114.out | refine bSe ?_ GE125.out) | exact HB.out)⟩
                   ·
                    rw [if_neg c66] at H
                    have c66b0 : (((rd_T56 l0_6 0).f4).toList == ([] : List UInt8)) = false := beq_eq_false_iff_ne.mpr c66
                    have c66b1 : (((rd_T56 l0_6 0).f4).toList != ([] : List UInt8)) = true := bne_iff_ne.mpr c66
                    obtain rfl := Option.some.inj H
                    have hcz72_0 : wr.cell? ⟨gb114, 0, none⟩ = some (.int .i64 a0_0) := (kCe BK114.out 0).trans rfl
                    have hcz72_1 : wr.cell? ⟨gb114, 1, none⟩ = some (.int .i64 a0_1) := (kCe BK114.out 1).trans rfl
                    have hcz72_2 : wr.cell? ⟨gb114, 2, none⟩ = some (.int .i64 a0_2) := (kCe BK114.out 2).trans rfl
                    have hcz72_3 : wr.cell? ⟨gb114, 3, none⟩ = some (.int .i64 a0_3) := (kCe BK114.out 3).trans rfl
                    have hcz72_4 : wr.cell? ⟨gb114, 4, none⟩ = some (.int .i64 a0_4) := (kCe BK114.out 4).trans rfl
                    have hcz72_5 : wr.cell? ⟨gb114, 5, none⟩ = some (.int .i64 a0_5) := (kCe BK114.out 5).trans rfl
                    have hcz72_6 : wr.cell? ⟨gb114, 6, none⟩ = some (.slice A0_6 l0_6.length c0_6) := (kCe BK114.out 6).trans rfl
                    have hfz72_0 := kFr BK114.out 0
                    have hfz72_1 := kFr BK114.out 1
                    have hfz72_2 := kFr BK114.out 2
                    have hfz72_3 := kFr BK114.out 3
                    have hfz72_4 := kFr BK114.out 4
                    have hfz72_5 := kFr BK114.out 5
                    have hfz72_6 := kFr BK114.out 6
                    have p124 : 0 ≤ (0 : Int) := (by omega)
                    have q124 : 0 < (l0_6.length : Int) := of_decide_eq_true (by first | (with_reducible assumption) | assumption)
                    obtain ⟨ad124, A124_5, c124_5, e124, hx124_0, hx124_1, hx124_2, hx124_3, hx124_4, hx124_5, hl124_5, hi124_5⟩ := at_T56 HR0_6.out 0 p124 q124
                    (try rw [← Nbq56.out] at hx124_1)
                    (try rw [← Nbq59.out] at hx124_1)
                    (try rw [← Nbq56.out] at hx124_3)
                    (try rw [← Nbq59.out] at hx124_3)
                    cases e124
                    have qi124 : (0 < l0_6.length) = True := eq_true (by omega)
                    (try rw [show ((0 : Int)).toNat = 0 from rfl] at hx124_0)
                    (try rw [show 0 * 6 = 0 from rfl] at hx124_0)
                    (try rw [Addr.add_zero'] at hx124_0)
                    (try rw [show ((0 : Int)).toNat = 0 from rfl] at hx124_1)
                    (try rw [show 0 * 6 = 0 from rfl] at hx124_1)
                    (try rw [Addr.add_zero'] at hx124_1)
                    (try rw [show ((0 : Int)).toNat = 0 from rfl] at hx124_2)
                    (try rw [show 0 * 6 = 0 from rfl] at hx124_2)
                    (try rw [Addr.add_zero'] at hx124_2)
                    (try rw [show ((0 : Int)).toNat = 0 from rfl] at hx124_3)
                    (try rw [show 0 * 6 = 0 from rfl] at hx124_3)
                    (try rw [Addr.add_zero'] at hx124_3)
                    (try rw [show ((0 : Int)).toNat = 0 from rfl] at hx124_4)
                    (try rw [show 0 * 6 = 0 from rfl] at hx124_4)
                    (try rw [Addr.add_zero'] at hx124_4)
                    (try rw [show ((0 : Int)).toNat = 0 from rfl] at hx124_5)
                    (try rw [show 0 * 6 = 0 from rfl] at hx124_5)
                    (try rw [Addr.add_zero'] at hx124_5)
                    replace hx124_0 := (HB.out.cell (World.block_lt_of_cell? w _ hx124_0)).trans hx124_0
                    replace hx124_1 := (HB.out.cell (World.block_lt_of_cell? w _ hx124_1)).trans hx124_1
                    replace hx124_2 := (HB.out.cell (World.block_lt_of_cell? w _ hx124_2)).trans hx124_2
                    replace hx124_3 := (HB.out.cell (World.block_lt_of_cell? w _ hx124_3)).trans hx124_3
                    replace hx124_4 := (HB.out.cell (World.block_lt_of_cell? w _ hx124_4)).trans hx124_4
                    replace hx124_5 := (HB.out.cell (World.block_lt_of_cell? w _ hx124_5)).trans hx124_5
                    have HR124_5 := Aside0.mk hi124_5
                    have HC124_5 := Aside0.mk hl124_5
                    clear hi124_5 hl124_5
                    replace p124 := eq_true p124
                    replace q124 := eq_true q124
                    go_wp2_with (first | ((with_reducible refine gDs (N := 4) rfl ?_); (try (refine gGu (by rfl) ?_; dsimp only)); refine bEv ?hg (N := 4) ?hd (cs := #[.int .i64 0, .bool false, .string (⟨#[]⟩ : ByteArray), .bool false, .string (⟨#[]⟩ : ByteArray), .slice none 0 0]) (t := 56) ?hr ?_; (case hd => rfl); (case hg => rfl); (case hr => first | (go_simp; done) | (go_simp; rfl)); intro gb125 hg w73 hbox hb; have n0_ := Aside0.mk (kBe (g := gb114) (o := .cells #[.int .i64 a0_0, .int .i64 a0_1, .int .i64 a0_2, .int .i64 a0_3, .int .i64 a0_4, .int .i64 a0_5, .slice (some ad124) l0_6.length c0_6] 29 (0, 0)) (by (with_reducible repeat first | refine kDN ?_ _ | refine kDr ?_ | refine kAl ?_ _); exact BK114.out) hb); have n1_ := Aside0.mk (bSt (by repeat (first | (with_reducible first | exact HB.out | apply bAl | apply bDN | apply bD1 | refine bSe ?_ GE114.out) | exact HB.out)) hb); have n2_ := Aside0.mk (hbox); have n3_ := Aside0.mk ((by rw [hg]; exact (bSz (by repeat (first | (with_reducible first | exact HB.out | apply bAl | apply bDN | apply bD1 | refine bSe ?_ GE114.out) | exact HB.out))) : w.heap.size ≤ gb125)); have n4_ := Aside0.mk ((by rw [hg]; exact (bSz (by repeat (first | (with_reducible first | exact HB.out | apply bAl | apply bDN | apply bD1 | refine bSe ?_ GE114.out) | exact HB.out))) : w.heap.size ≤ gb125)); have n5_ := Aside0.mk ((by rw [hg]; exact Nat.ne_of_lt (blk_lt (g := gb114) (o := .cells #[.int .i64 a0_0, .int .i64 a0_1, .int .i64 a0_2, .int .i64 a0_3, .int .i64 a0_4, .int .i64 a0_5, .slice (some ad124) l0_6.length c0_6] 29 (0, 0)) (by (with_reducible repeat first | refine kDN ?_ _ | refine kDr ?_ | refine kAl ?_ _); exact BK114.out)) : gb114 ≠ gb125)); have n6_ := Aside0.mk ((by rw [hg]; exact Nat.ne_of_gt (blk_lt (g := gb114) (o := .cells #[.int .i64 a0_0, .int .i64 a0_1, .int .i64 a0_2, .int .i64 a0_3, .int .i64 a0_4, .int .i64 a0_5, .slice (some ad124) l0_6.length c0_6] 29 (0, 0)) (by (with_reducible repeat first | refine kDN ?_ _ | refine kDr ?_ | refine kAl ?_ _); exact BK114.out)) : gb125 ≠ gb114)); clear BK114; clear HB; have BK114 := n0_; have HB := n1_; have BK125 := n2_; have GW125 := n3_; have GE125 := n4_; have NB114_125 := n5_; have NB125_114 := n6_; clear n0_ n1_ n2_ n3_ n4_ n5_ n6_; clear hb hbox hg; have hnb74 := NB125_114.out; have hnc74 := NB114_125.out; have hcz75_0 : w73.cell? ⟨gb125, 0, none⟩ = some (.int .i64 0) := (kCe BK125.out 0).trans rfl; have hcz75_1 : w73.cell? ⟨gb125, 1, none⟩ = some (.bool false) := (kCe BK125.out 1).trans rfl; have hcz75_2 : w73.cell? ⟨gb125, 2, none⟩ = some (.string (⟨#[]⟩ : ByteArray)) := (kCe BK125.out 2).trans rfl; have hcz75_3 : w73.cell? ⟨gb125, 3, none⟩ = some (.bool false) := (kCe BK125.out 3).trans rfl; have hcz75_4 : w73.cell? ⟨gb125, 4, none⟩ = some (.string (⟨#[]⟩ : ByteArray)) := (kCe BK125.out 4).trans rfl; have hcz75_5 : w73.cell? ⟨gb125, 5, none⟩ = some (.slice none 0 0) := (kCe BK125.out 5).trans rfl; have hfz75_0 := kFr BK125.out 0; have hfz75_1 := kFr BK125.out 1; have hfz75_2 := kFr BK125.out 2; have hfz75_3 := kFr BK125.out 3; have hfz75_4 := kFr BK125.out 4; have hfz75_5 := kFr BK125.out 5; have hcz76_0 : w73.cell? ⟨gb114, 0, none⟩ = some (.int .i64 a0_0) := (kCe BK114.out 0).trans rfl; have hcz76_1 : w73.cell? ⟨gb114, 1, none⟩ = some (.int .i64 a0_1) := (kCe BK114.out 1).trans rfl; have hcz76_2 : w73.cell? ⟨gb114, 2, none⟩ = some (.int .i64 a0_2) := (kCe BK114.out 2).trans rfl; have hcz76_3 : w73.cell? ⟨gb114, 3, none⟩ = some (.int .i64 a0_3) := (kCe BK114.out 3).trans rfl; have hcz76_4 : w73.cell? ⟨gb114, 4, none⟩ = some (.int .i64 a0_4) := (kCe BK114.out 4).trans rfl; have hcz76_5 : w73.cell? ⟨gb114, 5, none⟩ = some (.int .i64 a0_5) := (kCe BK114.out 5).trans rfl; have hcz76_6 : w73.cell? ⟨gb114, 6, none⟩ = some (.slice (some ad124) l0_6.length c0_6) := (kCe BK114.out 6).trans rfl; have hfz76_0 := kFr BK114.out 0; have hfz76_1 := kFr BK114.out 1; have hfz76_2 := kFr BK114.out 2; have hfz76_3 := kFr BK114.out 3; have hfz76_4 := kFr BK114.out 4; have hfz76_5 := kFr BK114.out 5; have hfz76_6 := kFr BK114.out 6))
                    go_ret
                    exact ⟨by first | rfl | (simp [errW_none, errW_some] <;> rfl) | (simp [*, errW_none, errW_some] <;> rfl), by repeat (first | (with_reducible first | exact HB.out | apply bAl | apply bDN | apply bD1 | refine bSe ?_ GE114.out | refine bSe ?_ GE125.out) | exact HB.out)⟩
                 ·
                  rw [if_neg c58] at H
                  have c58b0 : (((rd_T56 l0_6 0).f2).toList == ([99, 111, 109, 109, 105, 116] : List UInt8)) = false := beq_eq_false_iff_ne.mpr c58
                  have c58b1 : (((rd_T56 l0_6 0).f2).toList != ([99, 111, 109, 109, 105, 116] : List UInt8)) = true := bne_iff_ne.mpr c58
                  by_cases c77 : ((rd_T56 l0_6 0).f2).toList = ([97, 98, 111, 114, 116] : List UInt8)
                  ·
                   rw [if_pos c77] at H
                   have c77b0 : (((rd_T56 l0_6 0).f2).toList == ([97, 98, 111, 114, 116] : List UInt8)) = true := beq_iff_eq.mpr c77
                   have c77b1 : (((rd_T56 l0_6 0).f2).toList != ([97, 98, 111, 114, 116] : List UInt8)) = false := bne_eq_false_iff_eq.mpr c77
                   clear c77
                   obtain ⟨bq78, hbq78⟩ : ∃ b_ : Bool, b_ = ((rd_T56 l0_6 0).f3) := ⟨_, rfl⟩
                   replace H : (if (bq78 = true) then (some false) else (if ((rd_T56 l0_6 0).f4).toList = ([] : List UInt8) then (some ((((rd_T56 l0_6 0).f5).length : Int) == 0)) else (some false))) = some r := by rw [← hbq78] at H; exact H
                   have Nbq78 := Aside0.mk hbq78
                   clear hbq78
                   by_cases c79 : (bq78 = true)
                   ·
                    subst c79
                    rw [if_pos rfl] at H
                    obtain rfl := Option.some.inj H
                    have hcz80_0 : wr.cell? ⟨gb114, 0, none⟩ = some (.int .i64 a0_0) := (kCe BK114.out 0).trans rfl
                    have hcz80_1 : wr.cell? ⟨gb114, 1, none⟩ = some (.int .i64 a0_1) := (kCe BK114.out 1).trans rfl
                    have hcz80_2 : wr.cell? ⟨gb114, 2, none⟩ = some (.int .i64 a0_2) := (kCe BK114.out 2).trans rfl
                    have hcz80_3 : wr.cell? ⟨gb114, 3, none⟩ = some (.int .i64 a0_3) := (kCe BK114.out 3).trans rfl
                    have hcz80_4 : wr.cell? ⟨gb114, 4, none⟩ = some (.int .i64 a0_4) := (kCe BK114.out 4).trans rfl
                    have hcz80_5 : wr.cell? ⟨gb114, 5, none⟩ = some (.int .i64 a0_5) := (kCe BK114.out 5).trans rfl
                    have hcz80_6 : wr.cell? ⟨gb114, 6, none⟩ = some (.slice A0_6 l0_6.length c0_6) := (kCe BK114.out 6).trans rfl
                    have hfz80_0 := kFr BK114.out 0
                    have hfz80_1 := kFr BK114.out 1
                    have hfz80_2 := kFr BK114.out 2
                    have hfz80_3 := kFr BK114.out 3
                    have hfz80_4 := kFr BK114.out 4
                    have hfz80_5 := kFr BK114.out 5
                    have hfz80_6 := kFr BK114.out 6
                    have p124 : 0 ≤ (0 : Int) := (by omega)
                    have q124 : 0 < (l0_6.length : Int) := of_decide_eq_true (by first | (with_reducible assumption) | assumption)
                    obtain ⟨ad124, A124_5, c124_5, e124, hx124_0, hx124_1, hx124_2, hx124_3, hx124_4, hx124_5, hl124_5, hi124_5⟩ := at_T56 HR0_6.out 0 p124 q124
                    (try rw [← Nbq56.out] at hx124_1)
                    (try rw [← Nbq78.out] at hx124_1)
                    (try rw [← Nbq56.out] at hx124_3)
                    (try rw [← Nbq78.out] at hx124_3)
                    cases e124
                    have qi124 : (0 < l0_6.length) = True := eq_true (by omega)
                    (try rw [show ((0 : Int)).toNat = 0 from rfl] at hx124_0)
                    (try rw [show 0 * 6 = 0 from rfl] at hx124_0)
                    (try rw [Addr.add_zero'] at hx124_0)
                    (try rw [show ((0 : Int)).toNat = 0 from rfl] at hx124_1)
                    (try rw [show 0 * 6 = 0 from rfl] at hx124_1)
                    (try rw [Addr.add_zero'] at hx124_1)
                    (try rw [show ((0 : Int)).toNat = 0 from rfl] at hx124_2)
                    (try rw [show 0 * 6 = 0 from rfl] at hx124_2)
                    (try rw [Addr.add_zero'] at hx124_2)
                    (try rw [show ((0 : Int)).toNat = 0 from rfl] at hx124_3)
                    (try rw [show 0 * 6 = 0 from rfl] at hx124_3)
                    (try rw [Addr.add_zero'] at hx124_3)
                    (try rw [show ((0 : Int)).toNat = 0 from rfl] at hx124_4)
                    (try rw [show 0 * 6 = 0 from rfl] at hx124_4)
                    (try rw [Addr.add_zero'] at hx124_4)
                    (try rw [show ((0 : Int)).toNat = 0 from rfl] at hx124_5)
                    (try rw [show 0 * 6 = 0 from rfl] at hx124_5)
                    (try rw [Addr.add_zero'] at hx124_5)
                    replace hx124_0 := (HB.out.cell (World.block_lt_of_cell? w _ hx124_0)).trans hx124_0
                    replace hx124_1 := (HB.out.cell (World.block_lt_of_cell? w _ hx124_1)).trans hx124_1
                    replace hx124_2 := (HB.out.cell (World.block_lt_of_cell? w _ hx124_2)).trans hx124_2
                    replace hx124_3 := (HB.out.cell (World.block_lt_of_cell? w _ hx124_3)).trans hx124_3
                    replace hx124_4 := (HB.out.cell (World.block_lt_of_cell? w _ hx124_4)).trans hx124_4
                    replace hx124_5 := (HB.out.cell (World.block_lt_of_cell? w _ hx124_5)).trans hx124_5
                    have HR124_5 := Aside0.mk hi124_5
                    have HC124_5 := Aside0.mk hl124_5
                    clear hi124_5 hl124_5
                    replace p124 := eq_true p124
                    replace q124 := eq_true q124
                    go_wp2_with (first | ((with_reducible refine gDs (N := 4) rfl ?_); (try (refine gGu (by rfl) ?_; dsimp only)); refine bEv ?hg (N := 4) ?hd (cs := #[.int .i64 0, .bool false, .string (⟨#[]⟩ : ByteArray), .bool false, .string (⟨#[]⟩ : ByteArray), .slice none 0 0]) (t := 56) ?hr ?_; (case hd => rfl); (case hg => rfl); (case hr => first | (go_simp; done) | (go_simp; rfl)); intro gb125 hg w81 hbox hb; have n0_ := Aside0.mk (kBe (g := gb114) (o := .cells #[.int .i64 a0_0, .int .i64 a0_1, .int .i64 a0_2, .int .i64 a0_3, .int .i64 a0_4, .int .i64 a0_5, .slice (some ad124) l0_6.length c0_6] 29 (0, 0)) (by (with_reducible repeat first | refine kDN ?_ _ | refine kDr ?_ | refine kAl ?_ _); exact BK114.out) hb); have n1_ := Aside0.mk (bSt (by repeat (first | (with_reducible first | exact HB.out | apply bAl | apply bDN | apply bD1 | refine bSe ?_ GE114.out) | exact HB.out)) hb); have n2_ := Aside0.mk (hbox); have n3_ := Aside0.mk ((by rw [hg]; exact (bSz (by repeat (first | (with_reducible first | exact HB.out | apply bAl | apply bDN | apply bD1 | refine bSe ?_ GE114.out) | exact HB.out))) : w.heap.size ≤ gb125)); have n4_ := Aside0.mk ((by rw [hg]; exact (bSz (by repeat (first | (with_reducible first | exact HB.out | apply bAl | apply bDN | apply bD1 | refine bSe ?_ GE114.out) | exact HB.out))) : w.heap.size ≤ gb125)); have n5_ := Aside0.mk ((by rw [hg]; exact Nat.ne_of_lt (blk_lt (g := gb114) (o := .cells #[.int .i64 a0_0, .int .i64 a0_1, .int .i64 a0_2, .int .i64 a0_3, .int .i64 a0_4, .int .i64 a0_5, .slice (some ad124) l0_6.length c0_6] 29 (0, 0)) (by (with_reducible repeat first | refine kDN ?_ _ | refine kDr ?_ | refine kAl ?_ _); exact BK114.out)) : gb114 ≠ gb125)); have n6_ := Aside0.mk ((by rw [hg]; exact Nat.ne_of_gt (blk_lt (g := gb114) (o := .cells #[.int .i64 a0_0, .int .i64 a0_1, .int .i64 a0_2, .int .i64 a0_3, .int .i64 a0_4, .int .i64 a0_5, .slice (some ad124) l0_6.length c0_6] 29 (0, 0)) (by (with_reducible repeat first | refine kDN ?_ _ | refine kDr ?_ | refine kAl ?_ _); exact BK114.out)) : gb125 ≠ gb114)); clear BK114; clear HB; have BK114 := n0_; have HB := n1_; have BK125 := n2_; have GW125 := n3_; have GE125 := n4_; have NB114_125 := n5_; have NB125_114 := n6_; clear n0_ n1_ n2_ n3_ n4_ n5_ n6_; clear hb hbox hg; have hnb82 := NB125_114.out; have hnc82 := NB114_125.out; have hcz83_0 : w81.cell? ⟨gb125, 0, none⟩ = some (.int .i64 0) := (kCe BK125.out 0).trans rfl; have hcz83_1 : w81.cell? ⟨gb125, 1, none⟩ = some (.bool false) := (kCe BK125.out 1).trans rfl; have hcz83_2 : w81.cell? ⟨gb125, 2, none⟩ = some (.string (⟨#[]⟩ : ByteArray)) := (kCe BK125.out 2).trans rfl; have hcz83_3 : w81.cell? ⟨gb125, 3, none⟩ = some (.bool false) := (kCe BK125.out 3).trans rfl; have hcz83_4 : w81.cell? ⟨gb125, 4, none⟩ = some (.string (⟨#[]⟩ : ByteArray)) := (kCe BK125.out 4).trans rfl; have hcz83_5 : w81.cell? ⟨gb125, 5, none⟩ = some (.slice none 0 0) := (kCe BK125.out 5).trans rfl; have hfz83_0 := kFr BK125.out 0; have hfz83_1 := kFr BK125.out 1; have hfz83_2 := kFr BK125.out 2; have hfz83_3 := kFr BK125.out 3; have hfz83_4 := kFr BK125.out 4; have hfz83_5 := kFr BK125.out 5; have hcz84_0 : w81.cell? ⟨gb114, 0, none⟩ = some (.int .i64 a0_0) := (kCe BK114.out 0).trans rfl; have hcz84_1 : w81.cell? ⟨gb114, 1, none⟩ = some (.int .i64 a0_1) := (kCe BK114.out 1).trans rfl; have hcz84_2 : w81.cell? ⟨gb114, 2, none⟩ = some (.int .i64 a0_2) := (kCe BK114.out 2).trans rfl; have hcz84_3 : w81.cell? ⟨gb114, 3, none⟩ = some (.int .i64 a0_3) := (kCe BK114.out 3).trans rfl; have hcz84_4 : w81.cell? ⟨gb114, 4, none⟩ = some (.int .i64 a0_4) := (kCe BK114.out 4).trans rfl; have hcz84_5 : w81.cell? ⟨gb114, 5, none⟩ = some (.int .i64 a0_5) := (kCe BK114.out 5).trans rfl; have hcz84_6 : w81.cell? ⟨gb114, 6, none⟩ = some (.slice (some ad124) l0_6.length c0_6) := (kCe BK114.out 6).trans rfl; have hfz84_0 := kFr BK114.out 0; have hfz84_1 := kFr BK114.out 1; have hfz84_2 := kFr BK114.out 2; have hfz84_3 := kFr BK114.out 3; have hfz84_4 := kFr BK114.out 4; have hfz84_5 := kFr BK114.out 5; have hfz84_6 := kFr BK114.out 6))
                    go_ret
                    exact ⟨by first | rfl | (simp [errW_none, errW_some] <;> rfl) | (simp [*, errW_none, errW_some] <;> rfl), by repeat (first | (with_reducible first | exact HB.out | apply bAl | apply bDN | apply bD1 | refine bSe ?_ GE114.out | refine bSe ?_ GE125.out) | exact HB.out)⟩
                   ·
                    replace c79 := Bool.eq_false_iff.mpr c79
                    subst c79
                    rw [if_neg (show ¬ (false = true) by decide)] at H
                    by_cases c85 : ((rd_T56 l0_6 0).f4).toList = ([] : List UInt8)
                    ·
                     rw [if_pos c85] at H
                     have c85b0 : (((rd_T56 l0_6 0).f4).toList == ([] : List UInt8)) = true := beq_iff_eq.mpr c85
                     have c85b1 : (((rd_T56 l0_6 0).f4).toList != ([] : List UInt8)) = false := bne_eq_false_iff_eq.mpr c85
                     clear c85
                     obtain rfl := Option.some.inj H
                     have hcz86_0 : wr.cell? ⟨gb114, 0, none⟩ = some (.int .i64 a0_0) := (kCe BK114.out 0).trans rfl
                     have hcz86_1 : wr.cell? ⟨gb114, 1, none⟩ = some (.int .i64 a0_1) := (kCe BK114.out 1).trans rfl
                     have hcz86_2 : wr.cell? ⟨gb114, 2, none⟩ = some (.int .i64 a0_2) := (kCe BK114.out 2).trans rfl
                     have hcz86_3 : wr.cell? ⟨gb114, 3, none⟩ = some (.int .i64 a0_3) := (kCe BK114.out 3).trans rfl
                     have hcz86_4 : wr.cell? ⟨gb114, 4, none⟩ = some (.int .i64 a0_4) := (kCe BK114.out 4).trans rfl
                     have hcz86_5 : wr.cell? ⟨gb114, 5, none⟩ = some (.int .i64 a0_5) := (kCe BK114.out 5).trans rfl
                     have hcz86_6 : wr.cell? ⟨gb114, 6, none⟩ = some (.slice A0_6 l0_6.length c0_6) := (kCe BK114.out 6).trans rfl
                     have hfz86_0 := kFr BK114.out 0
                     have hfz86_1 := kFr BK114.out 1
                     have hfz86_2 := kFr BK114.out 2
                     have hfz86_3 := kFr BK114.out 3
                     have hfz86_4 := kFr BK114.out 4
                     have hfz86_5 := kFr BK114.out 5
                     have hfz86_6 := kFr BK114.out 6
                     have p124 : 0 ≤ (0 : Int) := (by omega)
                     have q124 : 0 < (l0_6.length : Int) := of_decide_eq_true (by first | (with_reducible assumption) | assumption)
                     obtain ⟨ad124, A124_5, c124_5, e124, hx124_0, hx124_1, hx124_2, hx124_3, hx124_4, hx124_5, hl124_5, hi124_5⟩ := at_T56 HR0_6.out 0 p124 q124
                     (try rw [← Nbq56.out] at hx124_1)
                     (try rw [← Nbq78.out] at hx124_1)
                     (try rw [← Nbq56.out] at hx124_3)
                     (try rw [← Nbq78.out] at hx124_3)
                     cases e124
                     have qi124 : (0 < l0_6.length) = True := eq_true (by omega)
                     (try rw [show ((0 : Int)).toNat = 0 from rfl] at hx124_0)
                     (try rw [show 0 * 6 = 0 from rfl] at hx124_0)
                     (try rw [Addr.add_zero'] at hx124_0)
                     (try rw [show ((0 : Int)).toNat = 0 from rfl] at hx124_1)
                     (try rw [show 0 * 6 = 0 from rfl] at hx124_1)
                     (try rw [Addr.add_zero'] at hx124_1)
                     (try rw [show ((0 : Int)).toNat = 0 from rfl] at hx124_2)
                     (try rw [show 0 * 6 = 0 from rfl] at hx124_2)
                     (try rw [Addr.add_zero'] at hx124_2)
                     (try rw [show ((0 : Int)).toNat = 0 from rfl] at hx124_3)
                     (try rw [show 0 * 6 = 0 from rfl] at hx124_3)
                     (try rw [Addr.add_zero'] at hx124_3)
                     (try rw [show ((0 : Int)).toNat = 0 from rfl] at hx124_4)
                     (try rw [show 0 * 6 = 0 from rfl] at hx124_4)
                     (try rw [Addr.add_zero'] at hx124_4)
                     (try rw [show ((0 : Int)).toNat = 0 from rfl] at hx124_5)
                     (try rw [show 0 * 6 = 0 from rfl] at hx124_5)
                     (try rw [Addr.add_zero'] at hx124_5)
                     replace hx124_0 := (HB.out.cell (World.block_lt_of_cell? w _ hx124_0)).trans hx124_0
                     replace hx124_1 := (HB.out.cell (World.block_lt_of_cell? w _ hx124_1)).trans hx124_1
                     replace hx124_2 := (HB.out.cell (World.block_lt_of_cell? w _ hx124_2)).trans hx124_2
                     replace hx124_3 := (HB.out.cell (World.block_lt_of_cell? w _ hx124_3)).trans hx124_3
                     replace hx124_4 := (HB.out.cell (World.block_lt_of_cell? w _ hx124_4)).trans hx124_4
                     replace hx124_5 := (HB.out.cell (World.block_lt_of_cell? w _ hx124_5)).trans hx124_5
                     have HR124_5 := Aside0.mk hi124_5
                     have HC124_5 := Aside0.mk hl124_5
                     clear hi124_5 hl124_5
                     replace p124 := eq_true p124
                     replace q124 := eq_true q124
                     go_wp2_with (first | ((with_reducible refine gDs (N := 4) rfl ?_); (try (refine gGu (by rfl) ?_; dsimp only)); refine bEv ?hg (N := 4) ?hd (cs := #[.int .i64 0, .bool false, .string (⟨#[]⟩ : ByteArray), .bool false, .string (⟨#[]⟩ : ByteArray), .slice none 0 0]) (t := 56) ?hr ?_; (case hd => rfl); (case hg => rfl); (case hr => first | (go_simp; done) | (go_simp; rfl)); intro gb125 hg w87 hbox hb; have n0_ := Aside0.mk (kBe (g := gb114) (o := .cells #[.int .i64 a0_0, .int .i64 a0_1, .int .i64 a0_2, .int .i64 a0_3, .int .i64 a0_4, .int .i64 a0_5, .slice (some ad124) l0_6.length c0_6] 29 (0, 0)) (by (with_reducible repeat first | refine kDN ?_ _ | refine kDr ?_ | refine kAl ?_ _); exact BK114.out) hb); have n1_ := Aside0.mk (bSt (by repeat (first | (with_reducible first | exact HB.out | apply bAl | apply bDN | apply bD1 | refine bSe ?_ GE114.out) | exact HB.out)) hb); have n2_ := Aside0.mk (hbox); have n3_ := Aside0.mk ((by rw [hg]; exact (bSz (by repeat (first | (with_reducible first | exact HB.out | apply bAl | apply bDN | apply bD1 | refine bSe ?_ GE114.out) | exact HB.out))) : w.heap.size ≤ gb125)); have n4_ := Aside0.mk ((by rw [hg]; exact (bSz (by repeat (first | (with_reducible first | exact HB.out | apply bAl | apply bDN | apply bD1 | refine bSe ?_ GE114.out) | exact HB.out))) : w.heap.size ≤ gb125)); have n5_ := Aside0.mk ((by rw [hg]; exact Nat.ne_of_lt (blk_lt (g := gb114) (o := .cells #[.int .i64 a0_0, .int .i64 a0_1, .int .i64 a0_2, .int .i64 a0_3, .int .i64 a0_4, .int .i64 a0_5, .slice (some ad124) l0_6.length c0_6] 29 (0, 0)) (by (with_reducible repeat first | refine kDN ?_ _ | refine kDr ?_ | refine kAl ?_ _); exact BK114.out)) : gb114 ≠ gb125)); have n6_ := Aside0.mk ((by rw [hg]; exact Nat.ne_of_gt (blk_lt (g := gb114) (o := .cells #[.int .i64 a0_0, .int .i64 a0_1, .int .i64 a0_2, .int .i64 a0_3, .int .i64 a0_4, .int .i64 a0_5, .slice (some ad124) l0_6.length c0_6] 29 (0, 0)) (by (with_reducible repeat first | refine kDN ?_ _ | refine kDr ?_ | refine kAl ?_ _); exact BK114.out)) : gb125 ≠ gb114)); clear BK114; clear HB; have BK114 := n0_; have HB := n1_; have BK125 := n2_; have GW125 := n3_; have GE125 := n4_; have NB114_125 := n5_; have NB125_114 := n6_; clear n0_ n1_ n2_ n3_ n4_ n5_ n6_; clear hb hbox hg; have hnb88 := NB125_114.out; have hnc88 := NB114_125.out; have hcz89_0 : w87.cell? ⟨gb125, 0, none⟩ = some (.int .i64 0) := (kCe BK125.out 0).trans rfl; have hcz89_1 : w87.cell? ⟨gb125, 1, none⟩ = some (.bool false) := (kCe BK125.out 1).trans rfl; have hcz89_2 : w87.cell? ⟨gb125, 2, none⟩ = some (.string (⟨#[]⟩ : ByteArray)) := (kCe BK125.out 2).trans rfl; have hcz89_3 : w87.cell? ⟨gb125, 3, none⟩ = some (.bool false) := (kCe BK125.out 3).trans rfl; have hcz89_4 : w87.cell? ⟨gb125, 4, none⟩ = some (.string (⟨#[]⟩ : ByteArray)) := (kCe BK125.out 4).trans rfl; have hcz89_5 : w87.cell? ⟨gb125, 5, none⟩ = some (.slice none 0 0) := (kCe BK125.out 5).trans rfl; have hfz89_0 := kFr BK125.out 0; have hfz89_1 := kFr BK125.out 1; have hfz89_2 := kFr BK125.out 2; have hfz89_3 := kFr BK125.out 3; have hfz89_4 := kFr BK125.out 4; have hfz89_5 := kFr BK125.out 5; have hcz90_0 : w87.cell? ⟨gb114, 0, none⟩ = some (.int .i64 a0_0) := (kCe BK114.out 0).trans rfl; have hcz90_1 : w87.cell? ⟨gb114, 1, none⟩ = some (.int .i64 a0_1) := (kCe BK114.out 1).trans rfl; have hcz90_2 : w87.cell? ⟨gb114, 2, none⟩ = some (.int .i64 a0_2) := (kCe BK114.out 2).trans rfl; have hcz90_3 : w87.cell? ⟨gb114, 3, none⟩ = some (.int .i64 a0_3) := (kCe BK114.out 3).trans rfl; have hcz90_4 : w87.cell? ⟨gb114, 4, none⟩ = some (.int .i64 a0_4) := (kCe BK114.out 4).trans rfl; have hcz90_5 : w87.cell? ⟨gb114, 5, none⟩ = some (.int .i64 a0_5) := (kCe BK114.out 5).trans rfl; have hcz90_6 : w87.cell? ⟨gb114, 6, none⟩ = some (.slice (some ad124) l0_6.length c0_6) := (kCe BK114.out 6).trans rfl; have hfz90_0 := kFr BK114.out 0; have hfz90_1 := kFr BK114.out 1; have hfz90_2 := kFr BK114.out 2; have hfz90_3 := kFr BK114.out 3; have hfz90_4 := kFr BK114.out 4; have hfz90_5 := kFr BK114.out 5; have hfz90_6 := kFr BK114.out 6))
                     go_ret
                     exact ⟨by first | rfl | (simp [errW_none, errW_some] <;> rfl) | (simp [*, errW_none, errW_some] <;> rfl), by repeat (first | (with_reducible first | exact HB.out | apply bAl | apply bDN | apply bD1 | refine bSe ?_ GE114.out | refine bSe ?_ GE125.out) | exact HB.out)⟩
                    ·
                     rw [if_neg c85] at H
                     have c85b0 : (((rd_T56 l0_6 0).f4).toList == ([] : List UInt8)) = false := beq_eq_false_iff_ne.mpr c85
                     have c85b1 : (((rd_T56 l0_6 0).f4).toList != ([] : List UInt8)) = true := bne_iff_ne.mpr c85
                     obtain rfl := Option.some.inj H
                     have hcz91_0 : wr.cell? ⟨gb114, 0, none⟩ = some (.int .i64 a0_0) := (kCe BK114.out 0).trans rfl
                     have hcz91_1 : wr.cell? ⟨gb114, 1, none⟩ = some (.int .i64 a0_1) := (kCe BK114.out 1).trans rfl
                     have hcz91_2 : wr.cell? ⟨gb114, 2, none⟩ = some (.int .i64 a0_2) := (kCe BK114.out 2).trans rfl
                     have hcz91_3 : wr.cell? ⟨gb114, 3, none⟩ = some (.int .i64 a0_3) := (kCe BK114.out 3).trans rfl
                     have hcz91_4 : wr.cell? ⟨gb114, 4, none⟩ = some (.int .i64 a0_4) := (kCe BK114.out 4).trans rfl
                     have hcz91_5 : wr.cell? ⟨gb114, 5, none⟩ = some (.int .i64 a0_5) := (kCe BK114.out 5).trans rfl
                     have hcz91_6 : wr.cell? ⟨gb114, 6, none⟩ = some (.slice A0_6 l0_6.length c0_6) := (kCe BK114.out 6).trans rfl
                     have hfz91_0 := kFr BK114.out 0
                     have hfz91_1 := kFr BK114.out 1
                     have hfz91_2 := kFr BK114.out 2
                     have hfz91_3 := kFr BK114.out 3
                     have hfz91_4 := kFr BK114.out 4
                     have hfz91_5 := kFr BK114.out 5
                     have hfz91_6 := kFr BK114.out 6
                     have p124 : 0 ≤ (0 : Int) := (by omega)
                     have q124 : 0 < (l0_6.length : Int) := of_decide_eq_true (by first | (with_reducible assumption) | assumption)
                     obtain ⟨ad124, A124_5, c124_5, e124, hx124_0, hx124_1, hx124_2, hx124_3, hx124_4, hx124_5, hl124_5, hi124_5⟩ := at_T56 HR0_6.out 0 p124 q124
                     (try rw [← Nbq56.out] at hx124_1)
                     (try rw [← Nbq78.out] at hx124_1)
                     (try rw [← Nbq56.out] at hx124_3)
                     (try rw [← Nbq78.out] at hx124_3)
                     cases e124
                     have qi124 : (0 < l0_6.length) = True := eq_true (by omega)
                     (try rw [show ((0 : Int)).toNat = 0 from rfl] at hx124_0)
                     (try rw [show 0 * 6 = 0 from rfl] at hx124_0)
                     (try rw [Addr.add_zero'] at hx124_0)
                     (try rw [show ((0 : Int)).toNat = 0 from rfl] at hx124_1)
                     (try rw [show 0 * 6 = 0 from rfl] at hx124_1)
                     (try rw [Addr.add_zero'] at hx124_1)
                     (try rw [show ((0 : Int)).toNat = 0 from rfl] at hx124_2)
                     (try rw [show 0 * 6 = 0 from rfl] at hx124_2)
                     (try rw [Addr.add_zero'] at hx124_2)
                     (try rw [show ((0 : Int)).toNat = 0 from rfl] at hx124_3)
                     (try rw [show 0 * 6 = 0 from rfl] at hx124_3)
                     (try rw [Addr.add_zero'] at hx124_3)
                     (try rw [show ((0 : Int)).toNat = 0 from rfl] at hx124_4)
                     (try rw [show 0 * 6 = 0 from rfl] at hx124_4)
                     (try rw [Addr.add_zero'] at hx124_4)
                     (try rw [show ((0 : Int)).toNat = 0 from rfl] at hx124_5)
                     (try rw [show 0 * 6 = 0 from rfl] at hx124_5)
                     (try rw [Addr.add_zero'] at hx124_5)
                     replace hx124_0 := (HB.out.cell (World.block_lt_of_cell? w _ hx124_0)).trans hx124_0
                     replace hx124_1 := (HB.out.cell (World.block_lt_of_cell? w _ hx124_1)).trans hx124_1
                     replace hx124_2 := (HB.out.cell (World.block_lt_of_cell? w _ hx124_2)).trans hx124_2
                     replace hx124_3 := (HB.out.cell (World.block_lt_of_cell? w _ hx124_3)).trans hx124_3
                     replace hx124_4 := (HB.out.cell (World.block_lt_of_cell? w _ hx124_4)).trans hx124_4
                     replace hx124_5 := (HB.out.cell (World.block_lt_of_cell? w _ hx124_5)).trans hx124_5
                     have HR124_5 := Aside0.mk hi124_5
                     have HC124_5 := Aside0.mk hl124_5
                     clear hi124_5 hl124_5
                     replace p124 := eq_true p124
                     replace q124 := eq_true q124
                     go_wp2_with (first | ((with_reducible refine gDs (N := 4) rfl ?_); (try (refine gGu (by rfl) ?_; dsimp only)); refine bEv ?hg (N := 4) ?hd (cs := #[.int .i64 0, .bool false, .string (⟨#[]⟩ : ByteArray), .bool false, .string (⟨#[]⟩ : ByteArray), .slice none 0 0]) (t := 56) ?hr ?_; (case hd => rfl); (case hg => rfl); (case hr => first | (go_simp; done) | (go_simp; rfl)); intro gb125 hg w92 hbox hb; have n0_ := Aside0.mk (kBe (g := gb114) (o := .cells #[.int .i64 a0_0, .int .i64 a0_1, .int .i64 a0_2, .int .i64 a0_3, .int .i64 a0_4, .int .i64 a0_5, .slice (some ad124) l0_6.length c0_6] 29 (0, 0)) (by (with_reducible repeat first | refine kDN ?_ _ | refine kDr ?_ | refine kAl ?_ _); exact BK114.out) hb); have n1_ := Aside0.mk (bSt (by repeat (first | (with_reducible first | exact HB.out | apply bAl | apply bDN | apply bD1 | refine bSe ?_ GE114.out) | exact HB.out)) hb); have n2_ := Aside0.mk (hbox); have n3_ := Aside0.mk ((by rw [hg]; exact (bSz (by repeat (first | (with_reducible first | exact HB.out | apply bAl | apply bDN | apply bD1 | refine bSe ?_ GE114.out) | exact HB.out))) : w.heap.size ≤ gb125)); have n4_ := Aside0.mk ((by rw [hg]; exact (bSz (by repeat (first | (with_reducible first | exact HB.out | apply bAl | apply bDN | apply bD1 | refine bSe ?_ GE114.out) | exact HB.out))) : w.heap.size ≤ gb125)); have n5_ := Aside0.mk ((by rw [hg]; exact Nat.ne_of_lt (blk_lt (g := gb114) (o := .cells #[.int .i64 a0_0, .int .i64 a0_1, .int .i64 a0_2, .int .i64 a0_3, .int .i64 a0_4, .int .i64 a0_5, .slice (some ad124) l0_6.length c0_6] 29 (0, 0)) (by (with_reducible repeat first | refine kDN ?_ _ | refine kDr ?_ | refine kAl ?_ _); exact BK114.out)) : gb114 ≠ gb125)); have n6_ := Aside0.mk ((by rw [hg]; exact Nat.ne_of_gt (blk_lt (g := gb114) (o := .cells #[.int .i64 a0_0, .int .i64 a0_1, .int .i64 a0_2, .int .i64 a0_3, .int .i64 a0_4, .int .i64 a0_5, .slice (some ad124) l0_6.length c0_6] 29 (0, 0)) (by (with_reducible repeat first | refine kDN ?_ _ | refine kDr ?_ | refine kAl ?_ _); exact BK114.out)) : gb125 ≠ gb114)); clear BK114; clear HB; have BK114 := n0_; have HB := n1_; have BK125 := n2_; have GW125 := n3_; have GE125 := n4_; have NB114_125 := n5_; have NB125_114 := n6_; clear n0_ n1_ n2_ n3_ n4_ n5_ n6_; clear hb hbox hg; have hnb93 := NB125_114.out; have hnc93 := NB114_125.out; have hcz94_0 : w92.cell? ⟨gb125, 0, none⟩ = some (.int .i64 0) := (kCe BK125.out 0).trans rfl; have hcz94_1 : w92.cell? ⟨gb125, 1, none⟩ = some (.bool false) := (kCe BK125.out 1).trans rfl; have hcz94_2 : w92.cell? ⟨gb125, 2, none⟩ = some (.string (⟨#[]⟩ : ByteArray)) := (kCe BK125.out 2).trans rfl; have hcz94_3 : w92.cell? ⟨gb125, 3, none⟩ = some (.bool false) := (kCe BK125.out 3).trans rfl; have hcz94_4 : w92.cell? ⟨gb125, 4, none⟩ = some (.string (⟨#[]⟩ : ByteArray)) := (kCe BK125.out 4).trans rfl; have hcz94_5 : w92.cell? ⟨gb125, 5, none⟩ = some (.slice none 0 0) := (kCe BK125.out 5).trans rfl; have hfz94_0 := kFr BK125.out 0; have hfz94_1 := kFr BK125.out 1; have hfz94_2 := kFr BK125.out 2; have hfz94_3 := kFr BK125.out 3; have hfz94_4 := kFr BK125.out 4; have hfz94_5 := kFr BK125.out 5; have hcz95_0 : w92.cell? ⟨gb114, 0, none⟩ = some (.int .i64 a0_0) := (kCe BK114.out 0).trans rfl; have hcz95_1 : w92.cell? ⟨gb114, 1, none⟩ = some (.int .i64 a0_1) := (kCe BK114.out 1).trans rfl; have hcz95_2 : w92.cell? ⟨gb114, 2, none⟩ = some (.int .i64 a0_2) := (kCe BK114.out 2).trans rfl; have hcz95_3 : w92.cell? ⟨gb114, 3, none⟩ = some (.int .i64 a0_3) := (kCe BK114.out 3).trans rfl; have hcz95_4 : w92.cell? ⟨gb114, 4, none⟩ = some (.int .i64 a0_4) := (kCe BK114.out 4).trans rfl; have hcz95_5 : w92.cell? ⟨gb114, 5, none⟩ = some (.int .i64 a0_5) := (kCe BK114.out 5).trans rfl; have hcz95_6 : w92.cell? ⟨gb114, 6, none⟩ = some (.slice (some ad124) l0_6.length c0_6) := (kCe BK114.out 6).trans rfl; have hfz95_0 := kFr BK114.out 0; have hfz95_1 := kFr BK114.out 1; have hfz95_2 := kFr BK114.out 2; have hfz95_3 := kFr BK114.out 3; have hfz95_4 := kFr BK114.out 4; have hfz95_5 := kFr BK114.out 5; have hfz95_6 := kFr BK114.out 6))
                     go_ret
                     exact ⟨by first | rfl | (simp [errW_none, errW_some] <;> rfl) | (simp [*, errW_none, errW_some] <;> rfl), by repeat (first | (with_reducible first | exact HB.out | apply bAl | apply bDN | apply bD1 | refine bSe ?_ GE114.out | refine bSe ?_ GE125.out) | exact HB.out)⟩
                  ·
                   rw [if_neg c77] at H
                   have c77b0 : (((rd_T56 l0_6 0).f2).toList == ([97, 98, 111, 114, 116] : List UInt8)) = false := beq_eq_false_iff_ne.mpr c77
                   have c77b1 : (((rd_T56 l0_6 0).f2).toList != ([97, 98, 111, 114, 116] : List UInt8)) = true := bne_iff_ne.mpr c77
                   obtain rfl := Option.some.inj H
                   have hcz96_0 : wr.cell? ⟨gb114, 0, none⟩ = some (.int .i64 a0_0) := (kCe BK114.out 0).trans rfl
                   have hcz96_1 : wr.cell? ⟨gb114, 1, none⟩ = some (.int .i64 a0_1) := (kCe BK114.out 1).trans rfl
                   have hcz96_2 : wr.cell? ⟨gb114, 2, none⟩ = some (.int .i64 a0_2) := (kCe BK114.out 2).trans rfl
                   have hcz96_3 : wr.cell? ⟨gb114, 3, none⟩ = some (.int .i64 a0_3) := (kCe BK114.out 3).trans rfl
                   have hcz96_4 : wr.cell? ⟨gb114, 4, none⟩ = some (.int .i64 a0_4) := (kCe BK114.out 4).trans rfl
                   have hcz96_5 : wr.cell? ⟨gb114, 5, none⟩ = some (.int .i64 a0_5) := (kCe BK114.out 5).trans rfl
                   have hcz96_6 : wr.cell? ⟨gb114, 6, none⟩ = some (.slice A0_6 l0_6.length c0_6) := (kCe BK114.out 6).trans rfl
                   have hfz96_0 := kFr BK114.out 0
                   have hfz96_1 := kFr BK114.out 1
                   have hfz96_2 := kFr BK114.out 2
                   have hfz96_3 := kFr BK114.out 3
                   have hfz96_4 := kFr BK114.out 4
                   have hfz96_5 := kFr BK114.out 5
                   have hfz96_6 := kFr BK114.out 6
                   have p124 : 0 ≤ (0 : Int) := (by omega)
                   have q124 : 0 < (l0_6.length : Int) := of_decide_eq_true (by first | (with_reducible assumption) | assumption)
                   obtain ⟨ad124, A124_5, c124_5, e124, hx124_0, hx124_1, hx124_2, hx124_3, hx124_4, hx124_5, hl124_5, hi124_5⟩ := at_T56 HR0_6.out 0 p124 q124
                   (try rw [← Nbq56.out] at hx124_1)
                   (try rw [← Nbq56.out] at hx124_3)
                   cases e124
                   have qi124 : (0 < l0_6.length) = True := eq_true (by omega)
                   (try rw [show ((0 : Int)).toNat = 0 from rfl] at hx124_0)
                   (try rw [show 0 * 6 = 0 from rfl] at hx124_0)
                   (try rw [Addr.add_zero'] at hx124_0)
                   (try rw [show ((0 : Int)).toNat = 0 from rfl] at hx124_1)
                   (try rw [show 0 * 6 = 0 from rfl] at hx124_1)
                   (try rw [Addr.add_zero'] at hx124_1)
                   (try rw [show ((0 : Int)).toNat = 0 from rfl] at hx124_2)
                   (try rw [show 0 * 6 = 0 from rfl] at hx124_2)
                   (try rw [Addr.add_zero'] at hx124_2)
                   (try rw [show ((0 : Int)).toNat = 0 from rfl] at hx124_3)
                   (try rw [show 0 * 6 = 0 from rfl] at hx124_3)
                   (try rw [Addr.add_zero'] at hx124_3)
                   (try rw [show ((0 : Int)).toNat = 0 from rfl] at hx124_4)
                   (try rw [show 0 * 6 = 0 from rfl] at hx124_4)
                   (try rw [Addr.add_zero'] at hx124_4)
                   (try rw [show ((0 : Int)).toNat = 0 from rfl] at hx124_5)
                   (try rw [show 0 * 6 = 0 from rfl] at hx124_5)
                   (try rw [Addr.add_zero'] at hx124_5)
                   replace hx124_0 := (HB.out.cell (World.block_lt_of_cell? w _ hx124_0)).trans hx124_0
                   replace hx124_1 := (HB.out.cell (World.block_lt_of_cell? w _ hx124_1)).trans hx124_1
                   replace hx124_2 := (HB.out.cell (World.block_lt_of_cell? w _ hx124_2)).trans hx124_2
                   replace hx124_3 := (HB.out.cell (World.block_lt_of_cell? w _ hx124_3)).trans hx124_3
                   replace hx124_4 := (HB.out.cell (World.block_lt_of_cell? w _ hx124_4)).trans hx124_4
                   replace hx124_5 := (HB.out.cell (World.block_lt_of_cell? w _ hx124_5)).trans hx124_5
                   have HR124_5 := Aside0.mk hi124_5
                   have HC124_5 := Aside0.mk hl124_5
                   clear hi124_5 hl124_5
                   replace p124 := eq_true p124
                   replace q124 := eq_true q124
                   go_wp2_with (first | ((with_reducible refine gDs (N := 4) rfl ?_); (try (refine gGu (by rfl) ?_; dsimp only)); refine bEv ?hg (N := 4) ?hd (cs := #[.int .i64 0, .bool false, .string (⟨#[]⟩ : ByteArray), .bool false, .string (⟨#[]⟩ : ByteArray), .slice none 0 0]) (t := 56) ?hr ?_; (case hd => rfl); (case hg => rfl); (case hr => first | (go_simp; done) | (go_simp; rfl)); intro gb125 hg w97 hbox hb; have n0_ := Aside0.mk (kBe (g := gb114) (o := .cells #[.int .i64 a0_0, .int .i64 a0_1, .int .i64 a0_2, .int .i64 a0_3, .int .i64 a0_4, .int .i64 a0_5, .slice (some ad124) l0_6.length c0_6] 29 (0, 0)) (by (with_reducible repeat first | refine kDN ?_ _ | refine kDr ?_ | refine kAl ?_ _); exact BK114.out) hb); have n1_ := Aside0.mk (bSt (by repeat (first | (with_reducible first | exact HB.out | apply bAl | apply bDN | apply bD1 | refine bSe ?_ GE114.out) | exact HB.out)) hb); have n2_ := Aside0.mk (hbox); have n3_ := Aside0.mk ((by rw [hg]; exact (bSz (by repeat (first | (with_reducible first | exact HB.out | apply bAl | apply bDN | apply bD1 | refine bSe ?_ GE114.out) | exact HB.out))) : w.heap.size ≤ gb125)); have n4_ := Aside0.mk ((by rw [hg]; exact (bSz (by repeat (first | (with_reducible first | exact HB.out | apply bAl | apply bDN | apply bD1 | refine bSe ?_ GE114.out) | exact HB.out))) : w.heap.size ≤ gb125)); have n5_ := Aside0.mk ((by rw [hg]; exact Nat.ne_of_lt (blk_lt (g := gb114) (o := .cells #[.int .i64 a0_0, .int .i64 a0_1, .int .i64 a0_2, .int .i64 a0_3, .int .i64 a0_4, .int .i64 a0_5, .slice (some ad124) l0_6.length c0_6] 29 (0, 0)) (by (with_reducible repeat first | refine kDN ?_ _ | refine kDr ?_ | refine kAl ?_ _); exact BK114.out)) : gb114 ≠ gb125)); have n6_ := Aside0.mk ((by rw [hg]; exact Nat.ne_of_gt (blk_lt (g := gb114) (o := .cells #[.int .i64 a0_0, .int .i64 a0_1, .int .i64 a0_2, .int .i64 a0_3, .int .i64 a0_4, .int .i64 a0_5, .slice (some ad124) l0_6.length c0_6] 29 (0, 0)) (by (with_reducible repeat first | refine kDN ?_ _ | refine kDr ?_ | refine kAl ?_ _); exact BK114.out)) : gb125 ≠ gb114)); clear BK114; clear HB; have BK114 := n0_; have HB := n1_; have BK125 := n2_; have GW125 := n3_; have GE125 := n4_; have NB114_125 := n5_; have NB125_114 := n6_; clear n0_ n1_ n2_ n3_ n4_ n5_ n6_; clear hb hbox hg; have hnb98 := NB125_114.out; have hnc98 := NB114_125.out; have hcz99_0 : w97.cell? ⟨gb125, 0, none⟩ = some (.int .i64 0) := (kCe BK125.out 0).trans rfl; have hcz99_1 : w97.cell? ⟨gb125, 1, none⟩ = some (.bool false) := (kCe BK125.out 1).trans rfl; have hcz99_2 : w97.cell? ⟨gb125, 2, none⟩ = some (.string (⟨#[]⟩ : ByteArray)) := (kCe BK125.out 2).trans rfl; have hcz99_3 : w97.cell? ⟨gb125, 3, none⟩ = some (.bool false) := (kCe BK125.out 3).trans rfl; have hcz99_4 : w97.cell? ⟨gb125, 4, none⟩ = some (.string (⟨#[]⟩ : ByteArray)) := (kCe BK125.out 4).trans rfl; have hcz99_5 : w97.cell? ⟨gb125, 5, none⟩ = some (.slice none 0 0) := (kCe BK125.out 5).trans rfl; have hfz99_0 := kFr BK125.out 0; have hfz99_1 := kFr BK125.out 1; have hfz99_2 := kFr BK125.out 2; have hfz99_3 := kFr BK125.out 3; have hfz99_4 := kFr BK125.out 4; have hfz99_5 := kFr BK125.out 5; have hcz100_0 : w97.cell? ⟨gb114, 0, none⟩ = some (.int .i64 a0_0) := (kCe BK114.out 0).trans rfl; have hcz100_1 : w97.cell? ⟨gb114, 1, none⟩ = some (.int .i64 a0_1) := (kCe BK114.out 1).trans rfl; have hcz100_2 : w97.cell? ⟨gb114, 2, none⟩ = some (.int .i64 a0_2) := (kCe BK114.out 2).trans rfl; have hcz100_3 : w97.cell? ⟨gb114, 3, none⟩ = some (.int .i64 a0_3) := (kCe BK114.out 3).trans rfl; have hcz100_4 : w97.cell? ⟨gb114, 4, none⟩ = some (.int .i64 a0_4) := (kCe BK114.out 4).trans rfl; have hcz100_5 : w97.cell? ⟨gb114, 5, none⟩ = some (.int .i64 a0_5) := (kCe BK114.out 5).trans rfl; have hcz100_6 : w97.cell? ⟨gb114, 6, none⟩ = some (.slice (some ad124) l0_6.length c0_6) := (kCe BK114.out 6).trans rfl; have hfz100_0 := kFr BK114.out 0; have hfz100_1 := kFr BK114.out 1; have hfz100_2 := kFr BK114.out 2; have hfz100_3 := kFr BK114.out 3; have hfz100_4 := kFr BK114.out 4; have hfz100_5 := kFr BK114.out 5; have hfz100_6 := kFr BK114.out 6))
                   go_ret
                   exact ⟨by first | rfl | (simp [errW_none, errW_some] <;> rfl) | (simp [*, errW_none, errW_some] <;> rfl), by repeat (first | (with_reducible first | exact HB.out | apply bAl | apply bDN | apply bD1 | refine bSe ?_ GE114.out | refine bSe ?_ GE125.out) | exact HB.out)⟩
                ·
                 replace c57 := Bool.eq_false_iff.mpr c57
                 subst c57
                 rw [if_neg (show ¬ (false = true) by decide)] at H
                 obtain rfl := Option.some.inj H
                 have hcz101_0 : wr.cell? ⟨gb114, 0, none⟩ = some (.int .i64 a0_0) := (kCe BK114.out 0).trans rfl
                 have hcz101_1 : wr.cell? ⟨gb114, 1, none⟩ = some (.int .i64 a0_1) := (kCe BK114.out 1).trans rfl
                 have hcz101_2 : wr.cell? ⟨gb114, 2, none⟩ = some (.int .i64 a0_2) := (kCe BK114.out 2).trans rfl
                 have hcz101_3 : wr.cell? ⟨gb114, 3, none⟩ = some (.int .i64 a0_3) := (kCe BK114.out 3).trans rfl
                 have hcz101_4 : wr.cell? ⟨gb114, 4, none⟩ = some (.int .i64 a0_4) := (kCe BK114.out 4).trans rfl
                 have hcz101_5 : wr.cell? ⟨gb114, 5, none⟩ = some (.int .i64 a0_5) := (kCe BK114.out 5).trans rfl
                 have hcz101_6 : wr.cell? ⟨gb114, 6, none⟩ = some (.slice A0_6 l0_6.length c0_6) := (kCe BK114.out 6).trans rfl
                 have hfz101_0 := kFr BK114.out 0
                 have hfz101_1 := kFr BK114.out 1
                 have hfz101_2 := kFr BK114.out 2
                 have hfz101_3 := kFr BK114.out 3
                 have hfz101_4 := kFr BK114.out 4
                 have hfz101_5 := kFr BK114.out 5
                 have hfz101_6 := kFr BK114.out 6
                 have p124 : 0 ≤ (0 : Int) := (by omega)
                 have q124 : 0 < (l0_6.length : Int) := of_decide_eq_true (by first | (with_reducible assumption) | assumption)
                 obtain ⟨ad124, A124_5, c124_5, e124, hx124_0, hx124_1, hx124_2, hx124_3, hx124_4, hx124_5, hl124_5, hi124_5⟩ := at_T56 HR0_6.out 0 p124 q124
                 (try rw [← Nbq56.out] at hx124_1)
                 (try rw [← Nbq56.out] at hx124_3)
                 cases e124
                 have qi124 : (0 < l0_6.length) = True := eq_true (by omega)
                 (try rw [show ((0 : Int)).toNat = 0 from rfl] at hx124_0)
                 (try rw [show 0 * 6 = 0 from rfl] at hx124_0)
                 (try rw [Addr.add_zero'] at hx124_0)
                 (try rw [show ((0 : Int)).toNat = 0 from rfl] at hx124_1)
                 (try rw [show 0 * 6 = 0 from rfl] at hx124_1)
                 (try rw [Addr.add_zero'] at hx124_1)
                 (try rw [show ((0 : Int)).toNat = 0 from rfl] at hx124_2)
                 (try rw [show 0 * 6 = 0 from rfl] at hx124_2)
                 (try rw [Addr.add_zero'] at hx124_2)
                 (try rw [show ((0 : Int)).toNat = 0 from rfl] at hx124_3)
                 (try rw [show 0 * 6 = 0 from rfl] at hx124_3)
                 (try rw [Addr.add_zero'] at hx124_3)
                 (try rw [show ((0 : Int)).toNat = 0 from rfl] at hx124_4)
                 (try rw [show 0 * 6 = 0 from rfl] at hx124_4)
                 (try rw [Addr.add_zero'] at hx124_4)
                 (try rw [show ((0 : Int)).toNat = 0 from rfl] at hx124_5)
                 (try rw [show 0 * 6 = 0 from rfl] at hx124_5)
                 (try rw [Addr.add_zero'] at hx124_5)
                 replace hx124_0 := (HB.out.cell (World.block_lt_of_cell? w _ hx124_0)).trans hx124_0
                 replace hx124_1 := (HB.out.cell (World.block_lt_of_cell? w _ hx124_1)).trans hx124_1
                 replace hx124_2 := (HB.out.cell (World.block_lt_of_cell? w _ hx124_2)).trans hx124_2
                 replace hx124_3 := (HB.out.cell (World.block_lt_of_cell? w _ hx124_3)).trans hx124_3
                 replace hx124_4 := (HB.out.cell (World.block_lt_of_cell? w _ hx124_4)).trans hx124_4
                 replace hx124_5 := (HB.out.cell (World.block_lt_of_cell? w _ hx124_5)).trans hx124_5
                 have HR124_5 := Aside0.mk hi124_5
                 have HC124_5 := Aside0.mk hl124_5
                 clear hi124_5 hl124_5
                 replace p124 := eq_true p124
                 replace q124 := eq_true q124
                 go_wp2_with (first | ((with_reducible refine gDs (N := 4) rfl ?_); (try (refine gGu (by rfl) ?_; dsimp only)); refine bEv ?hg (N := 4) ?hd (cs := #[.int .i64 0, .bool false, .string (⟨#[]⟩ : ByteArray), .bool false, .string (⟨#[]⟩ : ByteArray), .slice none 0 0]) (t := 56) ?hr ?_; (case hd => rfl); (case hg => rfl); (case hr => first | (go_simp; done) | (go_simp; rfl)); intro gb125 hg w102 hbox hb; have n0_ := Aside0.mk (kBe (g := gb114) (o := .cells #[.int .i64 a0_0, .int .i64 a0_1, .int .i64 a0_2, .int .i64 a0_3, .int .i64 a0_4, .int .i64 a0_5, .slice (some ad124) l0_6.length c0_6] 29 (0, 0)) (by (with_reducible repeat first | refine kDN ?_ _ | refine kDr ?_ | refine kAl ?_ _); exact BK114.out) hb); have n1_ := Aside0.mk (bSt (by repeat (first | (with_reducible first | exact HB.out | apply bAl | apply bDN | apply bD1 | refine bSe ?_ GE114.out) | exact HB.out)) hb); have n2_ := Aside0.mk (hbox); have n3_ := Aside0.mk ((by rw [hg]; exact (bSz (by repeat (first | (with_reducible first | exact HB.out | apply bAl | apply bDN | apply bD1 | refine bSe ?_ GE114.out) | exact HB.out))) : w.heap.size ≤ gb125)); have n4_ := Aside0.mk ((by rw [hg]; exact (bSz (by repeat (first | (with_reducible first | exact HB.out | apply bAl | apply bDN | apply bD1 | refine bSe ?_ GE114.out) | exact HB.out))) : w.heap.size ≤ gb125)); have n5_ := Aside0.mk ((by rw [hg]; exact Nat.ne_of_lt (blk_lt (g := gb114) (o := .cells #[.int .i64 a0_0, .int .i64 a0_1, .int .i64 a0_2, .int .i64 a0_3, .int .i64 a0_4, .int .i64 a0_5, .slice (some ad124) l0_6.length c0_6] 29 (0, 0)) (by (with_reducible repeat first | refine kDN ?_ _ | refine kDr ?_ | refine kAl ?_ _); exact BK114.out)) : gb114 ≠ gb125)); have n6_ := Aside0.mk ((by rw [hg]; exact Nat.ne_of_gt (blk_lt (g := gb114) (o := .cells #[.int .i64 a0_0, .int .i64 a0_1, .int .i64 a0_2, .int .i64 a0_3, .int .i64 a0_4, .int .i64 a0_5, .slice (some ad124) l0_6.length c0_6] 29 (0, 0)) (by (with_reducible repeat first | refine kDN ?_ _ | refine kDr ?_ | refine kAl ?_ _); exact BK114.out)) : gb125 ≠ gb114)); clear BK114; clear HB; have BK114 := n0_; have HB := n1_; have BK125 := n2_; have GW125 := n3_; have GE125 := n4_; have NB114_125 := n5_; have NB125_114 := n6_; clear n0_ n1_ n2_ n3_ n4_ n5_ n6_; clear hb hbox hg; have hnb103 := NB125_114.out; have hnc103 := NB114_125.out; have hcz104_0 : w102.cell? ⟨gb125, 0, none⟩ = some (.int .i64 0) := (kCe BK125.out 0).trans rfl; have hcz104_1 : w102.cell? ⟨gb125, 1, none⟩ = some (.bool false) := (kCe BK125.out 1).trans rfl; have hcz104_2 : w102.cell? ⟨gb125, 2, none⟩ = some (.string (⟨#[]⟩ : ByteArray)) := (kCe BK125.out 2).trans rfl; have hcz104_3 : w102.cell? ⟨gb125, 3, none⟩ = some (.bool false) := (kCe BK125.out 3).trans rfl; have hcz104_4 : w102.cell? ⟨gb125, 4, none⟩ = some (.string (⟨#[]⟩ : ByteArray)) := (kCe BK125.out 4).trans rfl; have hcz104_5 : w102.cell? ⟨gb125, 5, none⟩ = some (.slice none 0 0) := (kCe BK125.out 5).trans rfl; have hfz104_0 := kFr BK125.out 0; have hfz104_1 := kFr BK125.out 1; have hfz104_2 := kFr BK125.out 2; have hfz104_3 := kFr BK125.out 3; have hfz104_4 := kFr BK125.out 4; have hfz104_5 := kFr BK125.out 5; have hcz105_0 : w102.cell? ⟨gb114, 0, none⟩ = some (.int .i64 a0_0) := (kCe BK114.out 0).trans rfl; have hcz105_1 : w102.cell? ⟨gb114, 1, none⟩ = some (.int .i64 a0_1) := (kCe BK114.out 1).trans rfl; have hcz105_2 : w102.cell? ⟨gb114, 2, none⟩ = some (.int .i64 a0_2) := (kCe BK114.out 2).trans rfl; have hcz105_3 : w102.cell? ⟨gb114, 3, none⟩ = some (.int .i64 a0_3) := (kCe BK114.out 3).trans rfl; have hcz105_4 : w102.cell? ⟨gb114, 4, none⟩ = some (.int .i64 a0_4) := (kCe BK114.out 4).trans rfl; have hcz105_5 : w102.cell? ⟨gb114, 5, none⟩ = some (.int .i64 a0_5) := (kCe BK114.out 5).trans rfl; have hcz105_6 : w102.cell? ⟨gb114, 6, none⟩ = some (.slice (some ad124) l0_6.length c0_6) := (kCe BK114.out 6).trans rfl; have hfz105_0 := kFr BK114.out 0; have hfz105_1 := kFr BK114.out 1; have hfz105_2 := kFr BK114.out 2; have hfz105_3 := kFr BK114.out 3; have hfz105_4 := kFr BK114.out 4; have hfz105_5 := kFr BK114.out 5; have hfz105_6 := kFr BK114.out 6))
                 go_ret
                 exact ⟨by first | rfl | (simp [errW_none, errW_some] <;> rfl) | (simp [*, errW_none, errW_some] <;> rfl), by repeat (first | (with_reducible first | exact HB.out | apply bAl | apply bDN | apply bD1 | refine bSe ?_ GE114.out | refine bSe ?_ GE125.out) | exact HB.out)⟩
               ·
                rw [if_neg c55] at H
                have c55b0 : ((l0_6.length : Int) == 1) = false := beq_eq_false_iff_ne.mpr c55
                have c55b1 : ((l0_6.length : Int) != 1) = true := bne_iff_ne.mpr c55
                obtain rfl := Option.some.inj H
                have hcz106_0 : wr.cell? ⟨gb114, 0, none⟩ = some (.int .i64 a0_0) := (kCe BK114.out 0).trans rfl
                have hcz106_1 : wr.cell? ⟨gb114, 1, none⟩ = some (.int .i64 a0_1) := (kCe BK114.out 1).trans rfl
                have hcz106_2 : wr.cell? ⟨gb114, 2, none⟩ = some (.int .i64 a0_2) := (kCe BK114.out 2).trans rfl
                have hcz106_3 : wr.cell? ⟨gb114, 3, none⟩ = some (.int .i64 a0_3) := (kCe BK114.out 3).trans rfl
                have hcz106_4 : wr.cell? ⟨gb114, 4, none⟩ = some (.int .i64 a0_4) := (kCe BK114.out 4).trans rfl
                have hcz106_5 : wr.cell? ⟨gb114, 5, none⟩ = some (.int .i64 a0_5) := (kCe BK114.out 5).trans rfl
                have hcz106_6 : wr.cell? ⟨gb114, 6, none⟩ = some (.slice A0_6 l0_6.length c0_6) := (kCe BK114.out 6).trans rfl
                have hfz106_0 := kFr BK114.out 0
                have hfz106_1 := kFr BK114.out 1
                have hfz106_2 := kFr BK114.out 2
                have hfz106_3 := kFr BK114.out 3
                have hfz106_4 := kFr BK114.out 4
                have hfz106_5 := kFr BK114.out 5
                have hfz106_6 := kFr BK114.out 6
                have p124 : 0 ≤ (0 : Int) := (by omega)
                have q124 : 0 < (l0_6.length : Int) := of_decide_eq_true (by first | (with_reducible assumption) | assumption)
                obtain ⟨ad124, A124_5, c124_5, e124, hx124_0, hx124_1, hx124_2, hx124_3, hx124_4, hx124_5, hl124_5, hi124_5⟩ := at_T56 HR0_6.out 0 p124 q124
                cases e124
                have qi124 : (0 < l0_6.length) = True := eq_true (by omega)
                (try rw [show ((0 : Int)).toNat = 0 from rfl] at hx124_0)
                (try rw [show 0 * 6 = 0 from rfl] at hx124_0)
                (try rw [Addr.add_zero'] at hx124_0)
                (try rw [show ((0 : Int)).toNat = 0 from rfl] at hx124_1)
                (try rw [show 0 * 6 = 0 from rfl] at hx124_1)
                (try rw [Addr.add_zero'] at hx124_1)
                (try rw [show ((0 : Int)).toNat = 0 from rfl] at hx124_2)
                (try rw [show 0 * 6 = 0 from rfl] at hx124_2)
                (try rw [Addr.add_zero'] at hx124_2)
                (try rw [show ((0 : Int)).toNat = 0 from rfl] at hx124_3)
                (try rw [show 0 * 6 = 0 from rfl] at hx124_3)
                (try rw [Addr.add_zero'] at hx124_3)
                (try rw [show ((0 : Int)).toNat = 0 from rfl] at hx124_4)
                (try rw [show 0 * 6 = 0 from rfl] at hx124_4)
                (try rw [Addr.add_zero'] at hx124_4)
                (try rw [show ((0 : Int)).toNat = 0 from rfl] at hx124_5)
                (try rw [show 0 * 6 = 0 from rfl] at hx124_5)
                (try rw [Addr.add_zero'] at hx124_5)
                replace hx124_0 := (HB.out.cell (World.block_lt_of_cell? w _ hx124_0)).trans hx124_0
                replace hx124_1 := (HB.out.cell (World.block_lt_of_cell? w _ hx124_1)).trans hx124_1
                replace hx124_2 := (HB.out.cell (World.block_lt_of_cell? w _ hx124_2)).trans hx124_2
                replace hx124_3 := (HB.out.cell (World.block_lt_of_cell? w _ hx124_3)).trans hx124_3
                replace hx124_4 := (HB.out.cell (World.block_lt_of_cell? w _ hx124_4)).trans hx124_4
                replace hx124_5 := (HB.out.cell (World.block_lt_of_cell? w _ hx124_5)).trans hx124_5
                have HR124_5 := Aside0.mk hi124_5
                have HC124_5 := Aside0.mk hl124_5
                clear hi124_5 hl124_5
                replace p124 := eq_true p124
                replace q124 := eq_true q124
                go_wp2_with (first | ((with_reducible refine gDs (N := 4) rfl ?_); (try (refine gGu (by rfl) ?_; dsimp only)); refine bEv ?hg (N := 4) ?hd (cs := #[.int .i64 0, .bool false, .string (⟨#[]⟩ : ByteArray), .bool false, .string (⟨#[]⟩ : ByteArray), .slice none 0 0]) (t := 56) ?hr ?_; (case hd => rfl); (case hg => rfl); (case hr => first | (go_simp; done) | (go_simp; rfl)); intro gb125 hg w107 hbox hb; have n0_ := Aside0.mk (kBe (g := gb114) (o := .cells #[.int .i64 a0_0, .int .i64 a0_1, .int .i64 a0_2, .int .i64 a0_3, .int .i64 a0_4, .int .i64 a0_5, .slice (some ad124) l0_6.length c0_6] 29 (0, 0)) (by (with_reducible repeat first | refine kDN ?_ _ | refine kDr ?_ | refine kAl ?_ _); exact BK114.out) hb); have n1_ := Aside0.mk (bSt (by repeat (first | (with_reducible first | exact HB.out | apply bAl | apply bDN | apply bD1 | refine bSe ?_ GE114.out) | exact HB.out)) hb); have n2_ := Aside0.mk (hbox); have n3_ := Aside0.mk ((by rw [hg]; exact (bSz (by repeat (first | (with_reducible first | exact HB.out | apply bAl | apply bDN | apply bD1 | refine bSe ?_ GE114.out) | exact HB.out))) : w.heap.size ≤ gb125)); have n4_ := Aside0.mk ((by rw [hg]; exact (bSz (by repeat (first | (with_reducible first | exact HB.out | apply bAl | apply bDN | apply bD1 | refine bSe ?_ GE114.out) | exact HB.out))) : w.heap.size ≤ gb125)); have n5_ := Aside0.mk ((by rw [hg]; exact Nat.ne_of_lt (blk_lt (g := gb114) (o := .cells #[.int .i64 a0_0, .int .i64 a0_1, .int .i64 a0_2, .int .i64 a0_3, .int .i64 a0_4, .int .i64 a0_5, .slice (some ad124) l0_6.length c0_6] 29 (0, 0)) (by (with_reducible repeat first | refine kDN ?_ _ | refine kDr ?_ | refine kAl ?_ _); exact BK114.out)) : gb114 ≠ gb125)); have n6_ := Aside0.mk ((by rw [hg]; exact Nat.ne_of_gt (blk_lt (g := gb114) (o := .cells #[.int .i64 a0_0, .int .i64 a0_1, .int .i64 a0_2, .int .i64 a0_3, .int .i64 a0_4, .int .i64 a0_5, .slice (some ad124) l0_6.length c0_6] 29 (0, 0)) (by (with_reducible repeat first | refine kDN ?_ _ | refine kDr ?_ | refine kAl ?_ _); exact BK114.out)) : gb125 ≠ gb114)); clear BK114; clear HB; have BK114 := n0_; have HB := n1_; have BK125 := n2_; have GW125 := n3_; have GE125 := n4_; have NB114_125 := n5_; have NB125_114 := n6_; clear n0_ n1_ n2_ n3_ n4_ n5_ n6_; clear hb hbox hg; have hnb108 := NB125_114.out; have hnc108 := NB114_125.out; have hcz109_0 : w107.cell? ⟨gb125, 0, none⟩ = some (.int .i64 0) := (kCe BK125.out 0).trans rfl; have hcz109_1 : w107.cell? ⟨gb125, 1, none⟩ = some (.bool false) := (kCe BK125.out 1).trans rfl; have hcz109_2 : w107.cell? ⟨gb125, 2, none⟩ = some (.string (⟨#[]⟩ : ByteArray)) := (kCe BK125.out 2).trans rfl; have hcz109_3 : w107.cell? ⟨gb125, 3, none⟩ = some (.bool false) := (kCe BK125.out 3).trans rfl; have hcz109_4 : w107.cell? ⟨gb125, 4, none⟩ = some (.string (⟨#[]⟩ : ByteArray)) := (kCe BK125.out 4).trans rfl; have hcz109_5 : w107.cell? ⟨gb125, 5, none⟩ = some (.slice none 0 0) := (kCe BK125.out 5).trans rfl; have hfz109_0 := kFr BK125.out 0; have hfz109_1 := kFr BK125.out 1; have hfz109_2 := kFr BK125.out 2; have hfz109_3 := kFr BK125.out 3; have hfz109_4 := kFr BK125.out 4; have hfz109_5 := kFr BK125.out 5; have hcz110_0 : w107.cell? ⟨gb114, 0, none⟩ = some (.int .i64 a0_0) := (kCe BK114.out 0).trans rfl; have hcz110_1 : w107.cell? ⟨gb114, 1, none⟩ = some (.int .i64 a0_1) := (kCe BK114.out 1).trans rfl; have hcz110_2 : w107.cell? ⟨gb114, 2, none⟩ = some (.int .i64 a0_2) := (kCe BK114.out 2).trans rfl; have hcz110_3 : w107.cell? ⟨gb114, 3, none⟩ = some (.int .i64 a0_3) := (kCe BK114.out 3).trans rfl; have hcz110_4 : w107.cell? ⟨gb114, 4, none⟩ = some (.int .i64 a0_4) := (kCe BK114.out 4).trans rfl; have hcz110_5 : w107.cell? ⟨gb114, 5, none⟩ = some (.int .i64 a0_5) := (kCe BK114.out 5).trans rfl; have hcz110_6 : w107.cell? ⟨gb114, 6, none⟩ = some (.slice (some ad124) l0_6.length c0_6) := (kCe BK114.out 6).trans rfl; have hfz110_0 := kFr BK114.out 0; have hfz110_1 := kFr BK114.out 1; have hfz110_2 := kFr BK114.out 2; have hfz110_3 := kFr BK114.out 3; have hfz110_4 := kFr BK114.out 4; have hfz110_5 := kFr BK114.out 5; have hfz110_6 := kFr BK114.out 6))
                go_ret
                exact ⟨by first | rfl | (simp [errW_none, errW_some] <;> rfl) | (simp [*, errW_none, errW_some] <;> rfl), by repeat (first | (with_reducible first | exact HB.out | apply bAl | apply bDN | apply bD1 | refine bSe ?_ GE114.out | refine bSe ?_ GE125.out) | exact HB.out)⟩
              ·
               rw [if_neg c54] at H
               exact absurd H (by simp)
             ·
              rw [if_neg c53] at H
              have c53b0 : decide (4 ≤ a0_5) = false := decide_eq_false c53
              clear c53
              obtain rfl := Option.some.inj H
              have hcz111_0 : wr.cell? ⟨gb114, 0, none⟩ = some (.int .i64 a0_0) := (kCe BK114.out 0).trans rfl
              have hcz111_1 : wr.cell? ⟨gb114, 1, none⟩ = some (.int .i64 a0_1) := (kCe BK114.out 1).trans rfl
              have hcz111_2 : wr.cell? ⟨gb114, 2, none⟩ = some (.int .i64 a0_2) := (kCe BK114.out 2).trans rfl
              have hcz111_3 : wr.cell? ⟨gb114, 3, none⟩ = some (.int .i64 a0_3) := (kCe BK114.out 3).trans rfl
              have hcz111_4 : wr.cell? ⟨gb114, 4, none⟩ = some (.int .i64 a0_4) := (kCe BK114.out 4).trans rfl
              have hcz111_5 : wr.cell? ⟨gb114, 5, none⟩ = some (.int .i64 a0_5) := (kCe BK114.out 5).trans rfl
              have hcz111_6 : wr.cell? ⟨gb114, 6, none⟩ = some (.slice A0_6 l0_6.length c0_6) := (kCe BK114.out 6).trans rfl
              have hfz111_0 := kFr BK114.out 0
              have hfz111_1 := kFr BK114.out 1
              have hfz111_2 := kFr BK114.out 2
              have hfz111_3 := kFr BK114.out 3
              have hfz111_4 := kFr BK114.out 4
              have hfz111_5 := kFr BK114.out 5
              have hfz111_6 := kFr BK114.out 6
              go_wp2
              go_ret
              exact ⟨by first | rfl | (simp [errW_none, errW_some] <;> rfl) | (simp [*, errW_none, errW_some] <;> rfl), by repeat (first | (with_reducible first | exact HB.out | apply bAl | apply bDN | apply bD1 | refine bSe ?_ GE114.out) | exact HB.out)⟩

end Go.Proofs.Ytjbcgflpeomkfaa.F

namespace Go.Proofs.Ytjbcgflpeomkfaa.F
open Go.RowKit Go.Proofs.YtjbcgflpeomkfaaW.PrintWords Go.Proofs.YtjbcgflpeomkfaaW.PrintLast Go.Proofs.YtjbcgflpeomkfaaW.PrintMore
attribute [local go_sem] max2_int min2_int max_two min_two max_three min_three max_four min_four   -- for this text's walks alone
attribute [local go_sem high] Go.Proofs.Ytjbcgflpeomkfaa.Add.string_leq Go.Proofs.Ytjbcgflpeomkfaa.Add.string_gtr
open Go.Proofs.YtjbcgflpeomkfaaW.PrintWords renaming pw_below_drewN → bDN, below_drew1 → bD1, below_alloc → bAl, blk_drewN → kDN, blk_drew → kDr, blk_alloc → kAl, below_set → bSe
set_option linter.unusedVariables false
set_option linter.unusedSimpArgs false

/-! ### laws_toHead: function 66 -/
def laws_toHead.f (a0_0 : ByteArray) (a0_1 : ByteArray) : Option (ByteArray × ByteArray) := some (a0_0, a0_1)
set_option maxHeartbeats 8000000 in
set_option maxRecDepth 100000 in
theorem laws_toHead.calls (a0_0 : ByteArray) (a0_1 : ByteArray) (r1 : ByteArray) (r2 : ByteArray) (w : World) (h : laws_toHead.f a0_0 a0_1 = some (r1, r2)) :
  Calls Try.prog 66 #[.agg #[.string a0_0, .string a0_1]] w fun e w' => e = .returned (.agg #[.string r1, .string r2]) ∧ Below w.heap.size w w' := by
 have hu93 := Try.underlying93
 have hu74 := Try.underlying74
 have HB := Aside0.mk (Below.refl w.heap.size w)
 have H : (some (a0_0, a0_1)) = some (r1, r2) := h
 clear h
 simp only [Option.some.injEq, Prod.mk.injEq] at H
 obtain ⟨rfl, rfl⟩ := H
 go_enter Try.func66, Try.ntmps66
 go_wp2_with (first | ((with_reducible refine gate_dst (N := 1) rfl ?_); refine box_event ?hg (N := 1) ?hd (cs := #[.string a0_0, .string a0_1]) (t := 93) ?hr ?_; (case hd => rfl); (case hg => rfl); (case hr => first | (go_simp; done) | (go_simp; rfl)); intro gb126 hg w2 hbox hb; have n0_ := Aside0.mk (below_step (by repeat (first | (with_reducible first | exact HB.out | apply bAl | apply bDN | apply bD1) | exact HB.out)) hb); have n1_ := Aside0.mk (hbox); have n2_ := Aside0.mk ((by rw [hg]; exact (below_size (by repeat (first | (with_reducible first | exact HB.out | apply bAl | apply bDN | apply bD1) | exact HB.out))) : w.heap.size ≤ gb126)); have n3_ := Aside0.mk ((by rw [hg]; exact (below_size (by repeat (first | (with_reducible first | exact HB.out | apply bAl | apply bDN | apply bD1) | exact HB.out))) : w.heap.size ≤ gb126)); clear HB; have HB := n0_; have BK126 := n1_; have GW126 := n2_; have GE126 := n3_; clear n0_ n1_ n2_ n3_; clear hb hbox hg) | ((with_reducible refine gate_dst (N := 2) rfl ?_); refine box_event ?hg (N := 2) ?hd (cs := #[.string (⟨#[]⟩ : ByteArray), .string (⟨#[]⟩ : ByteArray)]) (t := 74) ?hr ?_; (case hd => rfl); (case hg => rfl); (case hr => first | (go_simp; done) | (go_simp; rfl)); intro gb127 hg w3 hbox hb; have n0_ := Aside0.mk (blk_below (g := gb126) (o := .cells #[.string a0_0, .string a0_1] 93 (0, 0)) (by (with_reducible repeat first | refine kDN ?_ _ | refine kDr ?_ | refine kAl ?_ _); exact BK126.out) hb); have n1_ := Aside0.mk (below_step (by repeat (first | (with_reducible first | exact HB.out | apply bAl | apply bDN | apply bD1 | refine bSe ?_ GE126.out) | exact HB.out)) hb); have n2_ := Aside0.mk (hbox); have n3_ := Aside0.mk ((by rw [hg]; exact (below_size (by repeat (first | (with_reducible first | exact HB.out | apply bAl | apply bDN | apply bD1 | refine bSe ?_ GE126.out) | exact HB.out))) : w.heap.size ≤ gb127)); have n4_ := Aside0.mk ((by rw [hg]; exact (below_size (by repeat (first | (with_reducible first | exact HB.out | apply bAl | apply bDN | apply bD1 | refine bSe ?_ GE126.out) | exact HB.out))) : w.heap.size ≤ gb127)); have n5_ := Aside0.mk ((by rw [hg]; exact Nat.ne_of_lt (blk_lt (g := gb126) (o := .cells #[.string a0_0, .string a0_1] 93 (0, 0)) (by (with_reducible repeat first | refine kDN ?_ _ | refine kDr ?_ | refine kAl ?_ _); exact BK126.out)) : gb126 ≠ gb127)); have n6_ := Aside0.mk ((by rw [hg]; exact Nat.ne_of_gt (blk_lt (g := gb126) (o := .cells #[.string a0_0, .string a0_1] 93 (0, 0)) (by (with_reducible repeat first | refine kDN ?_ _ | refine kDr ?_ | refine kAl ?_ _); exact BK126.out)) : gb127 ≠ gb126)); clear BK126; clear HB; have BK126 := n0_; have HB := n1_; have BK127 := n2_; have GW127 := n3_; have GE127 := n4_; have NB126_127 := n5_; have NB127_126 := n6_; clear n0_ n1_ n2_ n3_ n4_ n5_ n6_; clear hb hbox hg) | ((with_reducible refine gate_dst (N := 3) rfl ?_); refine box_event ?hg (N := 3) ?hd (cs := #[.string (⟨#[]⟩ : ByteArray), .string (⟨#[]⟩ : ByteArray)]) (t := 74) ?hr ?_; (case hd => rfl); (case hg => rfl); (case hr => first | (go_simp; done) | (go_simp; rfl)); intro gb128 hg w4 hbox hb; have n0_ := Aside0.mk (blk_below (g := gb126) (o := .cells #[.string a0_0, .string a0_1] 93 (0, 0)) (by (with_reducible repeat first | refine kDN ?_ _ | refine kDr ?_ | refine kAl ?_ _); exact BK126.out) hb); have n1_ := Aside0.mk (blk_below (g := gb127) (o := .cells #[.string (⟨#[]⟩ : ByteArray), .string (⟨#[]⟩ : ByteArray)] 74 (0, 0)) (by (with_reducible repeat first | refine kDN ?_ _ | refine kDr ?_ | refine kAl ?_ _); exact BK127.out) hb); have n2_ := Aside0.mk (below_step (by repeat (first | (with_reducible first | exact HB.out | apply bAl | apply bDN | apply bD1 | refine bSe ?_ GE126.out | refine bSe ?_ GE127.out) | exact HB.out)) hb); have n3_ := Aside0.mk (hbox); have n4_ := Aside0.mk ((by rw [hg]; exact (below_size (by repeat (first | (with_reducible first | exact HB.out | apply bAl | apply bDN | apply bD1 | refine bSe ?_ GE126.out | refine bSe ?_ GE127.out) | exact HB.out))) : w.heap.size ≤ gb128)); have n5_ := Aside0.mk ((by rw [hg]; exact (below_size (by repeat (first | (with_reducible first | exact HB.out | apply bAl | apply bDN | apply bD1 | refine bSe ?_ GE126.out | refine bSe ?_ GE127.out) | exact HB.out))) : w.heap.size ≤ gb128)); have n6_ := Aside0.mk ((by rw [hg]; exact Nat.ne_of_lt (blk_lt (g := gb126) (o := .cells #[.string a0_0, .string a0_1] 93 (0, 0)) (by (with_reducible repeat first | refine kDN ?_ _ | refine kDr ?_ | refine kAl ?_ _); exact BK126.out)) : gb126 ≠ gb128)); have n7_ := Aside0.mk ((by rw [hg]; exact Nat.ne_of_gt (blk_lt (g := gb126) (o := .cells #[.string a0_0, .string a0_1] 93 (0, 0)) (by (with_reducible repeat first | refine kDN ?_ _ | refine kDr ?_ | refine kAl ?_ _); exact BK126.out)) : gb128 ≠ gb126)); have n8_ := Aside0.mk ((by rw [hg]; exact Nat.ne_of_lt (blk_lt (g := gb127) (o := .cells #[.string (⟨#[]⟩ : ByteArray), .string (⟨#[]⟩ : ByteArray)] 74 (0, 0)) (by (with_reducible repeat first | refine kDN ?_ _ | refine kDr ?_ | refine kAl ?_ _); exact BK127.out)) : gb127 ≠ gb128)); have n9_ := Aside0.mk ((by rw [hg]; exact Nat.ne_of_gt (blk_lt (g := gb127) (o := .cells #[.string (⟨#[]⟩ : ByteArray), .string (⟨#[]⟩ : ByteArray)] 74 (0, 0)) (by (with_reducible repeat first | refine kDN ?_ _ | refine kDr ?_ | refine kAl ?_ _); exact BK127.out)) : gb128 ≠ gb127)); clear BK126; clear BK127; clear HB; have BK126 := n0_; have BK127 := n1_; have HB := n2_; have BK128 := n3_; have GW128 := n4_; have GE128 := n5_; have NB126_128 := n6_; have NB128_126 := n7_; have NB127_128 := n8_; have NB128_127 := n9_; clear n0_ n1_ n2_ n3_ n4_ n5_ n6_ n7_ n8_ n9_; clear hb hbox hg; have hnb5 := NB126_127.out; have hnc5 := NB127_126.out; have hnb6 := NB126_128.out; have hnc6 := NB128_126.out; have hcz7_0 : w4.cell? ⟨gb126, 0, none⟩ = some (.string a0_0) := (blk_cell BK126.out 0).trans rfl; have hcz7_1 : w4.cell? ⟨gb126, 1, none⟩ = some (.string a0_1) := (blk_cell BK126.out 1).trans rfl; have hfz7_0 := blk_frozen BK126.out 0; have hfz7_1 := blk_frozen BK126.out 1; have hnb8 := NB128_127.out; have hnc8 := NB127_128.out; have hcz9_0 : w4.cell? ⟨gb128, 0, none⟩ = some (.string (⟨#[]⟩ : ByteArray)) := (blk_cell BK128.out 0).trans rfl; have hcz9_1 : w4.cell? ⟨gb128, 1, none⟩ = some (.string (⟨#[]⟩ : ByteArray)) := (blk_cell BK128.out 1).trans rfl; have hfz9_0 := blk_frozen BK128.out 0; have hfz9_1 := blk_frozen BK128.out 1; have hcz10_0 : w4.cell? ⟨gb127, 0, none⟩ = some (.string (⟨#[]⟩ : ByteArray)) := (blk_cell BK127.out 0).trans rfl; have hcz10_1 : w4.cell? ⟨gb127, 1, none⟩ = some (.string (⟨#[]⟩ : ByteArray)) := (blk_cell BK127.out 1).trans rfl; have hfz10_0 := blk_frozen BK127.out 0; have hfz10_1 := blk_frozen BK127.out 1))
 refine bodyPost_ret (results_cell_row rfl _ _ gb127 74 #[.string a0_0, .string a0_1] (0, 0) _ rfl (by (with_reducible repeat first | refine kDN ?_ _ | refine kDr ?_ | refine kAl ?_ _); refine blk_put (cs := #[.string a0_0, .string (⟨#[]⟩ : ByteArray)]) ?_ 1 _ rfl; (with_reducible repeat first | refine kDN ?_ _ | refine kDr ?_ | refine kAl ?_ _); refine blk_put (cs := #[.string (⟨#[]⟩ : ByteArray), .string (⟨#[]⟩ : ByteArray)]) ?_ 0 _ rfl; (with_reducible repeat first | refine kDN ?_ _ | refine kDr ?_ | refine kAl ?_ _); refine blk_far ?_ NB127_128.out _; (with_reducible repeat first | refine kDN ?_ _ | refine kDr ?_ | refine kAl ?_ _); refine blk_far ?_ NB127_128.out _; (with_reducible repeat first | refine kDN ?_ _ | refine kDr ?_ | refine kAl ?_ _); exact BK127.out) Try.underlying74 rfl (by kernel_rfl)) rfl ?_
 exact ⟨by first | rfl | (simp [errW_none, errW_some] <;> rfl) | (simp [*, errW_none, errW_some] <;> rfl), by repeat (first | (with_reducible first | exact HB.out | apply bAl | apply bDN | apply bD1 | refine bSe ?_ GE126.out | refine bSe ?_ GE127.out | refine bSe ?_ GE128.out) | exact HB.out)⟩

end Go.Proofs.Ytjbcgflpeomkfaa.F

namespace Go.Proofs.Ytjbcgflpeomkfaa.F
open Go.RowKit Go.Proofs.YtjbcgflpeomkfaaW.PrintWords Go.Proofs.YtjbcgflpeomkfaaW.PrintLast Go.Proofs.YtjbcgflpeomkfaaW.PrintMore
attribute [local go_sem] max2_int min2_int max_two min_two max_three min_three max_four min_four   -- for this text's walks alone
attribute [local go_sem high] Go.Proofs.Ytjbcgflpeomkfaa.Add.string_leq Go.Proofs.Ytjbcgflpeomkfaa.Add.string_gtr
attribute [local go_sem] Go.run_store
set_option linter.unusedVariables false
set_option linter.unusedSimpArgs false

/-! ### laws_toHeadS: function 56 -/
def laws_toHeadS.l0 : Nat → List (S93) → List (S74) → Int → Option ((List (S74)))
 | 0, _, _, _ => none
 | k + 1, x0, x3, x4 => if x4 < (x0.length : Int) then (if 0 ≤ x4 then ((laws_toHead.f ((rd_T93 x0 x4).f0) ((rd_T93 x0 x4).f1)).bind fun bt133 => (if x4 < (x3.length : Int) then (laws_toHeadS.l0 k x0 (x3.set (x4 : Int).toNat (⟨bt133.1, bt133.2⟩ : S74)) (wrap64 (x4 + 1))) else (none))) else (none)) else (some x3)
def laws_toHeadS.f (k : Nat) (l0 : List (S93)) : Option ((List (S74))) := if 0 ≤ (l0.length : Int) then (if ((l0.length : Int) : Int).toNat ≤ 8796093022208 then (laws_toHeadS.l0 k l0 (List.replicate ((l0.length : Int) : Int).toNat z74) 0) else (none)) else (none)
theorem laws_toHeadS.mono_l : ∀ k, (∀ y0 y1 y2, LeO (laws_toHeadS.l0 k y0 y1 y2) (laws_toHeadS.l0 (k + 1) y0 y1 y2))
 | 0 => fun _ _ _ r h => by simp [laws_toHeadS.l0] at h
 | k + 1 => by
  have ih0 := laws_toHeadS.mono_l k
  ·
   intro y0 y1 y2
   unfold laws_toHeadS.l0
   repeat' first
   | (with_reducible exact ih0 _ _ _)
   | (with_reducible exact LeO.refl _)
   | (with_reducible exact LeO.none _)
   | (with_reducible refine LeO.ite ?_ ?_)
   | (with_reducible refine LeO.bind ?_ (fun _ => ?_))
   | exact ih0 _ _ _
   | exact LeO.none _
   | refine LeO.ite ?_ ?_
   | refine LeO.bind ?_ (fun _ => ?_)
theorem laws_toHeadS.mono : ∀ a0 k, LeO (laws_toHeadS.f k a0) (laws_toHeadS.f (k + 1) a0) := by
 intro a0 k
 have ih0 := laws_toHeadS.mono_l k
 unfold laws_toHeadS.f
 repeat' first
   | (with_reducible exact ih0 _ _ _)
   | (with_reducible exact LeO.refl _)
   | (with_reducible exact LeO.none _)
   | (with_reducible refine LeO.ite ?_ ?_)
   | (with_reducible refine LeO.bind ?_ (fun _ => ?_))
   | exact ih0 _ _ _
   | exact LeO.none _
   | refine LeO.ite ?_ ?_
   | refine LeO.bind ?_ (fun _ => ?_)
set_option maxHeartbeats 8000000 in
set_option maxRecDepth 100000 in
theorem laws_toHeadS.calls (k : Nat) (A0 : Option Addr) (c0 : Nat) (l0 : List (S93)) (r : List (S74)) (w : World) (hr0 : Kd.C k93 w A0 l0.length l0) (hc0 : l0.length ≤ c0) (h : laws_toHeadS.f k l0 = some r) :
  Calls Try.prog 56 #[.slice A0 l0.length c0] w fun e w' => ∃ v0_ : Value, e = .returned (v0_) ∧ Kd.R k74 74 w' w.heap.size (fun _ => True) v0_ r ∧ Below w.heap.size w w' := by
 have hu93 := Try.underlying93
 have hu74 := Try.underlying74
 have HR0 := Aside0.mk hr0
 have HC0 := Aside0.mk hc0
 clear hr0 hc0
 have HB := Aside0.mk (Below.refl w.heap.size w)
 have H : (if 0 ≤ (l0.length : Int) then (if ((l0.length : Int) : Int).toNat ≤ 8796093022208 then (laws_toHeadS.l0 k l0 (List.replicate ((l0.length : Int) : Int).toNat z74) 0) else (none)) else (none)) = some r := h
 clear h
 by_cases c2 : 0 ≤ (l0.length : Int)
 ·
  rw [if_pos c2] at H
  have c2b0 := eq_true c2
  have c2b1 : decide (0 ≤ (l0.length : Int)) = true := decide_eq_true c2
  clear c2
  by_cases c3 : ((l0.length : Int) : Int).toNat ≤ 8796093022208
  ·
   rw [if_pos c3] at H
   have c3b0 := eq_true c3
   have c3b1 : decide (((l0.length : Int) : Int).toNat ≤ 8796093022208) = true := decide_eq_true c3
   clear c3
   obtain ⟨y129, hy129⟩ : ∃ y_ : List (S74), y_ = (List.replicate ((l0.length : Int) : Int).toNat z74) := ⟨_, rfl⟩
   replace H : (laws_toHeadS.l0 k l0 y129 0) = some r := by first | (rw [hy129]; with_reducible exact H) | (have H2_ := (Option.bind_some _ _).symm.trans H; rw [hy129]; with_reducible exact H2_) | (have H2_ := (Option.bind_some _ _).symm.trans H; with_reducible exact H2_) | with_reducible exact H | (rw [hy129]; exact H) | exact H
   have Ny129 := Aside0.mk hy129
   clear hy129
   have H' := Aside0.mk H
   clear H
   go_enter Try.func56, Try.ntmps56
   go_wp2_with (first | ((with_reducible refine gate_dst (N := 7) rfl ?_); refine Kd.R_make k74 _ 74 rfl (N := 7) rfl 54 _ _ rfl (l0.length : Int) rfl rfl Try.underlying54 (.agg #[(.string ⟨#[]⟩), (.string ⟨#[]⟩)]) 32 info74 rfl (by decide) (by omega) z74 (ok := fun _ => True) (okp := fun _ => True) (k74_mkM _ _ _ z74 ) (fun _ hk => hk) trivial (of_decide_eq_true (by first | (with_reducible assumption) | assumption)) (Nat.le_trans (Nat.mul_le_mul_right _ (of_decide_eq_true (by first | (with_reducible assumption) | assumption) : (l0.length : Int).toNat ≤ 8796093022208)) (by omega)) (Below.refl _ _) (Nat.le_refl _) ?_; intro v130 w4 ho5 hb hg_ hnew_; clear hg_ hnew_; (first | rw [← Ny129.out] at ho5 | (simp only [Int.reduceToNat] at ho5; rw [← Ny129.out] at ho5)); have n0_ := Aside0.mk (Kd.R_lower ho5 (below_size (by repeat (first | (with_reducible first | exact HB.out | apply below_alloc | apply pw_below_drewN | apply below_drew1) | exact HB.out)))); have n1_ := Aside0.mk (below_step (by repeat (first | (with_reducible first | exact HB.out | apply below_alloc | apply pw_below_drewN | apply below_drew1) | exact HB.out)) hb); clear HB; have HO131 := n0_; have HB := n1_; clear n0_ n1_; clear hb ho5))
   go_loopg [4] k (fun kq v4 w' => ∃ (x3_1 : List (S74)) (x4_1 : Int), v4 = .int .i64 x4_1 ∧ Aside0 (laws_toHeadS.l0 kq l0 x3_1 x4_1 = some r) ∧ Aside0 (kq ≤ k) ∧ Aside0 (Kd.R k74 74 w' w.heap.size (fun _ => True) v130 x3_1) ∧ Aside0 (Below w.heap.size w w'))
   case atStart => exact ⟨(y129), (0), (by first | rfl | (simp; done) | (simp [*]; done) | exact Go.Proofs.Ytjbcgflpeomkfaa.Add.isEmpty_bne _), H', ⟨Nat.le_refl _⟩, ⟨by (with_reducible repeat (first | apply Kd.R_alloc | apply Kd.R_drewN | apply Kd.R_drew)); exact HO131.out⟩, ⟨by repeat (first | (with_reducible first | exact HB.out | apply below_alloc | apply pw_below_drewN | apply below_drew1) | exact HB.out)⟩⟩
   case round =>
    clear H'
    try clear c2
    try clear c2b0
    try clear c2b1
    try clear p2
    try clear c3
    try clear c3b0
    try clear c3b1
    try clear c5
    obtain ⟨x3_1, x4_1, rfl, HA, HK1, HO_3, HB⟩ := hrel
    cases gk with
    | zero => exact absurd HA.out (by simp [laws_toHeadS.l0])
    | succ k1 =>
     have H := HA.out
     clear HA
     simp only [laws_toHeadS.l0] at H
     by_cases c6 : x4_1 < (l0.length : Int)
     ·
      rw [if_pos c6] at H
      have c6b0 : decide (x4_1 < (l0.length : Int)) = true := decide_eq_true c6
      clear c6
      by_cases c7 : 0 ≤ x4_1
      ·
       rw [if_pos c7] at H
       have c7b0 : decide (0 ≤ x4_1) = true := decide_eq_true c7
       clear c7
       replace H := Option.bind_eq_some_iff.mp H
       obtain ⟨⟨t133, t134⟩, A80, H⟩ := H
       have A8 := Aside0.mk A80
       clear A80
       by_cases c9 : x4_1 < (x3_1.length : Int)
       ·
        rw [if_pos c9] at H
        have c9b0 : decide (x4_1 < (x3_1.length : Int)) = true := decide_eq_true c9
        clear c9
        obtain ⟨y135, hy135⟩ : ∃ y_ : List (S74), y_ = (x3_1.set (x4_1 : Int).toNat (⟨t133, t134⟩ : S74)) := ⟨_, rfl⟩
        replace H : (laws_toHeadS.l0 k1 l0 y135 (wrap64 (x4_1 + 1))) = some r := by first | (rw [hy135]; with_reducible exact H) | (have H2_ := (Option.bind_some _ _).symm.trans H; rw [hy135]; with_reducible exact H2_) | (have H2_ := (Option.bind_some _ _).symm.trans H; with_reducible exact H2_) | with_reducible exact H | (rw [hy135]; exact H) | exact H
        have Ny135 := Aside0.mk hy135
        clear hy135
        have H' := Aside0.mk H
        clear H
        have p132 : 0 ≤ (x4_1 : Int) := of_decide_eq_true (by first | (with_reducible assumption) | assumption)
        have q132 : x4_1 < (l0.length : Int) := of_decide_eq_true (by first | (with_reducible assumption) | assumption)
        obtain ⟨ad132, e132, hx132_0, hx132_1⟩ := at_T93 HR0.out x4_1 p132 q132
        cases e132
        replace hx132_0 := (HB.out.cell (World.block_lt_of_cell? w _ hx132_0)).trans hx132_0
        replace hx132_1 := (HB.out.cell (World.block_lt_of_cell? w _ hx132_1)).trans hx132_1
        replace p132 := eq_true p132
        replace q132 := eq_true q132
        go_wp2_with (first | ((with_reducible refine gate_callee (f := 66) rfl ?_); refine goesL_ (some 20) rfl rfl Try.func66 (by kernel_rfl) rfl #[.agg #[.string ((rd_T93 l0 x4_1).f0), .string ((rd_T93 l0 x4_1).f1)]] rfl (by (try simp only [List.map_toArray, List.map_cons, List.map_nil]); first | done | rfl | (simp only [List.length_drop, List.length_take]; rfl)) ?_; (with_reducible refine (laws_toHead.calls ((rd_T93 l0 x4_1).f0) ((rd_T93 l0 x4_1).f1) t133 t134 _ A8.out).mono ?_); rintro e w11 ⟨rfl, hb⟩; refine ⟨_, rfl, ?_⟩; have n0_ := Aside0.mk (Kd.R_below (by (with_reducible repeat (first | apply Kd.R_alloc | apply Kd.R_drewN | apply Kd.R_drew)); exact HO_3.out) hb); have n1_ := Aside0.mk (below_step (by repeat (first | (with_reducible first | exact HB.out | apply below_alloc | apply pw_below_drewN | apply below_drew1) | exact HB.out)) hb); clear HO_3; clear HB; have HO_3 := n0_; have HB := n1_; clear n0_ n1_; (try clear hb); (try clear hb2); (try clear hk); (try clear hi); have p10 : 0 ≤ (x4_1 : Int) := of_decide_eq_true (by first | (with_reducible assumption) | assumption); have q10 : (x4_1 : Int) < ((x3_1.length : Int) : Int) := of_decide_eq_true (by first | (with_reducible assumption) | assumption); obtain ⟨go10, co10, eo10, gb10, gl10, cl10, HG10⟩ := Kd.R_form HO_3.out (by omega); (first | cases eo10 | (injection eo10 with ea_ en_ ec_; (first | subst ea_ | (injection ea_ with ea_; subst ea_)); subst ec_; clear en_)); have GB10 := Aside0.mk gb10; have GG10 := Aside0.mk HG10; clear gb10 gl10 HG10; obtain ⟨ce10, hcl10, hM10, hcc10, hfr10⟩ := Kd.R_elem HO_3.out z74 (x4_1 : Int) p10 q10; obtain rfl := k74_openM hM10; have hx10_0 : w11.cell? ⟨go10, (x4_1 : Int).toNat * 2, none⟩ = some (.string ((rd_T74 x3_1 x4_1).f0)) := hcc10 0 _ rfl; have hx10_1 : w11.cell? ⟨go10, (x4_1 : Int).toNat * 2 + 1, none⟩ = some (.string ((rd_T74 x3_1 x4_1).f1)) := hcc10 1 _ rfl; have hf10_0 : w11.frozen? ⟨go10, (x4_1 : Int).toNat * 2, none⟩ = false := hfr10 0; have hf10_1 : w11.frozen? ⟨go10, (x4_1 : Int).toNat * 2 + 1, none⟩ = false := hfr10 1; clear hcl10 hcc10 hfr10 hM10; replace p10 := eq_true p10; replace q10 := eq_true q10; have HX12 := Aside0.mk (show Kd.R k74 74 w11 w.heap.size (fun _ => True) (.slice (some ⟨go10, 0, none⟩) x3_1.length co10) x3_1 from (by (with_reducible repeat (first | apply Kd.R_alloc | apply Kd.R_drewN | apply Kd.R_drew)); exact HO_3.out)); obtain ⟨ce12, hcl12, hM12, hcc12, hfr12⟩ := Kd.R_elem HX12.out z74 (x4_1 : Int) (of_decide_eq_true (by first | (with_reducible assumption) | assumption)) (by have h_ : (x4_1 : Int) < ((x3_1.length : Int) : Int) := of_decide_eq_true (by first | (with_reducible assumption) | assumption); first | exact h_ | (have e_ := (Kd.R_reads' HO_3.out).1; omega) | simpa using h_); obtain rfl := k74_openM hM12; have HP12 := Kd.R_seg HX12.out (x4_1 : Int) (of_decide_eq_true (by first | (with_reducible assumption) | assumption)) (by have h_ : (x4_1 : Int) < ((x3_1.length : Int) : Int) := of_decide_eq_true (by first | (with_reducible assumption) | assumption); first | exact h_ | (have e_ := (Kd.R_reads' HO_3.out).1; omega) | simpa using h_) (seg := [.string t133, .string t134]) (j := 0) hcl12 hcc12 (show 2 ≤ 2 from by decide) (x' := (⟨t133, t134⟩ : S74)) (k74_mkM _ _ _ (⟨t133, t134⟩ : S74) ) (fun _ hk => hk); have hx12_0 := hcc12 0 _ rfl; (try simp only [show (k74).sz = 2 from rfl, Nat.mul_one, Nat.add_zero] at hx12_0); have hf12_0 := hfr12 0; (try simp only [show (k74).sz = 2 from rfl, Nat.mul_one, Nat.add_zero] at hf12_0); have hx12_1 := hcc12 1 _ rfl; (try simp only [show (k74).sz = 2 from rfl, Nat.mul_one, Nat.add_zero] at hx12_1); have hf12_1 := hfr12 1; (try simp only [show (k74).sz = 2 from rfl, Nat.mul_one, Nat.add_zero] at hf12_1); clear hcl12 hcc12 hfr12 hM12) | ((with_reducible refine gate_store (t := 74) (p := 21) rfl ?_); refine store_event (t := 74) (p := 21) (v := ?vo_w13) (w1 := ((w11.setCell ⟨go10, (x4_1 : Int).toNat * 2, none⟩ (.string t133)).setCell ⟨go10, (x4_1 : Int).toNat * 2 + 1, none⟩ (.string t134))) ?hg ?ho ?hn ?hr ?_; (case ho => rfl); (case hg => rfl); (case hn => rfl); (case hr => first | (go_simp; done) | (go_simp; rfl)); intro w13 hw; have hg : w11.grownBy w13 (some go10) := (by rw [hw]; exact HP12.2); have hp_ : Kd.R k74 74 w13 w.heap.size (fun _ => True) (.slice (some ⟨go10, 0, none⟩) x3_1.length co10) y135 := (by rw [hw, Ny135.out]; exact HP12.1); clear HP12; have n0_ := Aside0.mk (hp_); have n1_ := Aside0.mk ((by rw [hw]; exact below_set (below_set (HB.out) GB10.out) GB10.out : Below w.heap.size w w13)); clear HO_3; clear HB; have HO_3 := n0_; have HB := n1_; clear n0_ n1_; clear hg hw hp_))
        go_roundg k1
        case measure => have := HK1.out; omega
        case rel => exact ⟨(y135), (wrap64 (x4_1 + 1)), (by first | rfl | (simp; done) | (simp [*]; done) | exact Go.Proofs.Ytjbcgflpeomkfaa.Add.isEmpty_bne _), H', ⟨by have := HK1.out; omega⟩, ⟨by (with_reducible repeat (first | apply Kd.R_alloc | apply Kd.R_drewN | apply Kd.R_drew)); exact HO_3.out⟩, ⟨by repeat (first | (with_reducible first | exact HB.out | apply below_alloc | apply pw_below_drewN | apply below_drew1) | exact HB.out)⟩⟩
       ·
        rw [if_neg c9] at H
        exact absurd H (by simp)
      ·
       rw [if_neg c7] at H
       exact absurd H (by simp)
     ·
      rw [if_neg c6] at H
      have c6b0 : decide (x4_1 < (l0.length : Int)) = false := decide_eq_false c6
      clear c6
      obtain rfl := Option.some.inj H
      go_wp2
      go_ret
      exact ⟨_, by first | rfl | (simp [errW_none, errW_some] <;> rfl) | (simp [*, errW_none, errW_some] <;> rfl), by (with_reducible repeat (first | apply Kd.R_alloc | apply Kd.R_drewN | apply Kd.R_drew)); exact HO_3.out, by repeat (first | (with_reducible first | exact HB.out | apply below_alloc | apply pw_below_drewN | apply below_drew1) | exact HB.out)⟩
  ·
   rw [if_neg c3] at H
   exact absurd H (by simp)
 ·
  rw [if_neg c2] at H
  exact absurd H (by simp)

end Go.Proofs.Ytjbcgflpeomkfaa.F

namespace Go.Proofs.Ytjbcgflpeomkfaa.F
open Go.RowKit Go.Proofs.YtjbcgflpeomkfaaW.PrintWords Go.Proofs.YtjbcgflpeomkfaaW.PrintLast Go.Proofs.YtjbcgflpeomkfaaW.PrintMore
attribute [local go_sem] max2_int min2_int max_two min_two max_three min_three max_four min_four   -- for this text's walks alone
attribute [local go_sem high] Go.Proofs.Ytjbcgflpeomkfaa.Add.string_leq Go.Proofs.Ytjbcgflpeomkfaa.Add.string_gtr
open Go.Proofs.YtjbcgflpeomkfaaW.PrintWords renaming pw_below_drewN → bDN, below_drew1 → bD1, below_alloc → bAl, blk_drewN → kDN, blk_drew → kDr, blk_alloc → kAl, below_set → bSe, below_size → bSz, blk_cell → kCe, blk_frozen → kFr
set_option linter.unusedVariables false
set_option linter.unusedSimpArgs false

/-! ### laws_toRecord: function 47 -/
def laws_toRecord.f (k : Nat) (a0_0 : Int) (a0_1 : Bool) (a0_2 : ByteArray) (a0_3 : Bool) (a0_4 : ByteArray) (l0_5 : List (S93)) : Option (Int × Bool × ByteArray × Bool × ByteArray × (List (S74))) := (laws_toHeadS.f k l0_5).bind fun t139 => (some (a0_0, a0_1, a0_2, a0_3, a0_4, t139))
theorem laws_toRecord.mono : ∀ a0 a1 a2 a3 a4 a5 k, LeO (laws_toRecord.f k a0 a1 a2 a3 a4 a5) (laws_toRecord.f (k + 1) a0 a1 a2 a3 a4 a5) := by
 intro a0 a1 a2 a3 a4 a5 k
 unfold laws_toRecord.f
 repeat' first
   | (with_reducible exact laws_toHeadS.mono _ _)
   | (with_reducible exact LeO.refl _)
   | (with_reducible exact LeO.none _)
   | (with_reducible refine LeO.ite ?_ ?_)
   | (with_reducible refine LeO.bind ?_ (fun _ => ?_))
   | exact laws_toHeadS.mono _ _
   | exact LeO.none _
   | refine LeO.ite ?_ ?_
   | refine LeO.bind ?_ (fun _ => ?_)
set_option maxHeartbeats 8000000 in
set_option maxRecDepth 100000 in
theorem laws_toRecord.calls (k : Nat) (a0_0 : Int) (a0_1 : Bool) (a0_2 : ByteArray) (a0_3 : Bool) (a0_4 : ByteArray) (A0_5 : Option Addr) (c0_5 : Nat) (l0_5 : List (S93)) (r1 : Int) (r2 : Bool) (r3 : ByteArray) (r4 : Bool) (r5 : ByteArray) (r6 : List (S74)) (w : World) (hr0_5 : Kd.C k93 w A0_5 l0_5.length l0_5) (hc0_5 : l0_5.length ≤ c0_5) (h : laws_toRecord.f k a0_0 a0_1 a0_2 a0_3 a0_4 l0_5 = some (r1, r2, r3, r4, r5, r6)) :
  Calls Try.prog 47 #[.agg #[.int .i64 a0_0, .bool a0_1, .string a0_2, .bool a0_3, .string a0_4, .slice A0_5 l0_5.length c0_5]] w fun e w' => ∃ v5_ : Value, e = .returned (.agg #[.int .i64 r1, .bool r2, .string r3, .bool r4, .string r5, v5_]) ∧ Kd.R k74 74 w' w.heap.size (fun _ => True) v5_ r6 ∧ Below w.heap.size w w' := by
 have hu72 := Try.underlying72
 have hu56 := Try.underlying56
 have HR0_5 := Aside0.mk hr0_5
 have HC0_5 := Aside0.mk hc0_5
 clear hr0_5 hc0_5
 have HB := Aside0.mk (Below.refl w.heap.size w)
 have H : ((laws_toHeadS.f k l0_5).bind fun t139 => (some (a0_0, a0_1, a0_2, a0_3, a0_4, t139))) = some (r1, r2, r3, r4, r5, r6) := h
 clear h
 replace H := Option.bind_eq_some_iff.mp H
 obtain ⟨t139, A20, H⟩ := H
 have A2 := Aside0.mk A20
 clear A20
 simp only [Option.some.injEq, Prod.mk.injEq] at H
 obtain ⟨rfl, rfl, rfl, rfl, rfl, rfl⟩ := H
 go_enter Try.func47, Try.ntmps47
 go_wp2_with (first | ((with_reducible refine gate_dst (N := 1) rfl ?_); refine box_event ?hg (N := 1) ?hd (cs := #[.int .i64 a0_0, .bool a0_1, .string a0_2, .bool a0_3, .string a0_4, .slice A0_5 l0_5.length c0_5]) (t := 72) ?hr ?_; (case hd => rfl); (case hg => rfl); (case hr => first | (go_simp; done) | (go_simp; rfl)); intro gb136 hg w3 hbox hb; have n0_ := Aside0.mk (below_step (by repeat (first | (with_reducible first | exact HB.out | apply bAl | apply bDN | apply bD1) | exact HB.out)) hb); have n1_ := Aside0.mk (hbox); have n2_ := Aside0.mk ((by rw [hg]; exact (bSz (by repeat (first | (with_reducible first | exact HB.out | apply bAl | apply bDN | apply bD1) | exact HB.out))) : w.heap.size ≤ gb136)); have n3_ := Aside0.mk ((by rw [hg]; exact (bSz (by repeat (first | (with_reducible first | exact HB.out | apply bAl | apply bDN | apply bD1) | exact HB.out))) : w.heap.size ≤ gb136)); clear HB; have HB := n0_; have BK136 := n1_; have GW136 := n2_; have GE136 := n3_; clear n0_ n1_ n2_ n3_; clear hb hbox hg) | ((with_reducible refine gate_dst (N := 2) rfl ?_); refine box_event ?hg (N := 2) ?hd (cs := #[.int .i64 0, .bool false, .string (⟨#[]⟩ : ByteArray), .bool false, .string (⟨#[]⟩ : ByteArray), .slice none 0 0]) (t := 56) ?hr ?_; (case hd => rfl); (case hg => rfl); (case hr => first | (go_simp; done) | (go_simp; rfl)); intro gb137 hg w4 hbox hb; have n0_ := Aside0.mk (blk_below (g := gb136) (o := .cells #[.int .i64 a0_0, .bool a0_1, .string a0_2, .bool a0_3, .string a0_4, .slice A0_5 l0_5.length c0_5] 72 (0, 0)) (by (with_reducible repeat first | refine kDN ?_ _ | refine kDr ?_ | refine kAl ?_ _); exact BK136.out) hb); have n1_ := Aside0.mk (below_step (by repeat (first | (with_reducible first | exact HB.out | apply bAl | apply bDN | apply bD1 | refine bSe ?_ GE136.out) | exact HB.out)) hb); have n2_ := Aside0.mk (hbox); have n3_ := Aside0.mk ((by rw [hg]; exact (bSz (by repeat (first | (with_reducible first | exact HB.out | apply bAl | apply bDN | apply bD1 | refine bSe ?_ GE136.out) | exact HB.out))) : w.heap.size ≤ gb137)); have n4_ := Aside0.mk ((by rw [hg]; exact (bSz (by repeat (first | (with_reducible first | exact HB.out | apply bAl | apply bDN | apply bD1 | refine bSe ?_ GE136.out) | exact HB.out))) : w.heap.size ≤ gb137)); have n5_ := Aside0.mk ((by rw [hg]; exact Nat.ne_of_lt (blk_lt (g := gb136) (o := .cells #[.int .i64 a0_0, .bool a0_1, .string a0_2, .bool a0_3, .string a0_4, .slice A0_5 l0_5.length c0_5] 72 (0, 0)) (by (with_reducible repeat first | refine kDN ?_ _ | refine kDr ?_ | refine kAl ?_ _); exact BK136.out)) : gb136 ≠ gb137)); have n6_ := Aside0.mk ((by rw [hg]; exact Nat.ne_of_gt (blk_lt (g := gb136) (o := .cells #[.int .i64 a0_0, .bool a0_1, .string a0_2, .bool a0_3, .string a0_4, .slice A0_5 l0_5.length c0_5] 72 (0, 0)) (by (with_reducible repeat first | refine kDN ?_ _ | refine kDr ?_ | refine kAl ?_ _); exact BK136.out)) : gb137 ≠ gb136)); clear BK136; clear HB; have BK136 := n0_; have HB := n1_; have BK137 := n2_; have GW137 := n3_; have GE137 := n4_; have NB136_137 := n5_; have NB137_136 := n6_; clear n0_ n1_ n2_ n3_ n4_ n5_ n6_; clear hb hbox hg) | ((with_reducible refine gate_dst (N := 3) rfl ?_); refine box_event ?hg (N := 3) ?hd (cs := #[.int .i64 0, .bool false, .string (⟨#[]⟩ : ByteArray), .bool false, .string (⟨#[]⟩ : ByteArray), .slice none 0 0]) (t := 56) ?hr ?_; (case hd => rfl); (case hg => rfl); (case hr => first | (go_simp; done) | (go_simp; rfl)); intro gb138 hg w5 hbox hb; have n0_ := Aside0.mk (blk_below (g := gb136) (o := .cells #[.int .i64 a0_0, .bool a0_1, .string a0_2, .bool a0_3, .string a0_4, .slice A0_5 l0_5.length c0_5] 72 (0, 0)) (by (with_reducible repeat first | refine kDN ?_ _ | refine kDr ?_ | refine kAl ?_ _); exact BK136.out) hb); have n1_ := Aside0.mk (blk_below (g := gb137) (o := .cells #[.int .i64 0, .bool false, .string (⟨#[]⟩ : ByteArray), .bool false, .string (⟨#[]⟩ : ByteArray), .slice none 0 0] 56 (0, 0)) (by (with_reducible repeat first | refine kDN ?_ _ | refine kDr ?_ | refine kAl ?_ _); exact BK137.out) hb); have n2_ := Aside0.mk (below_step (by repeat (first | (with_reducible first | exact HB.out | apply bAl | apply bDN | apply bD1 | refine bSe ?_ GE136.out | refine bSe ?_ GE137.out) | exact HB.out)) hb); have n3_ := Aside0.mk (hbox); have n4_ := Aside0.mk ((by rw [hg]; exact (bSz (by repeat (first | (with_reducible first | exact HB.out | apply bAl | apply bDN | apply bD1 | refine bSe ?_ GE136.out | refine bSe ?_ GE137.out) | exact HB.out))) : w.heap.size ≤ gb138)); have n5_ := Aside0.mk ((by rw [hg]; exact (bSz (by repeat (first | (with_reducible first | exact HB.out | apply bAl | apply bDN | apply bD1 | refine bSe ?_ GE136.out | refine bSe ?_ GE137.out) | exact HB.out))) : w.heap.size ≤ gb138)); have n6_ := Aside0.mk ((by rw [hg]; exact Nat.ne_of_lt (blk_lt (g := gb136) (o := .cells #[.int .i64 a0_0, .bool a0_1, .string a0_2, .bool a0_3, .string a0_4, .slice A0_5 l0_5.length c0_5] 72 (0, 0)) (by (with_reducible repeat first | refine kDN ?_ _ | refine kDr ?_ | refine kAl ?_ _); exact BK136.out)) : gb136 ≠ gb138)); have n7_ := Aside0.mk ((by rw [hg]; exact Nat.ne_of_gt (blk_lt (g := gb136) (o := .cells #[.int .i64 a0_0, .bool a0_1, .string a0_2, .bool a0_3, .string a0_4, .slice A0_5 l0_5.length c0_5] 72 (0, 0)) (by (with_reducible repeat first | refine kDN ?_ _ | refine kDr ?_ | refine kAl ?_ _); exact BK136.out)) : gb138 ≠ gb136)); have n8_ := Aside0.mk ((by rw [hg]; exact Nat.ne_of_lt (blk_lt (g := gb137) (o := .cells #[.int .i64 0, .bool false, .string (⟨#[]⟩ : ByteArray), .bool false, .string (⟨#[]⟩ : ByteArray), .slice none 0 0] 56 (0, 0)) (by (with_reducible repeat first | refine kDN ?_ _ | refine kDr ?_ | refine kAl ?_ _); exact BK137.out)) : gb137 ≠ gb138)); have n9_ := Aside0.mk ((by rw [hg]; exact Nat.ne_of_gt (blk_lt (g := gb137) (o := .cells #[.int .i64 0, .bool false, .string (⟨#[]⟩ : ByteArray), .bool false, .string (⟨#[]⟩ : ByteArray), .slice none 0 0] 56 (0, 0)) (by (with_reducible repeat first | refine kDN ?_ _ | refine kDr ?_ | refine kAl ?_ _); exact BK137.out)) : gb138 ≠ gb137)); clear BK136; clear BK137; clear HB; have BK136 := n0_; have BK137 := n1_; have HB := n2_; have BK138 := n3_; have GW138 := n4_; have GE138 := n5_; have NB136_138 := n6_; have NB138_136 := n7_; have NB137_138 := n8_; have NB138_137 := n9_; clear n0_ n1_ n2_ n3_ n4_ n5_ n6_ n7_ n8_ n9_; clear hb hbox hg; have hnb6 := NB136_137.out; have hnc6 := NB137_136.out; have hnb7 := NB136_138.out; have hnc7 := NB138_136.out; have hcz8_0 : w5.cell? ⟨gb136, 0, none⟩ = some (.int .i64 a0_0) := (kCe BK136.out 0).trans rfl; have hcz8_1 : w5.cell? ⟨gb136, 1, none⟩ = some (.bool a0_1) := (kCe BK136.out 1).trans rfl; have hcz8_2 : w5.cell? ⟨gb136, 2, none⟩ = some (.string a0_2) := (kCe BK136.out 2).trans rfl; have hcz8_3 : w5.cell? ⟨gb136, 3, none⟩ = some (.bool a0_3) := (kCe BK136.out 3).trans rfl; have hcz8_4 : w5.cell? ⟨gb136, 4, none⟩ = some (.string a0_4) := (kCe BK136.out 4).trans rfl; have hcz8_5 : w5.cell? ⟨gb136, 5, none⟩ = some (.slice A0_5 l0_5.length c0_5) := (kCe BK136.out 5).trans rfl; have hfz8_0 := kFr BK136.out 0; have hfz8_1 := kFr BK136.out 1; have hfz8_2 := kFr BK136.out 2; have hfz8_3 := kFr BK136.out 3; have hfz8_4 := kFr BK136.out 4; have hfz8_5 := kFr BK136.out 5; have hnb9 := NB138_137.out; have hnc9 := NB137_138.out; have hcz10_0 : w5.cell? ⟨gb138, 0, none⟩ = some (.int .i64 0) := (kCe BK138.out 0).trans rfl; have hcz10_1 : w5.cell? ⟨gb138, 1, none⟩ = some (.bool false) := (kCe BK138.out 1).trans rfl; have hcz10_2 : w5.cell? ⟨gb138, 2, none⟩ = some (.string (⟨#[]⟩ : ByteArray)) := (kCe BK138.out 2).trans rfl; have hcz10_3 : w5.cell? ⟨gb138, 3, none⟩ = some (.bool false) := (kCe BK138.out 3).trans rfl; have hcz10_4 : w5.cell? ⟨gb138, 4, none⟩ = some (.string (⟨#[]⟩ : ByteArray)) := (kCe BK138.out 4).trans rfl; have hcz10_5 : w5.cell? ⟨gb138, 5, none⟩ = some (.slice none 0 0) := (kCe BK138.out 5).trans rfl; have hfz10_0 := kFr BK138.out 0; have hfz10_1 := kFr BK138.out 1; have hfz10_2 := kFr BK138.out 2; have hfz10_3 := kFr BK138.out 3; have hfz10_4 := kFr BK138.out 4; have hfz10_5 := kFr BK138.out 5) | ((with_reducible refine gate_callee (f := 56) rfl ?_); refine goesL_ (some 21) rfl rfl Try.func56 (by kernel_rfl) rfl #[.slice A0_5 l0_5.length c0_5] rfl (by (try simp only [List.map_toArray, List.map_cons, List.map_nil]); first | done | rfl | (simp only [List.length_drop, List.length_take]; rfl)) ?_; (with_reducible refine (laws_toHeadS.calls k _ _ l0_5 t139 _ ?side1 ?side2 A2.out).mono ?_); (case side1 => exact Kd.C_below HR0_5.out (by repeat (first | (with_reducible first | exact HB.out | apply bAl | apply bDN | apply bD1 | refine bSe ?_ GE136.out | refine bSe ?_ GE137.out | refine bSe ?_ GE138.out) | exact HB.out))); (case side2 => exact HC0_5.out); rintro e w11 ⟨v140, rfl, ho0, hb⟩; refine ⟨_, rfl, ?_⟩; have n0_ := Aside0.mk (Kd.R_lower ho0 (bSz (by repeat (first | (with_reducible first | exact HB.out | apply bAl | apply bDN | apply bD1 | refine bSe ?_ GE136.out | refine bSe ?_ GE137.out | refine bSe ?_ GE138.out) | exact HB.out)))); have n1_ := Aside0.mk (blk_below (g := gb136) (o := .cells #[.int .i64 a0_0, .bool a0_1, .string a0_2, .bool a0_3, .string a0_4, .slice A0_5 l0_5.length c0_5] 72 (0, 0)) (by (with_reducible repeat first | refine kDN ?_ _ | refine kDr ?_ | refine kAl ?_ _); refine blk_far ?_ NB136_138.out _; (with_reducible repeat first | refine kDN ?_ _ | refine kDr ?_ | refine kAl ?_ _); refine blk_far ?_ NB136_138.out _; (with_reducible repeat first | refine kDN ?_ _ | refine kDr ?_ | refine kAl ?_ _); refine blk_far ?_ NB136_138.out _; (with_reducible repeat first | refine kDN ?_ _ | refine kDr ?_ | refine kAl ?_ _); refine blk_far ?_ NB136_138.out _; (with_reducible repeat first | refine kDN ?_ _ | refine kDr ?_ | refine kAl ?_ _); refine blk_far ?_ NB136_138.out _; (with_reducible repeat first | refine kDN ?_ _ | refine kDr ?_ | refine kAl ?_ _); exact BK136.out) hb); have n2_ := Aside0.mk (blk_below (g := gb137) (o := .cells #[.int .i64 0, .bool false, .string (⟨#[]⟩ : ByteArray), .bool false, .string (⟨#[]⟩ : ByteArray), .slice none 0 0] 56 (0, 0)) (by (with_reducible repeat first | refine kDN ?_ _ | refine kDr ?_ | refine kAl ?_ _); refine blk_far ?_ NB137_138.out _; (with_reducible repeat first | refine kDN ?_ _ | refine kDr ?_ | refine kAl ?_ _); refine blk_far ?_ NB137_138.out _; (with_reducible repeat first | refine kDN ?_ _ | refine kDr ?_ | refine kAl ?_ _); refine blk_far ?_ NB137_138.out _; (with_reducible repeat first | refine kDN ?_ _ | refine kDr ?_ | refine kAl ?_ _); refine blk_far ?_ NB137_138.out _; (with_reducible repeat first | refine kDN ?_ _ | refine kDr ?_ | refine kAl ?_ _); refine blk_far ?_ NB137_138.out _; (with_reducible repeat first | refine kDN ?_ _ | refine kDr ?_ | refine kAl ?_ _); exact BK137.out) hb); have n3_ := Aside0.mk (blk_below (g := gb138) (o := .cells #[.int .i64 a0_0, .bool a0_1, .string a0_2, .bool a0_3, .string a0_4, .slice none 0 0] 56 (0, 0)) (by (with_reducible repeat first | refine kDN ?_ _ | refine kDr ?_ | refine kAl ?_ _); refine blk_put (cs := #[.int .i64 a0_0, .bool a0_1, .string a0_2, .bool a0_3, .string (⟨#[]⟩ : ByteArray), .slice none 0 0]) ?_ 4 _ rfl; (with_reducible repeat first | refine kDN ?_ _ | refine kDr ?_ | refine kAl ?_ _); refine blk_put (cs := #[.int .i64 a0_0, .bool a0_1, .string a0_2, .bool false, .string (⟨#[]⟩ : ByteArray), .slice none 0 0]) ?_ 3 _ rfl; (with_reducible repeat first | refine kDN ?_ _ | refine kDr ?_ | refine kAl ?_ _); refine blk_put (cs := #[.int .i64 a0_0, .bool a0_1, .string (⟨#[]⟩ : ByteArray), .bool false, .string (⟨#[]⟩ : ByteArray), .slice none 0 0]) ?_ 2 _ rfl; (with_reducible repeat first | refine kDN ?_ _ | refine kDr ?_ | refine kAl ?_ _); refine blk_put (cs := #[.int .i64 a0_0, .bool false, .string (⟨#[]⟩ : ByteArray), .bool false, .string (⟨#[]⟩ : ByteArray), .slice none 0 0]) ?_ 1 _ rfl; (with_reducible repeat first | refine kDN ?_ _ | refine kDr ?_ | refine kAl ?_ _); refine blk_put (cs := #[.int .i64 0, .bool false, .string (⟨#[]⟩ : ByteArray), .bool false, .string (⟨#[]⟩ : ByteArray), .slice none 0 0]) ?_ 0 _ rfl; (with_reducible repeat first | refine kDN ?_ _ | refine kDr ?_ | refine kAl ?_ _); exact BK138.out) hb); have n4_ := Aside0.mk (below_step (by repeat (first | (with_reducible first | exact HB.out | apply bAl | apply bDN | apply bD1 | refine bSe ?_ GE136.out | refine bSe ?_ GE137.out | refine bSe ?_ GE138.out) | exact HB.out)) hb); clear BK136; clear BK137; clear BK138; clear HB; have HO141 := n0_; have BK136 := n1_; have BK137 := n2_; have BK138 := n3_; have HB := n4_; clear n0_ n1_ n2_ n3_ n4_; (try clear hb); (try clear hb2); (try clear hk); (try clear hi); (try clear ho0); obtain ⟨Ao12, co12, eo12⟩ := Kd.R_slice HO141.out; subst eo12; have hcz13_0 : w11.cell? ⟨gb138, 0, none⟩ = some (.int .i64 a0_0) := (kCe BK138.out 0).trans rfl; have hcz13_1 : w11.cell? ⟨gb138, 1, none⟩ = some (.bool a0_1) := (kCe BK138.out 1).trans rfl; have hcz13_2 : w11.cell? ⟨gb138, 2, none⟩ = some (.string a0_2) := (kCe BK138.out 2).trans rfl; have hcz13_3 : w11.cell? ⟨gb138, 3, none⟩ = some (.bool a0_3) := (kCe BK138.out 3).trans rfl; have hcz13_4 : w11.cell? ⟨gb138, 4, none⟩ = some (.string a0_4) := (kCe BK138.out 4).trans rfl; have hcz13_5 : w11.cell? ⟨gb138, 5, none⟩ = some (.slice none 0 0) := (kCe BK138.out 5).trans rfl; have hfz13_0 := kFr BK138.out 0; have hfz13_1 := kFr BK138.out 1; have hfz13_2 := kFr BK138.out 2; have hfz13_3 := kFr BK138.out 3; have hfz13_4 := kFr BK138.out 4; have hfz13_5 := kFr BK138.out 5; have hcz14_0 : w11.cell? ⟨gb137, 0, none⟩ = some (.int .i64 0) := (kCe BK137.out 0).trans rfl; have hcz14_1 : w11.cell? ⟨gb137, 1, none⟩ = some (.bool false) := (kCe BK137.out 1).trans rfl; have hcz14_2 : w11.cell? ⟨gb137, 2, none⟩ = some (.string (⟨#[]⟩ : ByteArray)) := (kCe BK137.out 2).trans rfl; have hcz14_3 : w11.cell? ⟨gb137, 3, none⟩ = some (.bool false) := (kCe BK137.out 3).trans rfl; have hcz14_4 : w11.cell? ⟨gb137, 4, none⟩ = some (.string (⟨#[]⟩ : ByteArray)) := (kCe BK137.out 4).trans rfl; have hcz14_5 : w11.cell? ⟨gb137, 5, none⟩ = some (.slice none 0 0) := (kCe BK137.out 5).trans rfl; have hfz14_0 := kFr BK137.out 0; have hfz14_1 := kFr BK137.out 1; have hfz14_2 := kFr BK137.out 2; have hfz14_3 := kFr BK137.out 3; have hfz14_4 := kFr BK137.out 4; have hfz14_5 := kFr BK137.out 5))
 refine bodyPost_ret (results_cell_row rfl _ _ gb137 56 #[.int .i64 a0_0, .bool a0_1, .string a0_2, .bool a0_3, .string a0_4, .slice Ao12 t139.length co12] (0, 0) _ rfl (by (with_reducible repeat first | refine kDN ?_ _ | refine kDr ?_ | refine kAl ?_ _); refine blk_put (cs := #[.int .i64 a0_0, .bool a0_1, .string a0_2, .bool a0_3, .string a0_4, .slice none 0 0]) ?_ 5 _ rfl; (with_reducible repeat first | refine kDN ?_ _ | refine kDr ?_ | refine kAl ?_ _); refine blk_put (cs := #[.int .i64 a0_0, .bool a0_1, .string a0_2, .bool a0_3, .string (⟨#[]⟩ : ByteArray), .slice none 0 0]) ?_ 4 _ rfl; (with_reducible repeat first | refine kDN ?_ _ | refine kDr ?_ | refine kAl ?_ _); refine blk_put (cs := #[.int .i64 a0_0, .bool a0_1, .string a0_2, .bool false, .string (⟨#[]⟩ : ByteArray), .slice none 0 0]) ?_ 3 _ rfl; (with_reducible repeat first | refine kDN ?_ _ | refine kDr ?_ | refine kAl ?_ _); refine blk_put (cs := #[.int .i64 a0_0, .bool a0_1, .string (⟨#[]⟩ : ByteArray), .bool false, .string (⟨#[]⟩ : ByteArray), .slice none 0 0]) ?_ 2 _ rfl; (with_reducible repeat first | refine kDN ?_ _ | refine kDr ?_ | refine kAl ?_ _); refine blk_put (cs := #[.int .i64 a0_0, .bool false, .string (⟨#[]⟩ : ByteArray), .bool false, .string (⟨#[]⟩ : ByteArray), .slice none 0 0]) ?_ 1 _ rfl; (with_reducible repeat first | refine kDN ?_ _ | refine kDr ?_ | refine kAl ?_ _); refine blk_put (cs := #[.int .i64 0, .bool false, .string (⟨#[]⟩ : ByteArray), .bool false, .string (⟨#[]⟩ : ByteArray), .slice none 0 0]) ?_ 0 _ rfl; (with_reducible repeat first | refine kDN ?_ _ | refine kDr ?_ | refine kAl ?_ _); refine blk_far ?_ NB137_138.out _; (with_reducible repeat first | refine kDN ?_ _ | refine kDr ?_ | refine kAl ?_ _); exact BK137.out) Try.underlying56 rfl (by kernel_rfl)) rfl ?_
 exact ⟨_, by first | rfl | (simp [errW_none, errW_some] <;> rfl) | (simp [*, errW_none, errW_some] <;> rfl), by (with_reducible repeat (first | apply Kd.R_alloc | apply Kd.R_drewN | apply Kd.R_drew)); exact Kd.R_mono (Kd.R_far (p := ⟨gb137, 5, none⟩) (Kd.R_far (p := ⟨gb137, 4, none⟩) (Kd.R_far (p := ⟨gb137, 3, none⟩) (Kd.R_far (p := ⟨gb137, 2, none⟩) (Kd.R_far (p := ⟨gb137, 1, none⟩) (Kd.R_far (p := ⟨gb137, 0, none⟩) (Kd.R_far (p := ⟨gb138, 5, none⟩) (Kd.R_types (Kd.R_types HO141.out BK138.out (by decide)) BK137.out (by decide)) (fun _ hk => hk.1.2) (.slice Ao12 t139.length co12)) (fun _ hk => hk.2) (.int .i64 a0_0)) (fun _ hk => hk.2) (.bool a0_1)) (fun _ hk => hk.2) (.string a0_2)) (fun _ hk => hk.2) (.bool a0_3)) (fun _ hk => hk.2) (.string a0_4)) (fun _ hk => hk.2) (.slice Ao12 t139.length co12)) (fun _ hk => trivial), by repeat (first | (with_reducible first | exact HB.out | apply bAl | apply bDN | apply bD1 | refine bSe ?_ GE136.out | refine bSe ?_ GE137.out | refine bSe ?_ GE138.out) | exact HB.out)⟩

end Go.Proofs.Ytjbcgflpeomkfaa.F

namespace Go.Proofs.Ytjbcgflpeomkfaa.F
open Go.RowKit Go.Proofs.YtjbcgflpeomkfaaW.PrintWords Go.Proofs.YtjbcgflpeomkfaaW.PrintLast Go.Proofs.YtjbcgflpeomkfaaW.PrintMore
attribute [local go_sem] max2_int min2_int max_two min_two max_three min_three max_four min_four   -- for this text's walks alone
attribute [local go_sem high] Go.Proofs.Ytjbcgflpeomkfaa.Add.string_leq Go.Proofs.Ytjbcgflpeomkfaa.Add.string_gtr
attribute [local go_sem] Go.run_store
open Go.Proofs.YtjbcgflpeomkfaaW.PrintWords renaming pw_below_drewN → bDN, below_drew1 → bD1, below_alloc → bAl
set_option linter.unusedVariables false
set_option linter.unusedSimpArgs false

/-! ### laws_toRecordS: function 32 -/
def laws_toRecordS.l0 : Nat → List (S72) → List (S56) → Int → Option ((List (S56)))
 | 0, _, _, _ => none
 | k + 1, x0, x3, x4 => if x4 < (x0.length : Int) then (if 0 ≤ x4 then ((laws_toRecord.f k ((rd_T72 x0 x4).f0) ((rd_T72 x0 x4).f1) ((rd_T72 x0 x4).f2) ((rd_T72 x0 x4).f3) ((rd_T72 x0 x4).f4) ((rd_T72 x0 x4).f5)).bind fun bt146 => (if x4 < (x3.length : Int) then (laws_toRecordS.l0 k x0 (x3.set (x4 : Int).toNat (⟨bt146.1, bt146.2.1, bt146.2.2.1, bt146.2.2.2.1, bt146.2.2.2.2.1, bt146.2.2.2.2.2⟩ : S56)) (wrap64 (x4 + 1))) else (none))) else (none)) else (some x3)
def laws_toRecordS.f (k : Nat) (l0 : List (S72)) : Option ((List (S56))) := if 0 ≤ (l0.length : Int) then (if ((l0.length : Int) : Int).toNat ≤ 3518437208883 then (laws_toRecordS.l0 k l0 (List.replicate ((l0.length : Int) : Int).toNat z56) 0) else (none)) else (none)
theorem laws_toRecordS.mono_l : ∀ k, (∀ y0 y1 y2, LeO (laws_toRecordS.l0 k y0 y1 y2) (laws_toRecordS.l0 (k + 1) y0 y1 y2))
 | 0 => fun _ _ _ r h => by simp [laws_toRecordS.l0] at h
 | k + 1 => by
  have ih0 := laws_toRecordS.mono_l k
  ·
   intro y0 y1 y2
   unfold laws_toRecordS.l0
   repeat' first
   | (with_reducible exact ih0 _ _ _)
   | (with_reducible exact laws_toRecord.mono _ _ _ _ _ _ _)
   | (with_reducible exact LeO.refl _)
   | (with_reducible exact LeO.none _)
   | (with_reducible refine LeO.ite ?_ ?_)
   | (with_reducible refine LeO.bind ?_ (fun _ => ?_))
   | exact ih0 _ _ _
   | exact laws_toRecord.mono _ _ _ _ _ _ _
   | exact LeO.none _
   | refine LeO.ite ?_ ?_
   | refine LeO.bind ?_ (fun _ => ?_)
theorem laws_toRecordS.mono : ∀ a0 k, LeO (laws_toRecordS.f k a0) (laws_toRecordS.f (k + 1) a0) := by
 intro a0 k
 have ih0 := laws_toRecordS.mono_l k
 unfold laws_toRecordS.f
 repeat' first
   | (with_reducible exact ih0 _ _ _)
   | (with_reducible exact laws_toRecord.mono _ _ _ _ _ _ _)
   | (with_reducible exact LeO.refl _)
   | (with_reducible exact LeO.none _)
   | (with_reducible refine LeO.ite ?_ ?_)
   | (with_reducible refine LeO.bind ?_ (fun _ => ?_))
   | exact ih0 _ _ _
   | exact laws_toRecord.mono _ _ _ _ _ _ _
   | exact LeO.none _
   | refine LeO.ite ?_ ?_
   | refine LeO.bind ?_ (fun _ => ?_)
set_option maxHeartbeats 8000000 in
set_option maxRecDepth 100000 in
theorem laws_toRecordS.calls (k : Nat) (A0 : Option Addr) (c0 : Nat) (l0 : List (S72)) (r : List (S56)) (w : World) (hr0 : Kd.C k72 w A0 l0.length l0) (hc0 : l0.length ≤ c0) (h : laws_toRecordS.f k l0 = some r) :
  Calls Try.prog 32 #[.slice A0 l0.length c0] w fun e w' => ∃ v0_ : Value, e = .returned (v0_) ∧ Kd.S k56 56 w' w.heap.size (fun _ => True) v0_ r ∧ Below w.heap.size w w' := by
 have hu72 := Try.underlying72
 have hu56 := Try.underlying56
 have HR0 := Aside0.mk hr0
 have HC0 := Aside0.mk hc0
 clear hr0 hc0
 have HB := Aside0.mk (Below.refl w.heap.size w)
 have H : (if 0 ≤ (l0.length : Int) then (if ((l0.length : Int) : Int).toNat ≤ 3518437208883 then (laws_toRecordS.l0 k l0 (List.replicate ((l0.length : Int) : Int).toNat z56) 0) else (none)) else (none)) = some r := h
 clear h
 by_cases c2 : 0 ≤ (l0.length : Int)
 ·
  rw [if_pos c2] at H
  have c2b0 := eq_true c2
  have c2b1 : decide (0 ≤ (l0.length : Int)) = true := decide_eq_true c2
  clear c2
  by_cases c3 : ((l0.length : Int) : Int).toNat ≤ 3518437208883
  ·
   rw [if_pos c3] at H
   have c3b0 := eq_true c3
   have c3b1 : decide (((l0.length : Int) : Int).toNat ≤ 3518437208883) = true := decide_eq_true c3
   clear c3
   obtain ⟨y142, hy142⟩ : ∃ y_ : List (S56), y_ = (List.replicate ((l0.length : Int) : Int).toNat z56) := ⟨_, rfl⟩
   replace H : (laws_toRecordS.l0 k l0 y142 0) = some r := by first | (rw [hy142]; with_reducible exact H) | (have H2_ := (Option.bind_some _ _).symm.trans H; rw [hy142]; with_reducible exact H2_) | (have H2_ := (Option.bind_some _ _).symm.trans H; with_reducible exact H2_) | with_reducible exact H | (rw [hy142]; exact H) | exact H
   have Ny142 := Aside0.mk hy142
   clear hy142
   have H' := Aside0.mk H
   clear H
   go_enter Try.func32, Try.ntmps32
   go_wp2_with (first | ((with_reducible refine gate_dst (N := 7) rfl ?_); refine Kd.S_make k56 _ 56 rfl (N := 7) rfl 27 _ _ rfl (l0.length : Int) rfl rfl Try.underlying27 (.agg #[(.int .i64 0), (.bool false), (.string ⟨#[]⟩), (.bool false), (.string ⟨#[]⟩), (.slice none 0 0)]) 80 info56 rfl (by decide) (by omega) z56 (ok := fun _ => True) (okp := fun _ => True) (k56_mkM _ _ _ z56 (Kd.R_nil _ _ _ _ _)) (fun _ hk => hk) trivial (of_decide_eq_true (by first | (with_reducible assumption) | assumption)) (Nat.le_trans (Nat.mul_le_mul_right _ (of_decide_eq_true (by first | (with_reducible assumption) | assumption) : (l0.length : Int).toNat ≤ 3518437208883)) (by omega)) (Below.refl _ _) (Nat.le_refl _) ?_; intro v143 w4 ho5 hb hg_ hnew_; clear hg_ hnew_; (first | rw [← Ny142.out] at ho5 | (simp only [Int.reduceToNat] at ho5; rw [← Ny142.out] at ho5)); have n0_ := Aside0.mk (Kd.S_lower ho5 (below_size (by repeat (first | (with_reducible first | exact HB.out | apply bAl | apply bDN | apply bD1) | exact HB.out)))); have n1_ := Aside0.mk (below_step (by repeat (first | (with_reducible first | exact HB.out | apply bAl | apply bDN | apply bD1) | exact HB.out)) hb); clear HB; have HO144 := n0_; have HB := n1_; clear n0_ n1_; clear hb ho5))
   go_loopg [4] k (fun kq v4 w' => ∃ (x3_1 : List (S56)) (x4_1 : Int), v4 = .int .i64 x4_1 ∧ Aside0 (laws_toRecordS.l0 kq l0 x3_1 x4_1 = some r) ∧ Aside0 (kq ≤ k) ∧ Aside0 (Kd.S k56 56 w' w.heap.size (fun _ => True) v143 x3_1) ∧ Aside0 (Below w.heap.size w w'))
   case atStart => exact ⟨(y142), (0), (by first | rfl | (simp; done) | (simp [*]; done) | exact Go.Proofs.Ytjbcgflpeomkfaa.Add.isEmpty_bne _), H', ⟨Nat.le_refl _⟩, ⟨by (with_reducible repeat (first | apply Kd.S_alloc | apply Kd.S_drewN | apply Kd.S_drew)); exact HO144.out⟩, ⟨by repeat (first | (with_reducible first | exact HB.out | apply bAl | apply bDN | apply bD1) | exact HB.out)⟩⟩
   case round =>
    clear H'
    try clear c2
    try clear c2b0
    try clear c2b1
    try clear p2
    try clear c3
    try clear c3b0
    try clear c3b1
    obtain ⟨x3_1, x4_1, rfl, HA, HK1, HO_3, HB⟩ := hrel
    cases gk with
    | zero => exact absurd HA.out (by simp [laws_toRecordS.l0])
    | succ k1 =>
     have H := HA.out
     clear HA
     simp only [laws_toRecordS.l0] at H
     by_cases c6 : x4_1 < (l0.length : Int)
     ·
      rw [if_pos c6] at H
      have c6b0 : decide (x4_1 < (l0.length : Int)) = true := decide_eq_true c6
      clear c6
      by_cases c7 : 0 ≤ x4_1
      ·
       rw [if_pos c7] at H
       have c7b0 : decide (0 ≤ x4_1) = true := decide_eq_true c7
       clear c7
       replace H := Option.bind_eq_some_iff.mp H
       obtain ⟨⟨t146, t147, t148, t149, t150, t151⟩, A80, H⟩ := H
       have A8 := Aside0.mk A80
       clear A80
       by_cases c9 : x4_1 < (x3_1.length : Int)
       ·
        rw [if_pos c9] at H
        have c9b0 : decide (x4_1 < (x3_1.length : Int)) = true := decide_eq_true c9
        clear c9
        obtain ⟨y154, hy154⟩ : ∃ y_ : List (S56), y_ = (x3_1.set (x4_1 : Int).toNat (⟨t146, t147, t148, t149, t150, t151⟩ : S56)) := ⟨_, rfl⟩
        replace H : (laws_toRecordS.l0 k1 l0 y154 (wrap64 (x4_1 + 1))) = some r := by first | (rw [hy154]; with_reducible exact H) | (have H2_ := (Option.bind_some _ _).symm.trans H; rw [hy154]; with_reducible exact H2_) | (have H2_ := (Option.bind_some _ _).symm.trans H; with_reducible exact H2_) | with_reducible exact H | (rw [hy154]; exact H) | exact H
        have Ny154 := Aside0.mk hy154
        clear hy154
        have H' := Aside0.mk H
        clear H
        have p145 : 0 ≤ (x4_1 : Int) := of_decide_eq_true (by first | (with_reducible assumption) | assumption)
        have q145 : x4_1 < (l0.length : Int) := of_decide_eq_true (by first | (with_reducible assumption) | assumption)
        obtain ⟨ad145, A145_5, c145_5, e145, hx145_0, hx145_1, hx145_2, hx145_3, hx145_4, hx145_5, hl145_5, hi145_5⟩ := at_T72 HR0.out x4_1 p145 q145
        cases e145
        replace hx145_0 := (HB.out.cell (World.block_lt_of_cell? w _ hx145_0)).trans hx145_0
        replace hx145_1 := (HB.out.cell (World.block_lt_of_cell? w _ hx145_1)).trans hx145_1
        replace hx145_2 := (HB.out.cell (World.block_lt_of_cell? w _ hx145_2)).trans hx145_2
        replace hx145_3 := (HB.out.cell (World.block_lt_of_cell? w _ hx145_3)).trans hx145_3
        replace hx145_4 := (HB.out.cell (World.block_lt_of_cell? w _ hx145_4)).trans hx145_4
        replace hx145_5 := (HB.out.cell (World.block_lt_of_cell? w _ hx145_5)).trans hx145_5
        have HR145_5 := Aside0.mk hi145_5
        have HC145_5 := Aside0.mk hl145_5
        clear hi145_5 hl145_5
        replace p145 := eq_true p145
        replace q145 := eq_true q145
        go_wp2_with (first | ((with_reducible refine gate_callee (f := 47) rfl ?_); refine goesL_ (some 20) rfl rfl Try.func47 (by kernel_rfl) rfl #[.agg #[.int .i64 ((rd_T72 l0 x4_1).f0), .bool ((rd_T72 l0 x4_1).f1), .string ((rd_T72 l0 x4_1).f2), .bool ((rd_T72 l0 x4_1).f3), .string ((rd_T72 l0 x4_1).f4), .slice A145_5 ((rd_T72 l0 x4_1).f5).length c145_5]] rfl (by (try simp only [List.map_toArray, List.map_cons, List.map_nil]); first | done | rfl | (simp only [List.length_drop, List.length_take]; rfl)) ?_; (with_reducible refine (laws_toRecord.calls k1 ((rd_T72 l0 x4_1).f0) ((rd_T72 l0 x4_1).f1) ((rd_T72 l0 x4_1).f2) ((rd_T72 l0 x4_1).f3) ((rd_T72 l0 x4_1).f4) _ _ ((rd_T72 l0 x4_1).f5) t146 t147 t148 t149 t150 t151 _ ?side1 ?side2 A8.out).mono ?_); (case side1 => repeat (first | exact (Kd.C_below HR145_5.out HB.out) | (with_reducible refine Kd.C_alloc ?_ _) | (with_reducible refine Kd.C_drewN ?_ _) | (with_reducible refine Kd.C_drew ?_))); (case side2 => exact HC145_5.out); rintro e w11 ⟨v152, rfl, ho0, hb⟩; have hone0_ := (Kd.R_val ho0).2; refine ⟨_, rfl, ?_⟩; have n0_ := Aside0.mk (Kd.S_elder' (by (with_reducible repeat (first | apply Kd.S_alloc | apply Kd.S_drewN | apply Kd.S_drew)); exact HO_3.out) (Kd.R_base ho0) hb); have n1_ := Aside0.mk (Kd.R_lower ho0 (below_size (by repeat (first | (with_reducible first | exact HB.out | apply bAl | apply bDN | apply bD1) | exact HB.out)))); have n2_ := Aside0.mk (below_step (by repeat (first | (with_reducible first | exact HB.out | apply bAl | apply bDN | apply bD1) | exact HB.out)) hb); clear HO_3; clear HB; have HO_3 := n0_; have HO153 := n1_; have HB := n2_; clear n0_ n1_ n2_; (try clear hb); (try clear hb2); (try clear hk); (try clear hi); (try clear ho0); have p10 : 0 ≤ (x4_1 : Int) := of_decide_eq_true (by first | (with_reducible assumption) | assumption); have q10 : (x4_1 : Int) < ((x3_1.length : Int) : Int) := of_decide_eq_true (by first | (with_reducible assumption) | assumption); obtain ⟨go10, co10, eo10, gb10, gl10, cl10, HG10⟩ := Kd.S_form HO_3.out (by omega); (first | cases eo10 | (injection eo10 with ea_ en_ ec_; (first | subst ea_ | (injection ea_ with ea_; subst ea_)); subst ec_; clear en_)); have GB10 := Aside0.mk gb10; have GG10 := Aside0.mk HG10; clear gb10 gl10 HG10; obtain ⟨_, ce10, hcl10, hM10, hcc10, hfr10, _, _⟩ := Kd.S_elem HO_3.out z56 (x4_1 : Int) p10 q10; obtain ⟨ve10_5, rfl, ge10_5⟩ := k56_openM hM10; have hx10_0 : w11.cell? ⟨go10, (x4_1 : Int).toNat * 6, none⟩ = some (.int .i64 ((rd_T56 x3_1 x4_1).f0)) := hcc10 0 _ rfl; have hx10_1 : w11.cell? ⟨go10, (x4_1 : Int).toNat * 6 + 1, none⟩ = some (.bool ((rd_T56 x3_1 x4_1).f1)) := hcc10 1 _ rfl; have hx10_2 : w11.cell? ⟨go10, (x4_1 : Int).toNat * 6 + 2, none⟩ = some (.string ((rd_T56 x3_1 x4_1).f2)) := hcc10 2 _ rfl; have hx10_3 : w11.cell? ⟨go10, (x4_1 : Int).toNat * 6 + 3, none⟩ = some (.bool ((rd_T56 x3_1 x4_1).f3)) := hcc10 3 _ rfl; have hx10_4 : w11.cell? ⟨go10, (x4_1 : Int).toNat * 6 + 4, none⟩ = some (.string ((rd_T56 x3_1 x4_1).f4)) := hcc10 4 _ rfl; have hx10_5 : w11.cell? ⟨go10, (x4_1 : Int).toNat * 6 + 5, none⟩ = some (ve10_5) := hcc10 5 _ rfl; have hf10_0 : w11.frozen? ⟨go10, (x4_1 : Int).toNat * 6, none⟩ = false := hfr10 0; have hf10_1 : w11.frozen? ⟨go10, (x4_1 : Int).toNat * 6 + 1, none⟩ = false := hfr10 1; have hf10_2 : w11.frozen? ⟨go10, (x4_1 : Int).toNat * 6 + 2, none⟩ = false := hfr10 2; have hf10_3 : w11.frozen? ⟨go10, (x4_1 : Int).toNat * 6 + 3, none⟩ = false := hfr10 3; have hf10_4 : w11.frozen? ⟨go10, (x4_1 : Int).toNat * 6 + 4, none⟩ = false := hfr10 4; have hf10_5 : w11.frozen? ⟨go10, (x4_1 : Int).toNat * 6 + 5, none⟩ = false := hfr10 5; clear hcl10 hcc10 hfr10 hM10; replace p10 := eq_true p10; replace q10 := eq_true q10; have n_ := Aside0.mk (Kd.S_mono (ok' := (fun k_ => some k_ ≠ (v152 : Value).ownBlock)) HO_3.out (fun k_ hk => hk.2)); clear HO_3; have HO_3 := n_; clear n_; have HX12 := Aside0.mk (show Kd.S k56 56 w11 w.heap.size (fun k_ => ((fun _ => True)) k_ ∧ ¬ ((fun k_ => some k_ = (v152 : Value).ownBlock)) k_) (.slice (some ⟨go10, 0, none⟩) x3_1.length co10) x3_1 from (by (with_reducible repeat (first | apply Kd.S_alloc | apply Kd.S_drewN | apply Kd.S_drew)); exact Kd.S_mono HO_3.out (fun k_ hk => ⟨trivial, fun e_ => hk e_⟩))); obtain ⟨oki12, ce12, hcl12, hM12, hcc12, hfr12, hoki12, hH12⟩ := Kd.S_elem HX12.out z56 (x4_1 : Int) (of_decide_eq_true (by first | (with_reducible assumption) | assumption)) (by have h_ : (x4_1 : Int) < ((x3_1.length : Int) : Int) := of_decide_eq_true (by first | (with_reducible assumption) | assumption); first | exact h_ | (have e_ := (Kd.S_reads' HO_3.out).1; omega) | simpa using h_); obtain ⟨ve12_5, rfl, ge12_5⟩ := k56_openM hM12; have HP12 := Kd.S_seg hH12 (of_decide_eq_true (by first | (with_reducible assumption) | assumption)) (by have h_ : (x4_1 : Int) < ((x3_1.length : Int) : Int) := of_decide_eq_true (by first | (with_reducible assumption) | assumption); first | exact h_ | (have e_ := (Kd.S_reads' HO_3.out).1; omega) | simpa using h_) (seg := [.int .i64 t146, .bool t147, .string t148, .bool t149, .string t150, v152]) (j := 0) (show 6 ≤ 6 from by decide) (x' := (⟨t146, t147, t148, t149, t150, t151⟩ : S56)) (k56_mkM _ _ _ (⟨t146, t147, t148, t149, t150, t151⟩ : S56) (Kd.R_mono (Kd.R_tight rfl (Kd.R_mono (ok' := fun k_ => ((fun _ => True)) k_ ∧ k_ ≠ go10) (Kd.R_apart' (HO153.out) (Kd.S_typed HO_3.out) (by decide)) (fun k_ hk => ⟨trivial, fun e_ => (hk.2) (by rw [e_]; rfl)⟩))) (fun _ h_ => Or.inr (h_)))) (fun _ hk => hk) (fun k_ hk_ => ((Kd.R_mono (ok' := fun k_ => ((fun _ => True)) k_ ∧ k_ ≠ go10) (Kd.R_apart' (HO153.out) (Kd.S_typed HO_3.out) (by decide)) (fun k_ hk => ⟨trivial, fun e_ => (hk.2) (by rw [e_]; rfl)⟩))).1 k_ hk_.symm); have hx12_0 := hcc12 0 _ rfl; (try simp only [show (k56).sz = 6 from rfl, Nat.mul_one, Nat.add_zero] at hx12_0); have hf12_0 := hfr12 0; (try simp only [show (k56).sz = 6 from rfl, Nat.mul_one, Nat.add_zero] at hf12_0); have hx12_1 := hcc12 1 _ rfl; (try simp only [show (k56).sz = 6 from rfl, Nat.mul_one, Nat.add_zero] at hx12_1); have hf12_1 := hfr12 1; (try simp only [show (k56).sz = 6 from rfl, Nat.mul_one, Nat.add_zero] at hf12_1); have hx12_2 := hcc12 2 _ rfl; (try simp only [show (k56).sz = 6 from rfl, Nat.mul_one, Nat.add_zero] at hx12_2); have hf12_2 := hfr12 2; (try simp only [show (k56).sz = 6 from rfl, Nat.mul_one, Nat.add_zero] at hf12_2); have hx12_3 := hcc12 3 _ rfl; (try simp only [show (k56).sz = 6 from rfl, Nat.mul_one, Nat.add_zero] at hx12_3); have hf12_3 := hfr12 3; (try simp only [show (k56).sz = 6 from rfl, Nat.mul_one, Nat.add_zero] at hf12_3); have hx12_4 := hcc12 4 _ rfl; (try simp only [show (k56).sz = 6 from rfl, Nat.mul_one, Nat.add_zero] at hx12_4); have hf12_4 := hfr12 4; (try simp only [show (k56).sz = 6 from rfl, Nat.mul_one, Nat.add_zero] at hf12_4); have hx12_5 := hcc12 5 _ rfl; (try simp only [show (k56).sz = 6 from rfl, Nat.mul_one, Nat.add_zero] at hx12_5); have hf12_5 := hfr12 5; (try simp only [show (k56).sz = 6 from rfl, Nat.mul_one, Nat.add_zero] at hf12_5); clear hcl12 hcc12 hfr12 hM12 hoki12 hH12) | ((with_reducible refine gate_store (t := 56) (p := 21) rfl ?_); refine store_event (t := 56) (p := 21) (v := ?vo_w13) (w1 := ((((((w11.setCell ⟨go10, (x4_1 : Int).toNat * 6, none⟩ (.int .i64 t146)).setCell ⟨go10, (x4_1 : Int).toNat * 6 + 1, none⟩ (.bool t147)).setCell ⟨go10, (x4_1 : Int).toNat * 6 + 2, none⟩ (.string t148)).setCell ⟨go10, (x4_1 : Int).toNat * 6 + 3, none⟩ (.bool t149)).setCell ⟨go10, (x4_1 : Int).toNat * 6 + 4, none⟩ (.string t150)).setCell ⟨go10, (x4_1 : Int).toNat * 6 + 5, none⟩ (v152))) ?hg ?ho ?hn ?hr ?_; (case ho => rfl); (case hg => rfl); (case hn => rfl); (case hr => first | (go_simp; done) | (go_simp; rfl)); intro w13 hw; have hg : w11.grownBy w13 (some go10) := (by rw [hw]; exact HP12.2); have hp_ : Kd.S k56 56 w13 w.heap.size (fun _ => True) (.slice (some ⟨go10, 0, none⟩) x3_1.length co10) y154 := (by rw [hw, Ny154.out]; exact HP12.1); clear HP12; have n0_ := Aside0.mk (hp_); have n1_ := Aside0.mk ((by rw [hw]; exact below_set (below_set (below_set (below_set (below_set (below_set (HB.out) GB10.out) GB10.out) GB10.out) GB10.out) GB10.out) GB10.out : Below w.heap.size w w13)); clear HO_3; clear HB; clear HO153; have HO_3 := n0_; have HB := n1_; clear n0_ n1_; clear hg hw hp_))
        go_roundg k1
        case measure => have := HK1.out; omega
        case rel => exact ⟨(y154), (wrap64 (x4_1 + 1)), (by first | rfl | (simp; done) | (simp [*]; done) | exact Go.Proofs.Ytjbcgflpeomkfaa.Add.isEmpty_bne _), H', ⟨by have := HK1.out; omega⟩, ⟨by (with_reducible repeat (first | apply Kd.S_alloc | apply Kd.S_drewN | apply Kd.S_drew)); exact HO_3.out⟩, ⟨by repeat (first | (with_reducible first | exact HB.out | apply bAl | apply bDN | apply bD1) | exact HB.out)⟩⟩
       ·
        rw [if_neg c9] at H
        exact absurd H (by simp)
      ·
       rw [if_neg c7] at H
       exact absurd H (by simp)
     ·
      rw [if_neg c6] at H
      have c6b0 : decide (x4_1 < (l0.length : Int)) = false := decide_eq_false c6
      clear c6
      obtain rfl := Option.some.inj H
      go_wp2
      go_ret
      exact ⟨_, by first | rfl | (simp [errW_none, errW_some] <;> rfl) | (simp [*, errW_none, errW_some] <;> rfl), by (with_reducible repeat (first | apply Kd.S_alloc | apply Kd.S_drewN | apply Kd.S_drew)); exact HO_3.out, by repeat (first | (with_reducible first | exact HB.out | apply bAl | apply bDN | apply bD1) | exact HB.out)⟩
  ·
   rw [if_neg c3] at H
   exact absurd H (by simp)
 ·
  rw [if_neg c2] at H
  exact absurd H (by simp)

end Go.Proofs.Ytjbcgflpeomkfaa.F

namespace Go.Proofs.Ytjbcgflpeomkfaa.F
open Go.RowKit Go.Proofs.YtjbcgflpeomkfaaW.PrintWords Go.Proofs.YtjbcgflpeomkfaaW.PrintLast Go.Proofs.YtjbcgflpeomkfaaW.PrintMore
attribute [local go_sem] max2_int min2_int max_two min_two max_three min_three max_four min_four   -- for this text's walks alone
attribute [local go_sem high] Go.Proofs.Ytjbcgflpeomkfaa.Add.string_leq Go.Proofs.Ytjbcgflpeomkfaa.Add.string_gtr
open Go.Proofs.YtjbcgflpeomkfaaW.PrintWords renaming pw_below_drewN → bDN, below_drew1 → bD1, below_alloc → bAl, blk_drewN → kDN, blk_drew → kDr, blk_alloc → kAl, below_set → bSe, below_size → bSz, blk_cell → kCe, blk_frozen → kFr
set_option linter.unusedVariables false
set_option linter.unusedSimpArgs false

/-! ### laws_toBatch: function 11 -/
def laws_toBatch.f (k : Nat) (a0_0 : Int) (a0_1 : Int) (a0_2 : Int) (a0_3 : Int) (a0_4 : Int) (a0_5 : Int) (l0_6 : List (S72)) : Option (Int × Int × Int × Int × Int × Int × (List (S56))) := (laws_toRecordS.f k l0_6).bind fun t158 => (some (a0_0, a0_1, a0_2, a0_3, a0_4, a0_5, t158))
theorem laws_toBatch.mono : ∀ a0 a1 a2 a3 a4 a5 a6 k, LeO (laws_toBatch.f k a0 a1 a2 a3 a4 a5 a6) (laws_toBatch.f (k + 1) a0 a1 a2 a3 a4 a5 a6) := by
 intro a0 a1 a2 a3 a4 a5 a6 k
 unfold laws_toBatch.f
 repeat' first
   | (with_reducible exact laws_toRecordS.mono _ _)
   | (with_reducible exact LeO.refl _)
   | (with_reducible exact LeO.none _)
   | (with_reducible refine LeO.ite ?_ ?_)
   | (with_reducible refine LeO.bind ?_ (fun _ => ?_))
   | exact laws_toRecordS.mono _ _
   | exact LeO.none _
   | refine LeO.ite ?_ ?_
   | refine LeO.bind ?_ (fun _ => ?_)
set_option maxHeartbeats 8000000 in
set_option maxRecDepth 100000 in
theorem laws_toBatch.calls (k : Nat) (a0_0 : Int) (a0_1 : Int) (a0_2 : Int) (a0_3 : Int) (a0_4 : Int) (a0_5 : Int) (A0_6 : Option Addr) (c0_6 : Nat) (l0_6 : List (S72)) (r1 : Int) (r2 : Int) (r3 : Int) (r4 : Int) (r5 : Int) (r6 : Int) (r7 : List (S56)) (w : World) (hr0_6 : Kd.C k72 w A0_6 l0_6.length l0_6) (hc0_6 : l0_6.length ≤ c0_6) (h : laws_toBatch.f k a0_0 a0_1 a0_2 a0_3 a0_4 a0_5 l0_6 = some (r1, r2, r3, r4, r5, r6, r7)) :
  Calls Try.prog 11 #[.agg #[.int .i64 a0_0, .int .i64 a0_1, .int .i64 a0_2, .int .i64 a0_3, .int .i64 a0_4, .int .i64 a0_5, .slice A0_6 l0_6.length c0_6]] w fun e w' => ∃ v6_ : Value, e = .returned (.agg #[.int .i64 r1, .int .i64 r2, .int .i64 r3, .int .i64 r4, .int .i64 r5, .int .i64 r6, v6_]) ∧ Kd.S k56 56 w' w.heap.size (fun _ => True) v6_ r7 ∧ Below w.heap.size w w' := by
 have hu24 := Try.underlying24
 have hu29 := Try.underlying29
 have HR0_6 := Aside0.mk hr0_6
 have HC0_6 := Aside0.mk hc0_6
 clear hr0_6 hc0_6
 have HB := Aside0.mk (Below.refl w.heap.size w)
 have H : ((laws_toRecordS.f k l0_6).bind fun t158 => (some (a0_0, a0_1, a0_2, a0_3, a0_4, a0_5, t158))) = some (r1, r2, r3, r4, r5, r6, r7) := h
 clear h
 replace H := Option.bind_eq_some_iff.mp H
 obtain ⟨t158, A20, H⟩ := H
 have A2 := Aside0.mk A20
 clear A20
 simp only [Option.some.injEq, Prod.mk.injEq] at H
 obtain ⟨rfl, rfl, rfl, rfl, rfl, rfl, rfl⟩ := H
 go_enter Try.func11, Try.ntmps11
 go_wp2_with (first | ((with_reducible refine gate_dst (N := 1) rfl ?_); refine box_event ?hg (N := 1) ?hd (cs := #[.int .i64 a0_0, .int .i64 a0_1, .int .i64 a0_2, .int .i64 a0_3, .int .i64 a0_4, .int .i64 a0_5, .slice A0_6 l0_6.length c0_6]) (t := 24) ?hr ?_; (case hd => rfl); (case hg => rfl); (case hr => first | (go_simp; done) | (go_simp; rfl)); intro gb155 hg w3 hbox hb; have n0_ := Aside0.mk (below_step (by repeat (first | (with_reducible first | exact HB.out | apply bAl | apply bDN | apply bD1) | exact HB.out)) hb); have n1_ := Aside0.mk (hbox); have n2_ := Aside0.mk ((by rw [hg]; exact (bSz (by repeat (first | (with_reducible first | exact HB.out | apply bAl | apply bDN | apply bD1) | exact HB.out))) : w.heap.size ≤ gb155)); have n3_ := Aside0.mk ((by rw [hg]; exact (bSz (by repeat (first | (with_reducible first | exact HB.out | apply bAl | apply bDN | apply bD1) | exact HB.out))) : w.heap.size ≤ gb155)); clear HB; have HB := n0_; have BK155 := n1_; have GW155 := n2_; have GE155 := n3_; clear n0_ n1_ n2_ n3_; clear hb hbox hg) | ((with_reducible refine gate_dst (N := 2) rfl ?_); refine box_event ?hg (N := 2) ?hd (cs := #[.int .i64 0, .int .i64 0, .int .i64 0, .int .i64 0, .int .i64 0, .int .i64 0, .slice none 0 0]) (t := 29) ?hr ?_; (case hd => rfl); (case hg => rfl); (case hr => first | (go_simp; done) | (go_simp; rfl)); intro gb156 hg w4 hbox hb; have n0_ := Aside0.mk (blk_below (g := gb155) (o := .cells #[.int .i64 a0_0, .int .i64 a0_1, .int .i64 a0_2, .int .i64 a0_3, .int .i64 a0_4, .int .i64 a0_5, .slice A0_6 l0_6.length c0_6] 24 (0, 0)) (by (with_reducible repeat first | refine kDN ?_ _ | refine kDr ?_ | refine kAl ?_ _); exact BK155.out) hb); have n1_ := Aside0.mk (below_step (by repeat (first | (with_reducible first | exact HB.out | apply bAl | apply bDN | apply bD1 | refine bSe ?_ GE155.out) | exact HB.out)) hb); have n2_ := Aside0.mk (hbox); have n3_ := Aside0.mk ((by rw [hg]; exact (bSz (by repeat (first | (with_reducible first | exact HB.out | apply bAl | apply bDN | apply bD1 | refine bSe ?_ GE155.out) | exact HB.out))) : w.heap.size ≤ gb156)); have n4_ := Aside0.mk ((by rw [hg]; exact (bSz (by repeat (first | (with_reducible first | exact HB.out | apply bAl | apply bDN | apply bD1 | refine bSe ?_ GE155.out) | exact HB.out))) : w.heap.size ≤ gb156)); have n5_ := Aside0.mk ((by rw [hg]; exact Nat.ne_of_lt (blk_lt (g := gb155) (o := .cells #[.int .i64 a0_0, .int .i64 a0_1, .int .i64 a0_2, .int .i64 a0_3, .int .i64 a0_4, .int .i64 a0_5, .slice A0_6 l0_6.length c0_6] 24 (0, 0)) (by (with_reducible repeat first | refine kDN ?_ _ | refine kDr ?_ | refine kAl ?_ _); exact BK155.out)) : gb155 ≠ gb156)); have n6_ := Aside0.mk ((by rw [hg]; exact Nat.ne_of_gt (blk_lt (g := gb155) (o := .cells #[.int .i64 a0_0, .int .i64 a0_1, .int .i64 a0_2, .int .i64 a0_3, .int .i64 a0_4, .int .i64 a0_5, .slice A0_6 l0_6.length c0_6] 24 (0, 0)) (by (with_reducible repeat first | refine kDN ?_ _ | refine kDr ?_ | refine kAl ?_ _); exact BK155.out)) : gb156 ≠ gb155)); clear BK155; clear HB; have BK155 := n0_; have HB := n1_; have BK156 := n2_; have GW156 := n3_; have GE156 := n4_; have NB155_156 := n5_; have NB156_155 := n6_; clear n0_ n1_ n2_ n3_ n4_ n5_ n6_; clear hb hbox hg) | ((with_reducible refine gate_dst (N := 3) rfl ?_); refine box_event ?hg (N := 3) ?hd (cs := #[.int .i64 0, .int .i64 0, .int .i64 0, .int .i64 0, .int .i64 0, .int .i64 0, .slice none 0 0]) (t := 29) ?hr ?_; (case hd => rfl); (case hg => rfl); (case hr => first | (go_simp; done) | (go_simp; rfl)); intro gb157 hg w5 hbox hb; have n0_ := Aside0.mk (blk_below (g := gb155) (o := .cells #[.int .i64 a0_0, .int .i64 a0_1, .int .i64 a0_2, .int .i64 a0_3, .int .i64 a0_4, .int .i64 a0_5, .slice A0_6 l0_6.length c0_6] 24 (0, 0)) (by (with_reducible repeat first | refine kDN ?_ _ | refine kDr ?_ | refine kAl ?_ _); exact BK155.out) hb); have n1_ := Aside0.mk (blk_below (g := gb156) (o := .cells #[.int .i64 0, .int .i64 0, .int .i64 0, .int .i64 0, .int .i64 0, .int .i64 0, .slice none 0 0] 29 (0, 0)) (by (with_reducible repeat first | refine kDN ?_ _ | refine kDr ?_ | refine kAl ?_ _); exact BK156.out) hb); have n2_ := Aside0.mk (below_step (by repeat (first | (with_reducible first | exact HB.out | apply bAl | apply bDN | apply bD1 | refine bSe ?_ GE155.out | refine bSe ?_ GE156.out) | exact HB.out)) hb); have n3_ := Aside0.mk (hbox); have n4_ := Aside0.mk ((by rw [hg]; exact (bSz (by repeat (first | (with_reducible first | exact HB.out | apply bAl | apply bDN | apply bD1 | refine bSe ?_ GE155.out | refine bSe ?_ GE156.out) | exact HB.out))) : w.heap.size ≤ gb157)); have n5_ := Aside0.mk ((by rw [hg]; exact (bSz (by repeat (first | (with_reducible first | exact HB.out | apply bAl | apply bDN | apply bD1 | refine bSe ?_ GE155.out | refine bSe ?_ GE156.out) | exact HB.out))) : w.heap.size ≤ gb157)); have n6_ := Aside0.mk ((by rw [hg]; exact Nat.ne_of_lt (blk_lt (g := gb155) (o := .cells #[.int .i64 a0_0, .int .i64 a0_1, .int .i64 a0_2, .int .i64 a0_3, .int .i64 a0_4, .int .i64 a0_5, .slice A0_6 l0_6.length c0_6] 24 (0, 0)) (by (with_reducible repeat first | refine kDN ?_ _ | refine kDr ?_ | refine kAl ?_ _); exact BK155.out)) : gb155 ≠ gb157)); have n7_ := Aside0.mk ((by rw [hg]; exact Nat.ne_of_gt (blk_lt (g := gb155) (o := .cells #[.int .i64 a0_0, .int .i64 a0_1, .int .i64 a0_2, .int .i64 a0_3, .int .i64 a0_4, .int .i64 a0_5, .slice A0_6 l0_6.length c0_6] 24 (0, 0)) (by (with_reducible repeat first | refine kDN ?_ _ | refine kDr ?_ | refine kAl ?_ _); exact BK155.out)) : gb157 ≠ gb155)); have n8_ := Aside0.mk ((by rw [hg]; exact Nat.ne_of_lt (blk_lt (g := gb156) (o := .cells #[.int .i64 0, .int .i64 0, .int .i64 0, .int .i64 0, .int .i64 0, .int .i64 0, .slice none 0 0] 29 (0, 0)) (by (with_reducible repeat first | refine kDN ?_ _ | refine kDr ?_ | refine kAl ?_ _); exact BK156.out)) : gb156 ≠ gb157)); have n9_ := Aside0.mk ((by rw [hg]; exact Nat.ne_of_gt (blk_lt (g := gb156) (o := .cells #[.int .i64 0, .int .i64 0, .int .i64 0, .int .i64 0, .int .i64 0, .int .i64 0, .slice none 0 0] 29 (0, 0)) (by (with_reducible repeat first | refine kDN ?_ _ | refine kDr ?_ | refine kAl ?_ _); exact BK156.out)) : gb157 ≠ gb156)); clear BK155; clear BK156; clear HB; have BK155 := n0_; have BK156 := n1_; have HB := n2_; have BK157 := n3_; have GW157 := n4_; have GE157 := n5_; have NB155_157 := n6_; have NB157_155 := n7_; have NB156_157 := n8_; have NB157_156 := n9_; clear n0_ n1_ n2_ n3_ n4_ n5_ n6_ n7_ n8_ n9_; clear hb hbox hg; have hnb6 := NB155_156.out; have hnc6 := NB156_155.out; have hnb7 := NB155_157.out; have hnc7 := NB157_155.out; have hcz8_0 : w5.cell? ⟨gb155, 0, none⟩ = some (.int .i64 a0_0) := (kCe BK155.out 0).trans rfl; have hcz8_1 : w5.cell? ⟨gb155, 1, none⟩ = some (.int .i64 a0_1) := (kCe BK155.out 1).trans rfl; have hcz8_2 : w5.cell? ⟨gb155, 2, none⟩ = some (.int .i64 a0_2) := (kCe BK155.out 2).trans rfl; have hcz8_3 : w5.cell? ⟨gb155, 3, none⟩ = some (.int .i64 a0_3) := (kCe BK155.out 3).trans rfl; have hcz8_4 : w5.cell? ⟨gb155, 4, none⟩ = some (.int .i64 a0_4) := (kCe BK155.out 4).trans rfl; have hcz8_5 : w5.cell? ⟨gb155, 5, none⟩ = some (.int .i64 a0_5) := (kCe BK155.out 5).trans rfl; have hcz8_6 : w5.cell? ⟨gb155, 6, none⟩ = some (.slice A0_6 l0_6.length c0_6) := (kCe BK155.out 6).trans rfl; have hfz8_0 := kFr BK155.out 0; have hfz8_1 := kFr BK155.out 1; have hfz8_2 := kFr BK155.out 2; have hfz8_3 := kFr BK155.out 3; have hfz8_4 := kFr BK155.out 4; have hfz8_5 := kFr BK155.out 5; have hfz8_6 := kFr BK155.out 6; have hnb9 := NB157_156.out; have hnc9 := NB156_157.out; have hcz10_0 : w5.cell? ⟨gb157, 0, none⟩ = some (.int .i64 0) := (kCe BK157.out 0).trans rfl; have hcz10_1 : w5.cell? ⟨gb157, 1, none⟩ = some (.int .i64 0) := (kCe BK157.out 1).trans rfl; have hcz10_2 : w5.cell? ⟨gb157, 2, none⟩ = some (.int .i64 0) := (kCe BK157.out 2).trans rfl; have hcz10_3 : w5.cell? ⟨gb157, 3, none⟩ = some (.int .i64 0) := (kCe BK157.out 3).trans rfl; have hcz10_4 : w5.cell? ⟨gb157, 4, none⟩ = some (.int .i64 0) := (kCe BK157.out 4).trans rfl; have hcz10_5 : w5.cell? ⟨gb157, 5, none⟩ = some (.int .i64 0) := (kCe BK157.out 5).trans rfl; have hcz10_6 : w5.cell? ⟨gb157, 6, none⟩ = some (.slice none 0 0) := (kCe BK157.out 6).trans rfl; have hfz10_0 := kFr BK157.out 0; have hfz10_1 := kFr BK157.out 1; have hfz10_2 := kFr BK157.out 2; have hfz10_3 := kFr BK157.out 3; have hfz10_4 := kFr BK157.out 4; have hfz10_5 := kFr BK157.out 5; have hfz10_6 := kFr BK157.out 6) | ((with_reducible refine gate_callee (f := 32) rfl ?_); refine goesL_ (some 24) rfl rfl Try.func32 (by kernel_rfl) rfl #[.slice A0_6 l0_6.length c0_6] rfl (by (try simp only [List.map_toArray, List.map_cons, List.map_nil]); first | done | rfl | (simp only [List.length_drop, List.length_take]; rfl)) ?_; (with_reducible refine (laws_toRecordS.calls k _ _ l0_6 t158 _ ?side1 ?side2 A2.out).mono ?_); (case side1 => exact Kd.C_below HR0_6.out (by repeat (first | (with_reducible first | exact HB.out | apply bAl | apply bDN | apply bD1 | refine bSe ?_ GE155.out | refine bSe ?_ GE156.out | refine bSe ?_ GE157.out) | exact HB.out))); (case side2 => exact HC0_6.out); rintro e w11 ⟨v159, rfl, ho0, hb⟩; refine ⟨_, rfl, ?_⟩; have n0_ := Aside0.mk (Kd.S_lower ho0 (bSz (by repeat (first | (with_reducible first | exact HB.out | apply bAl | apply bDN | apply bD1 | refine bSe ?_ GE155.out | refine bSe ?_ GE156.out | refine bSe ?_ GE157.out) | exact HB.out)))); have n1_ := Aside0.mk (blk_below (g := gb155) (o := .cells #[.int .i64 a0_0, .int .i64 a0_1, .int .i64 a0_2, .int .i64 a0_3, .int .i64 a0_4, .int .i64 a0_5, .slice A0_6 l0_6.length c0_6] 24 (0, 0)) (by (with_reducible repeat first | refine kDN ?_ _ | refine kDr ?_ | refine kAl ?_ _); refine blk_far ?_ NB155_157.out _; (with_reducible repeat first | refine kDN ?_ _ | refine kDr ?_ | refine kAl ?_ _); refine blk_far ?_ NB155_157.out _; (with_reducible repeat first | refine kDN ?_ _ | refine kDr ?_ | refine kAl ?_ _); refine blk_far ?_ NB155_157.out _; (with_reducible repeat first | refine kDN ?_ _ | refine kDr ?_ | refine kAl ?_ _); refine blk_far ?_ NB155_157.out _; (with_reducible repeat first | refine kDN ?_ _ | refine kDr ?_ | refine kAl ?_ _); refine blk_far ?_ NB155_157.out _; (with_reducible repeat first | refine kDN ?_ _ | refine kDr ?_ | refine kAl ?_ _); refine blk_far ?_ NB155_157.out _; (with_reducible repeat first | refine kDN ?_ _ | refine kDr ?_ | refine kAl ?_ _); exact BK155.out) hb); have n2_ := Aside0.mk (blk_below (g := gb156) (o := .cells #[.int .i64 0, .int .i64 0, .int .i64 0, .int .i64 0, .int .i64 0, .int .i64 0, .slice none 0 0] 29 (0, 0)) (by (with_reducible repeat first | refine kDN ?_ _ | refine kDr ?_ | refine kAl ?_ _); refine blk_far ?_ NB156_157.out _; (with_reducible repeat first | refine kDN ?_ _ | refine kDr ?_ | refine kAl ?_ _); refine blk_far ?_ NB156_157.out _; (with_reducible repeat first | refine kDN ?_ _ | refine kDr ?_ | refine kAl ?_ _); refine blk_far ?_ NB156_157.out _; (with_reducible repeat first | refine kDN ?_ _ | refine kDr ?_ | refine kAl ?_ _); refine blk_far ?_ NB156_157.out _; (with_reducible repeat first | refine kDN ?_ _ | refine kDr ?_ | refine kAl ?_ _); refine blk_far ?_ NB156_157.out _; (with_reducible repeat first | refine kDN ?_ _ | refine kDr ?_ | refine kAl ?_ _); refine blk_far ?_ NB156_157.out _; (with_reducible repeat first | refine kDN ?_ _ | refine kDr ?_ | refine kAl ?_ _); exact BK156.out) hb); have n3_ := Aside0.mk (blk_below (g := gb157) (o := .cells #[.int .i64 a0_0, .int .i64 a0_1, .int .i64 a0_2, .int .i64 a0_3, .int .i64 a0_4, .int .i64 a0_5, .slice none 0 0] 29 (0, 0)) (by (with_reducible repeat first | refine kDN ?_ _ | refine kDr ?_ | refine kAl ?_ _); refine blk_put (cs := #[.int .i64 a0_0, .int .i64 a0_1, .int .i64 a0_2, .int .i64 a0_3, .int .i64 a0_4, .int .i64 0, .slice none 0 0]) ?_ 5 _ rfl; (with_reducible repeat first | refine kDN ?_ _ | refine kDr ?_ | refine kAl ?_ _); refine blk_put (cs := #[.int .i64 a0_0, .int .i64 a0_1, .int .i64 a0_2, .int .i64 a0_3, .int .i64 0, .int .i64 0, .slice none 0 0]) ?_ 4 _ rfl; (with_reducible repeat first | refine kDN ?_ _ | refine kDr ?_ | refine kAl ?_ _); refine blk_put (cs := #[.int .i64 a0_0, .int .i64 a0_1, .int .i64 a0_2, .int .i64 0, .int .i64 0, .int .i64 0, .slice none 0 0]) ?_ 3 _ rfl; (with_reducible repeat first | refine kDN ?_ _ | refine kDr ?_ | refine kAl ?_ _); refine blk_put (cs := #[.int .i64 a0_0, .int .i64 a0_1, .int .i64 0, .int .i64 0, .int .i64 0, .int .i64 0, .slice none 0 0]) ?_ 2 _ rfl; (with_reducible repeat first | refine kDN ?_ _ | refine kDr ?_ | refine kAl ?_ _); refine blk_put (cs := #[.int .i64 a0_0, .int .i64 0, .int .i64 0, .int .i64 0, .int .i64 0, .int .i64 0, .slice none 0 0]) ?_ 1 _ rfl; (with_reducible repeat first | refine kDN ?_ _ | refine kDr ?_ | refine kAl ?_ _); refine blk_put (cs := #[.int .i64 0, .int .i64 0, .int .i64 0, .int .i64 0, .int .i64 0, .int .i64 0, .slice none 0 0]) ?_ 0 _ rfl; (with_reducible repeat first | refine kDN ?_ _ | refine kDr ?_ | refine kAl ?_ _); exact BK157.out) hb); have n4_ := Aside0.mk (below_step (by repeat (first | (with_reducible first | exact HB.out | apply bAl | apply bDN | apply bD1 | refine bSe ?_ GE155.out | refine bSe ?_ GE156.out | refine bSe ?_ GE157.out) | exact HB.out)) hb); clear BK155; clear BK156; clear BK157; clear HB; have HO160 := n0_; have BK155 := n1_; have BK156 := n2_; have BK157 := n3_; have HB := n4_; clear n0_ n1_ n2_ n3_ n4_; (try clear hb); (try clear hb2); (try clear hk); (try clear hi); (try clear ho0); obtain ⟨Ao12, co12, eo12⟩ := Kd.S_slice HO160.out; subst eo12; have hcz13_0 : w11.cell? ⟨gb157, 0, none⟩ = some (.int .i64 a0_0) := (kCe BK157.out 0).trans rfl; have hcz13_1 : w11.cell? ⟨gb157, 1, none⟩ = some (.int .i64 a0_1) := (kCe BK157.out 1).trans rfl; have hcz13_2 : w11.cell? ⟨gb157, 2, none⟩ = some (.int .i64 a0_2) := (kCe BK157.out 2).trans rfl; have hcz13_3 : w11.cell? ⟨gb157, 3, none⟩ = some (.int .i64 a0_3) := (kCe BK157.out 3).trans rfl; have hcz13_4 : w11.cell? ⟨gb157, 4, none⟩ = some (.int .i64 a0_4) := (kCe BK157.out 4).trans rfl; have hcz13_5 : w11.cell? ⟨gb157, 5, none⟩ = some (.int .i64 a0_5) := (kCe BK157.out 5).trans rfl; have hcz13_6 : w11.cell? ⟨gb157, 6, none⟩ = some (.slice none 0 0) := (kCe BK157.out 6).trans rfl; have hfz13_0 := kFr BK157.out 0; have hfz13_1 := kFr BK157.out 1; have hfz13_2 := kFr BK157.out 2; have hfz13_3 := kFr BK157.out 3; have hfz13_4 := kFr BK157.out 4; have hfz13_5 := kFr BK157.out 5; have hfz13_6 := kFr BK157.out 6; have hcz14_0 : w11.cell? ⟨gb156, 0, none⟩ = some (.int .i64 0) := (kCe BK156.out 0).trans rfl; have hcz14_1 : w11.cell? ⟨gb156, 1, none⟩ = some (.int .i64 0) := (kCe BK156.out 1).trans rfl; have hcz14_2 : w11.cell? ⟨gb156, 2, none⟩ = some (.int .i64 0) := (kCe BK156.out 2).trans rfl; have hcz14_3 : w11.cell? ⟨gb156, 3, none⟩ = some (.int .i64 0) := (kCe BK156.out 3).trans rfl; have hcz14_4 : w11.cell? ⟨gb156, 4, none⟩ = some (.int .i64 0) := (kCe BK156.out 4).trans rfl; have hcz14_5 : w11.cell? ⟨gb156, 5, none⟩ = some (.int .i64 0) := (kCe BK156.out 5).trans rfl; have hcz14_6 : w11.cell? ⟨gb156, 6, none⟩ = some (.slice none 0 0) := (kCe BK156.out 6).trans rfl; have hfz14_0 := kFr BK156.out 0; have hfz14_1 := kFr BK156.out 1; have hfz14_2 := kFr BK156.out 2; have hfz14_3 := kFr BK156.out 3; have hfz14_4 := kFr BK156.out 4; have hfz14_5 := kFr BK156.out 5; have hfz14_6 := kFr BK156.out 6))
 refine bodyPost_ret (results_cell_row rfl _ _ gb156 29 #[.int .i64 a0_0, .int .i64 a0_1, .int .i64 a0_2, .int .i64 a0_3, .int .i64 a0_4, .int .i64 a0_5, .slice Ao12 t158.length co12] (0, 0) _ rfl (by (with_reducible repeat first | refine kDN ?_ _ | refine kDr ?_ | refine kAl ?_ _); refine blk_put (cs := #[.int .i64 a0_0, .int .i64 a0_1, .int .i64 a0_2, .int .i64 a0_3, .int .i64 a0_4, .int .i64 a0_5, .slice none 0 0]) ?_ 6 _ rfl; (with_reducible repeat first | refine kDN ?_ _ | refine kDr ?_ | refine kAl ?_ _); refine blk_put (cs := #[.int .i64 a0_0, .int .i64 a0_1, .int .i64 a0_2, .int .i64 a0_3, .int .i64 a0_4, .int .i64 0, .slice none 0 0]) ?_ 5 _ rfl; (with_reducible repeat first | refine kDN ?_ _ | refine kDr ?_ | refine kAl ?_ _); refine blk_put (cs := #[.int .i64 a0_0, .int .i64 a0_1, .int .i64 a0_2, .int .i64 a0_3, .int .i64 0, .int .i64 0, .slice none 0 0]) ?_ 4 _ rfl; (with_reducible repeat first | refine kDN ?_ _ | refine kDr ?_ | refine kAl ?_ _); refine blk_put (cs := #[.int .i64 a0_0, .int .i64 a0_1, .int .i64 a0_2, .int .i64 0, .int .i64 0, .int .i64 0, .slice none 0 0]) ?_ 3 _ rfl; (with_reducible repeat first | refine kDN ?_ _ | refine kDr ?_ | refine kAl ?_ _); refine blk_put (cs := #[.int .i64 a0_0, .int .i64 a0_1, .int .i64 0, .int .i64 0, .int .i64 0, .int .i64 0, .slice none 0 0]) ?_ 2 _ rfl; (with_reducible repeat first | refine kDN ?_ _ | refine kDr ?_ | refine kAl ?_ _); refine blk_put (cs := #[.int .i64 a0_0, .int .i64 0, .int .i64 0, .int .i64 0, .int .i64 0, .int .i64 0, .slice none 0 0]) ?_ 1 _ rfl; (with_reducible repeat first | refine kDN ?_ _ | refine kDr ?_ | refine kAl ?_ _); refine blk_put (cs := #[.int .i64 0, .int .i64 0, .int .i64 0, .int .i64 0, .int .i64 0, .int .i64 0, .slice none 0 0]) ?_ 0 _ rfl; (with_reducible repeat first | refine kDN ?_ _ | refine kDr ?_ | refine kAl ?_ _); refine blk_far ?_ NB156_157.out _; (with_reducible repeat first | refine kDN ?_ _ | refine kDr ?_ | refine kAl ?_ _); exact BK156.out) Try.underlying29 rfl (by kernel_rfl)) rfl ?_
 exact ⟨_, by first | rfl | (simp [errW_none, errW_some] <;> rfl) | (simp [*, errW_none, errW_some] <;> rfl), by (with_reducible repeat (first | apply Kd.S_alloc | apply Kd.S_drewN | apply Kd.S_drew)); exact Kd.S_mono (Kd.S_far (p := ⟨gb156, 6, none⟩) (Kd.S_far (p := ⟨gb156, 5, none⟩) (Kd.S_far (p := ⟨gb156, 4, none⟩) (Kd.S_far (p := ⟨gb156, 3, none⟩) (Kd.S_far (p := ⟨gb156, 2, none⟩) (Kd.S_far (p := ⟨gb156, 1, none⟩) (Kd.S_far (p := ⟨gb156, 0, none⟩) (Kd.S_far (p := ⟨gb157, 6, none⟩) (Kd.S_types (Kd.S_types HO160.out BK157.out (by decide)) BK156.out (by decide)) (fun _ hk => hk.1.2) (.slice Ao12 t158.length co12)) (fun _ hk => hk.2) (.int .i64 a0_0)) (fun _ hk => hk.2) (.int .i64 a0_1)) (fun _ hk => hk.2) (.int .i64 a0_2)) (fun _ hk => hk.2) (.int .i64 a0_3)) (fun _ hk => hk.2) (.int .i64 a0_4)) (fun _ hk => hk.2) (.int .i64 a0_5)) (fun _ hk => hk.2) (.slice Ao12 t158.length co12)) (fun _ hk => trivial), by repeat (first | (with_reducible first | exact HB.out | apply bAl | apply bDN | apply bD1 | refine bSe ?_ GE155.out | refine bSe ?_ GE156.out | refine bSe ?_ GE157.out) | exact HB.out)⟩

end Go.Proofs.Ytjbcgflpeomkfaa.F

namespace Go.Proofs.Ytjbcgflpeomkfaa.F
open Go.RowKit Go.Proofs.YtjbcgflpeomkfaaW.PrintWords Go.Proofs.YtjbcgflpeomkfaaW.PrintLast Go.Proofs.YtjbcgflpeomkfaaW.PrintMore
attribute [local go_sem] max2_int min2_int max_two min_two max_three min_three max_four min_four   -- for this text's walks alone
attribute [local go_sem high] Go.Proofs.Ytjbcgflpeomkfaa.Add.string_leq Go.Proofs.Ytjbcgflpeomkfaa.Add.string_gtr
set_option linter.unusedVariables false
set_option linter.unusedSimpArgs false

/-! ### impl_offsetOk: function 33 -/
def impl_offsetOk.f (a0 : Int) : Option (Bool) := if a0 ≥ 0 then (some (decide (a0 ≤ 1000000000))) else (some false)
set_option maxHeartbeats 8000000 in
set_option maxRecDepth 100000 in
theorem impl_offsetOk.calls (a0 : Int) (r : Bool) (w : World) (h : impl_offsetOk.f a0 = some r) :
  Calls Try.prog 33 #[.int .i64 a0] w fun e w' => e = .returned (.bool r) ∧ Drawn0 w w' := by
 have H : (if a0 ≥ 0 then (some (decide (a0 ≤ 1000000000))) else (some false)) = some r := h
 clear h
 by_cases c2 : a0 ≥ 0
 ·
  rw [if_pos c2] at H
  have c2b0 : decide (0 ≤ a0) = true := decide_eq_true c2
  clear c2
  obtain rfl := Option.some.inj H
  go_enter Try.func33, Try.ntmps33
  go_wp2
  go_ret
  exact ⟨by first | rfl | (simp; done) | (simp [*]; done) | exact Go.Proofs.Ytjbcgflpeomkfaa.Add.isEmpty_bne _, by repeat (first | exact Drawn0.refl _ | apply Drawn0.step)⟩
 ·
  rw [if_neg c2] at H
  have c2b0 : decide (0 ≤ a0) = false := decide_eq_false c2
  clear c2
  obtain rfl := Option.some.inj H
  go_enter Try.func33, Try.ntmps33
  go_wp2
  go_ret
  exact ⟨by first | rfl | (simp; done) | (simp [*]; done) | exact Go.Proofs.Ytjbcgflpeomkfaa.Add.isEmpty_bne _, by repeat (first | exact Drawn0.refl _ | apply Drawn0.step)⟩

end Go.Proofs.Ytjbcgflpeomkfaa.F

namespace Go.Proofs.Ytjbcgflpeomkfaa.F
open Go.RowKit Go.Proofs.YtjbcgflpeomkfaaW.PrintWords Go.Proofs.YtjbcgflpeomkfaaW.PrintLast Go.Proofs.YtjbcgflpeomkfaaW.PrintMore
attribute [local go_sem] max2_int min2_int max_two min_two max_three min_three max_four min_four   -- for this text's walks alone
attribute [local go_sem high] Go.Proofs.Ytjbcgflpeomkfaa.Add.string_leq Go.Proofs.Ytjbcgflpeomkfaa.Add.string_gtr
set_option linter.unusedVariables false
set_option linter.unusedSimpArgs false

/-! ### impl_within: function 34 -/
def impl_within.f (a0 : Int) (a1 : Int) (a2 : Int) : Option (Bool) := if a0 ≥ a1 then (some (decide (a0 ≤ a2))) else (some false)
set_option maxHeartbeats 8000000 in
set_option maxRecDepth 100000 in
theorem impl_within.calls (a0 : Int) (a1 : Int) (a2 : Int) (r : Bool) (w : World) (h : impl_within.f a0 a1 a2 = some r) :
  Calls Try.prog 34 #[.int .i64 a0, .int .i64 a1, .int .i64 a2] w fun e w' => e = .returned (.bool r) ∧ Drawn0 w w' := by
 have H : (if a0 ≥ a1 then (some (decide (a0 ≤ a2))) else (some false)) = some r := h
 clear h
 by_cases c4 : a0 ≥ a1
 ·
  rw [if_pos c4] at H
  have c4b0 : decide (a1 ≤ a0) = true := decide_eq_true c4
  clear c4
  obtain rfl := Option.some.inj H
  go_enter Try.func34, Try.ntmps34
  go_wp2
  go_ret
  exact ⟨by first | rfl | (simp; done) | (simp [*]; done) | exact Go.Proofs.Ytjbcgflpeomkfaa.Add.isEmpty_bne _, by repeat (first | exact Drawn0.refl _ | apply Drawn0.step)⟩
 ·
  rw [if_neg c4] at H
  have c4b0 : decide (a1 ≤ a0) = false := decide_eq_false c4
  clear c4
  obtain rfl := Option.some.inj H
  go_enter Try.func34, Try.ntmps34
  go_wp2
  go_ret
  exact ⟨by first | rfl | (simp; done) | (simp [*]; done) | exact Go.Proofs.Ytjbcgflpeomkfaa.Add.isEmpty_bne _, by repeat (first | exact Drawn0.refl _ | apply Drawn0.step)⟩

end Go.Proofs.Ytjbcgflpeomkfaa.F

namespace Go.Proofs.Ytjbcgflpeomkfaa.F
open Go.RowKit Go.Proofs.YtjbcgflpeomkfaaW.PrintWords Go.Proofs.YtjbcgflpeomkfaaW.PrintLast Go.Proofs.YtjbcgflpeomkfaaW.PrintMore
attribute [local go_sem] max2_int min2_int max_two min_two max_three min_three max_four min_four   -- for this text's walks alone
attribute [local go_sem high] Go.Proofs.Ytjbcgflpeomkfaa.Add.string_leq Go.Proofs.Ytjbcgflpeomkfaa.Add.string_gtr
set_option linter.unusedVariables false
set_option linter.unusedSimpArgs false

/-! ### impl_timeOk: function 57 -/
def impl_timeOk.f (a0 : Int) : Option (Bool) := if a0 ≥ 0 then (some (decide (a0 ≤ 1000000000000))) else (some false)
set_option maxHeartbeats 8000000 in
set_option maxRecDepth 100000 in
theorem impl_timeOk.calls (a0 : Int) (r : Bool) (w : World) (h : impl_timeOk.f a0 = some r) :
  Calls Try.prog 57 #[.int .i64 a0] w fun e w' => e = .returned (.bool r) ∧ Drawn0 w w' := by
 have H : (if a0 ≥ 0 then (some (decide (a0 ≤ 1000000000000))) else (some false)) = some r := h
 clear h
 by_cases c2 : a0 ≥ 0
 ·
  rw [if_pos c2] at H
  have c2b0 : decide (0 ≤ a0) = true := decide_eq_true c2
  clear c2
  obtain rfl := Option.some.inj H
  go_enter Try.func57, Try.ntmps57
  go_wp2
  go_ret
  exact ⟨by first | rfl | (simp; done) | (simp [*]; done) | exact Go.Proofs.Ytjbcgflpeomkfaa.Add.isEmpty_bne _, by repeat (first | exact Drawn0.refl _ | apply Drawn0.step)⟩
 ·
  rw [if_neg c2] at H
  have c2b0 : decide (0 ≤ a0) = false := decide_eq_false c2
  clear c2
  obtain rfl := Option.some.inj H
  go_enter Try.func57, Try.ntmps57
  go_wp2
  go_ret
  exact ⟨by first | rfl | (simp; done) | (simp [*]; done) | exact Go.Proofs.Ytjbcgflpeomkfaa.Add.isEmpty_bne _, by repeat (first | exact Drawn0.refl _ | apply Drawn0.step)⟩

end Go.Proofs.Ytjbcgflpeomkfaa.F

namespace Go.Proofs.Ytjbcgflpeomkfaa.F
open Go.RowKit Go.Proofs.YtjbcgflpeomkfaaW.PrintWords Go.Proofs.YtjbcgflpeomkfaaW.PrintLast Go.Proofs.YtjbcgflpeomkfaaW.PrintMore
attribute [local go_sem] max2_int min2_int max_two min_two max_three min_three max_four min_four   -- for this text's walks alone
attribute [local go_sem high] Go.Proofs.Ytjbcgflpeomkfaa.Add.string_leq Go.Proofs.Ytjbcgflpeomkfaa.Add.string_gtr
set_option linter.unusedVariables false
set_option linter.unusedSimpArgs false

/-! ### impl_textOk: function 58 -/
def impl_textOk.f (a0 : ByteArray) : Option (Bool) := some (decide ((a0.size : Int) ≤ 100))
set_option maxHeartbeats 8000000 in
set_option maxRecDepth 100000 in
theorem impl_textOk.calls (a0 : ByteArray) (r : Bool) (w : World) (h : impl_textOk.f a0 = some r) :
  Calls Try.prog 58 #[.string a0] w fun e w' => e = .returned (.bool r) ∧ Drawn0 w w' := by
 have H : (some (decide ((a0.size : Int) ≤ 100))) = some r := h
 clear h
 obtain rfl := Option.some.inj H
 go_enter Try.func58, Try.ntmps58
 go_wp2
 go_ret
 exact ⟨by first | rfl | (simp; done) | (simp [*]; done) | exact Go.Proofs.Ytjbcgflpeomkfaa.Add.isEmpty_bne _, by repeat (first | exact Drawn0.refl _ | apply Drawn0.step)⟩

end Go.Proofs.Ytjbcgflpeomkfaa.F
