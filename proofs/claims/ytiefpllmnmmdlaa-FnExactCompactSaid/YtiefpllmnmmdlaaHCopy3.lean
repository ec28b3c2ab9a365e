/-
Deep copies, the program's: copyLog. Conditions: each contract's own premises.
-/
import Derived.Test.YtiefpllmnmmdlaaHCopy2
import Derived.Test.YtiefpllmnmmdlaaHLast
namespace Go.Proofs.Ytiefpllmnmmdlaa.H
open Go.RowKit
set_option linter.unusedVariables false
set_option linter.unusedSimpArgs false
set_option maxRecDepth 100000
theorem log_made {w w' : World} {x : Log} {v : Value} (hO : OwnT kSegment 45 w.heap.size w' x.Segments v) (hb : Below w.heap.size w w') : x.Made w (.returned (.agg #[.int .i64 x.Start, .int .i64 x.Next, .int .i64 x.Roll, v])) w' := by
  obtain ⟨F, hT, hF⟩ := hO.fresh
  exact ⟨v, F, rfl, Log.mkT w' x hT, hF, hb⟩
theorem implBatchesV (w : World) (l : List Batch) {A : Option Addr} {c : Nat} (hc : l.length ≤ c) (hr : Row kBatch w A l) (hl : l.length ≤ 1048576) (hs : ∀ y ∈ l, y.sm) :
    Calls Try.prog 41 #[.slice A l.length c] w fun e w' => ∃ A' c' F, e = .returned (.slice A' l.length c') ∧ TS kBatch 48 w' F l (.slice A' l.length c') ∧ Fresh w F ∧ Below w.heap.size w w' := by
  refine (implCopyBatches_c w l hc hr hl hs).mono ?_
  rintro e w' ⟨v, F, rfl, hT, hF, hb⟩
  obtain ⟨A', c', rfl, _⟩ := TS_read hT
  exact ⟨A', c', F, rfl, hT, hF, hb⟩
theorem seg_T {w : World} {y : Segment} {F : List Nat} {v : Value} (h : TS kBatch 48 w F y.Batches v) : kSegment.T w F y [.int .i64 y.Base, v] := Segment.mkT w y h
theorem OwnR.lt {α : Type} {d : Ki α} {e B : Nat} {w : World} {xs : List α} {v : Value} (h : OwnR d e B w xs v) : ∀ k, v.ownBlock = some k → k < w.heap.size := by
  obtain ⟨F, h1, h2, h3, h4⟩ := h
  exact h4.lt
/-- A call by its contract at a step of a region that draws its order, the answer not told ahead. -/
theorem step_callE {P : Program} {ops : Array Oper} {o : Oper} {a : Act} {w : World} {K : Act → World → Prop} {Q : Exit → Act → World → Prop} {E : Prop} (hgd : o.guard = none) (f : FuncId) (args : Array Value)
    (he : (execOp a.eval o).run P w = .ok (.enter f args) w) {R : Ending → World → Prop} (hC : Calls P f args w R) (h : ∀ e w', R e w' → ∃ v, e = .returned v ∧ K (a.put o.dst v) w') :
    if Region.wanted o (yielded ops a.tmps) = true then Oper.wp P o a w K Q else E := by
  have hw : Region.wanted o (yielded ops a.tmps) = true := by simp [Region.wanted, hgd]
  rw [if_pos hw]
  unfold Oper.wp
  rw [he]
  exact hC.mono (fun e w' hR => by
    obtain ⟨v, rfl, hk⟩ := h e w' hR
    exact hk)
set_option maxHeartbeats 4000000 in
theorem implCopyLog_c (w : World) (x : Log) {A : Option Addr} {c : Nat} (hc : x.Segments.length ≤ c) (hr : Row kSegment w A x.Segments) (hs : x.sm) :
    Calls Try.prog 23 #[.agg #[.int .i64 x.Start, .int .i64 x.Next, .int .i64 x.Roll, .slice A x.Segments.length c]] w (x.Made w) := by
  have HS := Lib.hid hs
  have hl := hs.1
  clear hs
  have hu := Try.underlying45
  have hu2 := Try.underlying26
  have hu3 := Try.underlying28
  go_enter Try.func23, Try.ntmps23
  go_upto_region 1 with fail
  have B1 := (Blk.new w #[.int .i64 x.Start, .int .i64 x.Next, .int .i64 x.Roll, .slice A x.Segments.length c] 28).below (below_al _ (.cells #[.int .i64 0, .int .i64 0, .int .i64 0, .slice none 0 0] 28))
  have B2 := Blk.new (w.alloc (.cells #[.int .i64 x.Start, .int .i64 x.Next, .int .i64 x.Roll, .slice A x.Segments.length c] 28)) #[.int .i64 0, .int .i64 0, .int .i64 0, .slice none 0 0] 28
  have hb := below_tr (below_al w (.cells #[.int .i64 x.Start, .int .i64 x.Next, .int .i64 x.Roll, .slice A x.Segments.length c] 28)) (below_al _ (.cells #[.int .i64 0, .int .i64 0, .int .i64 0, .slice none 0 0] 28))
  rw [size_al] at B2
  generalize (w.alloc (.cells #[.int .i64 x.Start, .int .i64 x.Next, .int .i64 x.Roll, .slice A x.Segments.length c] 28)).alloc (.cells #[.int .i64 0, .int .i64 0, .int .i64 0, .slice none 0 0] 28) = W1 at B1 B2 hb ⊢
  have a3 : W1.cell? ⟨w.heap.size, 3, none⟩ = some (.slice A x.Segments.length c) := B1.cell 3 _ rfl
  have z3 := B1.frz 3
  have g1 := B1.lt
  have g2 := B2.lt
  have hsz := hb.size
  go_upto_region 3 with fail
  have C1 := B1.set 3 (.slice none 0 0)
  have C2 := B2.far w.heap.size 3 (.slice none 0 0) (by omega)
  have hbC := hb.setCell (p := ⟨w.heap.size, 3, none⟩) (by simp) (.slice none 0 0)
  generalize W1.setCell ⟨w.heap.size, 3, none⟩ (.slice none 0 0) = W2 at C1 C2 hbC ⊢
  have g3 := C2.lt
  clear a3 z3 B1 B2 hb g1 g2 hsz
  obtain ⟨G, hG⟩ : ∃ n, n = w.heap.size := ⟨_, rfl⟩
  go_upto_region 4 with fail
  go_loopg [11] x.Segments.length (fun g v11 wr => ∃ (k : Nat) (A' : Option Addr) (c' : Nat), k + g = x.Segments.length ∧ v11 = .int .i64 k ∧ Hid (Blk wr w.heap.size #[.int .i64 x.Start, .int .i64 x.Next, .int .i64 x.Roll, .slice A' k c'] 28) ∧ Hid (Blk wr (w.heap.size + 1) #[.int .i64 0, .int .i64 0, .int .i64 0, .slice none 0 0] 28) ∧ Hid (OwnR kSegment 45 (w.heap.size + 2) wr (x.Segments.take k) (.slice A' k c')) ∧ Below w.heap.size w wr)
  case atStart => exact ⟨0, none, 0, by omega, rfl, Lib.hid C1, Lib.hid C2, Lib.hid (by rw [List.take_zero]; exact OwnR.nil), hbC⟩
  case round =>
    clear C1 C2 hbC g3
    obtain ⟨k, A', c', hk, rfl, HB1, HB2, HO, hb⟩ := hrel
    have hsz := hb.size
    have hg2 := HB2.out.lt
    have hg1 := HB1.out.lt
    by_cases hlt : k < x.Segments.length
    case neg =>
      obtain rfl : k = x.Segments.length := by omega
      have d0 := HB1.out.cell 0 _ rfl
      have d1 := HB1.out.cell 1 _ rfl
      have d2 := HB1.out.cell 2 _ rfl
      have d3 := HB1.out.cell 3 _ rfl
      have e0 := HB2.out.cell 0 _ rfl
      have e1 := HB2.out.cell 1 _ rfl
      have e2 := HB2.out.cell 2 _ rfl
      have e3 := HB2.out.cell 3 _ rfl
      have f0 := HB2.out.frz 0
      have f1 := HB2.out.frz 1
      have f2 := HB2.out.frz 2
      have f3 := HB2.out.frz 3
      have hO := HO.out
      rw [List.take_length] at hO
      have HO2 := Lib.hid hO
      clear hO
      go_wp2
      refine bodyPost_ret (v := .agg #[.int .i64 x.Start, .int .i64 x.Next, .int .i64 x.Roll, .slice A' x.Segments.length c']) (by simp [results, Try.results23, go_sem, e0, e1, e2, e3]) rfl (log_made (OwnT.mono (B := w.heap.size + 2) ?_ (by omega)) ?_)
      · repeat (refine OwnT.setc ?_ _ _ _ (by omega))
        exact HO2.out.toT
      · repeat (first | with_reducible exact Below.refl _ _ | with_reducible assumption | ((with_reducible refine Below.setCell ?_ ?_ _); rotate_left; (simp <;> omega)) | ((with_reducible refine Below.alloc ?_ ?_ _); rotate_left; (simp <;> omega)))
    have hkc : k ≤ x.Segments.length := by omega
    obtain ⟨ad, y, A1, c1, rfl, hy, p0, p1, l1, g1⟩ := Segment.at (Row_below hr hb) k hlt
    have HY := Lib.hid hy
    have hys := HS.out.2 y (List.mem_of_getElem? hy)
    clear hy
    have B3 := Blk.new wr #[.int .i64 y.Base, .slice A1 y.Batches.length c1] 45
    have hb1 := below_al wr (.cells #[.int .i64 y.Base, .slice A1 y.Batches.length c1] 45)
    obtain ⟨H, hH⟩ : ∃ n, n = wr.heap.size := ⟨_, rfl⟩
    go_upto_region 6 with fail
    clear p0 p1
    generalize wr.alloc (.cells #[.int .i64 y.Base, .slice A1 y.Batches.length c1] 45) = W3 at B3 hb1 ⊢
    rw [← hH] at B3 ⊢
    have HH := Lib.hid hH
    clear hH
    have hs1 := hb1.size
    have HG1 := Lib.hid (Row_below g1 hb1)
    have C1 := Lib.hid (HB1.out.below hb1)
    have s3 : W3.cell? ⟨w.heap.size, 3, none⟩ = some (.slice A' k c') := C1.out.cell 3 _ rfl
    have s0 : W3.cell? ⟨H, 0, none⟩ = some (.int .i64 y.Base) := B3.cell 0 _ rfl
    have s1 : W3.cell? ⟨H, 1, none⟩ = some (.slice A1 y.Batches.length c1) := B3.cell 1 _ rfl
    have HK := Lib.hid (show x.Segments.take (k + 1) = x.Segments.take k ++ [y] from take_snoc HY.out)
    have HLT := Lib.hid (show (x.Segments.take k).length = k by rw [List.length_take]; omega)
    have HOL := Lib.hid HO.out.lt
    have S0 : W3.drew.cell? ⟨w.heap.size, 3, none⟩ = some (.slice A' k c') ∧ W3.drew.cell? ⟨H, 0, none⟩ = some (.int .i64 y.Base) ∧ W3.drew.cell? ⟨H, 1, none⟩ = some (.slice A1 y.Batches.length c1) := ⟨s3, s0, s1⟩
    refine wp_region_T 11 (fun W => W.cell? ⟨w.heap.size, 3, none⟩ = some (.slice A' k c') ∧ W.cell? ⟨H, 0, none⟩ = some (.int .i64 y.Base) ∧ W.cell? ⟨H, 1, none⟩ = some (.slice A1 y.Batches.length c1)) (by kernel_rfl) ?_
    refine wpAnyT_take (i := 0) (v := .pointer (some ⟨w.heap.size, 3, none⟩)) rfl (by kernel_rfl) (fun _ _ _ h => h) (by rfl) (fun W hW => ?_) S0 ?_
    · obtain ⟨h1, h2, h3⟩ := hW
      go_simp
    try simp only [Act.put, List.setIfInBounds_toArray, List.set_cons_zero, List.set_cons_succ]
    refine wpAnyT_take (i := 1) (v := .slice A' k c') rfl (by kernel_rfl) (fun _ _ _ h => h) (by rfl) (fun W hW => ?_) S0 ?_
    · obtain ⟨h1, h2, h3⟩ := hW
      go_simp
    try simp only [Act.put, List.setIfInBounds_toArray, List.set_cons_zero, List.set_cons_succ]
    refine wpAnyT_take (i := 2) (v := .pointer (some ⟨H, 0, none⟩)) rfl (by kernel_rfl) (fun _ _ _ h => h) (by rfl) (fun W hW => ?_) S0 ?_
    · obtain ⟨h1, h2, h3⟩ := hW
      go_simp
    try simp only [Act.put, List.setIfInBounds_toArray, List.set_cons_zero, List.set_cons_succ]
    refine wpAnyT_take (i := 3) (v := .int .i64 y.Base) rfl (by kernel_rfl) (fun _ _ _ h => h) (by rfl) (fun W hW => ?_) S0 ?_
    · obtain ⟨h1, h2, h3⟩ := hW
      go_simp
    try simp only [Act.put, List.setIfInBounds_toArray, List.set_cons_zero, List.set_cons_succ]
    refine wpAnyT_take (i := 4) (v := .pointer (some ⟨H, 1, none⟩)) rfl (by kernel_rfl) (fun _ _ _ h => h) (by rfl) (fun W hW => ?_) S0 ?_
    · obtain ⟨h1, h2, h3⟩ := hW
      go_simp
    try simp only [Act.put, List.setIfInBounds_toArray, List.set_cons_zero, List.set_cons_succ]
    refine wpAnyT_take (i := 5) (v := .slice A1 y.Batches.length c1) rfl (by kernel_rfl) (fun _ _ _ h => h) (by rfl) (fun W hW => ?_) S0 ?_
    · obtain ⟨h1, h2, h3⟩ := hW
      go_simp
    try simp only [Act.put, List.setIfInBounds_toArray, List.set_cons_zero, List.set_cons_succ]
    refine wpAnyT_one (i := 6) (by kernel_rfl) rfl (fun K hK => ?_)
    refine step_callE rfl 41 #[.slice A1 y.Batches.length c1] (by simp [go_sem]) (implBatchesV _ y.Batches l1 (Row_below HG1.out (Below.refl _ _).drew) hys.1 hys.2) ?_
    rintro e w1 ⟨A2, c2, F2, rfl, hT2, hF2, hb2'⟩
    have hb2 : Below W3.heap.size W3 w1 := below_tr (Below.refl _ _).drew hb2'
    have S1 : w1.cell? ⟨w.heap.size, 3, none⟩ = some (.slice A' k c') ∧ w1.cell? ⟨H, 0, none⟩ = some (.int .i64 y.Base) ∧ w1.cell? ⟨H, 1, none⟩ = some (.slice A1 y.Batches.length c1) := ⟨later hb2 s3, later hb2 s0, later hb2 s1⟩
    refine ⟨_, rfl, ?_⟩
    refine hK.out _ _ (fun _ => S1) ?_
    clear hK K S0
    try simp only [Act.put, List.setIfInBounds_toArray, List.set_cons_zero, List.set_cons_succ]
    refine wpAnyT_take (i := 7) (v := .agg #[.int .i64 y.Base, .slice A2 y.Batches.length c2]) rfl (by kernel_rfl) (fun _ _ _ h => h) (by rfl) (fun W hW => ?_) S1 ?_
    · obtain ⟨h1, h2, h3⟩ := hW
      go_simp
    try simp only [Act.put, List.setIfInBounds_toArray, List.set_cons_zero, List.set_cons_succ]
    refine wpAnyT_one (i := 8) (by kernel_rfl) rfl (fun K hK => ?_)
    have hba := below_al w1 (.cells #[.int .i64 y.Base, .slice A2 y.Batches.length c2] 45)
    go_simp
    have S2 : (w1.alloc (.cells #[.int .i64 y.Base, .slice A2 y.Batches.length c2] 45)).cell? ⟨w.heap.size, 3, none⟩ = some (.slice A' k c') ∧ (w1.alloc (.cells #[.int .i64 y.Base, .slice A2 y.Batches.length c2] 45)).cell? ⟨H, 0, none⟩ = some (.int .i64 y.Base) ∧ (w1.alloc (.cells #[.int .i64 y.Base, .slice A2 y.Batches.length c2] 45)).cell? ⟨H, 1, none⟩ = some (.slice A1 y.Batches.length c1) := ⟨later hba S1.1, later hba S1.2.1, later hba S1.2.2⟩
    refine hK.out _ _ (fun _ => S2) ?_
    clear hK K S1
    try simp only [Act.put, List.setIfInBounds_toArray, List.set_cons_zero, List.set_cons_succ]
    refine wpAnyT_one (i := 9) (by kernel_rfl) rfl (fun K hK => ?_)
    refine step_el (v := .slice A' k c') info_seg rfl (by decide) (by decide) rfl _ _ _ (by rfl) Try.underlying26 rfl HO.out (below_tr hb1 (below_tr hb2 (below_al _ _))) (by omega) _ _ rfl (T_bel (seg_T hT2) (below_al _ _)) (Box.new w1 _ _) ⟨hF2.1, fun b hb' => by have := hF2.2 b hb'; simp at this; omega⟩ (by rw [HLT.out]; omega) ?_
    rw [HLT.out]
    intro g c3 w4 hO4 hgr hvb
    have hbb := ((below_tr hb (below_tr hb1 (below_tr hb2 hba))).grown hgr (by have := hb2.size; have := hba.size; omega) (fun q hq => by have := hvb q hq; omega))
    have HBn := Lib.hid ((HB1.out.below (below_tr hb1 (below_tr hb2 hba))).grown hgr (fun h => by have := hvb _ h; omega))
    have H2n := Lib.hid ((HB2.out.below (below_tr hb1 (below_tr hb2 hba))).grown hgr (fun h => by have := hvb _ h; omega))
    have BH := Lib.hid ((B3.below (below_tr hb2 hba)).grown hgr (fun e => by have := HOL.out H e; have := HH.out; omega))
    have t3n := HBn.out.cell 3 (.slice A' k c') rfl
    have f3n := HBn.out.frz 3
    have g3n := HBn.out.lt
    have S3 : w4.cell? ⟨w.heap.size, 3, none⟩ = some (.slice A' k c') ∧ w4.cell? ⟨H, 0, none⟩ = some (.int .i64 y.Base) ∧ w4.cell? ⟨H, 1, none⟩ = some (.slice A1 y.Batches.length c1) := ⟨t3n, BH.out.cell 0 _ rfl, BH.out.cell 1 _ rfl⟩
    refine hK.out _ _ (fun _ => S3) ?_
    clear hK K S2
    try simp only [Act.put, List.setIfInBounds_toArray, List.set_cons_zero, List.set_cons_succ]
    refine wpAnyT_take (i := 10) (v := .pointer (some ⟨w.heap.size, 3, none⟩)) rfl (by kernel_rfl) (fun _ _ _ h => h) (by rfl) (fun W hW => ?_) S3 ?_
    · obtain ⟨h1, h2, h3⟩ := hW
      go_simp
    try simp only [Act.put, List.setIfInBounds_toArray, List.set_cons_zero, List.set_cons_succ]
    refine wpAnyT_one (i := 11) (by kernel_rfl) rfl (fun K hK => ?_)
    go_simp
    refine hK.out _ _ (fun h => absurd rfl h) ?_
    clear hK K S3
    refine wpAnyT_done (by kernel_rfl) ?_ _
    rw [← HK.out] at hO4
    go_wp2
    go_roundg (gk - 1)
    case rel => exact ⟨k + 1, _, c3, by omega, by go_num, Lib.hid (by simpa using HBn.out.set 3 (.slice (some ⟨g, 0, none⟩) (k + 1) c3)), Lib.hid (H2n.out.far _ _ _ (by omega)), Lib.hid (hO4.setc _ _ _ (by omega)), hbb.setCell (p := ⟨w.heap.size, 3, none⟩) (by simp) _⟩
    case measure => omega
end Go.Proofs.Ytiefpllmnmmdlaa.H
