/-
Deep copies, the reference's: l3Copy. Conditions: each contract's own premises.
-/
import Derived.Test.YtipemgjgimpmbaaHCopy3
import Derived.Test.YtipemgjgimpmbaaHCopy4
import Derived.Test.YtipemgjgimpmbaaHLast
namespace Go.Proofs.Ytipemgjgimpmbaa.H
open Go.RowKit
set_option linter.unusedVariables false
set_option linter.unusedSimpArgs false
set_option maxRecDepth 100000
theorem l3BatchesV (w : World) (l : List Batch) {A : Option Addr} {c : Nat} (hc : l.length ≤ c) (hr : Row kBatch w A l) (hl : l.length ≤ 1048576) (hs : ∀ y ∈ l, y.sm) :
    Calls Try.prog 97 #[.slice A l.length c] w fun e w' => ∃ A' c' F, e = .returned (.slice A' l.length c') ∧ TS kBatch 52 w' F l (.slice A' l.length c') ∧ Fresh w F ∧ Below w.heap.size w w' := by
  refine (l3Batches_c w l hc hr hl hs).mono ?_
  rintro e w' ⟨v, F, rfl, hT, hF, hb⟩
  obtain ⟨A', c', rfl, _⟩ := TS_read hT
  exact ⟨A', c', F, rfl, hT, hF, hb⟩
set_option maxHeartbeats 8000000 in
theorem l3Copy_c (w : World) (x : Log) {A : Option Addr} {c : Nat} (hc : x.Segments.length ≤ c) (hr : Row kSegment w A x.Segments) (hs : x.sm) :
    Calls Try.prog 56 #[.agg #[.int .i64 x.Start, .int .i64 x.Next, .int .i64 x.Roll, .slice A x.Segments.length c]] w (x.Made w) := by
  have HS := Lib.hid hs
  have hl := hs.1
  clear hs
  have hu := Try.underlying83
  have hu2 := Try.underlying28
  have hu3 := Try.underlying30
  go_enter Try.func56, Try.ntmps56
  go_upto_region 1 with fail
  have B1 := (Blk.new w #[.int .i64 x.Start, .int .i64 x.Next, .int .i64 x.Roll, .slice A x.Segments.length c] 30).below (below_al _ (.cells #[.int .i64 0, .int .i64 0, .int .i64 0, .slice none 0 0] 30))
  have B2 := Blk.new (w.alloc (.cells #[.int .i64 x.Start, .int .i64 x.Next, .int .i64 x.Roll, .slice A x.Segments.length c] 30)) #[.int .i64 0, .int .i64 0, .int .i64 0, .slice none 0 0] 30
  have hb := below_tr (below_al w (.cells #[.int .i64 x.Start, .int .i64 x.Next, .int .i64 x.Roll, .slice A x.Segments.length c] 30)) (below_al _ (.cells #[.int .i64 0, .int .i64 0, .int .i64 0, .slice none 0 0] 30))
  rw [size_al] at B2
  have hz : ((w.alloc (.cells #[.int .i64 x.Start, .int .i64 x.Next, .int .i64 x.Roll, .slice A x.Segments.length c] 30)).alloc (.cells #[.int .i64 0, .int .i64 0, .int .i64 0, .slice none 0 0] 30)).heap.size = w.heap.size + 2 := by simp
  generalize (w.alloc (.cells #[.int .i64 x.Start, .int .i64 x.Next, .int .i64 x.Roll, .slice A x.Segments.length c] 30)).alloc (.cells #[.int .i64 0, .int .i64 0, .int .i64 0, .slice none 0 0] 30) = W1 at B1 B2 hb hz ⊢
  have a0 := B1.cell 0 _ rfl
  have a1 := B1.cell 1 _ rfl
  have a2 := B1.cell 2 _ rfl
  have a3 := B1.cell 3 _ rfl
  go_upto_region 2 with fail
  clear a0 a1 a2 a3
  have B3 := Blk.new W1 #[.int .i64 x.Start, .int .i64 x.Next, .int .i64 x.Roll, .slice A x.Segments.length c] 30
  have hbx := below_al W1 (.cells #[.int .i64 x.Start, .int .i64 x.Next, .int .i64 x.Roll, .slice A x.Segments.length c] 30)
  have C1 := Lib.hid (B1.below hbx)
  have C2 := Lib.hid (B2.below hbx)
  have hbw := below_tr hb hbx
  rw [hz] at B3
  have hz2 : (W1.alloc (.cells #[.int .i64 x.Start, .int .i64 x.Next, .int .i64 x.Roll, .slice A x.Segments.length c] 30)).heap.size = w.heap.size + 3 := by simp [hz]
  generalize W1.alloc (.cells #[.int .i64 x.Start, .int .i64 x.Next, .int .i64 x.Roll, .slice A x.Segments.length c] 30) = W2 at B3 C1 C2 hbw hz2 ⊢
  clear hbx hb B1 B2 hz
  have B3' := B3.below (below_al W2 (.cells #[] 83))
  have s6 := B3'.cell 3 _ rfl
  have z6 := B3'.frz 3
  have g6 := B3'.lt
  go_upto_region 3 with fail
  clear s6 z6 g6
  have hzs : (W2.setCell ⟨w.heap.size + 2, 3, none⟩ (.slice (some ⟨w.heap.size + 3, 0, none⟩) 0 0)).heap.size = w.heap.size + 3 := by simp [hz2]
  have D3' := B3.set 3 (.slice (some ⟨w.heap.size + 3, 0, none⟩) 0 0)
  have D1' := C1.out.far (w.heap.size + 2) 3 (.slice (some ⟨w.heap.size + 3, 0, none⟩) 0 0) (by omega)
  have D2' := C2.out.far (w.heap.size + 2) 3 (.slice (some ⟨w.heap.size + 3, 0, none⟩) 0 0) (by omega)
  have hbD' := hbw.setCell (p := ⟨w.heap.size + 2, 3, none⟩) (by simp) (.slice (some ⟨w.heap.size + 3, 0, none⟩) 0 0)
  generalize W2.setCell ⟨w.heap.size + 2, 3, none⟩ (.slice (some ⟨w.heap.size + 3, 0, none⟩) 0 0) = W2s at hzs D3' D1' D2' hbD' ⊢
  have D3 := D3'.below (below_al W2s (.cells #[] 83))
  have D1 := Lib.hid (D1'.below (below_al W2s (.cells #[] 83)))
  have D2 := Lib.hid (D2'.below (below_al W2s (.cells #[] 83)))
  have hbD := below_tr hbD' (below_al W2s (.cells #[] 83))
  have hO1 := lit_own (d := kSegment) (e := 83) W2s
  rw [hzs] at hO1
  generalize W2s.alloc (.cells #[] 83) = W3 at D3 D1 D2 hbD hO1 ⊢
  clear D3' D1' D2' hbD' hzs B3 B3' C1 C2 hbw hz2
  have hO2 := hO1.mono (B' := w.heap.size + 3) (by omega)
  go_upto_region 4 with fail
  go_loopg [4] x.Segments.length (fun g v4 wr => ∃ (k : Nat) (A' : Option Addr) (c' : Nat), k + g = x.Segments.length ∧ v4 = .int .i64 k ∧ Hid (Blk wr w.heap.size #[.int .i64 x.Start, .int .i64 x.Next, .int .i64 x.Roll, .slice A x.Segments.length c] 30) ∧ Hid (Blk wr (w.heap.size + 1) #[.int .i64 0, .int .i64 0, .int .i64 0, .slice none 0 0] 30) ∧ Hid (Blk wr (w.heap.size + 2) #[.int .i64 x.Start, .int .i64 x.Next, .int .i64 x.Roll, .slice A' k c'] 30) ∧ Hid (OwnR kSegment 83 (w.heap.size + 3) wr (x.Segments.take k) (.slice A' k c')) ∧ Below w.heap.size w wr)
  case atStart => exact ⟨0, some ⟨w.heap.size + 3, 0, none⟩, 0, by omega, rfl, D1, D2, Lib.hid D3, Lib.hid (by rw [List.take_zero]; exact hO2), hbD⟩
  case round =>
    clear D1 D2 D3 hO1 hO2 hbD
    obtain ⟨k, A', c', hk, rfl, HB1, HB2, HB3, HO, hb⟩ := hrel
    have hsz := hb.size
    have hg1 := HB1.out.lt
    have hg2 := HB2.out.lt
    have hg3 := HB3.out.lt
    have q6 : wr.cell? ⟨w.heap.size, 3, none⟩ = some (.slice A x.Segments.length c) := HB1.out.cell 3 _ rfl
    by_cases hlt : k < x.Segments.length
    case neg =>
      obtain rfl : k = x.Segments.length := by omega
      have d0 := HB3.out.cell 0 _ rfl
      have d1 := HB3.out.cell 1 _ rfl
      have d2 := HB3.out.cell 2 _ rfl
      have d3 := HB3.out.cell 3 _ rfl
      have e0 := HB2.out.cell 0 _ rfl
      have e1 := HB2.out.cell 1 _ rfl
      have e2 := HB2.out.cell 2 _ rfl
      have e3 := HB2.out.cell 3 _ rfl
      have f0 := HB2.out.frz 0
      have f1 := HB2.out.frz 1
      have f2 := HB2.out.frz 2
      have f3 := HB2.out.frz 3
      have hO := HO.out
      rw [List.take_length] at hO
      have HO2 := Lib.hid hO
      clear hO
      go_wp2
      refine bodyPost_ret (v := .agg #[.int .i64 x.Start, .int .i64 x.Next, .int .i64 x.Roll, .slice A' x.Segments.length c']) (by simp [results, Try.results56, go_sem, e0, e1, e2, e3]) rfl (log_made (OwnT.mono (B := w.heap.size + 3) ?_ (by omega)) ?_)
      · repeat (refine OwnT.setc ?_ _ _ _ (by omega))
        exact HO2.out.toT
      · repeat (first | with_reducible exact Below.refl _ _ | with_reducible assumption | ((with_reducible refine Below.setCell ?_ ?_ _); rotate_left; (simp <;> omega)) | ((with_reducible refine Below.alloc ?_ ?_ _); rotate_left; (simp <;> omega)))
    have hkc : k ≤ x.Segments.length := by omega
    obtain ⟨ad, y, A1, c1, rfl, hy, p0, p1, l1, g1⟩ := Segment.at (Row_below hr hb) k hlt
    have HK := Lib.hid (show x.Segments.take (k + 1) = x.Segments.take k ++ [y] from take_snoc hy)
    have hys := HS.out.2 y (List.mem_of_getElem? hy)
    clear hy
    have HLT := Lib.hid (show (x.Segments.take k).length = k by rw [List.length_take]; omega)
    have HG1 := Lib.hid g1
    have s3 : wr.cell? ⟨w.heap.size + 2, 3, none⟩ = some (.slice A' k c') := HB3.out.cell 3 _ rfl
    have hadr : (ad.add (k * 2)).block < w.heap.size := by
      obtain ⟨_, _, _, _, e, _, q0, _⟩ := Segment.at hr k hlt
      cases e
      exact World.block_lt_of_cell? w _ q0
    have HK2 := Lib.hid (show (ad.add (k * 2)).block = ad.block from block_add _ _)
    go_upto_region 6 with fail
    have S0 : wr.drew.cell? ⟨w.heap.size + 2, 3, none⟩ = some (.slice A' k c') ∧ wr.drew.cell? ⟨w.heap.size, 3, none⟩ = some (.slice (some ad) x.Segments.length c) ∧ wr.drew.cell? (ad.add (k * 2)) = some (.int .i64 y.Base) ∧ wr.drew.cell? ⟨(ad.add (k * 2)).block, (ad.add (k * 2)).off + 1, none⟩ = some (.slice A1 y.Batches.length c1) := ⟨s3, q6, p0, p1⟩
    refine wp_region_T 19 (fun W => W.cell? ⟨w.heap.size + 2, 3, none⟩ = some (.slice A' k c') ∧ W.cell? ⟨w.heap.size, 3, none⟩ = some (.slice (some ad) x.Segments.length c) ∧ W.cell? (ad.add (k * 2)) = some (.int .i64 y.Base) ∧ W.cell? ⟨(ad.add (k * 2)).block, (ad.add (k * 2)).off + 1, none⟩ = some (.slice A1 y.Batches.length c1)) (by kernel_rfl) ?_
    refine wpAnyT_take (i := 0) (v := .pointer (some ⟨w.heap.size + 2, 3, none⟩)) rfl (by kernel_rfl) (fun _ _ _ h => h) (by rfl) (fun W hW => ?_) S0 ?_
    · obtain ⟨h1, h2, h3, h4⟩ := hW
      go_simp
    try simp only [Act.put, List.setIfInBounds_toArray, List.set_cons_zero, List.set_cons_succ]
    refine wpAnyT_take (i := 1) (v := .slice A' k c') rfl (by kernel_rfl) (fun _ _ _ h => h) (by rfl) (fun W hW => ?_) S0 ?_
    · obtain ⟨h1, h2, h3, h4⟩ := hW
      go_simp
    try simp only [Act.put, List.setIfInBounds_toArray, List.set_cons_zero, List.set_cons_succ]
    refine wpAnyT_take (i := 2) (v := .pointer (some ⟨w.heap.size, 3, none⟩)) rfl (by kernel_rfl) (fun _ _ _ h => h) (by rfl) (fun W hW => ?_) S0 ?_
    · obtain ⟨h1, h2, h3, h4⟩ := hW
      go_simp
    try simp only [Act.put, List.setIfInBounds_toArray, List.set_cons_zero, List.set_cons_succ]
    refine wpAnyT_take (i := 3) (v := .slice (some ad) x.Segments.length c) rfl (by kernel_rfl) (fun _ _ _ h => h) (by rfl) (fun W hW => ?_) S0 ?_
    · obtain ⟨h1, h2, h3, h4⟩ := hW
      go_simp
    try simp only [Act.put, List.setIfInBounds_toArray, List.set_cons_zero, List.set_cons_succ]
    refine wpAnyT_take (i := 4) (v := .int .i64 k) rfl (by kernel_rfl) (fun _ _ _ h => h) (by rfl) (fun W hW => ?_) S0 ?_
    · obtain ⟨h1, h2, h3, h4⟩ := hW
      go_simp
    try simp only [Act.put, List.setIfInBounds_toArray, List.set_cons_zero, List.set_cons_succ]
    refine wpAnyT_take (i := 5) (v := .pointer (some (ad.add (k * 2)))) rfl (by kernel_rfl) (fun _ _ _ h => h) (by rfl) (fun W hW => ?_) S0 ?_
    · obtain ⟨h1, h2, h3, h4⟩ := hW
      go_simp
    try simp only [Act.put, List.setIfInBounds_toArray, List.set_cons_zero, List.set_cons_succ]
    refine wpAnyT_take (i := 6) (v := .pointer (some (ad.add (k * 2)))) rfl (by kernel_rfl) (fun _ _ _ h => h) (by rfl) (fun W hW => ?_) S0 ?_
    · obtain ⟨h1, h2, h3, h4⟩ := hW
      go_simp
    try simp only [Act.put, List.setIfInBounds_toArray, List.set_cons_zero, List.set_cons_succ]
    refine wpAnyT_take (i := 7) (v := .int .i64 y.Base) rfl (by kernel_rfl) (fun _ _ _ h => h) (by rfl) (fun W hW => ?_) S0 ?_
    · obtain ⟨h1, h2, h3, h4⟩ := hW
      go_simp
    try simp only [Act.put, List.setIfInBounds_toArray, List.set_cons_zero, List.set_cons_succ]
    refine wpAnyT_take (i := 8) (v := .pointer (some ⟨w.heap.size, 3, none⟩)) rfl (by kernel_rfl) (fun _ _ _ h => h) (by rfl) (fun W hW => ?_) S0 ?_
    · obtain ⟨h1, h2, h3, h4⟩ := hW
      go_simp
    try simp only [Act.put, List.setIfInBounds_toArray, List.set_cons_zero, List.set_cons_succ]
    refine wpAnyT_take (i := 9) (v := .slice (some ad) x.Segments.length c) rfl (by kernel_rfl) (fun _ _ _ h => h) (by rfl) (fun W hW => ?_) S0 ?_
    · obtain ⟨h1, h2, h3, h4⟩ := hW
      go_simp
    try simp only [Act.put, List.setIfInBounds_toArray, List.set_cons_zero, List.set_cons_succ]
    refine wpAnyT_take (i := 10) (v := .int .i64 k) rfl (by kernel_rfl) (fun _ _ _ h => h) (by rfl) (fun W hW => ?_) S0 ?_
    · obtain ⟨h1, h2, h3, h4⟩ := hW
      go_simp
    try simp only [Act.put, List.setIfInBounds_toArray, List.set_cons_zero, List.set_cons_succ]
    refine wpAnyT_take (i := 11) (v := .pointer (some (ad.add (k * 2)))) rfl (by kernel_rfl) (fun _ _ _ h => h) (by rfl) (fun W hW => ?_) S0 ?_
    · obtain ⟨h1, h2, h3, h4⟩ := hW
      go_simp
    try simp only [Act.put, List.setIfInBounds_toArray, List.set_cons_zero, List.set_cons_succ]
    refine wpAnyT_take (i := 12) (v := .pointer (some ⟨(ad.add (k * 2)).block, (ad.add (k * 2)).off + 1, none⟩)) rfl (by kernel_rfl) (fun _ _ _ h => h) (by rfl) (fun W hW => ?_) S0 ?_
    · obtain ⟨h1, h2, h3, h4⟩ := hW
      go_simp
    try simp only [Act.put, List.setIfInBounds_toArray, List.set_cons_zero, List.set_cons_succ]
    refine wpAnyT_take (i := 13) (v := .slice A1 y.Batches.length c1) rfl (by kernel_rfl) (fun _ _ _ h => h) (by rfl) (fun W hW => ?_) S0 ?_
    · obtain ⟨h1, h2, h3, h4⟩ := hW
      go_simp
    try simp only [Act.put, List.setIfInBounds_toArray, List.set_cons_zero, List.set_cons_succ]
    refine wpAnyT_one (i := 14) (by kernel_rfl) rfl (fun K hK => ?_)
    refine step_callE rfl 97 #[.slice A1 y.Batches.length c1] (by simp [go_sem]) (l3BatchesV _ y.Batches l1 (Row_below HG1.out (Below.refl _ _).drew) hys.1 hys.2) ?_
    rintro e w1 ⟨A2, c2, F2, rfl, hT2, hF2, hb2'⟩
    have hb2 : Below wr.heap.size wr w1 := below_tr (Below.refl _ _).drew hb2'
    have S1 : w1.cell? ⟨w.heap.size + 2, 3, none⟩ = some (.slice A' k c') ∧ w1.cell? ⟨w.heap.size, 3, none⟩ = some (.slice (some ad) x.Segments.length c) ∧ w1.cell? (ad.add (k * 2)) = some (.int .i64 y.Base) ∧ w1.cell? ⟨(ad.add (k * 2)).block, (ad.add (k * 2)).off + 1, none⟩ = some (.slice A1 y.Batches.length c1) := ⟨later hb2 s3, later hb2 q6, later hb2 p0, later hb2 p1⟩
    refine ⟨_, rfl, ?_⟩
    refine hK.out _ _ (fun _ => S1) ?_
    clear hK K S0
    try simp only [Act.put, List.setIfInBounds_toArray, List.set_cons_zero, List.set_cons_succ]
    refine wpAnyT_take (i := 15) (v := .agg #[.int .i64 y.Base, .slice A2 y.Batches.length c2]) rfl (by kernel_rfl) (fun _ _ _ h => h) (by rfl) (fun W hW => ?_) S1 ?_
    · obtain ⟨h1, h2, h3, h4⟩ := hW
      go_simp
    try simp only [Act.put, List.setIfInBounds_toArray, List.set_cons_zero, List.set_cons_succ]
    refine wpAnyT_one (i := 16) (by kernel_rfl) rfl (fun K hK => ?_)
    have hba := below_al w1 (.cells #[.int .i64 y.Base, .slice A2 y.Batches.length c2] 83)
    go_simp
    have S2 : (w1.alloc (.cells #[.int .i64 y.Base, .slice A2 y.Batches.length c2] 83)).cell? ⟨w.heap.size + 2, 3, none⟩ = some (.slice A' k c') ∧ (w1.alloc (.cells #[.int .i64 y.Base, .slice A2 y.Batches.length c2] 83)).cell? ⟨w.heap.size, 3, none⟩ = some (.slice (some ad) x.Segments.length c) ∧ (w1.alloc (.cells #[.int .i64 y.Base, .slice A2 y.Batches.length c2] 83)).cell? (ad.add (k * 2)) = some (.int .i64 y.Base) ∧ (w1.alloc (.cells #[.int .i64 y.Base, .slice A2 y.Batches.length c2] 83)).cell? ⟨(ad.add (k * 2)).block, (ad.add (k * 2)).off + 1, none⟩ = some (.slice A1 y.Batches.length c1) := ⟨later hba S1.1, later hba S1.2.1, later hba S1.2.2.1, later hba S1.2.2.2⟩
    refine hK.out _ _ (fun _ => S2) ?_
    clear hK K S1
    try simp only [Act.put, List.setIfInBounds_toArray, List.set_cons_zero, List.set_cons_succ]
    refine wpAnyT_one (i := 17) (by kernel_rfl) rfl (fun K hK => ?_)
    refine step_el (v := .slice A' k c') info_seg rfl (by decide) (by decide) rfl _ _ _ (by rfl) Try.underlying28 rfl HO.out (below_tr hb2 (below_al _ _)) (by omega) _ _ rfl (T_bel (seg_T hT2) (below_al _ _)) (Box.new w1 _ _) ⟨hF2.1, fun b hb' => by have := hF2.2 b hb'; simpa using this⟩ (by rw [HLT.out]; omega) ?_
    rw [HLT.out]
    intro g c3 w4 hO4 hgr hvb
    have hbb := ((below_tr hb (below_tr hb2 hba)).grown hgr (by have := hb2.size; have := hba.size; omega) (fun q hq => by have := hvb q hq; omega))
    have HBn := Lib.hid ((HB3.out.below (below_tr hb2 hba)).grown hgr (fun h => by have := hvb _ h; omega))
    have H1n := Lib.hid ((HB1.out.below (below_tr hb2 hba)).grown hgr (fun h => by have := hvb _ h; omega))
    have H2n := Lib.hid ((HB2.out.below (below_tr hb2 hba)).grown hgr (fun h => by have := hvb _ h; omega))
    have t3n := HBn.out.cell 3 (.slice A' k c') rfl
    have f3n := HBn.out.frz 3
    have g3n := HBn.out.lt
    have S3 : w4.cell? ⟨w.heap.size + 2, 3, none⟩ = some (.slice A' k c') ∧ w4.cell? ⟨w.heap.size, 3, none⟩ = some (.slice (some ad) x.Segments.length c) ∧ w4.cell? (ad.add (k * 2)) = some (.int .i64 y.Base) ∧ w4.cell? ⟨(ad.add (k * 2)).block, (ad.add (k * 2)).off + 1, none⟩ = some (.slice A1 y.Batches.length c1) := ⟨t3n, H1n.out.cell 3 _ rfl, hgr.cell S2.2.2.1 (fun e => by have := hvb (ad.add (k * 2)).block e.symm; omega), hgr.cell S2.2.2.2 (fun e => by have := hvb (ad.add (k * 2)).block e.symm; omega)⟩
    refine hK.out _ _ (fun _ => S3) ?_
    clear hK K S2
    try simp only [Act.put, List.setIfInBounds_toArray, List.set_cons_zero, List.set_cons_succ]
    refine wpAnyT_take (i := 18) (v := .pointer (some ⟨w.heap.size + 2, 3, none⟩)) rfl (by kernel_rfl) (fun _ _ _ h => h) (by rfl) (fun W hW => ?_) S3 ?_
    · obtain ⟨h1, h2, h3, h4⟩ := hW
      go_simp
    try simp only [Act.put, List.setIfInBounds_toArray, List.set_cons_zero, List.set_cons_succ]
    refine wpAnyT_one (i := 19) (by kernel_rfl) rfl (fun K hK => ?_)
    go_simp
    refine hK.out _ _ (fun h => absurd rfl h) ?_
    clear hK K S3
    refine wpAnyT_done (by kernel_rfl) ?_ _
    rw [← HK.out] at hO4
    go_wp2
    go_roundg (gk - 1)
    case rel => exact ⟨k + 1, _, c3, by omega, by go_num, Lib.hid (H1n.out.far _ _ _ (by omega)), Lib.hid (H2n.out.far _ _ _ (by omega)), Lib.hid (by simpa using HBn.out.set 3 (.slice (some ⟨g, 0, none⟩) (k + 1) c3)), Lib.hid (hO4.setc _ _ _ (by omega)), hbb.setCell (p := ⟨w.heap.size + 2, 3, none⟩) (by simp) _⟩
    case measure => omega
end Go.Proofs.Ytipemgjgimpmbaa.H
