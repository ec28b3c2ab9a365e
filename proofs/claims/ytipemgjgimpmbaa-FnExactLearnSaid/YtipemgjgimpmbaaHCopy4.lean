/-
Deep copies, the reference's: l3Batch, l3Batches. Conditions: each contract's own premises.
-/
import Derived.Test.YtipemgjgimpmbaaHCopy2
namespace Go.Proofs.Ytipemgjgimpmbaa.H
open Go.RowKit
set_option linter.unusedVariables false
set_option linter.unusedSimpArgs false
set_option maxRecDepth 100000
theorem lit_row {e : TypeId} {sz : Nat} (w : World) : (w.alloc (.cells #[] e)).ownsRow w.heap.size e sz (.slice (some ⟨w.heap.size, 0, none⟩) 0 0) 0 [] := World.ownsRow_lit (base := w.heap.size) (e := e) (size := sz) w #[] 0 (by simp) (by simp [maxLen]) (by simp)
theorem lit_KO {α : Type} {d : Ki α} {e : TypeId} {w0 : World} (w : World) : KO d e w0 (w.alloc (.cells #[] e)) w.heap.size [] (.slice (some ⟨w.heap.size, 0, none⟩) 0 0) := ⟨[], lit_row w, by simp, by simp⟩
theorem lit_own {α : Type} {d : Ki α} {e : TypeId} (w : World) : OwnR d e w.heap.size (w.alloc (.cells #[] e)) [] (.slice (some ⟨w.heap.size, 0, none⟩) 0 0) := by
  have h := lit_row (e := e) (sz := d.sz) w
  exact ⟨[w.heap.size], ⟨[], [], ownsL_of h, rfl, Nat.le_refl _, by simp [Value.ownBlock], by simp⟩, by simp, by simp, Ex.of h⟩
set_option maxHeartbeats 8000000 in
theorem l3Batch_c (w : World) (b : Batch) {A : Option Addr} {c : Nat} (hc : b.Records.length ≤ c) (hr : Row kRecord w A b.Records) (hs : b.sm) :
    Calls Try.prog 52 #[.agg #[.int .i64 b.Base, .int .i64 b.Epoch, .int .i64 b.Producer, .int .i64 b.Turn, .int .i64 b.Seq, .int .i64 b.Flags, .slice A b.Records.length c]] w (b.Made w) := by
  have HS := Lib.hid hs
  have hl := hs.1
  clear hs
  have hu := Try.underlying52
  have hu2 := Try.underlying70
  have hu3 := Try.underlying116
  have hu4 := Try.underlying50
  go_enter Try.func52, Try.ntmps52
  go_upto_region 1 with fail
  have B1 := (Blk.new w #[.int .i64 b.Base, .int .i64 b.Epoch, .int .i64 b.Producer, .int .i64 b.Turn, .int .i64 b.Seq, .int .i64 b.Flags, .slice A b.Records.length c] 52).below (below_al _ (.cells #[.int .i64 0, .int .i64 0, .int .i64 0, .int .i64 0, .int .i64 0, .int .i64 0, .slice none 0 0] 52))
  have B2 := Blk.new (w.alloc (.cells #[.int .i64 b.Base, .int .i64 b.Epoch, .int .i64 b.Producer, .int .i64 b.Turn, .int .i64 b.Seq, .int .i64 b.Flags, .slice A b.Records.length c] 52)) #[.int .i64 0, .int .i64 0, .int .i64 0, .int .i64 0, .int .i64 0, .int .i64 0, .slice none 0 0] 52
  have hb := below_tr (below_al w (.cells #[.int .i64 b.Base, .int .i64 b.Epoch, .int .i64 b.Producer, .int .i64 b.Turn, .int .i64 b.Seq, .int .i64 b.Flags, .slice A b.Records.length c] 52)) (below_al _ (.cells #[.int .i64 0, .int .i64 0, .int .i64 0, .int .i64 0, .int .i64 0, .int .i64 0, .slice none 0 0] 52))
  rw [size_al] at B2
  have hz : ((w.alloc (.cells #[.int .i64 b.Base, .int .i64 b.Epoch, .int .i64 b.Producer, .int .i64 b.Turn, .int .i64 b.Seq, .int .i64 b.Flags, .slice A b.Records.length c] 52)).alloc (.cells #[.int .i64 0, .int .i64 0, .int .i64 0, .int .i64 0, .int .i64 0, .int .i64 0, .slice none 0 0] 52)).heap.size = w.heap.size + 2 := by simp
  generalize (w.alloc (.cells #[.int .i64 b.Base, .int .i64 b.Epoch, .int .i64 b.Producer, .int .i64 b.Turn, .int .i64 b.Seq, .int .i64 b.Flags, .slice A b.Records.length c] 52)).alloc (.cells #[.int .i64 0, .int .i64 0, .int .i64 0, .int .i64 0, .int .i64 0, .int .i64 0, .slice none 0 0] 52) = W1 at B1 B2 hb hz ⊢
  have a0 := B1.cell 0 _ rfl
  have a1 := B1.cell 1 _ rfl
  have a2 := B1.cell 2 _ rfl
  have a3 := B1.cell 3 _ rfl
  have a4 := B1.cell 4 _ rfl
  have a5 := B1.cell 5 _ rfl
  have a6 := B1.cell 6 _ rfl
  go_upto_region 2 with fail
  clear a0 a1 a2 a3 a4 a5 a6
  have B3 := Blk.new W1 #[.int .i64 b.Base, .int .i64 b.Epoch, .int .i64 b.Producer, .int .i64 b.Turn, .int .i64 b.Seq, .int .i64 b.Flags, .slice A b.Records.length c] 52
  have hbx := below_al W1 (.cells #[.int .i64 b.Base, .int .i64 b.Epoch, .int .i64 b.Producer, .int .i64 b.Turn, .int .i64 b.Seq, .int .i64 b.Flags, .slice A b.Records.length c] 52)
  have C1 := Lib.hid (B1.below hbx)
  have C2 := Lib.hid (B2.below hbx)
  have hbw := below_tr hb hbx
  rw [hz] at B3
  have hz2 : (W1.alloc (.cells #[.int .i64 b.Base, .int .i64 b.Epoch, .int .i64 b.Producer, .int .i64 b.Turn, .int .i64 b.Seq, .int .i64 b.Flags, .slice A b.Records.length c] 52)).heap.size = w.heap.size + 3 := by simp [hz]
  generalize W1.alloc (.cells #[.int .i64 b.Base, .int .i64 b.Epoch, .int .i64 b.Producer, .int .i64 b.Turn, .int .i64 b.Seq, .int .i64 b.Flags, .slice A b.Records.length c] 52) = W2 at B3 C1 C2 hbw hz2 ⊢
  clear hbx hb B1 B2 hz
  have B3' := B3.below (below_al W2 (.cells #[] 116))
  have s6 := B3'.cell 6 _ rfl
  have z6 := B3'.frz 6
  have g6 := B3'.lt
  go_upto_region 3 with fail
  clear s6 z6 g6
  have hzs : (W2.setCell ⟨w.heap.size + 2, 6, none⟩ (.slice (some ⟨w.heap.size + 3, 0, none⟩) 0 0)).heap.size = w.heap.size + 3 := by simp [hz2]
  have D3' := B3.set 6 (.slice (some ⟨w.heap.size + 3, 0, none⟩) 0 0)
  have D1' := C1.out.far (w.heap.size + 2) 6 (.slice (some ⟨w.heap.size + 3, 0, none⟩) 0 0) (by omega)
  have D2' := C2.out.far (w.heap.size + 2) 6 (.slice (some ⟨w.heap.size + 3, 0, none⟩) 0 0) (by omega)
  have hbD' := hbw.setCell (p := ⟨w.heap.size + 2, 6, none⟩) (by simp) (.slice (some ⟨w.heap.size + 3, 0, none⟩) 0 0)
  generalize W2.setCell ⟨w.heap.size + 2, 6, none⟩ (.slice (some ⟨w.heap.size + 3, 0, none⟩) 0 0) = W2s at hzs D3' D1' D2' hbD' ⊢
  have D3 := D3'.below (below_al W2s (.cells #[] 116))
  have D1 := Lib.hid (D1'.below (below_al W2s (.cells #[] 116)))
  have D2 := Lib.hid (D2'.below (below_al W2s (.cells #[] 116)))
  have hbD := below_tr hbD' (below_al W2s (.cells #[] 116))
  have hO1 := lit_own (d := kRecord) (e := 116) W2s
  rw [hzs] at hO1
  generalize W2s.alloc (.cells #[] 116) = W3 at D3 D1 D2 hbD hO1 ⊢
  clear D3' D1' D2' hbD' hzs B3 B3' C1 C2 hbw hz2
  have hO2 := hO1.mono (B' := w.heap.size + 3) (by omega)
  go_upto_region 4 with fail
  go_loopg [4] b.Records.length (fun g v4 wr => ∃ (k : Nat) (A' : Option Addr) (c' : Nat), k + g = b.Records.length ∧ v4 = .int .i64 k ∧ Hid (Blk wr w.heap.size #[.int .i64 b.Base, .int .i64 b.Epoch, .int .i64 b.Producer, .int .i64 b.Turn, .int .i64 b.Seq, .int .i64 b.Flags, .slice A b.Records.length c] 52) ∧ Hid (Blk wr (w.heap.size + 1) #[.int .i64 0, .int .i64 0, .int .i64 0, .int .i64 0, .int .i64 0, .int .i64 0, .slice none 0 0] 52) ∧ Hid (Blk wr (w.heap.size + 2) #[.int .i64 b.Base, .int .i64 b.Epoch, .int .i64 b.Producer, .int .i64 b.Turn, .int .i64 b.Seq, .int .i64 b.Flags, .slice A' k c'] 52) ∧ Hid (OwnR kRecord 116 (w.heap.size + 3) wr (b.Records.take k) (.slice A' k c')) ∧ Below w.heap.size w wr)
  case atStart => exact ⟨0, some ⟨w.heap.size + 3, 0, none⟩, 0, by omega, rfl, D1, D2, Lib.hid D3, Lib.hid (by rw [List.take_zero]; exact hO2), hbD⟩
  case round =>
    clear D1 D2 D3 hO1 hO2 hbD
    obtain ⟨k, A', c', hk, rfl, HB1, HB2, HB3, HO, hb⟩ := hrel
    have hsz := hb.size
    have hg1 := HB1.out.lt
    have hg2 := HB2.out.lt
    have hg3 := HB3.out.lt
    have q6 : wr.cell? ⟨w.heap.size, 6, none⟩ = some (.slice A b.Records.length c) := HB1.out.cell 6 _ rfl
    by_cases hlt : k < b.Records.length
    case neg =>
      obtain rfl : k = b.Records.length := by omega
      have d0 := HB3.out.cell 0 _ rfl
      have d1 := HB3.out.cell 1 _ rfl
      have d2 := HB3.out.cell 2 _ rfl
      have d3 := HB3.out.cell 3 _ rfl
      have d4 := HB3.out.cell 4 _ rfl
      have d5 := HB3.out.cell 5 _ rfl
      have d6 := HB3.out.cell 6 _ rfl
      have e0 := HB2.out.cell 0 _ rfl
      have e1 := HB2.out.cell 1 _ rfl
      have e2 := HB2.out.cell 2 _ rfl
      have e3 := HB2.out.cell 3 _ rfl
      have e4 := HB2.out.cell 4 _ rfl
      have e5 := HB2.out.cell 5 _ rfl
      have e6 := HB2.out.cell 6 _ rfl
      have f0 := HB2.out.frz 0
      have f1 := HB2.out.frz 1
      have f2 := HB2.out.frz 2
      have f3 := HB2.out.frz 3
      have f4 := HB2.out.frz 4
      have f5 := HB2.out.frz 5
      have f6 := HB2.out.frz 6
      have hO := HO.out
      rw [List.take_length] at hO
      have HO2 := Lib.hid hO
      clear hO
      go_wp2
      refine bodyPost_ret (v := .agg #[.int .i64 b.Base, .int .i64 b.Epoch, .int .i64 b.Producer, .int .i64 b.Turn, .int .i64 b.Seq, .int .i64 b.Flags, .slice A' b.Records.length c']) (by simp [results, Try.results52, go_sem, e0, e1, e2, e3, e4, e5, e6]) rfl (batch_made (OwnT.mono (B := w.heap.size + 3) ?_ (by omega)) ?_)
      · repeat (refine OwnT.setc ?_ _ _ _ (by omega))
        exact HO2.out.toT
      · repeat (first | with_reducible exact Below.refl _ _ | with_reducible assumption | ((with_reducible refine Below.setCell ?_ ?_ _); rotate_left; (simp <;> omega)) | ((with_reducible refine Below.alloc ?_ ?_ _); rotate_left; (simp <;> omega)))
    have hkc : k ≤ b.Records.length := by omega
    obtain ⟨ad, y, A5, c5, rfl, hy, p0, p1, p2, p3, p4, p5, l5, g5⟩ := Record.at (Row_below hr hb) k hlt
    have HY := Lib.hid hy
    have hy5 := (HS.out.2 y (List.mem_of_getElem? hy)).2.2.1
    clear hy
    have X1 := Blk.new wr #[.int .i64 y.Time, .bool y.Keyed, .string y.Key, .bool y.Gone, .string y.Value, .slice A5 y.Heads.length c5] 116
    have hb1 := below_al wr (.cells #[.int .i64 y.Time, .bool y.Keyed, .string y.Key, .bool y.Gone, .string y.Value, .slice A5 y.Heads.length c5] 116)
    obtain ⟨G, hG⟩ : ∃ n, n = wr.heap.size := ⟨_, rfl⟩
    go_upto_region 7 with fail
    clear p0 p1 p2 p3 p4 p5 q6
    have E1 := Lib.hid (HB1.out.below hb1)
    have E2 := Lib.hid (HB2.out.below hb1)
    have E3 := Lib.hid (HB3.out.below hb1)
    have G5 := Lib.hid (Row_below g5 hb1)
    generalize wr.alloc (.cells #[.int .i64 y.Time, .bool y.Keyed, .string y.Key, .bool y.Gone, .string y.Value, .slice A5 y.Heads.length c5] 116) = W1 at X1 hb1 E1 E2 E3 G5 ⊢
    rw [← hG] at X1 ⊢
    have HG := Lib.hid hG
    clear hG
    have hs1 := hb1.size
    have X2 := X1.below (below_al W1 (.cells #[] 152))
    have a5 : (W1.alloc (.cells #[] 152)).cell? ⟨G, 5, none⟩ = some (.slice A5 y.Heads.length c5) := X2.cell 5 _ rfl
    have z5 := X2.frz 5
    have hGl := X2.lt
    go_upto_region 8 with (at_builtin; refine list_flat (v := .slice (some ⟨W1.heap.size, 0, none⟩) 0 0) info_head rfl (by decide) (by decide) head_flat rfl _ _ _ rfl Try.underlying114 rfl (lit_KO W1) rfl (Row_below G5.out (below_al _ _)) hy5 (by simp) ?_; intro A6 c6 W2 hO5 hgr hvb; have X3 := X2.grown hgr (by simp [Value.ownBlock]; have := X1.lt; omega); have a6 : W2.cell? ⟨G, 5, none⟩ = some (.slice A5 y.Heads.length c5) := X3.cell 5 _ rfl; have z6 := X3.frz 5; have hGl2 := X3.lt; have HGR := Lib.hid hgr; clear hgr; have HO5 := Lib.hid hO5; clear hO5)
    have HBW2 : Hid (Below W1.heap.size W1 W2) := Lib.hid ((below_al W1 (.cells #[] 152)).grown HGR.out (by simp) (fun k hk => by simp [Value.ownBlock] at hk; omega))
    clear hvb HGR
    have hbr2 := below_tr hb1 HBW2.out
    have hbw2 := below_tr hb hbr2
    have X4 := X3.set 5 (.slice A6 y.Heads.length c6)
    have hbw3 : Below w.heap.size w (W2.setCell ⟨G, 5, none⟩ (.slice A6 y.Heads.length c6)) := hbw2.setCell (p := ⟨G, 5, none⟩) (by have := HG.out; simp; omega) _
    have hbr3 : Below wr.heap.size wr (W2.setCell ⟨G, 5, none⟩ (.slice A6 y.Heads.length c6)) := hbr2.setCell (p := ⟨G, 5, none⟩) (by have := HG.out; simp; omega) _
    have HO6 := Lib.hid (HO5.out.setc G 5 (.slice A6 y.Heads.length c6) (by have := HG.out; have := X1.lt; omega))
    have H1 := Lib.hid (HB1.out.below hbr3)
    have H2 := Lib.hid (HB2.out.below hbr3)
    have H3 := Lib.hid (HB3.out.below hbr3)
    generalize W2.setCell ⟨G, 5, none⟩ (.slice A6 y.Heads.length c6) = W3 at X4 hbw3 hbr3 HO6 H1 H2 H3 ⊢
    clear a6 z6 hGl2 HO5 X3 hbw2 hbr2 a5 z5 hGl G5 hb1 X1 X2 g5 E1 E2 E3 HBW2
    have d0 : W3.cell? ⟨G, 0, none⟩ = some (.int .i64 y.Time) := X4.cell 0 _ rfl
    have d1 : W3.cell? ⟨G, 1, none⟩ = some (.bool y.Keyed) := X4.cell 1 _ rfl
    have d2 : W3.cell? ⟨G, 2, none⟩ = some (.string y.Key) := X4.cell 2 _ rfl
    have d3 : W3.cell? ⟨G, 3, none⟩ = some (.bool y.Gone) := X4.cell 3 _ rfl
    have d4 : W3.cell? ⟨G, 4, none⟩ = some (.string y.Value) := X4.cell 4 _ rfl
    have d5 : W3.cell? ⟨G, 5, none⟩ = some (.slice A6 y.Heads.length c6) := X4.cell 5 _ rfl
    have q6 : W3.cell? ⟨w.heap.size + 2, 6, none⟩ = some (.slice A' k c') := H3.out.cell 6 _ rfl
    have hbA := below_al W3 (.cells #[.int .i64 y.Time, .bool y.Keyed, .string y.Key, .bool y.Gone, .string y.Value, .slice A6 y.Heads.length c6] 116)
    have hbwA := below_tr hbw3 hbA
    have hbrA := below_tr hbr3 hbA
    have X := Box.new W3 #[.int .i64 y.Time, .bool y.Keyed, .string y.Key, .bool y.Gone, .string y.Value, .slice A6 y.Heads.length c6] 116
    obtain ⟨F6, hT6, hN6, hG6, _⟩ := HO6.out.below hbA
    have hTr := Record.mkT _ y hT6
    have HFx : Hid (Fresh wr F6) := Lib.hid ⟨hN6, fun b hb' => by have := hG6 b hb'; omega⟩
    have HK := Lib.hid (show b.Records.take (k + 1) = b.Records.take k ++ [y] from take_snoc HY.out)
    have HLT := Lib.hid (show (b.Records.take k).length = k by rw [List.length_take]; omega)
    go_wp2_with (at_builtin; refine list_el (v := .slice A' k c') info_rec rfl (by decide) (by decide) rfl _ _ _ rfl Try.underlying50 rfl HO.out hbrA (by omega) _ _ rfl hTr X HFx.out (by rw [HLT.out]; omega) ?_; rw [HLT.out]; intro A7 c7 W4 hO7 hgr hvb; have H3n := Lib.hid ((H3.out.below hbA).grown hgr (fun e => by have := hvb _ e; omega)); have t6 := H3n.out.cell 6 _ rfl; have f6 := H3n.out.frz 6; have g6 := H3n.out.lt; have HGR := Lib.hid hgr; clear hgr)
    have hbw7 := hbwA.grown HGR.out (by have := hbwA.size; omega) (fun q hq => by have := hvb q hq; omega)
    have H1n := Lib.hid ((H1.out.below hbA).grown HGR.out (fun e => by have := hvb _ e; omega))
    have H2n := Lib.hid ((H2.out.below hbA).grown HGR.out (fun e => by have := hvb _ e; omega))
    rw [← HK.out] at hO7
    go_roundg (gk - 1)
    case rel => exact ⟨k + 1, A7, c7, by omega, by go_num, Lib.hid (H1n.out.far _ _ _ (by omega)), Lib.hid (H2n.out.far _ _ _ (by omega)), Lib.hid (by simpa using H3n.out.set 6 (.slice A7 (k + 1) c7)), Lib.hid (hO7.setc _ _ _ (by omega)), hbw7.setCell (p := ⟨w.heap.size + 2, 6, none⟩) (by simp) _⟩
    case measure => omega
set_option maxHeartbeats 4000000 in
theorem l3Batches_c (w : World) (l : List Batch) {A : Option Addr} {c : Nat} (hc : l.length ≤ c) (hr : Row kBatch w A l) (hl : l.length ≤ 1048576) (hs : ∀ y ∈ l, y.sm) :
    Calls Try.prog 97 #[.slice A l.length c] w (MadeS kBatch 52 l w) := by
  have HS := Lib.hid hs
  clear hs
  have hu := Try.underlying52
  have hu2 := Try.underlying70
  go_enter Try.func97, Try.ntmps97
  have hO0 := lit_own (d := kBatch) (e := 52) w
  have hb0 := below_al w (.cells #[] 52)
  go_upto_region 3 with fail
  go_loopg [3, 4] l.length (fun g v3 v4 wr => ∃ (k : Nat) (A' : Option Addr) (c' : Nat), k + g = l.length ∧ v4 = .int .i64 k ∧ v3 = .slice A' k c' ∧ Hid (OwnR kBatch 52 w.heap.size wr (l.take k) (.slice A' k c')) ∧ Below w.heap.size w wr)
  case atStart => exact ⟨0, _, 0, by omega, rfl, rfl, Lib.hid (by rw [List.take_zero]; exact hO0), hb0⟩
  case round =>
    clear hO0 hb0
    obtain ⟨k, A', c', hk, rfl, rfl, HO, hb⟩ := hrel
    by_cases hlt : k < l.length
    case neg =>
      obtain rfl : k = l.length := by omega
      obtain ⟨F, hT, hF⟩ := HO.out.fresh
      rw [List.take_length] at hT
      go_wp2
      go_ret
      exact ⟨_, F, rfl, hT, hF, hb⟩
    have hkc : k ≤ l.length := by omega
    obtain ⟨ad, y, A6, c6, rfl, hy, p0, p1, p2, p3, p4, p5, p6, l6, g6⟩ := Batch.at (Row_below hr hb) k hlt
    have HK := Lib.hid (show l.take (k + 1) = l.take k ++ [y] from take_snoc hy)
    have hys := HS.out y (List.mem_of_getElem? hy)
    clear hy
    have HLT := Lib.hid (show (l.take k).length = k by rw [List.length_take]; omega)
    have HG6 := Lib.hid g6
    go_wp2_with (first
      | (go_at_call 52; refine (l3Batch_c _ y l6 HG6.out hys).mono ?_; rintro e W2 ⟨v6, F6, rfl, hT6, hF6, hb2⟩)
      | (at_builtin; refine list_el (v := .slice A' k c') info_batch rfl (by decide) (by decide) rfl _ _ _ rfl Try.underlying70 rfl HO.out (below_tr hb2 (below_al _ _)) hb.size _ _ rfl (T_bel (d := kBatch) hT6 (below_al _ _)) (Box.new W2 _ _) hF6 (by rw [HLT.out]; omega) ?_; rw [HLT.out]; intro A7 c7 W4 hO7 hgr hvb))
    have hbw7 := (below_tr hb (below_tr hb2 (below_al W2 _))).grown hgr (by have := hb.size; have := hb2.size; simp; omega) hvb
    rw [← HK.out] at hO7
    go_roundg (gk - 1)
    case rel => exact ⟨k + 1, A7, c7, by omega, by go_num, rfl, Lib.hid hO7, hbw7⟩
    case measure => omega
end Go.Proofs.Ytipemgjgimpmbaa.H
