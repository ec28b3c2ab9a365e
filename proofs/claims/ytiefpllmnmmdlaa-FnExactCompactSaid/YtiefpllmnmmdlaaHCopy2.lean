/-
Deep copies, the program's: copyBatch, copyBatches. Conditions: each contract's own premises.
-/
import Derived.Test.YtiefpllmnmmdlaaHCopy1
namespace Go.Proofs.Ytiefpllmnmmdlaa.H
open Go.RowKit
set_option linter.unusedVariables false
set_option linter.unusedSimpArgs false
set_option maxRecDepth 100000
theorem batch_made {w w' : World} {b : Batch} {v : Value} (hO : OwnT kRecord 53 w.heap.size w' b.Records v) (hb : Below w.heap.size w w') : b.Made w (.returned (.agg #[.int .i64 b.Base, .int .i64 b.Epoch, .int .i64 b.Producer, .int .i64 b.Turn, .int .i64 b.Seq, .int .i64 b.Flags, v])) w' := by
  obtain ⟨F, hT, hF⟩ := hO.fresh
  exact ⟨v, F, rfl, Batch.mkT w' b hT, hF, hb⟩

set_option maxHeartbeats 4000000 in
theorem implCopyBatch_c (w : World) (b : Batch) {A : Option Addr} {c : Nat} (hc : b.Records.length ≤ c) (hr : Row kRecord w A b.Records) (hs : b.sm) :
    Calls Try.prog 58 #[.agg #[.int .i64 b.Base, .int .i64 b.Epoch, .int .i64 b.Producer, .int .i64 b.Turn, .int .i64 b.Seq, .int .i64 b.Flags, .slice A b.Records.length c]] w (b.Made w) := by
  have HS := Lib.hid hs
  clear hs
  have hu := Try.underlying48
  have hu2 := Try.underlying42
  go_enter Try.func58, Try.ntmps58
  go_upto_region 1 with fail
  have B1 := (Blk.new w #[.int .i64 b.Base, .int .i64 b.Epoch, .int .i64 b.Producer, .int .i64 b.Turn, .int .i64 b.Seq, .int .i64 b.Flags, .slice A b.Records.length c] 48).below (below_al _ (.cells #[.int .i64 0, .int .i64 0, .int .i64 0, .int .i64 0, .int .i64 0, .int .i64 0, .slice none 0 0] 48))
  have B2 := Blk.new (w.alloc (.cells #[.int .i64 b.Base, .int .i64 b.Epoch, .int .i64 b.Producer, .int .i64 b.Turn, .int .i64 b.Seq, .int .i64 b.Flags, .slice A b.Records.length c] 48)) #[.int .i64 0, .int .i64 0, .int .i64 0, .int .i64 0, .int .i64 0, .int .i64 0, .slice none 0 0] 48
  have hb := below_tr (below_al w (.cells #[.int .i64 b.Base, .int .i64 b.Epoch, .int .i64 b.Producer, .int .i64 b.Turn, .int .i64 b.Seq, .int .i64 b.Flags, .slice A b.Records.length c] 48)) (below_al _ (.cells #[.int .i64 0, .int .i64 0, .int .i64 0, .int .i64 0, .int .i64 0, .int .i64 0, .slice none 0 0] 48))
  rw [size_al] at B2
  generalize (w.alloc (.cells #[.int .i64 b.Base, .int .i64 b.Epoch, .int .i64 b.Producer, .int .i64 b.Turn, .int .i64 b.Seq, .int .i64 b.Flags, .slice A b.Records.length c] 48)).alloc (.cells #[.int .i64 0, .int .i64 0, .int .i64 0, .int .i64 0, .int .i64 0, .int .i64 0, .slice none 0 0] 48) = W1 at B1 B2 hb ⊢
  have a6 : W1.cell? ⟨w.heap.size, 6, none⟩ = some (.slice A b.Records.length c) := B1.cell 6 _ rfl
  have z6 := B1.frz 6
  have g1 := B1.lt
  have HB2 := Lib.hid B2
  have HR1 := Lib.hid (Row_below hr hb)
  have g2 := B2.lt
  have hsz := hb.size
  go_upto_region 2 with (go_at_call 26; refine (implCopyRecords_c _ b.Records hc HR1.out HS.out.1 HS.out.2).mono ?_; rintro e W2 ⟨v, F, rfl, hT, hF, hb2⟩; obtain ⟨A2, c2, rfl, _⟩ := TS_read hT; have C1 := B1.below hb2; have a6' : W2.cell? ⟨w.heap.size, 6, none⟩ = some (.slice A b.Records.length c) := C1.cell 6 _ rfl; have z6' := C1.frz 6; have g1' := C1.lt; have HC := Lib.hid (hb2); clear hb2)
  have hO : OwnT kRecord 53 (w.heap.size + 2) W2 b.Records (.slice A2 b.Records.length c2) := ⟨F, hT, hF.1, fun q hq => by have := hF.2 q hq; omega⟩
  have D1 := C1.set 6 (.slice A2 b.Records.length c2)
  have D2 := (HB2.out.below HC.out).far w.heap.size 6 (.slice A2 b.Records.length c2) (by omega)
  have hb3 := (below_tr hb HC.out).setCell (p := ⟨w.heap.size, 6, none⟩) (by simp) (.slice A2 b.Records.length c2)
  have hO3 := hO.setc w.heap.size 6 (.slice A2 b.Records.length c2) (by omega)
  generalize W2.setCell ⟨w.heap.size, 6, none⟩ (.slice A2 b.Records.length c2) = W3 at D1 D2 hb3 hO3 ⊢
  clear a6 a6' z6 z6' g1' C1 HC hO hT hF B1 B2 HB2 HR1
  have d0 : W3.cell? ⟨w.heap.size, 0, none⟩ = some (.int .i64 b.Base) := D1.cell 0 _ rfl
  have d1 : W3.cell? ⟨w.heap.size, 1, none⟩ = some (.int .i64 b.Epoch) := D1.cell 1 _ rfl
  have d2 : W3.cell? ⟨w.heap.size, 2, none⟩ = some (.int .i64 b.Producer) := D1.cell 2 _ rfl
  have d3 : W3.cell? ⟨w.heap.size, 3, none⟩ = some (.int .i64 b.Turn) := D1.cell 3 _ rfl
  have d4 : W3.cell? ⟨w.heap.size, 4, none⟩ = some (.int .i64 b.Seq) := D1.cell 4 _ rfl
  have d5 : W3.cell? ⟨w.heap.size, 5, none⟩ = some (.int .i64 b.Flags) := D1.cell 5 _ rfl
  have d6 : W3.cell? ⟨w.heap.size, 6, none⟩ = some (.slice A2 b.Records.length c2) := D1.cell 6 _ rfl
  have e0 : W3.cell? ⟨w.heap.size + 1, 0, none⟩ = some (.int .i64 0) := D2.cell 0 _ rfl
  have e1 : W3.cell? ⟨w.heap.size + 1, 1, none⟩ = some (.int .i64 0) := D2.cell 1 _ rfl
  have e2 : W3.cell? ⟨w.heap.size + 1, 2, none⟩ = some (.int .i64 0) := D2.cell 2 _ rfl
  have e3 : W3.cell? ⟨w.heap.size + 1, 3, none⟩ = some (.int .i64 0) := D2.cell 3 _ rfl
  have e4 : W3.cell? ⟨w.heap.size + 1, 4, none⟩ = some (.int .i64 0) := D2.cell 4 _ rfl
  have e5 : W3.cell? ⟨w.heap.size + 1, 5, none⟩ = some (.int .i64 0) := D2.cell 5 _ rfl
  have e6 : W3.cell? ⟨w.heap.size + 1, 6, none⟩ = some (.slice none 0 0) := D2.cell 6 _ rfl
  have f0 := D2.frz 0
  have f1 := D2.frz 1
  have f2 := D2.frz 2
  have f3 := D2.frz 3
  have f4 := D2.frz 4
  have f5 := D2.frz 5
  have f6 := D2.frz 6
  have g3 := D2.lt
  go_wp2
  refine bodyPost_ret (v := .agg #[.int .i64 b.Base, .int .i64 b.Epoch, .int .i64 b.Producer, .int .i64 b.Turn, .int .i64 b.Seq, .int .i64 b.Flags, .slice A2 b.Records.length c2]) (by simp [results, Try.results58, go_sem, e0, e1, e2, e3, e4, e5, e6]) rfl (batch_made (OwnT.mono (B := w.heap.size + 2) ?_ (by omega)) ?_)
  · repeat (refine OwnT.setc ?_ _ _ _ (by omega))
    exact hO3
  · repeat (first | with_reducible exact Below.refl _ _ | with_reducible assumption | ((with_reducible refine Below.setCell ?_ ?_ _); rotate_left; (simp <;> omega)) | ((with_reducible refine Below.alloc ?_ ?_ _); rotate_left; (simp <;> omega)))
set_option maxHeartbeats 4000000 in
theorem implCopyBatches_c (w : World) (l : List Batch) {A : Option Addr} {c : Nat} (hc : l.length ≤ c) (hr : Row kBatch w A l) (hl : l.length ≤ 1048576) (hs : ∀ y ∈ l, y.sm) :
    Calls Try.prog 41 #[.slice A l.length c] w (MadeS kBatch 48 l w) := by
  have HS := Lib.hid hs
  clear hs
  have hu := Try.underlying48
  have hu2 := Try.underlying42
  go_enter Try.func41, Try.ntmps41
  go_upto_region 3 with fail
  go_loopg [3, 8] l.length (fun g v3 v8 wr => ∃ (k : Nat) (A' : Option Addr) (c' : Nat), k + g = l.length ∧ v8 = .int .i64 k ∧ v3 = .slice A' k c' ∧ Hid (OwnR kBatch 48 w.heap.size wr (l.take k) (.slice A' k c')) ∧ Below w.heap.size w wr)
  case atStart => exact ⟨0, none, 0, by omega, rfl, rfl, Lib.hid (by rw [List.take_zero]; exact OwnR.nil), Below.refl _ _⟩
  case round =>
    obtain ⟨k, A', c', hk, rfl, rfl, HO, hb⟩ := hrel
    by_cases hlt : k < l.length
    case neg =>
      obtain rfl : k = l.length := by omega
      obtain ⟨F, hT, hF⟩ := HO.out.fresh
      rw [List.take_length] at hT
      go_wp2
      go_ret
      exact ⟨_, F, rfl, hT, hF, hb⟩
    have hkc : k ≤ l.length := by omega
    obtain ⟨ad, y, A6, c6, rfl, hy, p0, p1, p2, p3, p4, p5, p6, l6, g6⟩ := Batch.at (Row_below hr hb) k hlt
    have HY := Lib.hid hy
    have hys := HS.out y (List.mem_of_getElem? hy)
    clear hy
    have B1 := Blk.new wr #[.int .i64 y.Base, .int .i64 y.Epoch, .int .i64 y.Producer, .int .i64 y.Turn, .int .i64 y.Seq, .int .i64 y.Flags, .slice A6 y.Records.length c6] 48
    have hb1 := below_al wr (.cells #[.int .i64 y.Base, .int .i64 y.Epoch, .int .i64 y.Producer, .int .i64 y.Turn, .int .i64 y.Seq, .int .i64 y.Flags, .slice A6 y.Records.length c6] 48)
    obtain ⟨G, hG⟩ : ∃ n, n = wr.heap.size := ⟨_, rfl⟩
    go_upto_region 5 with fail
    clear p0 p1 p2 p3 p4 p5 p6
    generalize wr.alloc (.cells #[.int .i64 y.Base, .int .i64 y.Epoch, .int .i64 y.Producer, .int .i64 y.Turn, .int .i64 y.Seq, .int .i64 y.Flags, .slice A6 y.Records.length c6] 48) = W1 at B1 hb1 ⊢
    rw [← hG] at B1 ⊢
    have HG := Lib.hid hG
    clear hG
    have d0 : W1.cell? ⟨G, 0, none⟩ = some (.int .i64 y.Base) := B1.cell 0 _ rfl
    have d1 : W1.cell? ⟨G, 1, none⟩ = some (.int .i64 y.Epoch) := B1.cell 1 _ rfl
    have d2 : W1.cell? ⟨G, 2, none⟩ = some (.int .i64 y.Producer) := B1.cell 2 _ rfl
    have d3 : W1.cell? ⟨G, 3, none⟩ = some (.int .i64 y.Turn) := B1.cell 3 _ rfl
    have d4 : W1.cell? ⟨G, 4, none⟩ = some (.int .i64 y.Seq) := B1.cell 4 _ rfl
    have d5 : W1.cell? ⟨G, 5, none⟩ = some (.int .i64 y.Flags) := B1.cell 5 _ rfl
    have d6 : W1.cell? ⟨G, 6, none⟩ = some (.slice A6 y.Records.length c6) := B1.cell 6 _ rfl
    have HG6 := Lib.hid (Row_below g6 hb1)
    have hs1 := hb1.size
    go_wp2_with (first
      | (go_at_call 58; refine (implCopyBatch_c _ y l6 HG6.out hys).mono ?_; rintro e W2 ⟨v6, F6, rfl, hT6, hF6, hb2⟩)
      | (at_builtin; refine list_el (v := .slice A' k c') info_batch rfl (by decide) (by decide) rfl _ _ _ rfl Try.underlying42 rfl HO.out (below_tr hb1 (below_tr hb2 (below_al _ _))) hb.size _ _ rfl (T_bel (d := kBatch) hT6 (below_al _ _)) (Box.new W2 _ _) ⟨hF6.1, fun b hb' => by have := hF6.2 b hb'; omega⟩ (by rw [List.length_take]; omega) ?_; intro A7 c7 W4 hO7 hgr hvb))
    have hbw7 := (below_tr hb (below_tr hb1 (below_tr hb2 (below_al W2 _)))).grown hgr (by have := hb.size; have := hb2.size; simp; omega) hvb
    go_roundg (gk - 1)
    case rel => exact ⟨k + 1, A7, c7, by omega, by go_num, by first | rfl | rw [List.length_take, Nat.min_eq_left hkc], Lib.hid (by rw [take_snoc HY.out]; rw [List.length_take, Nat.min_eq_left hkc] at hO7; exact hO7), hbw7⟩
    case measure => omega
end Go.Proofs.Ytiefpllmnmmdlaa.H
