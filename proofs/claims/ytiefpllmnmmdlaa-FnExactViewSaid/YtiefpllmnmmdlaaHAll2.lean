/-
The reference's l3All: the batches of a log, one behind the other. Conditions: each contract's own premises.
-/
import Derived.Test.YtiefpllmnmmdlaaHAll
namespace Go.Proofs.Ytiefpllmnmmdlaa.H
open Go.RowKit
set_option linter.unusedVariables false
set_option linter.unusedSimpArgs false
set_option maxRecDepth 100000
set_option maxHeartbeats 4000000 in
theorem l3All_c (w : World) (x : Log) {A3 : Option Addr} {c3 : Nat} (l3 : x.Segments.length ≤ c3) (g3 : Row kSegment w A3 x.Segments) (hn : x.Segments.length ≤ 1048576) (hb0 : (allB x).length ≤ 1000000) :
    Calls Try.prog 19 #[.agg #[.int .i64 x.Start, .int .i64 x.Next, .int .i64 x.Roll, .slice A3 x.Segments.length c3]] w (GivesK kBatch (allB x) w) := by
  have HB0 := Lib.hid hb0
  clear hb0
  have hu := Try.underlying45
  have hu2 := Try.underlying26
  have hu3 := Try.underlying48
  have hu4 := Try.underlying42
  go_enter Try.func19, Try.ntmps19
  go_wp2
  go_loopg [3, 4] x.Segments.length (fun g v3 v4 wr => ∃ (k : Nat) (v : Value), k + g = x.Segments.length ∧ v4 = .int .i64 k ∧ v3 = v ∧ KO kBatch 48 w wr (w.heap.size + 1) ((x.Segments.take k).flatMap (·.Batches)) v ∧ wr.cell? ⟨w.heap.size, 3, none⟩ = some (.slice A3 x.Segments.length c3) ∧ Below w.heap.size w wr)
  case atStart =>
    refine ⟨0, _, by omega, rfl, rfl, ?_, ?_, ?_⟩
    · have h := World.ownsRow_lit (base := w.heap.size + 1) (e := 48) (size := 7) (w.alloc (.cells #[.int .i64 x.Start, .int .i64 x.Next, .int .i64 x.Roll, .slice A3 x.Segments.length c3] 28)) #[] 0 (by simp) (by simp [maxLen]) (by simp)
      rw [World.size_alloc] at h
      exact ⟨[], h, by simp, by simp⟩
    · exact later (below_al _ _) ((Box.new w _ _) 3 _ rfl)
    · exact below_tr (below_al _ _) (below_al _ _)
  case round =>
    obtain ⟨k, v, hk, rfl, rfl, hK, z3, hb⟩ := hrel
    have hgz : w.heap.size < wr.heap.size := World.block_lt_of_cell? wr _ z3
    by_cases hlt : k < x.Segments.length
    case neg =>
      rw [List.take_of_length_le (by omega)] at hK
      obtain ⟨A, c, rfl, hc, hr⟩ := hK.read hb
      go_wp2
      go_ret
      exact ⟨A, c, rfl, hc, hr, hb⟩
    obtain ⟨ad, s, A1, c1, rfl, hx, p0', p1', l1, g1⟩ := Segment.at g3 k hlt
    have p0 := later hb p0'
    have p1 := later hb p1'
    clear p0' p1'
    have HF := Lib.hid (flatMap_take (f := (·.Batches)) hx)
    have HLE : Hid (((x.Segments.take k).flatMap (·.Batches)).length + s.Batches.length ≤ 1000000) := Lib.hid (by
      have h1 := flatMap_le x.Segments (·.Batches) (k + 1)
      rw [HF.out, List.length_append] at h1
      have := HB0.out
      unfold allB at this
      omega)
    clear hx
    have C3 : Hid (w.heap.size + 1 ≤ wr.heap.size) := Lib.hid hgz
    have HKK := Lib.hid hK
    have hbs := hb.size
    go_upto_region 5 with fail
    go_wp2_with (at_builtin; refine app_batches rfl _ _ _ rfl rfl (w.heap.size + 1) rfl A1 c1 rfl HKK.out g1 hb HLE.out C3.out ?_; intro v' w' hK2 hgr2)
    have hb2 := hb.grown hgr2 (by omega) (fun k hk => by have := HKK.out.base k hk; omega)
    go_roundg (gk - 1)
    case rel => exact ⟨k + 1, v', by omega, by go_num, rfl, by rw [HF.out]; exact hK2, hgr2.cell z3 (fun h => by have := HKK.out.base w.heap.size h.symm; omega), hb2⟩
    case measure => omega
end Go.Proofs.Ytiefpllmnmmdlaa.H
