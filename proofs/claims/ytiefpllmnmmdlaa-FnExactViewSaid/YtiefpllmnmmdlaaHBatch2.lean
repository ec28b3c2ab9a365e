/-
The reference's BatchOk answers batchOk; LastOffset, both. Conditions: each contract's own premises.
-/
import Derived.Test.YtiefpllmnmmdlaaHBatch
namespace Go.Proofs.Ytiefpllmnmmdlaa.H
open Go.RowKit
set_option linter.unusedVariables false
set_option linter.unusedSimpArgs false
set_option maxRecDepth 100000
def bM1 (b : Batch) : Bool := decide (4 ≤ b.Flags) && !bit2 b.Flags
set_option maxHeartbeats 4000000 in
theorem specBatchOk_c (w : World) (x : Batch) {A6 : Option Addr} {c6 : Nat} (l6 : x.Records.length ≤ c6) (g6 : Row kRecord w A6 x.Records) (hs : x.sm) :
    Calls Try.prog 45 #[.agg #[.int .i64 x.Base, .int .i64 x.Epoch, .int .i64 x.Producer, .int .i64 x.Turn, .int .i64 x.Seq, .int .i64 x.Flags, .slice A6 x.Records.length c6]] w fun e w' => e = .returned (.bool (batchOk x)) ∧ Below w.heap.size w w' := by
  have hl := hs.1
  have HS := Lib.hid hs.2
  clear hs
  have hu := Try.underlying53
  have hu2 := Try.underlying46
  go_enter Try.func45, Try.ntmps45
  go_upto_region 1 with fail
  go_cut [0, 38] (fun s0 s wx => s = .bool !(bA0 x) ∧ (∀ j u, #[Value.int .i64 x.Base, .int .i64 x.Epoch, .int .i64 x.Producer, .int .i64 x.Turn, .int .i64 x.Seq, .int .i64 x.Flags, .slice A6 x.Records.length c6][j]? = some u → wx.cell? ⟨w.heap.size, j, none⟩ = some u) ∧ Below w.heap.size w wx)
  case first =>
    go_wp2_with (go_at_call 37; refine (l1In_c _ _ _ _).mono ?_; rintro e w' ⟨rfl, rfl⟩)
    all_goals (go_meet; exact ⟨by simp only [Value.bool.injEq]; grind [bA0], fun j u h => by rw [World.cell?_alloc_new]; exact h, below_al _ _⟩)
  obtain ⟨rfl, hz, hb⟩ := hcut
  have hgs : w.heap.size < wc.heap.size := World.block_lt_of_cell? wc _ (hz 0 _ rfl)
  by_cases hA : bA0 x = true
  case neg =>
    replace hA := Bool.eq_false_iff.2 hA
    have HA := Lib.hid hA
    rw [hA]
    clear hA
    go_wp2
    go_ret
    exact ⟨ret_bool (by simp [batchOk, bA, HA.out]), hb⟩
  have HA := Lib.hid hA
  rw [hA]
  have hv : (0 ≤ x.Base ∧ x.Base ≤ 1000000000) ∧ (-1 ≤ x.Producer) ∧ (0 ≤ x.Seq ∧ x.Seq ≤ 1000000000) ∧ (0 ≤ x.Flags ∧ x.Flags ≤ 7) := by
    simp only [bA0, inB, Bool.and_eq_true, decide_eq_true_eq] at hA; omega
  clear hA
  obtain ⟨⟨v0, v1⟩, v2, ⟨v3, v4⟩, ⟨v5, v6⟩⟩ := hv
  have z0 := hz 0 _ rfl
  have z2 := hz 2 _ rfl
  have z3 := hz 3 _ rfl
  have z4 := hz 4 _ rfl
  have z5 := hz 5 _ rfl
  have z6 := hz 6 _ rfl
  have HZ := Lib.hid hz
  clear hz
  go_upto_region 3 with fail
  go_cut [70] (fun s wx => s = .bool (!bC x || bM1 x) ∧ wx = wc)
  case first =>
    go_wp2
    all_goals (go_meet; exact ⟨by simp only [Value.bool.injEq]; grind [bC, bM1, bit2], rfl⟩)
  obtain ⟨rfl, rfl⟩ := hcut
  by_cases hC : (!bC x || bM1 x) = true
  case pos =>
    have HC := Lib.hid hC
    rw [hC]
    clear hC
    go_wp2
    go_ret
    exact ⟨ret_bool (by have := HC.out; grind [batchOk, bM, bM1]), hb⟩
  replace hC := Bool.eq_false_iff.2 hC
  have HC := Lib.hid hC
  rw [hC]
  clear hC
  go_upto_region 5 with fail
  go_cut [95] (fun s wx => s = .bool !(inB x.Records.length 1 40 && bB x) ∧ wx = wc)
  case first =>
    go_wp2_with (go_at_call 37; refine (l1In_c _ _ _ _).mono ?_; rintro e w' ⟨rfl, rfl⟩)
    all_goals (go_meet; exact ⟨by simp only [Value.bool.injEq]; grind [bB], rfl⟩)
  obtain ⟨rfl, rfl⟩ := hcut
  by_cases hB : (inB x.Records.length 1 40 && bB x) = true
  case neg =>
    replace hB := Bool.eq_false_iff.2 hB
    have HB := Lib.hid hB
    rw [hB]
    clear hB
    go_wp2
    go_ret
    exact ⟨ret_bool (by have := HB.out; grind [batchOk, bA]), hb⟩
  have HB := Lib.hid hB
  rw [hB]
  have hn : 1 ≤ x.Records.length := by
    simp only [inB, Bool.and_eq_true, decide_eq_true_eq] at hB; omega
  clear hB
  have HM : Hid ((x.Records.all recOk && bM x) = batchOk x) := Lib.hid (by have := HA.out; have := HB.out; have := HC.out; grind [batchOk, bA])
  have HN : Hid (bM1 x = false) := Lib.hid (by have := HC.out; grind)
  clear HA HB HC
  clear z0 z2 z3 z4
  go_wp2
  go_loopg [3] x.Records.length (fun g i wr => ∃ k : Nat, k + g = x.Records.length ∧ i = .int .i64 k ∧ wr.cell? ⟨w.heap.size, 5, none⟩ = some (.int .i64 x.Flags) ∧ wr.cell? ⟨w.heap.size, 6, none⟩ = some (.slice A6 x.Records.length c6) ∧ Below w.heap.size w wr ∧ (x.Records.take k).all recOk = true)
  case atStart => exact ⟨0, by omega, rfl, z5, z6, hb, rfl⟩
  case round =>
    clear z5 z6 hb HZ hgs
    obtain ⟨k, hk, rfl, z5, z6, hb, ha⟩ := hrel
    have Ha := Lib.hid ha
    clear ha
    by_cases hlt : k < x.Records.length
    · obtain ⟨ad, r, A5, c5, rfl, hx, p0, p1, p2, p3, p4, p5, l5, g5⟩ := Record.at (Row_below g6 hb) k hlt
      have Hx := Lib.hid hx
      have Sx := Lib.hid (HS.out r (List.mem_of_getElem? hx))
      clear hx
      generalize hy : recOk r = y
      have Hy := Lib.hid hy
      clear hy
      go_wp2_with (go_at_call 62; refine (specRecordOk_c _ r l5 g5 Sx.out).mono ?_; rintro e w' ⟨rfl, hb2⟩; rw [Hy.out])
      · go_ret
        exact ⟨ret_bool (by rw [← HM.out, all_fail Hx.out (by rw [Hy.out]; grind)]; rfl), below_tr hb hb2⟩
      · go_roundg (gk - 1)
        case rel => exact ⟨k + 1, by omega, by go_num, later hb2 z5, later hb2 z6, below_tr hb hb2, all_step Ha.out Hx.out (by rw [Hy.out]; grind)⟩
        case measure => omega
    · have hgr : w.heap.size < wr.heap.size := World.block_lt_of_cell? wr _ z5
      have HR : Hid (bM x = batchOk x) := Lib.hid (by rw [← HM.out, all_full Ha.out (by omega)]; rfl)
      clear HM
      by_cases h4 : 4 ≤ x.Flags
      case neg =>
        have H4 := Lib.hid h4
        clear h4
        have h4 : x.Flags < 4 := by have := H4.out; omega
        go_wp2
        go_ret
        exact ⟨ret_bool (by rw [← HR.out]; simp [bM]; omega), hb⟩
      obtain ⟨ad, r, A5, c5, rfl, hx, p0, p1, p2, p3, p4, p5, l5, g5⟩ := Record.at (Row_below g6 hb) 0 (by omega)
      have Hx := Lib.hid hx
      clear hx
      simp [Addr.add] at p0 p1 p2 p3 p4 p5
      have Hm : Hid (x.Records.length = 1 → x.Records.all markRec = markRec r) := Lib.hid (fun h => by
        obtain ⟨y, hy⟩ := List.length_eq_one_iff.1 h
        have := Hx.out
        rw [hy] at this
        simp at this
        rw [hy, this]
        simp)
      go_wp2
      all_goals go_ret
      all_goals (refine ⟨ret_bool ?_, below_tr hb (below_al _ _)⟩; rw [← HR.out])
      all_goals (have := Hm.out; have := HN.out; grind [bM, bM1, markRec, List.isEmpty_iff])
theorem lastOf_c (w : World) (x : Batch) {A6 : Option Addr} {c6 : Nat} (l6 : x.Records.length ≤ c6) (h0 : 0 ≤ x.Base) (h1 : x.Base ≤ 1000000000) (hn : x.Records.length ≤ 1048576) :
    Calls Try.prog 50 #[.agg #[.int .i64 x.Base, .int .i64 x.Epoch, .int .i64 x.Producer, .int .i64 x.Turn, .int .i64 x.Seq, .int .i64 x.Flags, .slice A6 x.Records.length c6]] w fun e w' => e = .returned (.int .i64 (x.Base + x.Records.length - 1)) ∧ Below w.heap.size w w' := by
  go_enter Try.func50, Try.ntmps50
  go_wp2
  go_ret
  exact ⟨rfl, below_al _ _⟩
end Go.Proofs.Ytiefpllmnmmdlaa.H
