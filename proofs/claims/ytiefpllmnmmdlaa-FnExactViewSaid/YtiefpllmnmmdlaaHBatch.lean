/-
BatchOk and LastOffset, the program's and the reference's: both answer batchOk; the last offset. Conditions: each contract's own premises.
-/
import Derived.Test.YtiefpllmnmmdlaaHSmall
import Derived.Laws.BitsLemmas
namespace Go.Proofs.Ytiefpllmnmmdlaa.H
open Go.RowKit
set_option linter.unusedVariables false
set_option linter.unusedSimpArgs false
set_option maxRecDepth 100000
theorem recordsOk_c (w : World) (l : List Record) {A : Option Addr} {c : Nat} (hc : l.length ≤ c) (hr : Row kRecord w A l) (hs : l.length ≤ 1048576 ∧ ∀ y ∈ l, y.sm) :
    Calls Try.prog 63 #[.slice A l.length c] w fun e w' => e = .returned (.bool (l.all recOk)) ∧ Below w.heap.size w w' := by
  have hl := hs.1
  have HS := Lib.hid hs.2
  clear hs
  have hu := Try.underlying53
  have hu2 := Try.underlying46
  go_enter Try.func63, Try.ntmps63
  go_wp2
  go_loopg [7] l.length (fun g i wr => ∃ k : Nat, k + g = l.length ∧ i = .int .i64 k ∧ Below w.heap.size w wr ∧ (l.take k).all recOk = true)
  case atStart => exact ⟨0, by omega, rfl, Below.refl _ _, rfl⟩
  case round =>
    obtain ⟨k, hk, rfl, hb, ha⟩ := hrel
    have Ha := Lib.hid ha
    clear ha
    by_cases hlt : k < l.length
    · obtain ⟨ad, x, A5, c5, rfl, hx, p0, p1, p2, p3, p4, p5, l5, g5⟩ := Record.at (Row_below hr hb) k hlt
      have Hx := Lib.hid hx
      have Sx := Lib.hid (HS.out x (List.mem_of_getElem? hx))
      clear hx
      have Hb := below_tr hb (below_al wr (.cells #[.int .i64 x.Time, .bool x.Keyed, .string x.Key, .bool x.Gone, .string x.Value, .slice A5 x.Heads.length c5] 53))
      generalize hy : recOk x = y
      have Hy := Lib.hid hy
      clear hy
      go_wp2_with (go_at_call 88; refine (implRecordOk_c _ x l5 (Row_below g5 (below_al _ _)) Sx.out).mono ?_; rintro e w' ⟨rfl, hb2⟩; rw [Hy.out])
      · go_ret
        exact ⟨ret_bool (all_fail Hx.out (by rw [Hy.out]; grind)).symm, below_tr Hb hb2⟩
      · go_roundg (gk - 1)
        case rel => exact ⟨k + 1, by omega, by go_num, below_tr Hb hb2, all_step Ha.out Hx.out (by rw [Hy.out]; grind)⟩
        case measure => omega
    · go_wp2
      go_ret
      exact ⟨ret_bool (all_full Ha.out (by omega)).symm, hb⟩
theorem and2 {f : Int} (h0 : 0 ≤ f) (h : f ≤ 7) : Go.bits .and .i64 f 2 = 2 * (f / 2 % 2) := by
  obtain rfl | rfl | rfl | rfl | rfl | rfl | rfl | rfl : f = 0 ∨ f = 1 ∨ f = 2 ∨ f = 3 ∨ f = 4 ∨ f = 5 ∨ f = 6 ∨ f = 7 := by omega
  all_goals rfl
theorem and4 {f : Int} (h0 : 0 ≤ f) (h : f ≤ 7) : Go.bits .and .i64 f 4 = 4 * (f / 4) := by
  obtain rfl | rfl | rfl | rfl | rfl | rfl | rfl | rfl : f = 0 ∨ f = 1 ∨ f = 2 ∨ f = 3 ∨ f = 4 ∨ f = 5 ∨ f = 6 ∨ f = 7 := by omega
  all_goals rfl
def bit2 (f : Int) : Bool := decide (f / 2 % 2 = 1)
def bA0 (b : Batch) : Bool := inB b.Base 0 1000000000 && inB b.Epoch 0 1000000 && inB b.Producer (-1) 1000000000 && inB b.Turn 0 1000 && inB b.Seq 0 1000000000 && inB b.Flags 0 7
def bA (b : Batch) : Bool := bA0 b && inB b.Records.length 1 40 && b.Records.all recOk
def bB (b : Batch) : Bool := decide (b.Base + b.Records.length - 1 ≤ 1000000000) && decide (b.Seq + b.Records.length - 1 ≤ 1000000000)
def bC (b : Batch) : Bool := !(b.Producer == -1 && (b.Turn != 0 || b.Seq != 0 || bit2 b.Flags))
def markRec (r : Record) : Bool := r.Keyed && (r.Key.toList == [99, 111, 109, 109, 105, 116] || r.Key.toList == [97, 98, 111, 114, 116]) && !r.Gone && r.Value.toList.isEmpty && r.Heads.length == 0
def bM (b : Batch) : Bool := !decide (4 ≤ b.Flags) || (bit2 b.Flags && b.Records.length == 1 && b.Records.all markRec)
def batchOk (b : Batch) : Bool := bA b && bB b && bC b && bM b
set_option maxHeartbeats 4000000 in
theorem implBatchOk_c (w : World) (x : Batch) {A6 : Option Addr} {c6 : Nat} (l6 : x.Records.length ≤ c6) (g6 : Row kRecord w A6 x.Records) (hs : x.sm) :
    Calls Try.prog 49 #[.agg #[.int .i64 x.Base, .int .i64 x.Epoch, .int .i64 x.Producer, .int .i64 x.Turn, .int .i64 x.Seq, .int .i64 x.Flags, .slice A6 x.Records.length c6]] w fun e w' => e = .returned (.bool (batchOk x)) ∧ Below w.heap.size w w' := by
  have hl := hs.1
  have HS := Lib.hid hs
  clear hs
  have hu := Try.underlying53
  have hu2 := Try.underlying46
  go_enter Try.func49, Try.ntmps49
  go_upto_region 2 with fail
  go_cut [0, 52] (fun s0 s wx => s = .bool !(bA x) ∧ (∀ j u, #[Value.int .i64 x.Base, .int .i64 x.Epoch, .int .i64 x.Producer, .int .i64 x.Turn, .int .i64 x.Seq, .int .i64 x.Flags, .slice A6 x.Records.length c6][j]? = some u → wx.cell? ⟨w.heap.size, j, none⟩ = some u) ∧ Below w.heap.size w wx)
  case first =>
    go_wp2_with (first | (go_at_call 48; refine (offsetOk_c _ _).mono ?_; rintro e w' ⟨rfl, rfl⟩) | (go_at_call 47; refine (within_c _ _ _ _).mono ?_; rintro e w' ⟨rfl, rfl⟩) | (go_at_call 63; refine (recordsOk_c _ x.Records l6 (Row_below g6 (below_al _ _)) HS.out).mono ?_; rintro e w' ⟨rfl, hb2⟩))
    all_goals go_meet
    all_goals first
      | exact ⟨by simp only [Value.bool.injEq]; grind [bA, bA0], fun j u h => by rw [World.cell?_alloc_new]; exact h, below_al _ _⟩
      | exact ⟨by simp only [Value.bool.injEq]; grind [bA, bA0], fun j u h => later hb2 (by rw [World.cell?_alloc_new]; exact h), below_tr (below_al _ _) hb2⟩
  obtain ⟨rfl, hz, hb⟩ := hcut
  have hgs : w.heap.size < wc.heap.size := World.block_lt_of_cell? wc _ (hz 0 _ rfl)
  by_cases hA : bA x = true
  case neg =>
    replace hA := Bool.eq_false_iff.2 hA
    have HA := Lib.hid hA
    rw [hA]
    clear hA
    go_wp2
    go_ret
    exact ⟨ret_bool (by simp [batchOk, HA.out]), hb⟩
  have HA := Lib.hid hA
  rw [hA]
  have hv : (0 ≤ x.Base ∧ x.Base ≤ 1000000000) ∧ (-1 ≤ x.Producer) ∧ (0 ≤ x.Seq ∧ x.Seq ≤ 1000000000) ∧ (0 ≤ x.Flags ∧ x.Flags ≤ 7) ∧ (1 ≤ x.Records.length ∧ x.Records.length ≤ 40) := by
    simp only [bA, bA0, inB, Bool.and_eq_true, decide_eq_true_eq] at hA; omega
  clear hA
  obtain ⟨⟨v0, v1⟩, v2, ⟨v3, v4⟩, ⟨v5, v6⟩, v7, v8⟩ := hv
  have z0 := hz 0 _ rfl
  have z2 := hz 2 _ rfl
  have z3 := hz 3 _ rfl
  have z4 := hz 4 _ rfl
  have z5 := hz 5 _ rfl
  have z6 := hz 6 _ rfl
  clear hz
  have e2 : Go.bits .and .i64 x.Flags 2 = 2 * (x.Flags / 2 % 2) := and2 v5 v6
  have e4 : Go.bits .and .i64 x.Flags 4 = 4 * (x.Flags / 4) := and4 v5 v6
  go_upto_region 4 with fail
  go_cut [89] (fun s wx => s = .bool !(bB x && bC x) ∧ wx = wc)
  case first =>
    go_wp2_with (go_at_call 48; refine (offsetOk_c _ _).mono ?_; rintro e w' ⟨rfl, rfl⟩)
    all_goals (go_meet; exact ⟨by simp only [Value.bool.injEq]; grind [bB, bC, bit2, inB], rfl⟩)
  obtain ⟨rfl, rfl⟩ := hcut
  by_cases hB : (bB x && bC x) = true
  case neg =>
    replace hB := Bool.eq_false_iff.2 hB
    have HB := Lib.hid hB
    rw [hB]
    clear hB
    go_wp2
    go_ret
    exact ⟨ret_bool (by have := HB.out; grind [batchOk]), hb⟩
  have HB := Lib.hid hB
  rw [hB]
  clear hB
  have HM : Hid (bM x = batchOk x) := Lib.hid (by have := HA.out; have := HB.out; grind [batchOk])
  clear HA HB
  obtain ⟨ad, r, A5, c5, rfl, hx, p0, p1, p2, p3, p4, p5, l5, g5⟩ := Record.at (Row_below g6 hb) 0 (by omega)
  have Hx := Lib.hid hx
  clear hx
  simp [Addr.add] at p0 p1 p2 p3 p4 p5
  by_cases h4 : 4 ≤ x.Flags
  case neg =>
    have h5 : x.Flags / 4 = 0 := by omega
    rw [h5] at e4
    go_wp2
    go_ret
    exact ⟨ret_bool (by rw [← HM.out]; simp [bM]; omega), hb⟩
  have h5 : x.Flags / 4 = 1 := by omega
  rw [h5] at e4
  have Hm : Hid (x.Records.length = 1 → x.Records.all markRec = markRec r) := Lib.hid (fun h => by
    obtain ⟨y, hy⟩ := List.length_eq_one_iff.1 h
    have := Hx.out
    rw [hy] at this
    simp at this
    rw [hy, this]
    simp)
  have H4 := Lib.hid h4
  clear h4 h5
  go_wp2
  all_goals go_ret
  all_goals (refine ⟨ret_bool ?_, below_tr hb (below_al _ _)⟩; rw [← HM.out])
  all_goals (have := Hm.out; have := H4.out; grind [bM, bit2, markRec, List.isEmpty_iff])
end Go.Proofs.Ytiefpllmnmmdlaa.H
