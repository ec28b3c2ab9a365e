/-
OffsetAt, the program's and the reference's, answer offAt. Conditions: each contract's own premises.
-/
import Derived.Test.YtjbcgflpeomkfaaHEnd
namespace Go.Proofs.Ytjbcgflpeomkfaa.H
open Go.RowKit
set_option linter.unusedVariables false
set_option linter.unusedSimpArgs false
set_option maxRecDepth 100000
def atR (st t base : Int) : List Record → Nat → Option Int
  | [], _ => none
  | r :: rs, k => if decide (st ≤ base + k) && decide (t ≤ r.Time) then some (base + k) else atR st t base rs (k + 1)
def atB (st t : Int) : List Batch → Int
  | [] => -1
  | b :: bs => match atR st t b.Base b.Records 0 with | some v => v | none => atB st t bs
def offAt (x : Log) (t : Int) : Int := if logOk x = true then atB x.Start t (allB x) else -1
theorem atB_cons (st t : Int) (b : Batch) (bs : List Batch) : atB st t (b :: bs) = match atR st t b.Base b.Records 0 with | some v => v | none => atB st t bs := by rw [atB]
theorem atR_cons (st t base : Int) (r : Record) (rs : List Record) (k : Nat) : atR st t base (r :: rs) k = if decide (st ≤ base + k) && decide (t ≤ r.Time) then some (base + k) else atR st t base rs (k + 1) := by rw [atR]
set_option maxHeartbeats 4000000 in
theorem implOffsetAt_c (w : World) (x : Log) (t : Int) {A3 : Option Addr} {c3 : Nat} (l3 : x.Segments.length ≤ c3) (g3 : Row kSegment w A3 x.Segments) (hs : x.sm) :
    Calls Try.prog 28 #[.agg #[.int .i64 x.Start, .int .i64 x.Next, .int .i64 x.Roll, .slice A3 x.Segments.length c3], .int .i64 t] w fun e w' => e = .returned (.int .i64 (offAt x t)) ∧ Below w.heap.size w w' := by
  have hlen := hs.1
  have HS := Lib.hid hs
  have hu := Try.underlying56
  have hu2 := Try.underlying27
  have hu3 := Try.underlying29
  have hu4 := Try.underlying62
  clear hs
  generalize hR : offAt x t = R
  by_cases hok : logOk x = true
  case neg =>
    have HR : Hid (-1 = R) := Lib.hid (by rw [← hR]; unfold offAt; rw [if_neg hok])
    have Hok := Lib.hid (show logOk x = false by simpa using hok)
    clear hR hok
    go_enter Try.func28, Try.ntmps28
    go_wp2_with (go_at_call 19; refine (implLogOk_c _ x l3 (Row_below g3 (below_al _ _)) HS.out).mono ?_; rintro e w1 ⟨rfl, hb1⟩; rw [Hok.out])
    go_ret
    exact ⟨by rw [← HR.out]; rfl, below_tr (below_al _ _) hb1⟩
  have HR : Hid (atB x.Start t (allB x) = R) := Lib.hid (by rw [← hR]; unfold offAt; rw [if_pos hok])
  have Hok := Lib.hid hok
  have HA := Lib.hid (logOk_all hok)
  clear hR hok
  have hllA := HA.out.1
  generalize hL : allB x = L at HA HR hllA
  have HL := Lib.hid hL
  clear hL
  have hll : L.length ≤ 400 := hllA
  clear hllA
  go_enter Try.func28, Try.ntmps28
  go_upto_region 3 with (go_at_call 19; refine (implLogOk_c _ x l3 (Row_below g3 (below_al _ _)) HS.out).mono ?_; rintro e w1 ⟨rfl, hb1⟩; rw [Hok.out]; have X := (Box.new w _ _).later hb1; have z0 := X 0 _ rfl; have z1 := X 1 _ rfl; have z2 := X 2 _ rfl; have z3 := X 3 _ rfl; have hgz := X.lt rfl; have HX := Lib.hid X; clear X)
  go_upto_region 4 with (go_at_call 45; refine (batches_c _ x l3 (Row_below (Row_below g3 (below_al _ _)) hb1) hlen (by rw [HL.out]; omega)).mono ?_; rw [HL.out]; rintro e w2 ⟨A, c, rfl, hc, hr, hb2⟩; replace z0 := later hb2 z0)
  have hb := below_tr (below_tr (below_al _ _) hb1) hb2
  have hgz2 : w.heap.size < w2.heap.size := World.block_lt_of_cell? w2 _ z0
  clear hb1 hb2 HX z1 z2 z3 hgz
  go_loopg [15] L.length (fun g v15 wr => ∃ k : Nat, k + g = L.length ∧ v15 = .int .i64 k ∧ wr.cell? ⟨w.heap.size, 0, none⟩ = some (.int .i64 x.Start) ∧ Below w.heap.size w wr ∧ Row kBatch wr A L ∧ Hid (atB x.Start t (L.drop k) = R))
  case atStart => exact ⟨0, by omega, rfl, by simpa using z0, hb, hr, HR⟩
  case round =>
    clear z0 hb hr HR hgz2
    obtain ⟨k, hk, rfl, z0, hb, hr, HD⟩ := hrel
    have hgz : w.heap.size < wr.heap.size := World.block_lt_of_cell? wr _ z0
    by_cases hlt : k < L.length
    case neg =>
      have HE : Hid (-1 = R) := Lib.hid (by have h := HD.out; rw [List.drop_eq_nil_of_le (by omega)] at h; simpa [atB] using h)
      go_wp2
      go_ret
      exact ⟨by rw [← HE.out]; rfl, hb⟩
    obtain ⟨bd, b, A6, c6, rfl, hbx, r0, r1, r2, r3, r4, r5, r6, l6, g6⟩ := Batch.at hr k hlt
    obtain ⟨hv0, hv1, hv2, hv3, hv4⟩ := lastB_ge (HA.out.2 b (List.mem_of_getElem? hbx))
    have hbl : (b.Records.length : Int) ≤ 1000000001 := by unfold lastB at hv1; omega
    have HX := Lib.hid (drop_cons hbx)
    clear hbx hv0 hv1 hv4
    have HD2 : Hid ((match atR x.Start t b.Base (b.Records.drop 0) 0 with | some v => v | none => atB x.Start t (L.drop (k + 1))) = R) := Lib.hid (by rw [← HD.out, HX.out, atB_cons, List.drop_zero])
    clear HD HX
    have y0 := later (below_al wr (.cells #[.int .i64 b.Base, .int .i64 b.Epoch, .int .i64 b.Producer, .int .i64 b.Turn, .int .i64 b.Seq, .int .i64 b.Flags, .slice A6 b.Records.length c6] 29)) z0
    have t0 := (Box.new wr #[.int .i64 b.Base, .int .i64 b.Epoch, .int .i64 b.Producer, .int .i64 b.Turn, .int .i64 b.Seq, .int .i64 b.Flags, .slice A6 b.Records.length c6] 29) 0 _ rfl
    have Hb := below_tr hb (below_al wr (.cells #[.int .i64 b.Base, .int .i64 b.Epoch, .int .i64 b.Producer, .int .i64 b.Turn, .int .i64 b.Seq, .int .i64 b.Flags, .slice A6 b.Records.length c6] 29))
    have G1 := Row_below hr (below_al wr (.cells #[.int .i64 b.Base, .int .i64 b.Epoch, .int .i64 b.Producer, .int .i64 b.Turn, .int .i64 b.Seq, .int .i64 b.Flags, .slice A6 b.Records.length c6] 29))
    have G6 := Row_below g6 (below_al wr (.cells #[.int .i64 b.Base, .int .i64 b.Epoch, .int .i64 b.Producer, .int .i64 b.Turn, .int .i64 b.Seq, .int .i64 b.Flags, .slice A6 b.Records.length c6] 29))
    go_upto_region 7 with fail
    go_loopg [22] b.Records.length (fun g v22 wi => ∃ j : Nat, j + g = b.Records.length ∧ v22 = .int .i64 j ∧ wi.cell? ⟨w.heap.size, 0, none⟩ = some (.int .i64 x.Start) ∧ wi.cell? ⟨wr.heap.size, 0, none⟩ = some (.int .i64 b.Base) ∧ Below w.heap.size w wi ∧ Row kBatch wi (some bd) L ∧ Row kRecord wi A6 b.Records ∧ Hid ((match atR x.Start t b.Base (b.Records.drop j) j with | some v => v | none => atB x.Start t (L.drop (k + 1))) = R))
    case atStart => exact ⟨0, by omega, rfl, y0, t0, Hb, G1, G6, HD2⟩
    case round =>
      clear y0 t0 Hb G1 G6 HD2 z0 hb hr r0 r1 r2 r3 r4 r5 r6 g6
      obtain ⟨j, hj, rfl, z0, t0, hb, hr, g6, HD⟩ := hrel
      have hgt := World.block_lt_of_cell? _ _ t0
      have hgz := World.block_lt_of_cell? _ _ z0
      by_cases hlt2 : j < b.Records.length
      case neg =>
        have HE : Hid (atB x.Start t (L.drop (k + 1)) = R) := Lib.hid (by have h := HD.out; rw [List.drop_eq_nil_of_le (by omega)] at h; simpa [atR] using h)
        go_wp2
        go_roundg (L.length - k - 1)
        case rel => exact ⟨k + 1, by omega, by go_num, z0, hb, hr, HE⟩
        case measure => omega
      obtain ⟨rd, r, A5, c5, rfl, hrx, q0, q1, q2, q3, q4, q5, l5, g5⟩ := Record.at g6 j hlt2
      have HX := Lib.hid (drop_cons hrx)
      clear hrx
      have HD2 : Hid ((match (if decide (x.Start ≤ b.Base + j) && decide (t ≤ r.Time) then some (b.Base + (j : Int)) else atR x.Start t b.Base (b.Records.drop (j + 1)) (j + 1)) with | some v => v | none => atB x.Start t (L.drop (k + 1))) = R) := Lib.hid (by rw [← atR_cons, ← HX.out]; exact HD.out)
      clear HD HX
      have Hb2 := fun v => below_tr hb (below_al _ v)
      by_cases hc1 : x.Start ≤ b.Base + j
      · by_cases hc2 : t ≤ r.Time
        · have HE : Hid (b.Base + (j : Int) = R) := Lib.hid (by rw [← HD2.out]; simp [hc1, hc2])
          go_wp2
          go_ret
          exact ⟨by rw [← HE.out]; rfl, Hb2 _⟩
        · have HE : Hid ((match atR x.Start t b.Base (b.Records.drop (j + 1)) (j + 1) with | some v => v | none => atB x.Start t (L.drop (k + 1))) = R) := Lib.hid (by rw [← HD2.out]; simp [hc1, hc2])
          go_wp2
          go_roundg (gk - 1)
          case rel => exact ⟨j + 1, by omega, by go_num, later (below_al _ _) z0, later (below_al _ _) t0, Hb2 _, Row_below hr (below_al _ _), Row_below g6 (below_al _ _), HE⟩
          case measure => omega
      · have HE : Hid ((match atR x.Start t b.Base (b.Records.drop (j + 1)) (j + 1) with | some v => v | none => atB x.Start t (L.drop (k + 1))) = R) := Lib.hid (by rw [← HD2.out]; simp [hc1])
        go_wp2
        go_roundg (gk - 1)
        case rel => exact ⟨j + 1, by omega, by go_num, later (below_al _ _) z0, later (below_al _ _) t0, Hb2 _, Row_below hr (below_al _ _), Row_below g6 (below_al _ _), HE⟩
        case measure => omega
end Go.Proofs.Ytjbcgflpeomkfaa.H
