/-
The reference's OffsetAt answers offAt. Conditions: the contract's own premises.
-/
import Derived.Test.YtjbcgflpeomkfaaHOff
namespace Go.Proofs.Ytjbcgflpeomkfaa.H
open Go.RowKit
set_option linter.unusedVariables false
set_option linter.unusedSimpArgs false
set_option maxRecDepth 100000
set_option maxHeartbeats 4000000 in
theorem specOffsetAt_c (w : World) (x : Log) (t : Int) {A3 : Option Addr} {c3 : Nat} (l3 : x.Segments.length ≤ c3) (g3 : Row kSegment w A3 x.Segments) (hs : x.sm) (hw : x.wf) :
    Calls Try.prog 27 #[.agg #[.int .i64 x.Start, .int .i64 x.Next, .int .i64 x.Roll, .slice A3 x.Segments.length c3], .int .i64 t] w fun e w' => e = .returned (.int .i64 (offAt x t)) ∧ Below w.heap.size w w' := by
  have hlen := hs.1
  have HS := Lib.hid hs
  have HW := Lib.hid hw
  have hu := Try.underlying56
  have hu2 := Try.underlying27
  have hu3 := Try.underlying29
  have hu4 := Try.underlying62
  clear hs hw
  generalize hR : offAt x t = R
  by_cases hok : logOk x = true
  case neg =>
    have HR : Hid (-1 = R) := Lib.hid (by rw [← hR]; unfold offAt; rw [if_neg hok])
    have Hok := Lib.hid (show logOk x = false by simpa using hok)
    clear hR hok
    go_enter Try.func27, Try.ntmps27
    go_wp2_with (go_at_call 17; refine (specLogOk_c _ x l3 (Row_below g3 (below_al _ _)) HS.out HW.out).mono ?_; rintro e w1 ⟨rfl, hb1⟩; rw [Hok.out])
    go_ret
    exact ⟨by rw [← HR.out]; rfl, below_tr (below_al _ _) hb1⟩
  have HR : Hid (atB x.Start t (allB x) = R) := Lib.hid (by rw [← hR]; unfold offAt; rw [if_pos hok])
  have Hok := Lib.hid hok
  have HA := Lib.hid (logOk_all hok)
  clear hR hok
  have hllA := HA.out.1
  generalize hL : allB x = L at HA HR hllA
  have HL := Lib.hid hL
  clear hL
  have hll : L.length ≤ 400 := hllA
  clear hllA
  go_enter Try.func27, Try.ntmps27
  go_upto_region 3 with (go_at_call 17; refine (specLogOk_c _ x l3 (Row_below g3 (below_al _ _)) HS.out HW.out).mono ?_; rintro e w1 ⟨rfl, hb1⟩; rw [Hok.out]; have X := (Box.new w _ _).later hb1; have z0 := X 0 _ rfl; have z1 := X 1 _ rfl; have z2 := X 2 _ rfl; have z3 := X 3 _ rfl; have hgz := X.lt rfl; have HX := Lib.hid X; clear X)
  go_upto_region 5 with (go_at_call 41; refine (l3All_c _ x l3 (Row_below (Row_below g3 (below_al _ _)) hb1) hlen (by rw [HL.out]; omega)).mono ?_; rw [HL.out]; rintro e w2 ⟨A, c, rfl, hc, hr, hb2⟩; replace z0 := later hb2 z0)
  have hb := below_tr (below_tr (below_al _ _) hb1) hb2
  have hgz2 : w.heap.size < w2.heap.size := World.block_lt_of_cell? w2 _ z0
  clear hb1 hb2 HX z1 z2 z3 hgz
  go_loopg [6] L.length (fun g v6 wr => ∃ k : Nat, k + g = L.length ∧ v6 = .int .i64 k ∧ wr.cell? ⟨w.heap.size, 0, none⟩ = some (.int .i64 x.Start) ∧ Below w.heap.size w wr ∧ Row kBatch wr A L ∧ Hid (atB x.Start t (L.drop k) = R))
  case atStart => exact ⟨0, by omega, rfl, by simpa using z0, hb, hr, HR⟩
  case round =>
    clear z0 hb hr HR hgz2
    obtain ⟨k, hk, rfl, z0, hb, hr, HD⟩ := hrel
    have hgz : w.heap.size < wr.heap.size := World.block_lt_of_cell? wr _ z0
    by_cases hlt : k < L.length
    case neg =>
      have HE : Hid (-1 = R) := Lib.hid (by have h := HD.out; rw [List.drop_eq_nil_of_le (by omega)] at h; simpa [atB] using h)
      go_wp2
      go_ret
      exact ⟨by rw [← HE.out]; rfl, hb⟩
    obtain ⟨bd, b, A6, c6, rfl, hbx, r0, r1, r2, r3, r4, r5, r6, l6, g6⟩ := Batch.at hr k hlt
    obtain ⟨hv0, hv1, hv2, hv3, hv4⟩ := lastB_ge (HA.out.2 b (List.mem_of_getElem? hbx))
    have hbl : (b.Records.length : Int) ≤ 1000000001 := by unfold lastB at hv1; omega
    have HX := Lib.hid (drop_cons hbx)
    have HBX := Lib.hid hbx
    clear hbx hv0 hv1 hv4
    have HD2 : Hid ((match atR x.Start t b.Base (b.Records.drop 0) 0 with | some v => v | none => atB x.Start t (L.drop (k + 1))) = R) := Lib.hid (by rw [← HD.out, HX.out, atB_cons, List.drop_zero]; rfl)
    clear HD HX
    go_upto_region 8 with fail
    go_loopg [7] b.Records.length (fun g v7 wi => ∃ j : Nat, j + g = b.Records.length ∧ v7 = .int .i64 j ∧ wi.cell? ⟨w.heap.size, 0, none⟩ = some (.int .i64 x.Start) ∧ Below w.heap.size w wi ∧ Row kBatch wi (some bd) L ∧ Hid ((match atR x.Start t b.Base (b.Records.drop j) j with | some v => v | none => atB x.Start t (L.drop (k + 1))) = R))
    case atStart => exact ⟨0, by omega, rfl, z0, hb, hr, HD2⟩
    case round =>
      clear HD2 z0 hb hr r0 r1 r2 r3 r4 r5 r6 g6 l6 hgz
      obtain ⟨j, hj, rfl, z0, hb, hr, HD⟩ := hrel
      have hgz := World.block_lt_of_cell? _ _ z0
      obtain ⟨bd', b', A6', c6', hbd, hbx, r0, r1, r2, r3, r4, r5, r6, l6, g6⟩ := Batch.at hr k hlt
      cases hbd
      obtain rfl : b' = b := by rw [HBX.out] at hbx; exact (Option.some.inj hbx).symm
      clear hbx
      by_cases hlt2 : j < b'.Records.length
      case neg =>
        have HE : Hid (atB x.Start t (L.drop (k + 1)) = R) := Lib.hid (by have h := HD.out; rw [List.drop_eq_nil_of_le (by omega)] at h; simpa [atR] using h)
        go_wp2
        go_roundg (L.length - k - 1)
        case rel => exact ⟨k + 1, by omega, by go_num, z0, hb, hr, HE⟩
        case measure => omega
      obtain ⟨rd, r, A5, c5, rfl, hrx, q0, q1, q2, q3, q4, q5, l5, g5⟩ := Record.at g6 j hlt2
      have HX := Lib.hid (drop_cons hrx)
      clear hrx
      have HD2 : Hid ((match (if decide (x.Start ≤ b'.Base + j) && decide (t ≤ r.Time) then some (b'.Base + (j : Int)) else atR x.Start t b'.Base (b'.Records.drop (j + 1)) (j + 1)) with | some v => v | none => atB x.Start t (L.drop (k + 1))) = R) := Lib.hid (by rw [← atR_cons, ← HX.out]; exact HD.out)
      clear HD HX
      have Hb2 := fun n => below_dn hb n
      go_upto_region 10 with fail
      by_cases hc1 : x.Start ≤ b'.Base + j
      · by_cases hc2 : t ≤ r.Time
        · have HE : Hid (b'.Base + (j : Int) = R) := Lib.hid (by rw [← HD2.out]; simp [hc1, hc2])
          go_quiet (fail)
          go_wp2
          go_ret
          exact ⟨by rw [← HE.out]; rfl, Hb2 _⟩
        · have HE : Hid ((match atR x.Start t b'.Base (b'.Records.drop (j + 1)) (j + 1) with | some v => v | none => atB x.Start t (L.drop (k + 1))) = R) := Lib.hid (by rw [← HD2.out]; simp [hc1, hc2])
          go_quiet (fail)
          go_wp2
          go_roundg (gk - 1)
          case rel => exact ⟨j + 1, by omega, by go_num, z0, Hb2 _, Row_below hr (below_dn (Below.refl _ _) _), HE⟩
          case measure => omega
      · have HE : Hid ((match atR x.Start t b'.Base (b'.Records.drop (j + 1)) (j + 1) with | some v => v | none => atB x.Start t (L.drop (k + 1))) = R) := Lib.hid (by rw [← HD2.out]; simp [hc1])
        go_quiet (fail)
        go_wp2
        go_roundg (gk - 1)
        case rel => exact ⟨j + 1, by omega, by go_num, z0, Hb2 _, Row_below hr (below_dn (Below.refl _ _) _), HE⟩
        case measure => omega
end Go.Proofs.Ytjbcgflpeomkfaa.H
