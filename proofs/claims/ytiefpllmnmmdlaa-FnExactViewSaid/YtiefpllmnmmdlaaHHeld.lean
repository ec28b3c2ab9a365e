/-
The laws' own functions held..: the marks are found again. Printed by hlaws.py (this session's own). Conditions: each contract's own premises.
-/
import Derived.Test.YtiefpllmnmmdlaaHMkDef
import Derived.Test.YtiefpllmnmmdlaaProg
namespace Go.Proofs.Ytiefpllmnmmdlaa.H
open Go.RowKit
set_option linter.unusedVariables false
set_option linter.unusedSimpArgs false
set_option maxRecDepth 100000
set_option maxHeartbeats 8000000 in
theorem heldHeadS_c (w : World) (l : List Head) {A : Option Addr} {c : Nat} (hc : l.length ≤ c) (hr : Row kHead w A l) (k k' : Int) (hM : Mks Head.mkR l k k') (h0 : 0 ≤ k) (h1 : k' ≤ 1000000000000000) :
    Calls Try.prog 87 #[.slice A l.length c, .int .i64 k] w fun e w' => e = .returned (.int .i64 k') ∧ Below w.heap.size w w' := by
  have hl : (l.length : Int) ≤ 1000000000000000 := by have := Mks.len Head.mkR_lt hM; omega
  have HM := Lib.hid hM
  clear hM
  have hu := Try.underlying127
  have hu2 := Try.underlying51
  go_enter Try.func87, Try.ntmps87
  go_wp2
  go_loopg [1, 5] l.length (fun g v1 v5 wr => ∃ (q : Nat) (m : Int), q + g = l.length ∧ v5 = .int .i64 q ∧ v1 = .int .i64 m ∧ 0 ≤ m ∧ Hid (Mks Head.mkR (l.drop q) m k') ∧ Below w.heap.size w wr)
  case atStart => exact ⟨0, k, by omega, rfl, rfl, h0, HM, Below.refl _ _⟩
  case round =>
    clear HM h0
    obtain ⟨q, m, hq, rfl, rfl, hm0, HD, hb⟩ := hrel
    by_cases hlt : q < l.length
    case neg =>
      have HE : Hid (m = k') := Lib.hid (by have h := HD.out; rw [List.drop_eq_nil_of_le (by omega)] at h; exact h)
      go_wp2
      go_ret
      exact ⟨ret_int HE.out, hb⟩
    obtain ⟨ad, x, rfl, hx, p0, p1⟩ := Head.at (Row_below hr hb) q hlt
    obtain ⟨z, hR, hMr⟩ := Mks.drop HD.out hx
    have hz := Mks.le Head.mkR_lt hMr
    have HMr := Lib.hid hMr
    clear hMr hx HD
    obtain ⟨h0_, h1_, hze⟩ := hR
    rw [h0_] at p0
    clear h0_
    rw [h1_] at p1
    clear h1_
    subst hze
    go_upto_region 4 with fail
    have fq := cg p0
    refine wp_region_quiet_below (by kernel_rfl) (by kernel_rfl) ?_
    repeat (go_big_quiet_step ((go_at_call 35; exact rg (markText_c _ _ (by omega)) rfl)))
    refine wpQuiet_nil ?_
    intro _ hw'
    obtain ⟨pp, hw''⟩ := hw'
    subst hw''
    have hbq := below_regrown wr pp.d pp.os
    clear fq
    generalize hgw : Go.Sort.grow (Go.redrawn wr pp.d) pp.os = w1_ at hbq ⊢
    clear hgw
    replace p1 := later hbq p1
    replace hb := below_tr hb hbq
    go_upto_region 7 with fail
    have fq := cg p1
    refine wp_region_quiet_below (by kernel_rfl) (by kernel_rfl) ?_
    repeat (go_big_quiet_step ((go_at_call 35; exact rg (markText_c _ _ (by omega)) rfl)))
    refine wpQuiet_nil ?_
    intro _ hw'
    obtain ⟨pp, hw''⟩ := hw'
    subst hw''
    have hbq := below_regrown w1_ pp.d pp.os
    clear fq
    generalize hgw : Go.Sort.grow (Go.redrawn w1_ pp.d) pp.os = w2_ at hbq ⊢
    clear hgw
    replace hb := below_tr hb hbq
    go_wp2
    go_roundg (gk - 1)
    case rel => exact ⟨q + 1, m + 1 + 1, by omega, by go_num, rfl, by omega, HMr, hb⟩
    case measure => omega
set_option maxHeartbeats 8000000 in
theorem heldRecordS_c (w : World) (l : List Record) {A : Option Addr} {c : Nat} (hc : l.length ≤ c) (hr : Row kRecord w A l) (k k' : Int) (hM : Mks Record.mkR l k k') (h0 : 0 ≤ k) (h1 : k' ≤ 1000000000000000) :
    Calls Try.prog 61 #[.slice A l.length c, .int .i64 k] w fun e w' => e = .returned (.int .i64 k') ∧ Below w.heap.size w w' := by
  have hl : (l.length : Int) ≤ 1000000000000000 := by have := Mks.len Record.mkR_lt hM; omega
  have HM := Lib.hid hM
  clear hM
  have hu := Try.underlying53
  have hu2 := Try.underlying46
  go_enter Try.func61, Try.ntmps61
  go_wp2
  go_loopg [1, 5] l.length (fun g v1 v5 wr => ∃ (q : Nat) (m : Int), q + g = l.length ∧ v5 = .int .i64 q ∧ v1 = .int .i64 m ∧ 0 ≤ m ∧ Hid (Mks Record.mkR (l.drop q) m k') ∧ Below w.heap.size w wr)
  case atStart => exact ⟨0, k, by omega, rfl, rfl, h0, HM, Below.refl _ _⟩
  case round =>
    clear HM h0
    obtain ⟨q, m, hq, rfl, rfl, hm0, HD, hb⟩ := hrel
    by_cases hlt : q < l.length
    case neg =>
      have HE : Hid (m = k') := Lib.hid (by have h := HD.out; rw [List.drop_eq_nil_of_le (by omega)] at h; exact h)
      go_wp2
      go_ret
      exact ⟨ret_int HE.out, hb⟩
    obtain ⟨ad, x, A5, c5', rfl, hx, p0, p1, p2, p3, p4, p5, l5, g5⟩ := Record.at (Row_below hr hb) q hlt
    obtain ⟨z, hR, hMr⟩ := Mks.drop HD.out hx
    have hz := Mks.le Record.mkR_lt hMr
    have HMr := Lib.hid hMr
    clear hMr hx HD
    obtain ⟨c5, h0_, h1_, h2_, h3_, h4_, h5_, hze⟩ := hR
    rw [h0_] at p0
    clear h0_
    rw [h1_] at p1
    clear h1_
    rw [h2_] at p2
    clear h2_
    rw [h3_] at p3
    clear h3_
    rw [h4_] at p4
    clear h4_
    have hle5 := Mks.le Head.mkR_lt h5_
    have HM5 := Lib.hid h5_
    clear h5_
    subst hze
    go_upto_region 10 with fail
    have fq := cg p2
    refine wp_region_quiet_below (by kernel_rfl) (by kernel_rfl) ?_
    repeat (go_big_quiet_step ((go_at_call 35; exact rg (markText_c _ _ (by omega)) rfl)))
    refine wpQuiet_nil ?_
    intro _ hw'
    obtain ⟨pp, hw''⟩ := hw'
    subst hw''
    have hbq := below_regrown wr pp.d pp.os
    clear fq
    generalize hgw : Go.Sort.grow (Go.redrawn wr pp.d) pp.os = w1_ at hbq ⊢
    clear hgw
    replace p3 := later hbq p3
    replace p4 := later hbq p4
    replace p5 := later hbq p5
    replace g5 := Row_below g5 hbq
    replace hb := below_tr hb hbq
    go_upto_region 16 with fail
    have fq := cg p4
    refine wp_region_quiet_below (by kernel_rfl) (by kernel_rfl) ?_
    repeat (go_big_quiet_step ((go_at_call 35; exact rg (markText_c _ _ (by omega)) rfl)))
    refine wpQuiet_nil ?_
    intro _ hw'
    obtain ⟨pp, hw''⟩ := hw'
    subst hw''
    have hbq := below_regrown w1_ pp.d pp.os
    clear fq
    generalize hgw : Go.Sort.grow (Go.redrawn w1_ pp.d) pp.os = w2_ at hbq ⊢
    clear hgw
    replace p5 := later hbq p5
    replace g5 := Row_below g5 hbq
    replace hb := below_tr hb hbq
    go_upto_region 19 with fail
    go_wp2_with (go_at_call 87; refine (heldHeadS_c _ x.Heads l5 g5 _ _ HM5.out (by omega) (by omega)).mono ?_; rintro e w3_ ⟨rfl, hbq⟩; replace hb := below_tr hb hbq)
    go_roundg (gk - 1)
    case rel => exact ⟨q + 1, z, by omega, by go_num, rfl, by omega, HMr, hb⟩
    case measure => omega
set_option maxHeartbeats 8000000 in
theorem heldBatchS_c (w : World) (l : List Batch) {A : Option Addr} {c : Nat} (hc : l.length ≤ c) (hr : Row kBatch w A l) (k k' : Int) (hM : Mks Batch.mkR l k k') (h0 : 0 ≤ k) (h1 : k' ≤ 1000000000000000) :
    Calls Try.prog 44 #[.slice A l.length c, .int .i64 k] w fun e w' => e = .returned (.int .i64 k') ∧ Below w.heap.size w w' := by
  have hl : (l.length : Int) ≤ 1000000000000000 := by have := Mks.len Batch.mkR_lt hM; omega
  have HM := Lib.hid hM
  clear hM
  have hu := Try.underlying48
  have hu2 := Try.underlying42
  go_enter Try.func44, Try.ntmps44
  go_wp2
  go_loopg [1, 5] l.length (fun g v1 v5 wr => ∃ (q : Nat) (m : Int), q + g = l.length ∧ v5 = .int .i64 q ∧ v1 = .int .i64 m ∧ 0 ≤ m ∧ Hid (Mks Batch.mkR (l.drop q) m k') ∧ Below w.heap.size w wr)
  case atStart => exact ⟨0, k, by omega, rfl, rfl, h0, HM, Below.refl _ _⟩
  case round =>
    clear HM h0
    obtain ⟨q, m, hq, rfl, rfl, hm0, HD, hb⟩ := hrel
    by_cases hlt : q < l.length
    case neg =>
      have HE : Hid (m = k') := Lib.hid (by have h := HD.out; rw [List.drop_eq_nil_of_le (by omega)] at h; exact h)
      go_wp2
      go_ret
      exact ⟨ret_int HE.out, hb⟩
    obtain ⟨ad, x, A6, c6', rfl, hx, p0, p1, p2, p3, p4, p5, p6, l6, g6⟩ := Batch.at (Row_below hr hb) q hlt
    obtain ⟨z, hR, hMr⟩ := Mks.drop HD.out hx
    have hz := Mks.le Batch.mkR_lt hMr
    have HMr := Lib.hid hMr
    clear hMr hx HD
    obtain ⟨c6, h0_, h1_, h2_, h3_, h4_, h5_, h6_, hze⟩ := hR
    rw [h0_] at p0
    clear h0_
    rw [h1_] at p1
    clear h1_
    rw [h2_] at p2
    clear h2_
    rw [h3_] at p3
    clear h3_
    rw [h4_] at p4
    clear h4_
    rw [h5_] at p5
    clear h5_
    have hle6 := Mks.le Record.mkR_lt h6_
    have HM6 := Lib.hid h6_
    clear h6_
    subst hze
    go_upto_region 22 with fail
    go_wp2_with (go_at_call 61; refine (heldRecordS_c _ x.Records l6 g6 _ _ HM6.out (by omega) (by omega)).mono ?_; rintro e w1_ ⟨rfl, hbq⟩; replace hb := below_tr hb hbq)
    go_roundg (gk - 1)
    case rel => exact ⟨q + 1, z, by omega, by go_num, rfl, by omega, HMr, hb⟩
    case measure => omega
set_option maxHeartbeats 8000000 in
theorem heldSegmentS_c (w : World) (l : List Segment) {A : Option Addr} {c : Nat} (hc : l.length ≤ c) (hr : Row kSegment w A l) (k k' : Int) (hM : Mks Segment.mkR l k k') (h0 : 0 ≤ k) (h1 : k' ≤ 1000000000000000) :
    Calls Try.prog 29 #[.slice A l.length c, .int .i64 k] w fun e w' => e = .returned (.int .i64 k') ∧ Below w.heap.size w w' := by
  have hl : (l.length : Int) ≤ 1000000000000000 := by have := Mks.len Segment.mkR_lt hM; omega
  have HM := Lib.hid hM
  clear hM
  have hu := Try.underlying45
  have hu2 := Try.underlying26
  go_enter Try.func29, Try.ntmps29
  go_wp2
  go_loopg [1, 5] l.length (fun g v1 v5 wr => ∃ (q : Nat) (m : Int), q + g = l.length ∧ v5 = .int .i64 q ∧ v1 = .int .i64 m ∧ 0 ≤ m ∧ Hid (Mks Segment.mkR (l.drop q) m k') ∧ Below w.heap.size w wr)
  case atStart => exact ⟨0, k, by omega, rfl, rfl, h0, HM, Below.refl _ _⟩
  case round =>
    clear HM h0
    obtain ⟨q, m, hq, rfl, rfl, hm0, HD, hb⟩ := hrel
    by_cases hlt : q < l.length
    case neg =>
      have HE : Hid (m = k') := Lib.hid (by have h := HD.out; rw [List.drop_eq_nil_of_le (by omega)] at h; exact h)
      go_wp2
      go_ret
      exact ⟨ret_int HE.out, hb⟩
    obtain ⟨ad, x, A1, c1', rfl, hx, p0, p1, l1, g1⟩ := Segment.at (Row_below hr hb) q hlt
    obtain ⟨z, hR, hMr⟩ := Mks.drop HD.out hx
    have hz := Mks.le Segment.mkR_lt hMr
    have HMr := Lib.hid hMr
    clear hMr hx HD
    obtain ⟨c1, h0_, h1_, hze⟩ := hR
    rw [h0_] at p0
    clear h0_
    have hle1 := Mks.le Batch.mkR_lt h1_
    have HM1 := Lib.hid h1_
    clear h1_
    subst hze
    go_upto_region 7 with fail
    go_wp2_with (go_at_call 44; refine (heldBatchS_c _ x.Batches l1 g1 _ _ HM1.out (by omega) (by omega)).mono ?_; rintro e w1_ ⟨rfl, hbq⟩; replace hb := below_tr hb hbq)
    go_roundg (gk - 1)
    case rel => exact ⟨q + 1, z, by omega, by go_num, rfl, by omega, HMr, hb⟩
    case measure => omega
set_option maxHeartbeats 4000000 in
theorem heldLog_c (w : World) (x : Log) {A3 : Option Addr} {c3 : Nat} (l3 : x.Segments.length ≤ c3) (g3 : Row kSegment w A3 x.Segments) (k k' : Int) (hM : x.mkV k k') (h0 : 0 ≤ k) (h1 : k' ≤ 1000000000000000) :
    Calls Try.prog 11 #[.agg #[.int .i64 x.Start, .int .i64 x.Next, .int .i64 x.Roll, .slice A3 x.Segments.length c3], .int .i64 k] w fun e w' => e = .returned (.int .i64 k') ∧ Below w.heap.size w w' := by
  obtain ⟨m3, hM3, rfl⟩ := hM
  have hle3 := Mks.le Segment.mkR_lt hM3
  have HM3 := Lib.hid hM3
  clear hM3
  go_enter Try.func11, Try.ntmps11
  go_upto_region 1 with fail
  go_wp2_with (go_at_call 29; refine (heldSegmentS_c _ x.Segments l3 (Row_below g3 (below_al w (.cells #[.int .i64 x.Start, .int .i64 x.Next, .int .i64 x.Roll, .slice A3 x.Segments.length c3] 28))) _ _ HM3.out (by omega) (by omega)).mono ?_; rintro e w1_ ⟨rfl, hb0⟩; have E0 := below_tr (below_al w (.cells #[.int .i64 x.Start, .int .i64 x.Next, .int .i64 x.Roll, .slice A3 x.Segments.length c3] 28)) hb0)
  go_ret
  exact ⟨rfl, E0⟩
set_option maxHeartbeats 8000000 in
theorem heldPairS_c (w : World) (l : List Pair) {A : Option Addr} {c : Nat} (hc : l.length ≤ c) (hr : Row kPair w A l) (k k' : Int) (hM : Mks Pair.mkR l k k') (h0 : 0 ≤ k) (h1 : k' ≤ 1000000000000000) :
    Calls Try.prog 16 #[.slice A l.length c, .int .i64 k] w fun e w' => e = .returned (.int .i64 k') ∧ Below w.heap.size w w' := by
  have hl : (l.length : Int) ≤ 1000000000000000 := by have := Mks.len Pair.mkR_lt hM; omega
  have HM := Lib.hid hM
  clear hM
  have hu := Try.underlying64
  have hu2 := Try.underlying35
  go_enter Try.func16, Try.ntmps16
  go_wp2
  go_loopg [1, 5] l.length (fun g v1 v5 wr => ∃ (q : Nat) (m : Int), q + g = l.length ∧ v5 = .int .i64 q ∧ v1 = .int .i64 m ∧ 0 ≤ m ∧ Hid (Mks Pair.mkR (l.drop q) m k') ∧ Below w.heap.size w wr)
  case atStart => exact ⟨0, k, by omega, rfl, rfl, h0, HM, Below.refl _ _⟩
  case round =>
    clear HM h0
    obtain ⟨q, m, hq, rfl, rfl, hm0, HD, hb⟩ := hrel
    by_cases hlt : q < l.length
    case neg =>
      have HE : Hid (m = k') := Lib.hid (by have h := HD.out; rw [List.drop_eq_nil_of_le (by omega)] at h; exact h)
      go_wp2
      go_ret
      exact ⟨ret_int HE.out, hb⟩
    obtain ⟨ad, x, rfl, hx, p0, p1⟩ := Pair.at (Row_below hr hb) q hlt
    obtain ⟨z, hR, hMr⟩ := Mks.drop HD.out hx
    have hz := Mks.le Pair.mkR_lt hMr
    have HMr := Lib.hid hMr
    clear hMr hx HD
    obtain ⟨h0_, h1_, hze⟩ := hR
    rw [h0_] at p0
    clear h0_
    rw [h1_] at p1
    clear h1_
    subst hze
    go_upto_region 4 with fail
    have fq := cg p0
    refine wp_region_quiet_below (by kernel_rfl) (by kernel_rfl) ?_
    repeat (go_big_quiet_step ((go_at_call 35; exact rg (markText_c _ _ (by omega)) rfl)))
    refine wpQuiet_nil ?_
    intro _ hw'
    obtain ⟨pp, hw''⟩ := hw'
    subst hw''
    have hbq := below_regrown wr pp.d pp.os
    clear fq
    generalize hgw : Go.Sort.grow (Go.redrawn wr pp.d) pp.os = w1_ at hbq ⊢
    clear hgw
    replace p1 := later hbq p1
    replace hb := below_tr hb hbq
    go_upto_region 7 with fail
    have fq := cg p1
    refine wp_region_quiet_below (by kernel_rfl) (by kernel_rfl) ?_
    repeat (go_big_quiet_step ((go_at_call 35; exact rg (markText_c _ _ (by omega)) rfl)))
    refine wpQuiet_nil ?_
    intro _ hw'
    obtain ⟨pp, hw''⟩ := hw'
    subst hw''
    have hbq := below_regrown w1_ pp.d pp.os
    clear fq
    generalize hgw : Go.Sort.grow (Go.redrawn w1_ pp.d) pp.os = w2_ at hbq ⊢
    clear hgw
    replace hb := below_tr hb hbq
    go_wp2
    go_roundg (gk - 1)
    case rel => exact ⟨q + 1, m + 1 + 1, by omega, by go_num, rfl, by omega, HMr, hb⟩
    case measure => omega
end Go.Proofs.Ytiefpllmnmmdlaa.H
