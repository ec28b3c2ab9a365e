/-
The laws' own functions held..: the marks are found again. Printed by hlaws.py (this session's own). Conditions: each contract's own premises.
-/
import Derived.Test.YtenldgbabcjjkaaHMkDef
import Derived.Test.YtenldgbabcjjkaaProg
namespace Go.Proofs.Ytenldgbabcjjkaa.H
open Go.RowKit
set_option linter.unusedVariables false
set_option linter.unusedSimpArgs false
set_option maxRecDepth 100000
set_option maxHeartbeats 8000000 in
theorem heldHeadS_c (w : World) (l : List Head) {A : Option Addr} {c : Nat} (hc : l.length ≤ c) (hr : Row kHead w A l) (k k' : Int) (hM : Mks Head.mkR l k k') (h0 : 0 ≤ k) (h1 : k' ≤ 1000000000000000) :
    Calls Try.prog 123 #[.slice A l.length c, .int .i64 k] w fun e w' => e = .returned (.int .i64 k') ∧ Below w.heap.size w w' := by
  have hl : (l.length : Int) ≤ 1000000000000000 := by have := Mks.len Head.mkR_lt hM; omega
  have HM := Lib.hid hM
  clear hM
  have hu := Try.underlying168
  have hu2 := Try.underlying146
  go_enter Try.func123, Try.ntmps123
  go_wp2
  go_loopg [1, 5] l.length (fun g v1 v5 wr => ∃ (q : Nat) (m : Int), q + g = l.length ∧ v5 = .int .i64 q ∧ v1 = .int .i64 m ∧ 0 ≤ m ∧ Hid (Mks Head.mkR (l.drop q) m k') ∧ Below w.heap.size w wr)
  case atStart => exact ⟨0, k, by omega, rfl, rfl, h0, HM, Below.refl _ _⟩
  case round =>
    clear HM h0
    obtain ⟨q, m, hq, rfl, rfl, hm0, HD, hb⟩ := hrel
    by_cases hlt : q < l.length
    case neg =>
      have HE : Hid (m = k') := Lib.hid (by have h := HD.out; rw [List.drop_eq_nil_of_le (by omega)] at h; exact h)
      go_wp2
      go_ret
      exact ⟨ret_int HE.out, hb⟩
    obtain ⟨ad, x, rfl, hx, p0, p1⟩ := Head.at (Row_below hr hb) q hlt
    obtain ⟨z, hR, hMr⟩ := Mks.drop HD.out hx
    have hz := Mks.le Head.mkR_lt hMr
    have HMr := Lib.hid hMr
    clear hMr hx HD
    obtain ⟨h0_, h1_, hze⟩ := hR
    rw [h0_] at p0
    clear h0_
    rw [h1_] at p1
    clear h1_
    subst hze
    go_upto_region 4 with fail
    have fq := cg p0
    refine wp_region_quiet_below (by kernel_rfl) (by kernel_rfl) ?_
    repeat (go_big_quiet_step ((go_at_call 96; exact rg (markText_c _ _ (by omega)) rfl)))
    refine wpQuiet_nil ?_
    intro _ hw'
    obtain ⟨pp, hw''⟩ := hw'
    subst hw''
    have hbq := below_regrown wr pp.d pp.os
    clear fq
    generalize hgw : Go.Sort.grow (Go.redrawn wr pp.d) pp.os = w1_ at hbq ⊢
    clear hgw
    replace p1 := later hbq p1
    replace hb := below_tr hb hbq
    go_upto_region 7 with fail
    have fq := cg p1
    refine wp_region_quiet_below (by kernel_rfl) (by kernel_rfl) ?_
    repeat (go_big_quiet_step ((go_at_call 96; exact rg (markText_c _ _ (by omega)) rfl)))
    refine wpQuiet_nil ?_
    intro _ hw'
    obtain ⟨pp, hw''⟩ := hw'
    subst hw''
    have hbq := below_regrown w1_ pp.d pp.os
    clear fq
    generalize hgw : Go.Sort.grow (Go.redrawn w1_ pp.d) pp.os = w2_ at hbq ⊢
    clear hgw
    replace hb := below_tr hb hbq
    go_wp2
    go_roundg (gk - 1)
    case rel => exact ⟨q + 1, m + 1 + 1, by omega, by go_num, rfl, by omega, HMr, hb⟩
    case measure => omega
set_option maxHeartbeats 8000000 in
theorem heldRecordS_c (w : World) (l : List Record) {A : Option Addr} {c : Nat} (hc : l.length ≤ c) (hr : Row kRecord w A l) (k k' : Int) (hM : Mks Record.mkR l k k') (h0 : 0 ≤ k) (h1 : k' ≤ 1000000000000000) :
    Calls Try.prog 116 #[.slice A l.length c, .int .i64 k] w fun e w' => e = .returned (.int .i64 k') ∧ Below w.heap.size w w' := by
  have hl : (l.length : Int) ≤ 1000000000000000 := by have := Mks.len Record.mkR_lt hM; omega
  have HM := Lib.hid hM
  clear hM
  have hu := Try.underlying148
  have hu2 := Try.underlying115
  go_enter Try.func116, Try.ntmps116
  go_wp2
  go_loopg [1, 5] l.length (fun g v1 v5 wr => ∃ (q : Nat) (m : Int), q + g = l.length ∧ v5 = .int .i64 q ∧ v1 = .int .i64 m ∧ 0 ≤ m ∧ Hid (Mks Record.mkR (l.drop q) m k') ∧ Below w.heap.size w wr)
  case atStart => exact ⟨0, k, by omega, rfl, rfl, h0, HM, Below.refl _ _⟩
  case round =>
    clear HM h0
    obtain ⟨q, m, hq, rfl, rfl, hm0, HD, hb⟩ := hrel
    by_cases hlt : q < l.length
    case neg =>
      have HE : Hid (m = k') := Lib.hid (by have h := HD.out; rw [List.drop_eq_nil_of_le (by omega)] at h; exact h)
      go_wp2
      go_ret
      exact ⟨ret_int HE.out, hb⟩
    obtain ⟨ad, x, A5, c5', rfl, hx, p0, p1, p2, p3, p4, p5, l5, g5⟩ := Record.at (Row_below hr hb) q hlt
    obtain ⟨z, hR, hMr⟩ := Mks.drop HD.out hx
    have hz := Mks.le Record.mkR_lt hMr
    have HMr := Lib.hid hMr
    clear hMr hx HD
    obtain ⟨c5, h0_, h1_, h2_, h3_, h4_, h5_, hze⟩ := hR
    rw [h0_] at p0
    clear h0_
    rw [h1_] at p1
    clear h1_
    rw [h2_] at p2
    clear h2_
    rw [h3_] at p3
    clear h3_
    rw [h4_] at p4
    clear h4_
    have hle5 := Mks.le Head.mkR_lt h5_
    have HM5 := Lib.hid h5_
    clear h5_
    subst hze
    go_upto_region 10 with fail
    have fq := cg p2
    refine wp_region_quiet_below (by kernel_rfl) (by kernel_rfl) ?_
    repeat (go_big_quiet_step ((go_at_call 96; exact rg (markText_c _ _ (by omega)) rfl)))
    refine wpQuiet_nil ?_
    intro _ hw'
    obtain ⟨pp, hw''⟩ := hw'
    subst hw''
    have hbq := below_regrown wr pp.d pp.os
    clear fq
    generalize hgw : Go.Sort.grow (Go.redrawn wr pp.d) pp.os = w1_ at hbq ⊢
    clear hgw
    replace p3 := later hbq p3
    replace p4 := later hbq p4
    replace p5 := later hbq p5
    replace g5 := Row_below g5 hbq
    replace hb := below_tr hb hbq
    go_upto_region 16 with fail
    have fq := cg p4
    refine wp_region_quiet_below (by kernel_rfl) (by kernel_rfl) ?_
    repeat (go_big_quiet_step ((go_at_call 96; exact rg (markText_c _ _ (by omega)) rfl)))
    refine wpQuiet_nil ?_
    intro _ hw'
    obtain ⟨pp, hw''⟩ := hw'
    subst hw''
    have hbq := below_regrown w1_ pp.d pp.os
    clear fq
    generalize hgw : Go.Sort.grow (Go.redrawn w1_ pp.d) pp.os = w2_ at hbq ⊢
    clear hgw
    replace p5 := later hbq p5
    replace g5 := Row_below g5 hbq
    replace hb := below_tr hb hbq
    go_upto_region 19 with fail
    go_wp2_with (go_at_call 123; refine (heldHeadS_c _ x.Heads l5 g5 _ _ HM5.out (by omega) (by omega)).mono ?_; rintro e w3_ ⟨rfl, hbq⟩; replace hb := below_tr hb hbq)
    go_roundg (gk - 1)
    case rel => exact ⟨q + 1, z, by omega, by go_num, rfl, by omega, HMr, hb⟩
    case measure => omega
set_option maxHeartbeats 8000000 in
theorem heldBatchS_c (w : World) (l : List Batch) {A : Option Addr} {c : Nat} (hc : l.length ≤ c) (hr : Row kBatch w A l) (k k' : Int) (hM : Mks Batch.mkR l k k') (h0 : 0 ≤ k) (h1 : k' ≤ 1000000000000000) :
    Calls Try.prog 108 #[.slice A l.length c, .int .i64 k] w fun e w' => e = .returned (.int .i64 k') ∧ Below w.heap.size w w' := by
  have hl : (l.length : Int) ≤ 1000000000000000 := by have := Mks.len Batch.mkR_lt hM; omega
  have HM := Lib.hid hM
  clear hM
  have hu := Try.underlying117
  have hu2 := Try.underlying104
  go_enter Try.func108, Try.ntmps108
  go_wp2
  go_loopg [1, 5] l.length (fun g v1 v5 wr => ∃ (q : Nat) (m : Int), q + g = l.length ∧ v5 = .int .i64 q ∧ v1 = .int .i64 m ∧ 0 ≤ m ∧ Hid (Mks Batch.mkR (l.drop q) m k') ∧ Below w.heap.size w wr)
  case atStart => exact ⟨0, k, by omega, rfl, rfl, h0, HM, Below.refl _ _⟩
  case round =>
    clear HM h0
    obtain ⟨q, m, hq, rfl, rfl, hm0, HD, hb⟩ := hrel
    by_cases hlt : q < l.length
    case neg =>
      have HE : Hid (m = k') := Lib.hid (by have h := HD.out; rw [List.drop_eq_nil_of_le (by omega)] at h; exact h)
      go_wp2
      go_ret
      exact ⟨ret_int HE.out, hb⟩
    obtain ⟨ad, x, A6, c6', rfl, hx, p0, p1, p2, p3, p4, p5, p6, l6, g6⟩ := Batch.at (Row_below hr hb) q hlt
    obtain ⟨z, hR, hMr⟩ := Mks.drop HD.out hx
    have hz := Mks.le Batch.mkR_lt hMr
    have HMr := Lib.hid hMr
    clear hMr hx HD
    obtain ⟨c6, h0_, h1_, h2_, h3_, h4_, h5_, h6_, hze⟩ := hR
    rw [h0_] at p0
    clear h0_
    rw [h1_] at p1
    clear h1_
    rw [h2_] at p2
    clear h2_
    rw [h3_] at p3
    clear h3_
    rw [h4_] at p4
    clear h4_
    rw [h5_] at p5
    clear h5_
    have hle6 := Mks.le Record.mkR_lt h6_
    have HM6 := Lib.hid h6_
    clear h6_
    subst hze
    go_upto_region 22 with fail
    go_wp2_with (go_at_call 116; refine (heldRecordS_c _ x.Records l6 g6 _ _ HM6.out (by omega) (by omega)).mono ?_; rintro e w1_ ⟨rfl, hbq⟩; replace hb := below_tr hb hbq)
    go_roundg (gk - 1)
    case rel => exact ⟨q + 1, z, by omega, by go_num, rfl, by omega, HMr, hb⟩
    case measure => omega
set_option maxHeartbeats 8000000 in
theorem heldSegmentS_c (w : World) (l : List Segment) {A : Option Addr} {c : Nat} (hc : l.length ≤ c) (hr : Row kSegment w A l) (k k' : Int) (hM : Mks Segment.mkR l k k') (h0 : 0 ≤ k) (h1 : k' ≤ 1000000000000000) :
    Calls Try.prog 94 #[.slice A l.length c, .int .i64 k] w fun e w' => e = .returned (.int .i64 k') ∧ Below w.heap.size w w' := by
  have hl : (l.length : Int) ≤ 1000000000000000 := by have := Mks.len Segment.mkR_lt hM; omega
  have HM := Lib.hid hM
  clear hM
  have hu := Try.underlying143
  have hu2 := Try.underlying57
  go_enter Try.func94, Try.ntmps94
  go_wp2
  go_loopg [1, 5] l.length (fun g v1 v5 wr => ∃ (q : Nat) (m : Int), q + g = l.length ∧ v5 = .int .i64 q ∧ v1 = .int .i64 m ∧ 0 ≤ m ∧ Hid (Mks Segment.mkR (l.drop q) m k') ∧ Below w.heap.size w wr)
  case atStart => exact ⟨0, k, by omega, rfl, rfl, h0, HM, Below.refl _ _⟩
  case round =>
    clear HM h0
    obtain ⟨q, m, hq, rfl, rfl, hm0, HD, hb⟩ := hrel
    by_cases hlt : q < l.length
    case neg =>
      have HE : Hid (m = k') := Lib.hid (by have h := HD.out; rw [List.drop_eq_nil_of_le (by omega)] at h; exact h)
      go_wp2
      go_ret
      exact ⟨ret_int HE.out, hb⟩
    obtain ⟨ad, x, A1, c1', rfl, hx, p0, p1, l1, g1⟩ := Segment.at (Row_below hr hb) q hlt
    obtain ⟨z, hR, hMr⟩ := Mks.drop HD.out hx
    have hz := Mks.le Segment.mkR_lt hMr
    have HMr := Lib.hid hMr
    clear hMr hx HD
    obtain ⟨c1, h0_, h1_, hze⟩ := hR
    rw [h0_] at p0
    clear h0_
    have hle1 := Mks.le Batch.mkR_lt h1_
    have HM1 := Lib.hid h1_
    clear h1_
    subst hze
    go_upto_region 7 with fail
    go_wp2_with (go_at_call 108; refine (heldBatchS_c _ x.Batches l1 g1 _ _ HM1.out (by omega) (by omega)).mono ?_; rintro e w1_ ⟨rfl, hbq⟩; replace hb := below_tr hb hbq)
    go_roundg (gk - 1)
    case rel => exact ⟨q + 1, z, by omega, by go_num, rfl, by omega, HMr, hb⟩
    case measure => omega
set_option maxHeartbeats 8000000 in
theorem heldReplicaS_c (w : World) (l : List Replica) {A : Option Addr} {c : Nat} (hc : l.length ≤ c) (hr : Row kReplica w A l) (k k' : Int) (hM : Mks Replica.mkR l k k') (h0 : 0 ≤ k) (h1 : k' ≤ 1000000000000000) :
    Calls Try.prog 58 #[.slice A l.length c, .int .i64 k] w fun e w' => e = .returned (.int .i64 k') ∧ Below w.heap.size w w' := by
  have hl : (l.length : Int) ≤ 1000000000000000 := by have := Mks.len Replica.mkR_lt hM; omega
  have HM := Lib.hid hM
  clear hM
  have hu := Try.underlying90
  have hu2 := Try.underlying36
  go_enter Try.func58, Try.ntmps58
  go_wp2
  go_loopg [1, 5] l.length (fun g v1 v5 wr => ∃ (q : Nat) (m : Int), q + g = l.length ∧ v5 = .int .i64 q ∧ v1 = .int .i64 m ∧ 0 ≤ m ∧ Hid (Mks Replica.mkR (l.drop q) m k') ∧ Below w.heap.size w wr)
  case atStart => exact ⟨0, k, by omega, rfl, rfl, h0, HM, Below.refl _ _⟩
  case round =>
    clear HM h0
    obtain ⟨q, m, hq, rfl, rfl, hm0, HD, hb⟩ := hrel
    by_cases hlt : q < l.length
    case neg =>
      have HE : Hid (m = k') := Lib.hid (by have h := HD.out; rw [List.drop_eq_nil_of_le (by omega)] at h; exact h)
      go_wp2
      go_ret
      exact ⟨ret_int HE.out, hb⟩
    obtain ⟨ad, x, A3, c3', rfl, hx, p0, p1, p2, p3, p4, p5, l3, g3⟩ := Replica.at (Row_below hr hb) q hlt
    obtain ⟨z, hR, hMr⟩ := Mks.drop HD.out hx
    have hz := Mks.le Replica.mkR_lt hMr
    have HMr := Lib.hid hMr
    clear hMr hx HD
    obtain ⟨c3, h0_, h1_, h2_, h3_, h4_, h5_, hze⟩ := hR
    rw [h0_] at p0
    clear h0_
    rw [h1_] at p1
    clear h1_
    rw [h2_] at p2
    clear h2_
    have hle3 := Mks.le Segment.mkR_lt h3_
    have HM3 := Lib.hid h3_
    clear h3_
    rw [h4_] at p4
    clear h4_
    rw [h5_] at p5
    clear h5_
    subst hze
    go_upto_region 13 with fail
    go_wp2_with (go_at_call 94; refine (heldSegmentS_c _ x.Log.Segments l3 g3 _ _ HM3.out (by omega) (by omega)).mono ?_; rintro e w1_ ⟨rfl, hbq⟩; replace p4 := later hbq p4; replace p5 := later hbq p5; replace hb := below_tr hb hbq)
    go_roundg (gk - 1)
    case rel => exact ⟨q + 1, c3 + 1 + 1, by omega, by go_num, rfl, by omega, HMr, hb⟩
    case measure => omega
set_option maxHeartbeats 8000000 in
theorem heldIntS_c (w : World) (l : List Int) {A : Option Addr} {c : Nat} (hc : l.length ≤ c) (hr : Row (Ki.int .i64) w A l) (k k' : Int) (hM : Mks intR l k k') (h0 : 0 ≤ k) (h1 : k' ≤ 1000000000000000) :
    Calls Try.prog 59 #[.slice A l.length c, .int .i64 k] w fun e w' => e = .returned (.int .i64 k') ∧ Below w.heap.size w w' := by
  have hl : (l.length : Int) ≤ 1000000000000000 := by have := Mks.len intR_lt hM; omega
  have HM := Lib.hid hM
  clear hM
  have hu := Try.underlying3
  have hu2 := Try.underlying37
  go_enter Try.func59, Try.ntmps59
  go_wp2
  go_loopg [1, 5] l.length (fun g v1 v5 wr => ∃ (q : Nat) (m : Int), q + g = l.length ∧ v5 = .int .i64 q ∧ v1 = .int .i64 m ∧ 0 ≤ m ∧ Hid (Mks intR (l.drop q) m k') ∧ Below w.heap.size w wr)
  case atStart => exact ⟨0, k, by omega, rfl, rfl, h0, HM, Below.refl _ _⟩
  case round =>
    clear HM h0
    obtain ⟨q, m, hq, rfl, rfl, hm0, HD, hb⟩ := hrel
    by_cases hlt : q < l.length
    case neg =>
      have HE : Hid (m = k') := Lib.hid (by have h := HD.out; rw [List.drop_eq_nil_of_le (by omega)] at h; exact h)
      go_wp2
      go_ret
      exact ⟨ret_int HE.out, hb⟩
    obtain ⟨ad, x, cs, rfl, hx, hK, hca⟩ := Row_get (Row_below hr hb) q hlt
    obtain rfl := hK
    obtain ⟨z, ⟨rfl, rfl⟩, hMr⟩ := Mks.drop HD.out hx
    have hz := Mks.le intR_lt hMr
    have HMr := Lib.hid hMr
    clear hMr hx
    have p0 : wr.cell? (ad.add q) = some (.int .i64 x) := by simpa [Ki.int, Ki.scalar] using hca 0 _ rfl
    clear hca
    go_wp2
    go_roundg (gk - 1)
    case rel => exact ⟨q + 1, x + 1, by omega, by go_num, rfl, by omega, HMr, hb⟩
    case measure => omega
set_option maxHeartbeats 4000000 in
theorem heldPart_c (w : World) (x : Part) {A0 : Option Addr} {c0 : Nat} (l0 : x.Replicas.length ≤ c0) (g0 : Row kReplica w A0 x.Replicas) {A3 : Option Addr} {c3 : Nat} (l3 : x.Insync.length ≤ c3) (g3 : Row (Ki.int .i64) w A3 x.Insync) {A4 : Option Addr} {c4 : Nat} (l4 : x.Known.length ≤ c4) (g4 : Row (Ki.int .i64) w A4 x.Known) (k k' : Int) (hM : x.mkV k k') (h0 : 0 ≤ k) (h1 : k' ≤ 1000000000000000) :
    Calls Try.prog 23 #[.agg #[.slice A0 x.Replicas.length c0, .int .i64 x.Leader, .int .i64 x.Epoch, .slice A3 x.Insync.length c3, .slice A4 x.Known.length c4, .int .i64 x.Least], .int .i64 k] w fun e w' => e = .returned (.int .i64 k') ∧ Below w.heap.size w w' := by
  obtain ⟨m0, m3, m4, hM0, hM3, hM4, rfl⟩ := hM
  have hle0 := Mks.le Replica.mkR_lt hM0
  have HM0 := Lib.hid hM0
  clear hM0
  have hle3 := Mks.le intR_lt hM3
  have HM3 := Lib.hid hM3
  clear hM3
  have hle4 := Mks.le intR_lt hM4
  have HM4 := Lib.hid hM4
  clear hM4
  go_enter Try.func23, Try.ntmps23
  go_upto_region 1 with fail
  go_upto_region 4 with (go_at_call 58; refine (heldReplicaS_c _ x.Replicas l0 (Row_below g0 (below_al w (.cells #[.slice A0 x.Replicas.length c0, .int .i64 x.Leader, .int .i64 x.Epoch, .slice A3 x.Insync.length c3, .slice A4 x.Known.length c4, .int .i64 x.Least] 39))) _ _ HM0.out (by omega) (by omega)).mono ?_; rintro e w1_ ⟨rfl, hb0⟩; have E0 := below_tr (below_al w (.cells #[.slice A0 x.Replicas.length c0, .int .i64 x.Leader, .int .i64 x.Epoch, .slice A3 x.Insync.length c3, .slice A4 x.Known.length c4, .int .i64 x.Least] 39)) hb0; have X0 := (Box.new w #[.slice A0 x.Replicas.length c0, .int .i64 x.Leader, .int .i64 x.Epoch, .slice A3 x.Insync.length c3, .slice A4 x.Known.length c4, .int .i64 x.Least] 39).later hb0; have q0_3 := X0 3 _ rfl; have q0_4 := X0 4 _ rfl; have gb0 := X0.lt rfl)
  go_upto_region 7 with (go_at_call 59; refine (heldIntS_c _ x.Insync l3 (Row_below g3 (E0)) _ _ HM3.out (by omega) (by omega)).mono ?_; rintro e w2_ ⟨rfl, hb1⟩; have E1 := below_tr (E0) hb1; have X1 := (X0).later hb1; clear X0; have q1_4 := X1 4 _ rfl; have gb1 := X1.lt rfl)
  go_wp2_with (go_at_call 59; refine (heldIntS_c _ x.Known l4 (Row_below g4 (E1)) _ _ HM4.out (by omega) (by omega)).mono ?_; rintro e w3_ ⟨rfl, hb2⟩; have E2 := below_tr (E1) hb2)
  go_ret
  exact ⟨rfl, E2⟩
set_option maxHeartbeats 8000000 in
theorem heldLogS_c (w : World) (l : List Log) {A : Option Addr} {c : Nat} (hc : l.length ≤ c) (hr : Row kLog w A l) (k k' : Int) (hM : Mks Log.mkR l k k') (h0 : 0 ≤ k) (h1 : k' ≤ 1000000000000000) :
    Calls Try.prog 64 #[.slice A l.length c, .int .i64 k] w fun e w' => e = .returned (.int .i64 k') ∧ Below w.heap.size w w' := by
  have hl : (l.length : Int) ≤ 1000000000000000 := by have := Mks.len Log.mkR_lt hM; omega
  have HM := Lib.hid hM
  clear hM
  have hu := Try.underlying59
  have hu2 := Try.underlying44
  go_enter Try.func64, Try.ntmps64
  go_wp2
  go_loopg [1, 5] l.length (fun g v1 v5 wr => ∃ (q : Nat) (m : Int), q + g = l.length ∧ v5 = .int .i64 q ∧ v1 = .int .i64 m ∧ 0 ≤ m ∧ Hid (Mks Log.mkR (l.drop q) m k') ∧ Below w.heap.size w wr)
  case atStart => exact ⟨0, k, by omega, rfl, rfl, h0, HM, Below.refl _ _⟩
  case round =>
    clear HM h0
    obtain ⟨q, m, hq, rfl, rfl, hm0, HD, hb⟩ := hrel
    by_cases hlt : q < l.length
    case neg =>
      have HE : Hid (m = k') := Lib.hid (by have h := HD.out; rw [List.drop_eq_nil_of_le (by omega)] at h; exact h)
      go_wp2
      go_ret
      exact ⟨ret_int HE.out, hb⟩
    obtain ⟨ad, x, A3, c3', rfl, hx, p0, p1, p2, p3, l3, g3⟩ := Log.at (Row_below hr hb) q hlt
    obtain ⟨z, hR, hMr⟩ := Mks.drop HD.out hx
    have hz := Mks.le Log.mkR_lt hMr
    have HMr := Lib.hid hMr
    clear hMr hx HD
    obtain ⟨c3, h0_, h1_, h2_, h3_, hze⟩ := hR
    rw [h0_] at p0
    clear h0_
    rw [h1_] at p1
    clear h1_
    rw [h2_] at p2
    clear h2_
    have hle3 := Mks.le Segment.mkR_lt h3_
    have HM3 := Lib.hid h3_
    clear h3_
    subst hze
    go_upto_region 13 with fail
    go_wp2_with (go_at_call 94; refine (heldSegmentS_c _ x.Segments l3 g3 _ _ HM3.out (by omega) (by omega)).mono ?_; rintro e w1_ ⟨rfl, hbq⟩; replace hb := below_tr hb hbq)
    go_roundg (gk - 1)
    case rel => exact ⟨q + 1, z, by omega, by go_num, rfl, by omega, HMr, hb⟩
    case measure => omega
set_option maxHeartbeats 8000000 in
theorem heldTxnS_c (w : World) (l : List Txn) {A : Option Addr} {c : Nat} (hc : l.length ≤ c) (hr : Row kTxn w A l) (k k' : Int) (hM : Mks Txn.mkR l k k') (h0 : 0 ≤ k) (h1 : k' ≤ 1000000000000000) :
    Calls Try.prog 65 #[.slice A l.length c, .int .i64 k] w fun e w' => e = .returned (.int .i64 k') ∧ Below w.heap.size w w' := by
  have hl : (l.length : Int) ≤ 1000000000000000 := by have := Mks.len Txn.mkR_lt hM; omega
  have HM := Lib.hid hM
  clear hM
  have hu := Try.underlying136
  have hu2 := Try.underlying45
  go_enter Try.func65, Try.ntmps65
  go_wp2
  go_loopg [1, 5] l.length (fun g v1 v5 wr => ∃ (q : Nat) (m : Int), q + g = l.length ∧ v5 = .int .i64 q ∧ v1 = .int .i64 m ∧ 0 ≤ m ∧ Hid (Mks Txn.mkR (l.drop q) m k') ∧ Below w.heap.size w wr)
  case atStart => exact ⟨0, k, by omega, rfl, rfl, h0, HM, Below.refl _ _⟩
  case round =>
    clear HM h0
    obtain ⟨q, m, hq, rfl, rfl, hm0, HD, hb⟩ := hrel
    by_cases hlt : q < l.length
    case neg =>
      have HE : Hid (m = k') := Lib.hid (by have h := HD.out; rw [List.drop_eq_nil_of_le (by omega)] at h; exact h)
      go_wp2
      go_ret
      exact ⟨ret_int HE.out, hb⟩
    obtain ⟨ad, x, A4, c4', rfl, hx, p0, p1, p2, p3, p4, l4, g4⟩ := Txn.at (Row_below hr hb) q hlt
    obtain ⟨z, hR, hMr⟩ := Mks.drop HD.out hx
    have hz := Mks.le Txn.mkR_lt hMr
    have HMr := Lib.hid hMr
    clear hMr hx HD
    obtain ⟨c4, h0_, h1_, h2_, h3_, h4_, hze⟩ := hR
    rw [h0_] at p0
    clear h0_
    rw [h1_] at p1
    clear h1_
    rw [h2_] at p2
    clear h2_
    rw [h3_] at p3
    clear h3_
    have hle4 := Mks.le intR_lt h4_
    have HM4 := Lib.hid h4_
    clear h4_
    subst hze
    go_upto_region 4 with fail
    have fq := cg p0
    refine wp_region_quiet_below (by kernel_rfl) (by kernel_rfl) ?_
    repeat (go_big_quiet_step ((go_at_call 96; exact rg (markText_c _ _ (by omega)) rfl)))
    refine wpQuiet_nil ?_
    intro _ hw'
    obtain ⟨pp, hw''⟩ := hw'
    subst hw''
    have hbq := below_regrown wr pp.d pp.os
    clear fq
    generalize hgw : Go.Sort.grow (Go.redrawn wr pp.d) pp.os = w1_ at hbq ⊢
    clear hgw
    replace p1 := later hbq p1
    replace p2 := later hbq p2
    replace p3 := later hbq p3
    replace p4 := later hbq p4
    replace g4 := Row_below g4 hbq
    replace hb := below_tr hb hbq
    go_upto_region 16 with fail
    go_wp2_with (go_at_call 59; refine (heldIntS_c _ x.Parts l4 g4 _ _ HM4.out (by omega) (by omega)).mono ?_; rintro e w2_ ⟨rfl, hbq⟩; replace hb := below_tr hb hbq)
    go_roundg (gk - 1)
    case rel => exact ⟨q + 1, z, by omega, by go_num, rfl, by omega, HMr, hb⟩
    case measure => omega
set_option maxHeartbeats 4000000 in
theorem heldStore_c (w : World) (x : Store) {A0 : Option Addr} {c0 : Nat} (l0 : x.Logs.length ≤ c0) (g0 : Row kLog w A0 x.Logs) {A1 : Option Addr} {c1 : Nat} (l1 : x.Txns.length ≤ c1) (g1 : Row kTxn w A1 x.Txns) (k k' : Int) (hM : x.mkV k k') (h0 : 0 ≤ k) (h1 : k' ≤ 1000000000000000) :
    Calls Try.prog 28 #[.agg #[.slice A0 x.Logs.length c0, .slice A1 x.Txns.length c1, .int .i64 x.Used], .int .i64 k] w fun e w' => e = .returned (.int .i64 k') ∧ Below w.heap.size w w' := by
  obtain ⟨m0, m1, hM0, hM1, rfl⟩ := hM
  have hle0 := Mks.le Log.mkR_lt hM0
  have HM0 := Lib.hid hM0
  clear hM0
  have hle1 := Mks.le Txn.mkR_lt hM1
  have HM1 := Lib.hid hM1
  clear hM1
  go_enter Try.func28, Try.ntmps28
  go_upto_region 1 with fail
  go_upto_region 4 with (go_at_call 64; refine (heldLogS_c _ x.Logs l0 (Row_below g0 (below_al w (.cells #[.slice A0 x.Logs.length c0, .slice A1 x.Txns.length c1, .int .i64 x.Used] 47))) _ _ HM0.out (by omega) (by omega)).mono ?_; rintro e w1_ ⟨rfl, hb0⟩; have E0 := below_tr (below_al w (.cells #[.slice A0 x.Logs.length c0, .slice A1 x.Txns.length c1, .int .i64 x.Used] 47)) hb0; have X0 := (Box.new w #[.slice A0 x.Logs.length c0, .slice A1 x.Txns.length c1, .int .i64 x.Used] 47).later hb0; have q0_1 := X0 1 _ rfl; have gb0 := X0.lt rfl)
  go_wp2_with (go_at_call 65; refine (heldTxnS_c _ x.Txns l1 (Row_below g1 (E0)) _ _ HM1.out (by omega) (by omega)).mono ?_; rintro e w2_ ⟨rfl, hb1⟩; have E1 := below_tr (E0) hb1)
  go_ret
  exact ⟨rfl, E1⟩
end Go.Proofs.Ytenldgbabcjjkaa.H
