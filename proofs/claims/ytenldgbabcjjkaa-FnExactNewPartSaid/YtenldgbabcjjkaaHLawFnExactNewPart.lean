/-
The law FnExactNewPart: whatever the input, it answers true. Printed by hlaws.py (this session's own). Conditions: each contract's own premises.
-/
import Derived.Test.YtenldgbabcjjkaaHMk
import Derived.Test.YtenldgbabcjjkaaHHeld
import Derived.Test.YtenldgbabcjjkaaHEq
import Derived.Test.YtenldgbabcjjkaaHTo
import Derived.Test.YtenldgbabcjjkaaHOwn
import Derived.Test.YtenldgbabcjjkaaHNewP
namespace Go.Proofs.Ytenldgbabcjjkaa.H
open Go.RowKit
set_option linter.unusedVariables false
set_option linter.unusedSimpArgs false
set_option maxRecDepth 100000
theorem held_wPart {w : World} {x x' : Part} (hq1 : x.Leader = x'.Leader) (hq2 : x.Epoch = x'.Epoch) (hq5 : x.Least = x'.Least) (e0 : x.Replicas.length = x'.Replicas.length) (e3 : x.Insync.length = x'.Insync.length) (e4 : x.Known.length = x'.Known.length) {A0 : Option Addr} {c0 : Nat} (l0 : x'.Replicas.length ≤ c0) (g0 : Row kReplica w A0 x'.Replicas) {A3 : Option Addr} {c3 : Nat} (l3 : x'.Insync.length ≤ c3) (g3 : Row (Ki.int .i64) w A3 x'.Insync) {A4 : Option Addr} {c4 : Nat} (l4 : x'.Known.length ≤ c4) (g4 : Row (Ki.int .i64) w A4 x'.Known) {k k' : Int} (hM : x'.mkV k k') (h0 : 0 ≤ k) (h1 : k' ≤ 1000000000000000) :
    Calls Try.prog 23 #[.agg #[.slice A0 x.Replicas.length c0, .int .i64 x.Leader, .int .i64 x.Epoch, .slice A3 x.Insync.length c3, .slice A4 x.Known.length c4, .int .i64 x.Least], .int .i64 k] w fun e w' => e = .returned (.int .i64 k') ∧ Below w.heap.size w w' := by
  rw [hq1, hq2, hq5, e0, e3, e4]
  exact heldPart_c w x' l0 g0 l3 g3 l4 g4 k k' hM h0 h1
set_option maxHeartbeats 4000000 in
theorem law_FnExactNewPart (w : World) (a0 : Int) (a1 : Int) (a2 : Int) :
    Calls Try.prog 5 #[.int .i64 a0, .int .i64 a1, .int .i64 a2] w fun e w' => e = .returned (.bool true) ∧ Below w.heap.size w w' := by
  have hS := fun W => specNewPart_m W a0 a1 a2
  have hI := fun W => implNewPart_m W a0 a1 a2
  have hsm := newPart_sm a0 a1 a2
  have hct := newPart_cnt a0 a1 a2
  generalize newPart a0 a1 a2 = x at hS hI hsm hct
  have HS := Lib.hid hS
  have HI := Lib.hid hI
  have SM := Lib.hid hsm
  clear hS hI hsm
  go_enter Try.func5, Try.ntmps5
  go_upto_region 1 with fail
  go_upto_region 2 with (go_at_call 19; refine (HS.out _).mono ?_; rintro e w1 ⟨v1_0, v1_3, v1_4, F1, rfl, hT1, hF1, hb1⟩; obtain ⟨v1_0', G1_0, v1_3', G1_3, v1_4', G1_4, he, rfl, hU1_0, hU1_3, hU1_4⟩ := Part.opnT hT1; obtain ⟨B1_0, d1_0, rfl, m1_0, _, s1_0⟩ := TS_read hU1_0; obtain ⟨B1_3, d1_3, rfl, m1_3, _, s1_3⟩ := TS_read hU1_3; obtain ⟨B1_4, d1_4, rfl, m1_4, _, s1_4⟩ := TS_read hU1_4; simp at he; obtain ⟨rfl, rfl, rfl⟩ := he; have E1 := below_tr (Below.refl _ _) hb1; have HB1 := E1)
  go_upto_region 3 with (go_at_call 20; refine (HI.out _).mono ?_; rintro e w2 ⟨v2_0, v2_3, v2_4, F2, rfl, hT2, hF2, hb2⟩; obtain ⟨v2_0', G2_0, v2_3', G2_3, v2_4', G2_4, he, rfl, hU2_0, hU2_3, hU2_4⟩ := Part.opnT hT2; obtain ⟨B2_0, d2_0, rfl, m2_0, _, s2_0⟩ := TS_read hU2_0; obtain ⟨B2_3, d2_3, rfl, m2_3, _, s2_3⟩ := TS_read hU2_3; obtain ⟨B2_4, d2_4, rfl, m2_4, _, s2_4⟩ := TS_read hU2_4; simp at he; obtain ⟨rfl, rfl, rfl⟩ := he; have E2 := below_tr (below_al _ _) hb2; have HB2 := below_tr HB1 E2; have C2 := E2; have Xa := (Box.new w1 #[.slice B1_0 x.Replicas.length d1_0, .int .i64 x.Leader, .int .i64 x.Epoch, .slice B1_3 x.Insync.length d1_3, .slice B1_4 x.Known.length d1_4, .int .i64 x.Least] 39).later hb2; have q2_a_0 := Xa 0 _ rfl; have q2_a_1 := Xa 1 _ rfl; have q2_a_2 := Xa 2 _ rfl; have q2_a_3 := Xa 3 _ rfl; have q2_a_4 := Xa 4 _ rfl; have q2_a_5 := Xa 5 _ rfl; have gb2_a := Xa.lt rfl)
  go_upto_region 6 with (go_at_call 21; refine (eqPart_c _ x m2_0 (Row_below s2_0 (below_al _ _)) m2_3 (Row_below s2_3 (below_al _ _)) m2_4 (Row_below s2_4 (below_al _ _)) m1_0 (Row_below (Row_below s1_0 C2) (below_al _ _)) m1_3 (Row_below (Row_below s1_3 C2) (below_al _ _)) m1_4 (Row_below (Row_below s1_4 C2) (below_al _ _)) SM.out).mono ?_; rintro e w3 ⟨rfl, hb3⟩; have E3 := below_tr (below_al _ _) hb3; have HB3 := below_tr HB2 E3; have C3 := C2.trans (E3.mono C2.size); replace Xa := Xa.later E3; have q3_a_0 := Xa 0 _ rfl; have q3_a_1 := Xa 1 _ rfl; have q3_a_2 := Xa 2 _ rfl; have q3_a_3 := Xa 3 _ rfl; have q3_a_4 := Xa 4 _ rfl; have q3_a_5 := Xa 5 _ rfl; have gb3_a := Xa.lt rfl; have Xb := (Box.new w2 #[.slice B2_0 x.Replicas.length d2_0, .int .i64 x.Leader, .int .i64 x.Epoch, .slice B2_3 x.Insync.length d2_3, .slice B2_4 x.Known.length d2_4, .int .i64 x.Least] 39).later hb3; have q3_b_0 := Xb 0 _ rfl; have q3_b_1 := Xb 1 _ rfl; have q3_b_2 := Xb 2 _ rfl; have q3_b_3 := Xb 3 _ rfl; have q3_b_4 := Xb 4 _ rfl; have q3_b_5 := Xb 5 _ rfl; have gb3_b := Xb.lt rfl)
  have hV0 : TS kReplica 90 w3 G2_0 x.Replicas (.slice B2_0 x.Replicas.length d2_0) := TS_below hU2_0 E3
  have hV3 : TS (Ki.int .i64) 3 w3 G2_3 x.Insync (.slice B2_3 x.Insync.length d2_3) := TS_below hU2_3 E3
  have hV4 : TS (Ki.int .i64) 3 w3 G2_4 x.Known (.slice B2_4 x.Known.length d2_4) := TS_below hU2_4 E3
  have hge : Hid (∀ b ∈ (G2_0 ++ (G2_3 ++ (G2_4)) : List Nat), w1.heap.size < b) := Lib.hid (fun b hb => by have := hF2.2 b hb; rw [size_al] at this; omega)
  have hlt : Hid (∀ b ∈ (G2_0 ++ (G2_3 ++ (G2_4)) : List Nat), b < w2.heap.size) := Lib.hid (fun b hb => kPart.T_lt hT2 b hb)
  go_upto_region 8 with (go_at_call 22; refine (markPart_c _ x hV0 hV3 hV4 hF2.1 SM.out _ (by omega) (by omega)).mono ?_; rintro e w4 ⟨x', rfl, hMV, hT4, hup⟩; replace Xa := Box.upd Xa hup (fun hh => by have := hge.out _ hh; omega); have q4_a_0 := Xa 0 _ rfl; have q4_a_1 := Xa 1 _ rfl; have q4_a_2 := Xa 2 _ rfl; have q4_a_3 := Xa 3 _ rfl; have q4_a_4 := Xa 4 _ rfl; have q4_a_5 := Xa 5 _ rfl; have gb4_a := Xa.lt rfl; replace Xb := Box.upd Xb hup (fun hh => by have := hlt.out _ hh; omega); have q4_b_0 := Xb 0 _ rfl; have q4_b_1 := Xb 1 _ rfl; have q4_b_2 := Xb 2 _ rfl; have q4_b_3 := Xb 3 _ rfl; have q4_b_4 := Xb 4 _ rfl; have q4_b_5 := Xb 5 _ rfl; have gb4_b := Xb.lt rfl; have D4 : Below w1.heap.size w3 w4 := Upd.below hup (fun b hb => Nat.le_of_lt (hge.out b hb)) C3.size; have C4 := C3.trans D4; have HB4 := HB3.trans (D4.mono HB1.size); have HUP := Lib.hid hup; clear hup)
  obtain ⟨v4_0, G4_0, v4_3, G4_3, v4_4, G4_4, he4, _, hU4_0, hU4_3, hU4_4⟩ := Part.opnT hT4
  simp at he4
  obtain ⟨rfl, hx4_1, hx4_2, rfl, rfl, hx4_5⟩ := he4
  obtain ⟨A4_0, c4_0, ea4_0, m4_0, _, s4_0⟩ := TS_read hU4_0
  obtain ⟨A4_3, c4_3, ea4_3, m4_3, _, s4_3⟩ := TS_read hU4_3
  obtain ⟨A4_4, c4_4, ea4_4, m4_4, _, s4_4⟩ := TS_read hU4_4
  simp only [Value.slice.injEq] at ea4_0
  obtain ⟨rfl, el4_0, rfl⟩ := ea4_0
  have EL4_0 := Lib.hid el4_0
  clear el4_0
  simp only [Value.slice.injEq] at ea4_3
  obtain ⟨rfl, el4_3, rfl⟩ := ea4_3
  have EL4_3 := Lib.hid el4_3
  clear el4_3
  simp only [Value.slice.injEq] at ea4_4
  obtain ⟨rfl, el4_4, rfl⟩ := ea4_4
  have EL4_4 := Lib.hid el4_4
  clear el4_4
  have HX4_1 := Lib.hid hx4_1
  clear hx4_1
  have HX4_2 := Lib.hid hx4_2
  clear hx4_2
  have HX4_5 := Lib.hid hx4_5
  clear hx4_5
  generalize hkk : (1 : Int) + (x.cntV : Int) = kk at hMV ⊢
  have hk0 : 0 ≤ kk := by omega
  have hk1 : kk ≤ 1000001 := by omega
  have HKK := Lib.hid hkk
  clear hkk hct
  have HMV := Lib.hid hMV
  clear hMV
  go_upto_region 13 with (go_at_call 23; refine (held_wPart HX4_1.out HX4_2.out HX4_5.out EL4_0.out EL4_3.out EL4_4.out m4_0 s4_0 m4_3 s4_3 m4_4 s4_4 HMV.out (by omega) (by omega)).mono ?_; rintro e w5 ⟨rfl, hb5⟩; have E5 := below_tr (Below.refl _ _) hb5; have HB5 := below_tr HB4 E5; have C5 := C4.trans (E5.mono C4.size); replace Xa := Xa.later E5; have q5_a_0 := Xa 0 _ rfl; have q5_a_1 := Xa 1 _ rfl; have q5_a_2 := Xa 2 _ rfl; have q5_a_3 := Xa 3 _ rfl; have q5_a_4 := Xa 4 _ rfl; have q5_a_5 := Xa 5 _ rfl; have gb5_a := Xa.lt rfl; replace Xb := Xb.later E5; have q5_b_0 := Xb 0 _ rfl; have q5_b_1 := Xb 1 _ rfl; have q5_b_2 := Xb 2 _ rfl; have q5_b_3 := Xb 3 _ rfl; have q5_b_4 := Xb 4 _ rfl; have q5_b_5 := Xb 5 _ rfl; have gb5_b := Xb.lt rfl)
  go_upto_region 14 with (go_at_call 20; refine (HI.out _).mono ?_; rintro e w6 ⟨v6_0, v6_3, v6_4, F6, rfl, hT6, hF6, hb6⟩; obtain ⟨v6_0', G6_0, v6_3', G6_3, v6_4', G6_4, he, rfl, hU6_0, hU6_3, hU6_4⟩ := Part.opnT hT6; obtain ⟨B6_0, d6_0, rfl, m6_0, _, s6_0⟩ := TS_read hU6_0; obtain ⟨B6_3, d6_3, rfl, m6_3, _, s6_3⟩ := TS_read hU6_3; obtain ⟨B6_4, d6_4, rfl, m6_4, _, s6_4⟩ := TS_read hU6_4; simp at he; obtain ⟨rfl, rfl, rfl⟩ := he; have E6 := below_tr (Below.refl _ _) hb6; have HB6 := below_tr HB5 E6; have C6 := C5.trans (E6.mono C5.size); replace Xa := Xa.later E6; have q6_a_0 := Xa 0 _ rfl; have q6_a_1 := Xa 1 _ rfl; have q6_a_2 := Xa 2 _ rfl; have q6_a_3 := Xa 3 _ rfl; have q6_a_4 := Xa 4 _ rfl; have q6_a_5 := Xa 5 _ rfl; have gb6_a := Xa.lt rfl; replace Xb := Xb.later E6; have q6_b_0 := Xb 0 _ rfl; have q6_b_1 := Xb 1 _ rfl; have q6_b_2 := Xb 2 _ rfl; have q6_b_3 := Xb 3 _ rfl; have q6_b_4 := Xb 4 _ rfl; have q6_b_5 := Xb 5 _ rfl; have gb6_b := Xb.lt rfl)
  go_upto_region 17 with (go_at_call 21; refine (eqPart_c _ x m6_0 (Row_below s6_0 (below_al _ _)) m6_3 (Row_below s6_3 (below_al _ _)) m6_4 (Row_below s6_4 (below_al _ _)) m1_0 (Row_below (Row_below s1_0 C6) (below_al _ _)) m1_3 (Row_below (Row_below s1_3 C6) (below_al _ _)) m1_4 (Row_below (Row_below s1_4 C6) (below_al _ _)) SM.out).mono ?_; rintro e w7 ⟨rfl, hb7⟩; have E7 := below_tr (below_al _ _) hb7; have HB7 := below_tr HB6 E7; have C7 := C6.trans (E7.mono C6.size); replace Xa := Xa.later E7; have q7_a_0 := Xa 0 _ rfl; have q7_a_1 := Xa 1 _ rfl; have q7_a_2 := Xa 2 _ rfl; have q7_a_3 := Xa 3 _ rfl; have q7_a_4 := Xa 4 _ rfl; have q7_a_5 := Xa 5 _ rfl; have gb7_a := Xa.lt rfl; replace Xb := Xb.later E7; have q7_b_0 := Xb 0 _ rfl; have q7_b_1 := Xb 1 _ rfl; have q7_b_2 := Xb 2 _ rfl; have q7_b_3 := Xb 3 _ rfl; have q7_b_4 := Xb 4 _ rfl; have q7_b_5 := Xb 5 _ rfl; have gb7_b := Xb.lt rfl; have Xc := (Box.new w6 #[.slice B6_0 x.Replicas.length d6_0, .int .i64 x.Leader, .int .i64 x.Epoch, .slice B6_3 x.Insync.length d6_3, .slice B6_4 x.Known.length d6_4, .int .i64 x.Least] 39).later hb7; have q7_c_0 := Xc 0 _ rfl; have q7_c_1 := Xc 1 _ rfl; have q7_c_2 := Xc 2 _ rfl; have q7_c_3 := Xc 3 _ rfl; have q7_c_4 := Xc 4 _ rfl; have q7_c_5 := Xc 5 _ rfl; have gb7_c := Xc.lt rfl)
  have s7_0 := Row_below (Row_below (Row_below s4_0 E5) E6) E7
  have s7_3 := Row_below (Row_below (Row_below s4_3 E5) E6) E7
  have s7_4 := Row_below (Row_below (Row_below s4_4 E5) E6) E7
  go_wp2_with (go_at_call 23; refine (held_wPart HX4_1.out HX4_2.out HX4_5.out EL4_0.out EL4_3.out EL4_4.out m4_0 s7_0 m4_3 s7_3 m4_4 s7_4 HMV.out (by omega) (by omega)).mono ?_; rintro e w8 ⟨rfl, hb8⟩; have E8 := below_tr (Below.refl _ _) hb8; have HB8 := below_tr HB7 E8; have C8 := C7.trans (E8.mono C7.size); replace Xa := Xa.later E8; have q8_a_0 := Xa 0 _ rfl; have q8_a_1 := Xa 1 _ rfl; have q8_a_2 := Xa 2 _ rfl; have q8_a_3 := Xa 3 _ rfl; have q8_a_4 := Xa 4 _ rfl; have q8_a_5 := Xa 5 _ rfl; have gb8_a := Xa.lt rfl; replace Xb := Xb.later E8; have q8_b_0 := Xb 0 _ rfl; have q8_b_1 := Xb 1 _ rfl; have q8_b_2 := Xb 2 _ rfl; have q8_b_3 := Xb 3 _ rfl; have q8_b_4 := Xb 4 _ rfl; have q8_b_5 := Xb 5 _ rfl; have gb8_b := Xb.lt rfl; replace Xc := Xc.later E8; have q8_c_0 := Xc 0 _ rfl; have q8_c_1 := Xc 1 _ rfl; have q8_c_2 := Xc 2 _ rfl; have q8_c_3 := Xc 3 _ rfl; have q8_c_4 := Xc 4 _ rfl; have q8_c_5 := Xc 5 _ rfl; have gb8_c := Xc.lt rfl)
  go_ret
  exact ⟨rfl, HB8⟩
end Go.Proofs.Ytenldgbabcjjkaa.H
