/-
The law FnExactNewStore: whatever the input, it answers true. Printed by hlaws.py (this session's own). Conditions: each contract's own premises.
-/
import Derived.Test.YtenldgbabcjjkaaHMk
import Derived.Test.YtenldgbabcjjkaaHHeld
import Derived.Test.YtenldgbabcjjkaaHEq
import Derived.Test.YtenldgbabcjjkaaHTo
import Derived.Test.YtenldgbabcjjkaaHOwn
import Derived.Test.YtenldgbabcjjkaaHNewS
namespace Go.Proofs.Ytenldgbabcjjkaa.H
open Go.RowKit
set_option linter.unusedVariables false
set_option linter.unusedSimpArgs false
set_option maxRecDepth 100000
theorem held_wStore {w : World} {x x' : Store} (h2 : x.Used = x'.Used) (e0 : x.Logs.length = x'.Logs.length) (e1 : x.Txns.length = x'.Txns.length) {A0 : Option Addr} {c0 : Nat} (l0 : x'.Logs.length ≤ c0) (g0 : Row kLog w A0 x'.Logs) {A1 : Option Addr} {c1 : Nat} (l1 : x'.Txns.length ≤ c1) (g1 : Row kTxn w A1 x'.Txns) {k k' : Int} (hM : x'.mkV k k') (h0 : 0 ≤ k) (h1 : k' ≤ 1000000000000000) :
    Calls Try.prog 28 #[.agg #[.slice A0 x.Logs.length c0, .slice A1 x.Txns.length c1, .int .i64 x.Used], .int .i64 k] w fun e w' => e = .returned (.int .i64 k') ∧ Below w.heap.size w w' := by
  rw [h2, e0, e1]
  exact heldStore_c w x' l0 g0 l1 g1 k k' hM h0 h1
set_option maxHeartbeats 4000000 in
theorem law_FnExactNewStore (w : World) (a0 : Int) (a1 : Int) :
    Calls Try.prog 6 #[.int .i64 a0, .int .i64 a1] w fun e w' => e = .returned (.bool true) ∧ Below w.heap.size w w' := by
  have hS := fun W => specNewStore_m W a0 a1
  have hI := fun W => implNewStore_m W a0 a1
  have hsm := newStore_sm a0 a1
  have hct := newStore_cnt a0 a1
  generalize newStore a0 a1 = x at hS hI hsm hct
  have HS := Lib.hid hS
  have HI := Lib.hid hI
  have SM := Lib.hid hsm
  clear hS hI hsm
  go_enter Try.func6, Try.ntmps6
  go_upto_region 1 with fail
  go_upto_region 2 with (go_at_call 24; refine (HS.out _).mono ?_; rintro e w1 ⟨v1_0, v1_1, F1, rfl, hT1, hF1, hb1⟩; obtain ⟨v1_0', G1_0, v1_1', G1_1, he, rfl, hU1_0, hU1_1⟩ := Store.opnT hT1; obtain ⟨B1_0, d1_0, rfl, m1_0, _, s1_0⟩ := TS_read hU1_0; obtain ⟨B1_1, d1_1, rfl, m1_1, _, s1_1⟩ := TS_read hU1_1; simp at he; obtain ⟨rfl, rfl⟩ := he; have E1 := below_tr (Below.refl _ _) hb1; have HB1 := E1)
  go_upto_region 3 with (go_at_call 25; refine (HI.out _).mono ?_; rintro e w2 ⟨v2_0, v2_1, F2, rfl, hT2, hF2, hb2⟩; obtain ⟨v2_0', G2_0, v2_1', G2_1, he, rfl, hU2_0, hU2_1⟩ := Store.opnT hT2; obtain ⟨B2_0, d2_0, rfl, m2_0, _, s2_0⟩ := TS_read hU2_0; obtain ⟨B2_1, d2_1, rfl, m2_1, _, s2_1⟩ := TS_read hU2_1; simp at he; obtain ⟨rfl, rfl⟩ := he; have E2 := below_tr (below_al _ _) hb2; have HB2 := below_tr HB1 E2; have C2 := E2; have Xa := (Box.new w1 #[.slice B1_0 x.Logs.length d1_0, .slice B1_1 x.Txns.length d1_1, .int .i64 x.Used] 47).later hb2; have q2_a_0 := Xa 0 _ rfl; have q2_a_1 := Xa 1 _ rfl; have q2_a_2 := Xa 2 _ rfl; have gb2_a := Xa.lt rfl)
  go_upto_region 6 with (go_at_call 26; refine (eqStore_c _ x m2_0 (Row_below s2_0 (below_al _ _)) m2_1 (Row_below s2_1 (below_al _ _)) m1_0 (Row_below (Row_below s1_0 C2) (below_al _ _)) m1_1 (Row_below (Row_below s1_1 C2) (below_al _ _)) SM.out).mono ?_; rintro e w3 ⟨rfl, hb3⟩; have E3 := below_tr (below_al _ _) hb3; have HB3 := below_tr HB2 E3; have C3 := C2.trans (E3.mono C2.size); replace Xa := Xa.later E3; have q3_a_0 := Xa 0 _ rfl; have q3_a_1 := Xa 1 _ rfl; have q3_a_2 := Xa 2 _ rfl; have gb3_a := Xa.lt rfl; have Xb := (Box.new w2 #[.slice B2_0 x.Logs.length d2_0, .slice B2_1 x.Txns.length d2_1, .int .i64 x.Used] 47).later hb3; have q3_b_0 := Xb 0 _ rfl; have q3_b_1 := Xb 1 _ rfl; have q3_b_2 := Xb 2 _ rfl; have gb3_b := Xb.lt rfl)
  have hV0 : TS kLog 59 w3 G2_0 x.Logs (.slice B2_0 x.Logs.length d2_0) := TS_below hU2_0 E3
  have hV1 : TS kTxn 136 w3 G2_1 x.Txns (.slice B2_1 x.Txns.length d2_1) := TS_below hU2_1 E3
  have hge : Hid (∀ b ∈ (G2_0 ++ (G2_1) : List Nat), w1.heap.size < b) := Lib.hid (fun b hb => by have := hF2.2 b hb; rw [size_al] at this; omega)
  have hlt : Hid (∀ b ∈ (G2_0 ++ (G2_1) : List Nat), b < w2.heap.size) := Lib.hid (fun b hb => kStore.T_lt hT2 b hb)
  go_upto_region 8 with (go_at_call 27; refine (markStore_c _ x hV0 hV1 hF2.1 SM.out _ (by omega) (by omega)).mono ?_; rintro e w4 ⟨x', rfl, hMV, hT4, hup⟩; replace Xa := Box.upd Xa hup (fun hh => by have := hge.out _ hh; omega); have q4_a_0 := Xa 0 _ rfl; have q4_a_1 := Xa 1 _ rfl; have q4_a_2 := Xa 2 _ rfl; have gb4_a := Xa.lt rfl; replace Xb := Box.upd Xb hup (fun hh => by have := hlt.out _ hh; omega); have q4_b_0 := Xb 0 _ rfl; have q4_b_1 := Xb 1 _ rfl; have q4_b_2 := Xb 2 _ rfl; have gb4_b := Xb.lt rfl; have D4 : Below w1.heap.size w3 w4 := Upd.below hup (fun b hb => Nat.le_of_lt (hge.out b hb)) C3.size; have C4 := C3.trans D4; have HB4 := HB3.trans (D4.mono HB1.size); have HUP := Lib.hid hup; clear hup)
  obtain ⟨v4_0, G4_0, v4_1, G4_1, he4, _, hU4_0, hU4_1⟩ := Store.opnT hT4
  simp at he4
  obtain ⟨rfl, rfl, hx4_2⟩ := he4
  obtain ⟨A4_0, c4_0, ea4_0, m4_0, _, s4_0⟩ := TS_read hU4_0
  obtain ⟨A4_1, c4_1, ea4_1, m4_1, _, s4_1⟩ := TS_read hU4_1
  simp only [Value.slice.injEq] at ea4_0
  obtain ⟨rfl, el4_0, rfl⟩ := ea4_0
  have EL4_0 := Lib.hid el4_0
  clear el4_0
  simp only [Value.slice.injEq] at ea4_1
  obtain ⟨rfl, el4_1, rfl⟩ := ea4_1
  have EL4_1 := Lib.hid el4_1
  clear el4_1
  have HX4_2 := Lib.hid hx4_2
  clear hx4_2
  generalize hkk : (1 : Int) + (x.cntV : Int) = kk at hMV ⊢
  have hk0 : 0 ≤ kk := by omega
  have hk1 : kk ≤ 1000001 := by omega
  have HKK := Lib.hid hkk
  clear hkk hct
  have HMV := Lib.hid hMV
  clear hMV
  go_upto_region 13 with (go_at_call 28; refine (held_wStore HX4_2.out EL4_0.out EL4_1.out m4_0 s4_0 m4_1 s4_1 HMV.out (by omega) (by omega)).mono ?_; rintro e w5 ⟨rfl, hb5⟩; have E5 := below_tr (Below.refl _ _) hb5; have HB5 := below_tr HB4 E5; have C5 := C4.trans (E5.mono C4.size); replace Xa := Xa.later E5; have q5_a_0 := Xa 0 _ rfl; have q5_a_1 := Xa 1 _ rfl; have q5_a_2 := Xa 2 _ rfl; have gb5_a := Xa.lt rfl; replace Xb := Xb.later E5; have q5_b_0 := Xb 0 _ rfl; have q5_b_1 := Xb 1 _ rfl; have q5_b_2 := Xb 2 _ rfl; have gb5_b := Xb.lt rfl)
  go_upto_region 14 with (go_at_call 25; refine (HI.out _).mono ?_; rintro e w6 ⟨v6_0, v6_1, F6, rfl, hT6, hF6, hb6⟩; obtain ⟨v6_0', G6_0, v6_1', G6_1, he, rfl, hU6_0, hU6_1⟩ := Store.opnT hT6; obtain ⟨B6_0, d6_0, rfl, m6_0, _, s6_0⟩ := TS_read hU6_0; obtain ⟨B6_1, d6_1, rfl, m6_1, _, s6_1⟩ := TS_read hU6_1; simp at he; obtain ⟨rfl, rfl⟩ := he; have E6 := below_tr (Below.refl _ _) hb6; have HB6 := below_tr HB5 E6; have C6 := C5.trans (E6.mono C5.size); replace Xa := Xa.later E6; have q6_a_0 := Xa 0 _ rfl; have q6_a_1 := Xa 1 _ rfl; have q6_a_2 := Xa 2 _ rfl; have gb6_a := Xa.lt rfl; replace Xb := Xb.later E6; have q6_b_0 := Xb 0 _ rfl; have q6_b_1 := Xb 1 _ rfl; have q6_b_2 := Xb 2 _ rfl; have gb6_b := Xb.lt rfl)
  go_upto_region 17 with (go_at_call 26; refine (eqStore_c _ x m6_0 (Row_below s6_0 (below_al _ _)) m6_1 (Row_below s6_1 (below_al _ _)) m1_0 (Row_below (Row_below s1_0 C6) (below_al _ _)) m1_1 (Row_below (Row_below s1_1 C6) (below_al _ _)) SM.out).mono ?_; rintro e w7 ⟨rfl, hb7⟩; have E7 := below_tr (below_al _ _) hb7; have HB7 := below_tr HB6 E7; have C7 := C6.trans (E7.mono C6.size); replace Xa := Xa.later E7; have q7_a_0 := Xa 0 _ rfl; have q7_a_1 := Xa 1 _ rfl; have q7_a_2 := Xa 2 _ rfl; have gb7_a := Xa.lt rfl; replace Xb := Xb.later E7; have q7_b_0 := Xb 0 _ rfl; have q7_b_1 := Xb 1 _ rfl; have q7_b_2 := Xb 2 _ rfl; have gb7_b := Xb.lt rfl; have Xc := (Box.new w6 #[.slice B6_0 x.Logs.length d6_0, .slice B6_1 x.Txns.length d6_1, .int .i64 x.Used] 47).later hb7; have q7_c_0 := Xc 0 _ rfl; have q7_c_1 := Xc 1 _ rfl; have q7_c_2 := Xc 2 _ rfl; have gb7_c := Xc.lt rfl)
  have s7_0 := Row_below (Row_below (Row_below s4_0 E5) E6) E7
  have s7_1 := Row_below (Row_below (Row_below s4_1 E5) E6) E7
  go_wp2_with (go_at_call 28; refine (held_wStore HX4_2.out EL4_0.out EL4_1.out m4_0 s7_0 m4_1 s7_1 HMV.out (by omega) (by omega)).mono ?_; rintro e w8 ⟨rfl, hb8⟩; have E8 := below_tr (Below.refl _ _) hb8; have HB8 := below_tr HB7 E8; have C8 := C7.trans (E8.mono C7.size); replace Xa := Xa.later E8; have q8_a_0 := Xa 0 _ rfl; have q8_a_1 := Xa 1 _ rfl; have q8_a_2 := Xa 2 _ rfl; have gb8_a := Xa.lt rfl; replace Xb := Xb.later E8; have q8_b_0 := Xb 0 _ rfl; have q8_b_1 := Xb 1 _ rfl; have q8_b_2 := Xb 2 _ rfl; have gb8_b := Xb.lt rfl; replace Xc := Xc.later E8; have q8_c_0 := Xc 0 _ rfl; have q8_c_1 := Xc 1 _ rfl; have q8_c_2 := Xc 2 _ rfl; have gb8_c := Xc.lt rfl)
  go_ret
  exact ⟨rfl, HB8⟩
end Go.Proofs.Ytenldgbabcjjkaa.H
