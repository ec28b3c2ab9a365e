/-
The laws' own functions mark..: a value of the call's own is marked, number after number. Printed by hlaws.py (this session's own). Conditions: each contract's own premises.
-/
import Derived.Test.YtenldgbabcjjkaaHMkDef
import Derived.Test.YtenldgbabcjjkaaProg
namespace Go.Proofs.Ytenldgbabcjjkaa.H
open Go.RowKit
set_option linter.unusedVariables false
set_option linter.unusedSimpArgs false
set_option maxRecDepth 100000
set_option maxHeartbeats 8000000 in
theorem markHeadS_c (w : World) (F : List Nat) (l : List Head) (v : Value) (k : Int) (hT : TS kHead 168 w F l v) (hF : F.Nodup) (hs : (l.length ≤ 1048576 ∧ ∀ y ∈ l, y.sm)) (h0 : 0 ≤ k) (h1 : k + sumF Head.cnt l ≤ 1000000000000000) :
    Calls Try.prog 122 #[v, .int .i64 k] w (MarkedS kHead 168 Head.mkR F l.length v k (k + sumF Head.cnt l) w) := by
  have HT := Lib.hid hT
  obtain ⟨A, c, rfl, hc, hcm, hr⟩ := TS_read hT
  clear hT hr
  have HF := Lib.hid hF
  clear hF
  have hl : l.length ≤ 1048576 := hs.1
  have HS := Lib.hid hs
  clear hs
  have hu := Try.underlying168
  have hu2 := Try.underlying146
  generalize hK : k + (sumF Head.cnt l : Nat) = K at h1 ⊢
  have HK := Lib.hid hK
  clear hK
  go_enter Try.func122, Try.ntmps122
  go_wp2
  go_loopg [1, 5] l.length (fun g v1 v5 wr => ∃ (q : Nat) (m : Int) (done : List Head), q + g = l.length ∧ v5 = .int .i64 q ∧ v1 = .int .i64 m ∧ 0 ≤ m ∧ Hid (done.length = q) ∧ Hid (Mks Head.mkR done k m) ∧ Hid (m + sumF Head.cnt (l.drop q) = K) ∧ Hid (TS kHead 168 wr F (done ++ l.drop q) (.slice A l.length c)) ∧ Hid (Upd F w wr))
  case atStart => exact ⟨0, k, [], by omega, rfl, rfl, h0, Lib.hid rfl, Lib.hid rfl, Lib.hid (by simpa using HK.out), Lib.hid (by simpa using HT.out), Lib.hid (Upd.refl _ _)⟩
  case round =>
    clear HT HK h0
    obtain ⟨q, m, done, hq, rfl, rfl, hm0, HL, HM, HC, HT, HU⟩ := hrel
    by_cases hlt : q < l.length
    case neg =>
      have HE : Hid (m = K) := Lib.hid (by have h := HC.out; rw [List.drop_eq_nil_of_le (by omega)] at h; simpa [sumF] using h)
      go_wp2
      go_ret
      exact ⟨done, by rw [HE.out]; rfl, by have := HL.out; omega, by rw [← HE.out]; exact HM.out, by have h := HT.out; rw [List.drop_eq_nil_of_le (by omega), List.append_nil] at h; exact h, HU.out⟩
    obtain ⟨g, cap, Fi, x, cs, hv, hcap, _, hx, hTx, foc0⟩ := Foc.open HT.out HF.out (i := q) (by have := HL.out; simp; omega)
    have hn2 : (done ++ l.drop q).length = l.length := by have := HL.out; simp; omega
    rw [hn2] at hv foc0 hcap
    have hxl : l[q]? = some x := by rw [List.getElem?_append_right (by have := HL.out; omega), List.getElem?_drop] at hx; simpa [HL.out] using hx
    simp only [Value.slice.injEq] at hv
    obtain ⟨rfl, -, rfl⟩ := hv
    have HX := Lib.hid hxl
    have hcx : m + (Head.cnt x + sumF Head.cnt (l.drop (q + 1)) : Nat) = K := by have h := HC.out; rw [sumF_drop hxl] at h; exact h
    have HCX := Lib.hid hcx
    have Sx := Lib.hid (HS.out.2 x (List.mem_of_getElem? hxl))
    clear hx hxl hn2
    obtain ⟨rfl, rfl⟩ := Head.opnT hTx
    have hmem := foc0.mem
    have hgF := Lib.hid hmem.1
    clear hmem
    have hcb : m + ((2 : Nat) : Int) ≤ K := by unfold Head.cnt at hcx; omega
    push_cast at hcb
    clear hcx
    have U0 := HU
    go_upto_region 4 with fail
    go_upto_region 6 with (go_at_call 96; refine (markText_c _ _ (by omega)).mono ?_; rintro e wt ⟨rfl, hbt⟩; have fot := Foc.upd foc0 (Upd.of_below hbt); obtain ⟨cc, ff, gg⟩ := Foc.cell fot 0 (by decide); replace cc : World.cell? wt ⟨g, q * 2, none⟩ = some (.string x.Key) := cc; replace ff : World.frozen? wt ⟨g, q * 2, none⟩ = false := ff)
    have foc1 : Foc kHead 168 (World.setCell wt ⟨g, q * 2, none⟩ (.string (mtext (m)))) F [] g l.length c (done ++ l.drop q) q [.string (mtext (m)), .string x.Value] := Foc.set fot 0 (by decide) (.string (mtext (m)))
    have U1 : Hid (Upd F w (World.setCell wt ⟨g, q * 2, none⟩ (.string (mtext (m))))) := Lib.hid ((U0.out.trans (Upd.of_below hbt)).trans (Upd.set _ _ _ hgF.out))
    generalize hgw : (World.setCell wt ⟨g, q * 2, none⟩ (.string (mtext (m)))) = w1_ at foc1 U1 ⊢
    clear hgw cc ff gg fot hbt foc0 U0
    go_wp2_with (go_at_call 96; refine (markText_c _ _ (by omega)).mono ?_; rintro e wt ⟨rfl, hbt⟩; have fot := Foc.upd foc1 (Upd.of_below hbt); obtain ⟨cc, ff, gg⟩ := Foc.cell fot 1 (by decide); replace cc : World.cell? wt ⟨g, q * 2 + 1, none⟩ = some (.string x.Value) := cc; replace ff : World.frozen? wt ⟨g, q * 2 + 1, none⟩ = false := ff)
    have foc2 : Foc kHead 168 (World.setCell wt ⟨g, q * 2 + 1, none⟩ (.string (mtext (m + 1)))) F [] g l.length c (done ++ l.drop q) q [.string (mtext (m)), .string (mtext (m + 1))] := Foc.set fot 1 (by decide) (.string (mtext (m + 1)))
    have U2 : Hid (Upd F w (World.setCell wt ⟨g, q * 2 + 1, none⟩ (.string (mtext (m + 1))))) := Lib.hid ((U1.out.trans (Upd.of_below hbt)).trans (Upd.set _ _ _ hgF.out))
    generalize hgw : (World.setCell wt ⟨g, q * 2 + 1, none⟩ (.string (mtext (m + 1)))) = w2_ at foc2 U2 ⊢
    clear hgw cc ff gg fot hbt foc1 U1
    have hcl := Foc.close foc2 (x' := (⟨(mtext (m)), (mtext (m + 1))⟩ : Head)) (Head.mkT _ _)
    rw [set_snoc HL.out HX.out] at hcl
    go_roundg (gk - 1)
    case rel => exact ⟨q + 1, m + 1 + 1, done ++ [(⟨(mtext (m)), (mtext (m + 1))⟩ : Head)], by omega, by go_num, rfl, by omega, Lib.hid (by have := HL.out; simp; omega), Lib.hid (HM.out.snoc ⟨rfl, rfl, rfl⟩), Lib.hid (by have h := HCX.out; rw [Head.cnt_eq x] at h; push_cast at h; omega), Lib.hid hcl, U2⟩
    case measure => omega
set_option maxHeartbeats 8000000 in
theorem markRecordS_c (w : World) (F : List Nat) (l : List Record) (v : Value) (k : Int) (hT : TS kRecord 148 w F l v) (hF : F.Nodup) (hs : (l.length ≤ 1048576 ∧ ∀ y ∈ l, y.sm)) (h0 : 0 ≤ k) (h1 : k + sumF Record.cnt l ≤ 1000000000000000) :
    Calls Try.prog 115 #[v, .int .i64 k] w (MarkedS kRecord 148 Record.mkR F l.length v k (k + sumF Record.cnt l) w) := by
  have HT := Lib.hid hT
  obtain ⟨A, c, rfl, hc, hcm, hr⟩ := TS_read hT
  clear hT hr
  have HF := Lib.hid hF
  clear hF
  have hl : l.length ≤ 1048576 := hs.1
  have HS := Lib.hid hs
  clear hs
  have hu := Try.underlying148
  have hu2 := Try.underlying115
  generalize hK : k + (sumF Record.cnt l : Nat) = K at h1 ⊢
  have HK := Lib.hid hK
  clear hK
  go_enter Try.func115, Try.ntmps115
  go_wp2
  go_loopg [1, 5] l.length (fun g v1 v5 wr => ∃ (q : Nat) (m : Int) (done : List Record), q + g = l.length ∧ v5 = .int .i64 q ∧ v1 = .int .i64 m ∧ 0 ≤ m ∧ Hid (done.length = q) ∧ Hid (Mks Record.mkR done k m) ∧ Hid (m + sumF Record.cnt (l.drop q) = K) ∧ Hid (TS kRecord 148 wr F (done ++ l.drop q) (.slice A l.length c)) ∧ Hid (Upd F w wr))
  case atStart => exact ⟨0, k, [], by omega, rfl, rfl, h0, Lib.hid rfl, Lib.hid rfl, Lib.hid (by simpa using HK.out), Lib.hid (by simpa using HT.out), Lib.hid (Upd.refl _ _)⟩
  case round =>
    clear HT HK h0
    obtain ⟨q, m, done, hq, rfl, rfl, hm0, HL, HM, HC, HT, HU⟩ := hrel
    by_cases hlt : q < l.length
    case neg =>
      have HE : Hid (m = K) := Lib.hid (by have h := HC.out; rw [List.drop_eq_nil_of_le (by omega)] at h; simpa [sumF] using h)
      go_wp2
      go_ret
      exact ⟨done, by rw [HE.out]; rfl, by have := HL.out; omega, by rw [← HE.out]; exact HM.out, by have h := HT.out; rw [List.drop_eq_nil_of_le (by omega), List.append_nil] at h; exact h, HU.out⟩
    obtain ⟨g, cap, G5, x, cs, hv, hcap, _, hx, hTx, foc0⟩ := Foc.open HT.out HF.out (i := q) (by have := HL.out; simp; omega)
    have hn2 : (done ++ l.drop q).length = l.length := by have := HL.out; simp; omega
    rw [hn2] at hv foc0 hcap
    have hxl : l[q]? = some x := by rw [List.getElem?_append_right (by have := HL.out; omega), List.getElem?_drop] at hx; simpa [HL.out] using hx
    simp only [Value.slice.injEq] at hv
    obtain ⟨rfl, -, rfl⟩ := hv
    have HX := Lib.hid hxl
    have hcx : m + (Record.cnt x + sumF Record.cnt (l.drop (q + 1)) : Nat) = K := by have h := HC.out; rw [sumF_drop hxl] at h; exact h
    have HCX := Lib.hid hcx
    have Sx := Lib.hid (HS.out.2 x (List.mem_of_getElem? hxl))
    clear hx hxl hn2
    obtain ⟨v5, G_5, rfl, rfl, hT5_0⟩ := Record.opnT hTx
    obtain ⟨B5, d5, rfl, lb5, _, _⟩ := TS_read hT5_0
    have hmem := foc0.mem
    have hgF := Lib.hid hmem.1
    have hgn := hmem.2.1
    have hnd := hmem.2.2.1
    have hsub := Lib.hid hmem.2.2.2
    have Hn5 := Lib.hid hnd
    have Hg5 : Hid (g ∉ G5) := Lib.hid (fun hh => hgn (by simp [hh]))
    clear hgn hnd
    clear hmem
    have hcb : m + ((5 + sumF Head.cnt x.Heads : Nat) : Int) ≤ K := by unfold Record.cnt at hcx; omega
    push_cast at hcb
    clear hcx
    have U0 := HU
    go_upto_region 4 with fail
    obtain ⟨cc, ff, gg⟩ := Foc.cell foc0 0 (by decide)
    replace cc : World.cell? wr ⟨g, q * 6, none⟩ = some (.int .i64 x.Time) := cc
    replace ff : World.frozen? wr ⟨g, q * 6, none⟩ = false := ff
    go_upto_region 6 with fail
    have foc1 : Foc kRecord 148 (World.setCell wr ⟨g, q * 6, none⟩ (.int .i64 (m))) F (G5) g l.length c (done ++ l.drop q) q [.int .i64 (m), .bool x.Keyed, .string x.Key, .bool x.Gone, .string x.Value, .slice B5 x.Heads.length d5] := Foc.set foc0 0 (by decide) (.int .i64 (m))
    have hT5_1 : TS kHead 168 (World.setCell wr ⟨g, q * 6, none⟩ (.int .i64 (m))) G5 x.Heads (.slice B5 x.Heads.length d5) := TS_setn hT5_0 Hg5.out
    have U1 : Hid (Upd F w (World.setCell wr ⟨g, q * 6, none⟩ (.int .i64 (m)))) := Lib.hid (U0.out.trans (Upd.set _ _ _ hgF.out))
    generalize hgw : (World.setCell wr ⟨g, q * 6, none⟩ (.int .i64 (m))) = w1_ at foc1 hT5_1 U1 ⊢
    clear hgw cc ff gg foc0 hT5_0 U0
    obtain ⟨cc, ff, gg⟩ := Foc.cell foc1 1 (by decide)
    replace cc : World.cell? w1_ ⟨g, q * 6 + 1, none⟩ = some (.bool x.Keyed) := cc
    replace ff : World.frozen? w1_ ⟨g, q * 6 + 1, none⟩ = false := ff
    go_upto_region 8 with fail
    have foc2 : Foc kRecord 148 (World.setCell w1_ ⟨g, q * 6 + 1, none⟩ (.bool ((m + 1) % 3 == 0))) F (G5) g l.length c (done ++ l.drop q) q [.int .i64 (m), .bool ((m + 1) % 3 == 0), .string x.Key, .bool x.Gone, .string x.Value, .slice B5 x.Heads.length d5] := Foc.set foc1 1 (by decide) (.bool ((m + 1) % 3 == 0))
    have hT5_2 : TS kHead 168 (World.setCell w1_ ⟨g, q * 6 + 1, none⟩ (.bool ((m + 1) % 3 == 0))) G5 x.Heads (.slice B5 x.Heads.length d5) := TS_setn hT5_1 Hg5.out
    have U2 : Hid (Upd F w (World.setCell w1_ ⟨g, q * 6 + 1, none⟩ (.bool ((m + 1) % 3 == 0)))) := Lib.hid (U1.out.trans (Upd.set _ _ _ hgF.out))
    generalize hgw : (World.setCell w1_ ⟨g, q * 6 + 1, none⟩ (.bool ((m + 1) % 3 == 0))) = w2_ at foc2 hT5_2 U2 ⊢
    clear hgw cc ff gg foc1 hT5_1 U1
    go_upto_region 10 with (go_at_call 96; refine (markText_c _ _ (by omega)).mono ?_; rintro e wt ⟨rfl, hbt⟩; have fot := Foc.upd foc2 (Upd.of_below hbt); obtain ⟨cc, ff, gg⟩ := Foc.cell fot 2 (by decide); replace cc : World.cell? wt ⟨g, q * 6 + 2, none⟩ = some (.string x.Key) := cc; replace ff : World.frozen? wt ⟨g, q * 6 + 2, none⟩ = false := ff)
    have foc3 : Foc kRecord 148 (World.setCell wt ⟨g, q * 6 + 2, none⟩ (.string (mtext (m + 1 + 1)))) F (G5) g l.length c (done ++ l.drop q) q [.int .i64 (m), .bool ((m + 1) % 3 == 0), .string (mtext (m + 1 + 1)), .bool x.Gone, .string x.Value, .slice B5 x.Heads.length d5] := Foc.set fot 2 (by decide) (.string (mtext (m + 1 + 1)))
    have hT5_3 : TS kHead 168 (World.setCell wt ⟨g, q * 6 + 2, none⟩ (.string (mtext (m + 1 + 1)))) G5 x.Heads (.slice B5 x.Heads.length d5) := TS_setn (TS_below hT5_2 hbt) Hg5.out
    have U3 : Hid (Upd F w (World.setCell wt ⟨g, q * 6 + 2, none⟩ (.string (mtext (m + 1 + 1))))) := Lib.hid ((U2.out.trans (Upd.of_below hbt)).trans (Upd.set _ _ _ hgF.out))
    generalize hgw : (World.setCell wt ⟨g, q * 6 + 2, none⟩ (.string (mtext (m + 1 + 1)))) = w3_ at foc3 hT5_3 U3 ⊢
    clear hgw cc ff gg fot hbt foc2 hT5_2 U2
    obtain ⟨cc, ff, gg⟩ := Foc.cell foc3 3 (by decide)
    replace cc : World.cell? w3_ ⟨g, q * 6 + 3, none⟩ = some (.bool x.Gone) := cc
    replace ff : World.frozen? w3_ ⟨g, q * 6 + 3, none⟩ = false := ff
    go_upto_region 12 with fail
    have foc4 : Foc kRecord 148 (World.setCell w3_ ⟨g, q * 6 + 3, none⟩ (.bool ((m + 1 + 1 + 1) % 3 == 0))) F (G5) g l.length c (done ++ l.drop q) q [.int .i64 (m), .bool ((m + 1) % 3 == 0), .string (mtext (m + 1 + 1)), .bool ((m + 1 + 1 + 1) % 3 == 0), .string x.Value, .slice B5 x.Heads.length d5] := Foc.set foc3 3 (by decide) (.bool ((m + 1 + 1 + 1) % 3 == 0))
    have hT5_4 : TS kHead 168 (World.setCell w3_ ⟨g, q * 6 + 3, none⟩ (.bool ((m + 1 + 1 + 1) % 3 == 0))) G5 x.Heads (.slice B5 x.Heads.length d5) := TS_setn hT5_3 Hg5.out
    have U4 : Hid (Upd F w (World.setCell w3_ ⟨g, q * 6 + 3, none⟩ (.bool ((m + 1 + 1 + 1) % 3 == 0)))) := Lib.hid (U3.out.trans (Upd.set _ _ _ hgF.out))
    generalize hgw : (World.setCell w3_ ⟨g, q * 6 + 3, none⟩ (.bool ((m + 1 + 1 + 1) % 3 == 0))) = w4_ at foc4 hT5_4 U4 ⊢
    clear hgw cc ff gg foc3 hT5_3 U3
    go_upto_region 14 with (go_at_call 96; refine (markText_c _ _ (by omega)).mono ?_; rintro e wt ⟨rfl, hbt⟩; have fot := Foc.upd foc4 (Upd.of_below hbt); obtain ⟨cc, ff, gg⟩ := Foc.cell fot 4 (by decide); replace cc : World.cell? wt ⟨g, q * 6 + 4, none⟩ = some (.string x.Value) := cc; replace ff : World.frozen? wt ⟨g, q * 6 + 4, none⟩ = false := ff)
    have foc5 : Foc kRecord 148 (World.setCell wt ⟨g, q * 6 + 4, none⟩ (.string (mtext (m + 1 + 1 + 1 + 1)))) F (G5) g l.length c (done ++ l.drop q) q [.int .i64 (m), .bool ((m + 1) % 3 == 0), .string (mtext (m + 1 + 1)), .bool ((m + 1 + 1 + 1) % 3 == 0), .string (mtext (m + 1 + 1 + 1 + 1)), .slice B5 x.Heads.length d5] := Foc.set fot 4 (by decide) (.string (mtext (m + 1 + 1 + 1 + 1)))
    have hT5_5 : TS kHead 168 (World.setCell wt ⟨g, q * 6 + 4, none⟩ (.string (mtext (m + 1 + 1 + 1 + 1)))) G5 x.Heads (.slice B5 x.Heads.length d5) := TS_setn (TS_below hT5_4 hbt) Hg5.out
    have U5 : Hid (Upd F w (World.setCell wt ⟨g, q * 6 + 4, none⟩ (.string (mtext (m + 1 + 1 + 1 + 1))))) := Lib.hid ((U4.out.trans (Upd.of_below hbt)).trans (Upd.set _ _ _ hgF.out))
    generalize hgw : (World.setCell wt ⟨g, q * 6 + 4, none⟩ (.string (mtext (m + 1 + 1 + 1 + 1)))) = w5_ at foc5 hT5_5 U5 ⊢
    clear hgw cc ff gg fot hbt foc4 hT5_4 U4
    obtain ⟨cc, ff, gg⟩ := Foc.cell foc5 5 (by decide)
    replace cc : World.cell? w5_ ⟨g, q * 6 + 5, none⟩ = some (.slice B5 x.Heads.length d5) := cc
    replace ff : World.frozen? w5_ ⟨g, q * 6 + 5, none⟩ = false := ff
    go_wp2_with (go_at_call 122; refine (markHeadS_c _ G5 x.Heads _ _ hT5_5 Hn5.out Sx.out.2.2 (by omega) (by omega)).mono ?_; rintro e w6_ ⟨y5, rfl, hL5, hM5, hTn, hup⟩; have HM5 := Lib.hid hM5; have HL5 := Lib.hid hL5; clear hM5 hL5)
    have foc6 := Foc.upd foc5 (hup.mono (fun z hz => (by simp [hz] : z ∈ (G5))))
    have hT5_6 : TS kHead 168 w6_ G5 y5 (.slice B5 x.Heads.length d5) := hTn
    have U6 : Hid (Upd F w w6_) := Lib.hid (U5.out.trans (hup.mono (fun z hz => hsub.out z (by simp [hz]))))
    clear cc ff gg foc5 U5 hup hTn
    clear hT5_5
    have hcl := Foc.close foc6 (x' := (⟨(m), ((m + 1) % 3 == 0), (mtext (m + 1 + 1)), ((m + 1 + 1 + 1) % 3 == 0), (mtext (m + 1 + 1 + 1 + 1)), y5⟩ : Record)) (Record.mkT _ _ hT5_6)
    rw [set_snoc HL.out HX.out] at hcl
    go_roundg (gk - 1)
    case rel => exact ⟨q + 1, (m + 1 + 1 + 1 + 1 + 1 + (sumF Head.cnt x.Heads : Nat)), done ++ [(⟨(m), ((m + 1) % 3 == 0), (mtext (m + 1 + 1)), ((m + 1 + 1 + 1) % 3 == 0), (mtext (m + 1 + 1 + 1 + 1)), y5⟩ : Record)], by omega, by go_num, rfl, by omega, Lib.hid (by have := HL.out; simp; omega), Lib.hid (HM.out.snoc ⟨_, rfl, rfl, rfl, rfl, rfl, HM5.out, rfl⟩), Lib.hid (by have h := HCX.out; rw [Record.cnt_eq x] at h; push_cast at h; omega), Lib.hid hcl, U6⟩
    case measure => omega
set_option maxHeartbeats 8000000 in
theorem markBatchS_c (w : World) (F : List Nat) (l : List Batch) (v : Value) (k : Int) (hT : TS kBatch 117 w F l v) (hF : F.Nodup) (hs : (l.length ≤ 1048576 ∧ ∀ y ∈ l, y.sm)) (h0 : 0 ≤ k) (h1 : k + sumF Batch.cnt l ≤ 1000000000000000) :
    Calls Try.prog 107 #[v, .int .i64 k] w (MarkedS kBatch 117 Batch.mkR F l.length v k (k + sumF Batch.cnt l) w) := by
  have HT := Lib.hid hT
  obtain ⟨A, c, rfl, hc, hcm, hr⟩ := TS_read hT
  clear hT hr
  have HF := Lib.hid hF
  clear hF
  have hl : l.length ≤ 1048576 := hs.1
  have HS := Lib.hid hs
  clear hs
  have hu := Try.underlying117
  have hu2 := Try.underlying104
  generalize hK : k + (sumF Batch.cnt l : Nat) = K at h1 ⊢
  have HK := Lib.hid hK
  clear hK
  go_enter Try.func107, Try.ntmps107
  go_wp2
  go_loopg [1, 5] l.length (fun g v1 v5 wr => ∃ (q : Nat) (m : Int) (done : List Batch), q + g = l.length ∧ v5 = .int .i64 q ∧ v1 = .int .i64 m ∧ 0 ≤ m ∧ Hid (done.length = q) ∧ Hid (Mks Batch.mkR done k m) ∧ Hid (m + sumF Batch.cnt (l.drop q) = K) ∧ Hid (TS kBatch 117 wr F (done ++ l.drop q) (.slice A l.length c)) ∧ Hid (Upd F w wr))
  case atStart => exact ⟨0, k, [], by omega, rfl, rfl, h0, Lib.hid rfl, Lib.hid rfl, Lib.hid (by simpa using HK.out), Lib.hid (by simpa using HT.out), Lib.hid (Upd.refl _ _)⟩
  case round =>
    clear HT HK h0
    obtain ⟨q, m, done, hq, rfl, rfl, hm0, HL, HM, HC, HT, HU⟩ := hrel
    by_cases hlt : q < l.length
    case neg =>
      have HE : Hid (m = K) := Lib.hid (by have h := HC.out; rw [List.drop_eq_nil_of_le (by omega)] at h; simpa [sumF] using h)
      go_wp2
      go_ret
      exact ⟨done, by rw [HE.out]; rfl, by have := HL.out; omega, by rw [← HE.out]; exact HM.out, by have h := HT.out; rw [List.drop_eq_nil_of_le (by omega), List.append_nil] at h; exact h, HU.out⟩
    obtain ⟨g, cap, G6, x, cs, hv, hcap, _, hx, hTx, foc0⟩ := Foc.open HT.out HF.out (i := q) (by have := HL.out; simp; omega)
    have hn2 : (done ++ l.drop q).length = l.length := by have := HL.out; simp; omega
    rw [hn2] at hv foc0 hcap
    have hxl : l[q]? = some x := by rw [List.getElem?_append_right (by have := HL.out; omega), List.getElem?_drop] at hx; simpa [HL.out] using hx
    simp only [Value.slice.injEq] at hv
    obtain ⟨rfl, -, rfl⟩ := hv
    have HX := Lib.hid hxl
    have hcx : m + (Batch.cnt x + sumF Batch.cnt (l.drop (q + 1)) : Nat) = K := by have h := HC.out; rw [sumF_drop hxl] at h; exact h
    have HCX := Lib.hid hcx
    have Sx := Lib.hid (HS.out.2 x (List.mem_of_getElem? hxl))
    clear hx hxl hn2
    obtain ⟨v6, G_6, rfl, rfl, hT6_0⟩ := Batch.opnT hTx
    obtain ⟨B6, d6, rfl, lb6, _, _⟩ := TS_read hT6_0
    have hmem := foc0.mem
    have hgF := Lib.hid hmem.1
    have hgn := hmem.2.1
    have hnd := hmem.2.2.1
    have hsub := Lib.hid hmem.2.2.2
    have Hn6 := Lib.hid hnd
    have Hg6 : Hid (g ∉ G6) := Lib.hid (fun hh => hgn (by simp [hh]))
    clear hgn hnd
    clear hmem
    have hcb : m + ((6 + sumF Record.cnt x.Records : Nat) : Int) ≤ K := by unfold Batch.cnt at hcx; omega
    push_cast at hcb
    clear hcx
    have U0 := HU
    go_upto_region 4 with fail
    obtain ⟨cc, ff, gg⟩ := Foc.cell foc0 0 (by decide)
    replace cc : World.cell? wr ⟨g, q * 7, none⟩ = some (.int .i64 x.Base) := cc
    replace ff : World.frozen? wr ⟨g, q * 7, none⟩ = false := ff
    go_upto_region 6 with fail
    have foc1 : Foc kBatch 117 (World.setCell wr ⟨g, q * 7, none⟩ (.int .i64 (m))) F (G6) g l.length c (done ++ l.drop q) q [.int .i64 (m), .int .i64 x.Epoch, .int .i64 x.Producer, .int .i64 x.Turn, .int .i64 x.Seq, .int .i64 x.Flags, .slice B6 x.Records.length d6] := Foc.set foc0 0 (by decide) (.int .i64 (m))
    have hT6_1 : TS kRecord 148 (World.setCell wr ⟨g, q * 7, none⟩ (.int .i64 (m))) G6 x.Records (.slice B6 x.Records.length d6) := TS_setn hT6_0 Hg6.out
    have U1 : Hid (Upd F w (World.setCell wr ⟨g, q * 7, none⟩ (.int .i64 (m)))) := Lib.hid (U0.out.trans (Upd.set _ _ _ hgF.out))
    generalize hgw : (World.setCell wr ⟨g, q * 7, none⟩ (.int .i64 (m))) = w1_ at foc1 hT6_1 U1 ⊢
    clear hgw cc ff gg foc0 hT6_0 U0
    obtain ⟨cc, ff, gg⟩ := Foc.cell foc1 1 (by decide)
    replace cc : World.cell? w1_ ⟨g, q * 7 + 1, none⟩ = some (.int .i64 x.Epoch) := cc
    replace ff : World.frozen? w1_ ⟨g, q * 7 + 1, none⟩ = false := ff
    go_upto_region 8 with fail
    have foc2 : Foc kBatch 117 (World.setCell w1_ ⟨g, q * 7 + 1, none⟩ (.int .i64 (m + 1))) F (G6) g l.length c (done ++ l.drop q) q [.int .i64 (m), .int .i64 (m + 1), .int .i64 x.Producer, .int .i64 x.Turn, .int .i64 x.Seq, .int .i64 x.Flags, .slice B6 x.Records.length d6] := Foc.set foc1 1 (by decide) (.int .i64 (m + 1))
    have hT6_2 : TS kRecord 148 (World.setCell w1_ ⟨g, q * 7 + 1, none⟩ (.int .i64 (m + 1))) G6 x.Records (.slice B6 x.Records.length d6) := TS_setn hT6_1 Hg6.out
    have U2 : Hid (Upd F w (World.setCell w1_ ⟨g, q * 7 + 1, none⟩ (.int .i64 (m + 1)))) := Lib.hid (U1.out.trans (Upd.set _ _ _ hgF.out))
    generalize hgw : (World.setCell w1_ ⟨g, q * 7 + 1, none⟩ (.int .i64 (m + 1))) = w2_ at foc2 hT6_2 U2 ⊢
    clear hgw cc ff gg foc1 hT6_1 U1
    obtain ⟨cc, ff, gg⟩ := Foc.cell foc2 2 (by decide)
    replace cc : World.cell? w2_ ⟨g, q * 7 + 2, none⟩ = some (.int .i64 x.Producer) := cc
    replace ff : World.frozen? w2_ ⟨g, q * 7 + 2, none⟩ = false := ff
    go_upto_region 10 with fail
    have foc3 : Foc kBatch 117 (World.setCell w2_ ⟨g, q * 7 + 2, none⟩ (.int .i64 (m + 1 + 1))) F (G6) g l.length c (done ++ l.drop q) q [.int .i64 (m), .int .i64 (m + 1), .int .i64 (m + 1 + 1), .int .i64 x.Turn, .int .i64 x.Seq, .int .i64 x.Flags, .slice B6 x.Records.length d6] := Foc.set foc2 2 (by decide) (.int .i64 (m + 1 + 1))
    have hT6_3 : TS kRecord 148 (World.setCell w2_ ⟨g, q * 7 + 2, none⟩ (.int .i64 (m + 1 + 1))) G6 x.Records (.slice B6 x.Records.length d6) := TS_setn hT6_2 Hg6.out
    have U3 : Hid (Upd F w (World.setCell w2_ ⟨g, q * 7 + 2, none⟩ (.int .i64 (m + 1 + 1)))) := Lib.hid (U2.out.trans (Upd.set _ _ _ hgF.out))
    generalize hgw : (World.setCell w2_ ⟨g, q * 7 + 2, none⟩ (.int .i64 (m + 1 + 1))) = w3_ at foc3 hT6_3 U3 ⊢
    clear hgw cc ff gg foc2 hT6_2 U2
    obtain ⟨cc, ff, gg⟩ := Foc.cell foc3 3 (by decide)
    replace cc : World.cell? w3_ ⟨g, q * 7 + 3, none⟩ = some (.int .i64 x.Turn) := cc
    replace ff : World.frozen? w3_ ⟨g, q * 7 + 3, none⟩ = false := ff
    go_upto_region 12 with fail
    have foc4 : Foc kBatch 117 (World.setCell w3_ ⟨g, q * 7 + 3, none⟩ (.int .i64 (m + 1 + 1 + 1))) F (G6) g l.length c (done ++ l.drop q) q [.int .i64 (m), .int .i64 (m + 1), .int .i64 (m + 1 + 1), .int .i64 (m + 1 + 1 + 1), .int .i64 x.Seq, .int .i64 x.Flags, .slice B6 x.Records.length d6] := Foc.set foc3 3 (by decide) (.int .i64 (m + 1 + 1 + 1))
    have hT6_4 : TS kRecord 148 (World.setCell w3_ ⟨g, q * 7 + 3, none⟩ (.int .i64 (m + 1 + 1 + 1))) G6 x.Records (.slice B6 x.Records.length d6) := TS_setn hT6_3 Hg6.out
    have U4 : Hid (Upd F w (World.setCell w3_ ⟨g, q * 7 + 3, none⟩ (.int .i64 (m + 1 + 1 + 1)))) := Lib.hid (U3.out.trans (Upd.set _ _ _ hgF.out))
    generalize hgw : (World.setCell w3_ ⟨g, q * 7 + 3, none⟩ (.int .i64 (m + 1 + 1 + 1))) = w4_ at foc4 hT6_4 U4 ⊢
    clear hgw cc ff gg foc3 hT6_3 U3
    obtain ⟨cc, ff, gg⟩ := Foc.cell foc4 4 (by decide)
    replace cc : World.cell? w4_ ⟨g, q * 7 + 4, none⟩ = some (.int .i64 x.Seq) := cc
    replace ff : World.frozen? w4_ ⟨g, q * 7 + 4, none⟩ = false := ff
    go_upto_region 14 with fail
    have foc5 : Foc kBatch 117 (World.setCell w4_ ⟨g, q * 7 + 4, none⟩ (.int .i64 (m + 1 + 1 + 1 + 1))) F (G6) g l.length c (done ++ l.drop q) q [.int .i64 (m), .int .i64 (m + 1), .int .i64 (m + 1 + 1), .int .i64 (m + 1 + 1 + 1), .int .i64 (m + 1 + 1 + 1 + 1), .int .i64 x.Flags, .slice B6 x.Records.length d6] := Foc.set foc4 4 (by decide) (.int .i64 (m + 1 + 1 + 1 + 1))
    have hT6_5 : TS kRecord 148 (World.setCell w4_ ⟨g, q * 7 + 4, none⟩ (.int .i64 (m + 1 + 1 + 1 + 1))) G6 x.Records (.slice B6 x.Records.length d6) := TS_setn hT6_4 Hg6.out
    have U5 : Hid (Upd F w (World.setCell w4_ ⟨g, q * 7 + 4, none⟩ (.int .i64 (m + 1 + 1 + 1 + 1)))) := Lib.hid (U4.out.trans (Upd.set _ _ _ hgF.out))
    generalize hgw : (World.setCell w4_ ⟨g, q * 7 + 4, none⟩ (.int .i64 (m + 1 + 1 + 1 + 1))) = w5_ at foc5 hT6_5 U5 ⊢
    clear hgw cc ff gg foc4 hT6_4 U4
    obtain ⟨cc, ff, gg⟩ := Foc.cell foc5 5 (by decide)
    replace cc : World.cell? w5_ ⟨g, q * 7 + 5, none⟩ = some (.int .i64 x.Flags) := cc
    replace ff : World.frozen? w5_ ⟨g, q * 7 + 5, none⟩ = false := ff
    go_upto_region 16 with fail
    have foc6 : Foc kBatch 117 (World.setCell w5_ ⟨g, q * 7 + 5, none⟩ (.int .i64 (m + 1 + 1 + 1 + 1 + 1))) F (G6) g l.length c (done ++ l.drop q) q [.int .i64 (m), .int .i64 (m + 1), .int .i64 (m + 1 + 1), .int .i64 (m + 1 + 1 + 1), .int .i64 (m + 1 + 1 + 1 + 1), .int .i64 (m + 1 + 1 + 1 + 1 + 1), .slice B6 x.Records.length d6] := Foc.set foc5 5 (by decide) (.int .i64 (m + 1 + 1 + 1 + 1 + 1))
    have hT6_6 : TS kRecord 148 (World.setCell w5_ ⟨g, q * 7 + 5, none⟩ (.int .i64 (m + 1 + 1 + 1 + 1 + 1))) G6 x.Records (.slice B6 x.Records.length d6) := TS_setn hT6_5 Hg6.out
    have U6 : Hid (Upd F w (World.setCell w5_ ⟨g, q * 7 + 5, none⟩ (.int .i64 (m + 1 + 1 + 1 + 1 + 1)))) := Lib.hid (U5.out.trans (Upd.set _ _ _ hgF.out))
    generalize hgw : (World.setCell w5_ ⟨g, q * 7 + 5, none⟩ (.int .i64 (m + 1 + 1 + 1 + 1 + 1))) = w6_ at foc6 hT6_6 U6 ⊢
    clear hgw cc ff gg foc5 hT6_5 U5
    obtain ⟨cc, ff, gg⟩ := Foc.cell foc6 6 (by decide)
    replace cc : World.cell? w6_ ⟨g, q * 7 + 6, none⟩ = some (.slice B6 x.Records.length d6) := cc
    replace ff : World.frozen? w6_ ⟨g, q * 7 + 6, none⟩ = false := ff
    go_wp2_with (go_at_call 115; refine (markRecordS_c _ G6 x.Records _ _ hT6_6 Hn6.out Sx.out (by omega) (by omega)).mono ?_; rintro e w7_ ⟨y6, rfl, hL6, hM6, hTn, hup⟩; have HM6 := Lib.hid hM6; have HL6 := Lib.hid hL6; clear hM6 hL6)
    have foc7 := Foc.upd foc6 (hup.mono (fun z hz => (by simp [hz] : z ∈ (G6))))
    have hT6_7 : TS kRecord 148 w7_ G6 y6 (.slice B6 x.Records.length d6) := hTn
    have U7 : Hid (Upd F w w7_) := Lib.hid (U6.out.trans (hup.mono (fun z hz => hsub.out z (by simp [hz]))))
    clear cc ff gg foc6 U6 hup hTn
    clear hT6_6
    have hcl := Foc.close foc7 (x' := (⟨(m), (m + 1), (m + 1 + 1), (m + 1 + 1 + 1), (m + 1 + 1 + 1 + 1), (m + 1 + 1 + 1 + 1 + 1), y6⟩ : Batch)) (Batch.mkT _ _ hT6_7)
    rw [set_snoc HL.out HX.out] at hcl
    go_roundg (gk - 1)
    case rel => exact ⟨q + 1, (m + 1 + 1 + 1 + 1 + 1 + 1 + (sumF Record.cnt x.Records : Nat)), done ++ [(⟨(m), (m + 1), (m + 1 + 1), (m + 1 + 1 + 1), (m + 1 + 1 + 1 + 1), (m + 1 + 1 + 1 + 1 + 1), y6⟩ : Batch)], by omega, by go_num, rfl, by omega, Lib.hid (by have := HL.out; simp; omega), Lib.hid (HM.out.snoc ⟨_, rfl, rfl, rfl, rfl, rfl, rfl, HM6.out, rfl⟩), Lib.hid (by have h := HCX.out; rw [Batch.cnt_eq x] at h; push_cast at h; omega), Lib.hid hcl, U7⟩
    case measure => omega
set_option maxHeartbeats 8000000 in
theorem markSegmentS_c (w : World) (F : List Nat) (l : List Segment) (v : Value) (k : Int) (hT : TS kSegment 143 w F l v) (hF : F.Nodup) (hs : (l.length ≤ 1048576 ∧ ∀ y ∈ l, y.sm)) (h0 : 0 ≤ k) (h1 : k + sumF Segment.cnt l ≤ 1000000000000000) :
    Calls Try.prog 93 #[v, .int .i64 k] w (MarkedS kSegment 143 Segment.mkR F l.length v k (k + sumF Segment.cnt l) w) := by
  have HT := Lib.hid hT
  obtain ⟨A, c, rfl, hc, hcm, hr⟩ := TS_read hT
  clear hT hr
  have HF := Lib.hid hF
  clear hF
  have hl : l.length ≤ 1048576 := hs.1
  have HS := Lib.hid hs
  clear hs
  have hu := Try.underlying143
  have hu2 := Try.underlying57
  generalize hK : k + (sumF Segment.cnt l : Nat) = K at h1 ⊢
  have HK := Lib.hid hK
  clear hK
  go_enter Try.func93, Try.ntmps93
  go_wp2
  go_loopg [1, 5] l.length (fun g v1 v5 wr => ∃ (q : Nat) (m : Int) (done : List Segment), q + g = l.length ∧ v5 = .int .i64 q ∧ v1 = .int .i64 m ∧ 0 ≤ m ∧ Hid (done.length = q) ∧ Hid (Mks Segment.mkR done k m) ∧ Hid (m + sumF Segment.cnt (l.drop q) = K) ∧ Hid (TS kSegment 143 wr F (done ++ l.drop q) (.slice A l.length c)) ∧ Hid (Upd F w wr))
  case atStart => exact ⟨0, k, [], by omega, rfl, rfl, h0, Lib.hid rfl, Lib.hid rfl, Lib.hid (by simpa using HK.out), Lib.hid (by simpa using HT.out), Lib.hid (Upd.refl _ _)⟩
  case round =>
    clear HT HK h0
    obtain ⟨q, m, done, hq, rfl, rfl, hm0, HL, HM, HC, HT, HU⟩ := hrel
    by_cases hlt : q < l.length
    case neg =>
      have HE : Hid (m = K) := Lib.hid (by have h := HC.out; rw [List.drop_eq_nil_of_le (by omega)] at h; simpa [sumF] using h)
      go_wp2
      go_ret
      exact ⟨done, by rw [HE.out]; rfl, by have := HL.out; omega, by rw [← HE.out]; exact HM.out, by have h := HT.out; rw [List.drop_eq_nil_of_le (by omega), List.append_nil] at h; exact h, HU.out⟩
    obtain ⟨g, cap, G1, x, cs, hv, hcap, _, hx, hTx, foc0⟩ := Foc.open HT.out HF.out (i := q) (by have := HL.out; simp; omega)
    have hn2 : (done ++ l.drop q).length = l.length := by have := HL.out; simp; omega
    rw [hn2] at hv foc0 hcap
    have hxl : l[q]? = some x := by rw [List.getElem?_append_right (by have := HL.out; omega), List.getElem?_drop] at hx; simpa [HL.out] using hx
    simp only [Value.slice.injEq] at hv
    obtain ⟨rfl, -, rfl⟩ := hv
    have HX := Lib.hid hxl
    have hcx : m + (Segment.cnt x + sumF Segment.cnt (l.drop (q + 1)) : Nat) = K := by have h := HC.out; rw [sumF_drop hxl] at h; exact h
    have HCX := Lib.hid hcx
    have Sx := Lib.hid (HS.out.2 x (List.mem_of_getElem? hxl))
    clear hx hxl hn2
    obtain ⟨v1, G_1, rfl, rfl, hT1_0⟩ := Segment.opnT hTx
    obtain ⟨B1, d1, rfl, lb1, _, _⟩ := TS_read hT1_0
    have hmem := foc0.mem
    have hgF := Lib.hid hmem.1
    have hgn := hmem.2.1
    have hnd := hmem.2.2.1
    have hsub := Lib.hid hmem.2.2.2
    have Hn1 := Lib.hid hnd
    have Hg1 : Hid (g ∉ G1) := Lib.hid (fun hh => hgn (by simp [hh]))
    clear hgn hnd
    clear hmem
    have hcb : m + ((1 + sumF Batch.cnt x.Batches : Nat) : Int) ≤ K := by unfold Segment.cnt at hcx; omega
    push_cast at hcb
    clear hcx
    have U0 := HU
    go_upto_region 4 with fail
    obtain ⟨cc, ff, gg⟩ := Foc.cell foc0 0 (by decide)
    replace cc : World.cell? wr ⟨g, q * 2, none⟩ = some (.int .i64 x.Base) := cc
    replace ff : World.frozen? wr ⟨g, q * 2, none⟩ = false := ff
    go_upto_region 6 with fail
    have foc1 : Foc kSegment 143 (World.setCell wr ⟨g, q * 2, none⟩ (.int .i64 (m))) F (G1) g l.length c (done ++ l.drop q) q [.int .i64 (m), .slice B1 x.Batches.length d1] := Foc.set foc0 0 (by decide) (.int .i64 (m))
    have hT1_1 : TS kBatch 117 (World.setCell wr ⟨g, q * 2, none⟩ (.int .i64 (m))) G1 x.Batches (.slice B1 x.Batches.length d1) := TS_setn hT1_0 Hg1.out
    have U1 : Hid (Upd F w (World.setCell wr ⟨g, q * 2, none⟩ (.int .i64 (m)))) := Lib.hid (U0.out.trans (Upd.set _ _ _ hgF.out))
    generalize hgw : (World.setCell wr ⟨g, q * 2, none⟩ (.int .i64 (m))) = w1_ at foc1 hT1_1 U1 ⊢
    clear hgw cc ff gg foc0 hT1_0 U0
    obtain ⟨cc, ff, gg⟩ := Foc.cell foc1 1 (by decide)
    replace cc : World.cell? w1_ ⟨g, q * 2 + 1, none⟩ = some (.slice B1 x.Batches.length d1) := cc
    replace ff : World.frozen? w1_ ⟨g, q * 2 + 1, none⟩ = false := ff
    go_wp2_with (go_at_call 107; refine (markBatchS_c _ G1 x.Batches _ _ hT1_1 Hn1.out Sx.out (by omega) (by omega)).mono ?_; rintro e w2_ ⟨y1, rfl, hL1, hM1, hTn, hup⟩; have HM1 := Lib.hid hM1; have HL1 := Lib.hid hL1; clear hM1 hL1)
    have foc2 := Foc.upd foc1 (hup.mono (fun z hz => (by simp [hz] : z ∈ (G1))))
    have hT1_2 : TS kBatch 117 w2_ G1 y1 (.slice B1 x.Batches.length d1) := hTn
    have U2 : Hid (Upd F w w2_) := Lib.hid (U1.out.trans (hup.mono (fun z hz => hsub.out z (by simp [hz]))))
    clear cc ff gg foc1 U1 hup hTn
    clear hT1_1
    have hcl := Foc.close foc2 (x' := (⟨(m), y1⟩ : Segment)) (Segment.mkT _ _ hT1_2)
    rw [set_snoc HL.out HX.out] at hcl
    go_roundg (gk - 1)
    case rel => exact ⟨q + 1, (m + 1 + (sumF Batch.cnt x.Batches : Nat)), done ++ [(⟨(m), y1⟩ : Segment)], by omega, by go_num, rfl, by omega, Lib.hid (by have := HL.out; simp; omega), Lib.hid (HM.out.snoc ⟨_, rfl, HM1.out, rfl⟩), Lib.hid (by have h := HCX.out; rw [Segment.cnt_eq x] at h; push_cast at h; omega), Lib.hid hcl, U2⟩
    case measure => omega
set_option maxHeartbeats 8000000 in
theorem markReplicaS_c (w : World) (F : List Nat) (l : List Replica) (v : Value) (k : Int) (hT : TS kReplica 90 w F l v) (hF : F.Nodup) (hs : (l.length ≤ 1048576 ∧ ∀ y ∈ l, y.sm)) (h0 : 0 ≤ k) (h1 : k + sumF Replica.cnt l ≤ 1000000000000000) :
    Calls Try.prog 56 #[v, .int .i64 k] w (MarkedS kReplica 90 Replica.mkR F l.length v k (k + sumF Replica.cnt l) w) := by
  have HT := Lib.hid hT
  obtain ⟨A, c, rfl, hc, hcm, hr⟩ := TS_read hT
  clear hT hr
  have HF := Lib.hid hF
  clear hF
  have hl : l.length ≤ 1048576 := hs.1
  have HS := Lib.hid hs
  clear hs
  have hu := Try.underlying90
  have hu2 := Try.underlying36
  generalize hK : k + (sumF Replica.cnt l : Nat) = K at h1 ⊢
  have HK := Lib.hid hK
  clear hK
  go_enter Try.func56, Try.ntmps56
  go_wp2
  go_loopg [1, 5] l.length (fun g v1 v5 wr => ∃ (q : Nat) (m : Int) (done : List Replica), q + g = l.length ∧ v5 = .int .i64 q ∧ v1 = .int .i64 m ∧ 0 ≤ m ∧ Hid (done.length = q) ∧ Hid (Mks Replica.mkR done k m) ∧ Hid (m + sumF Replica.cnt (l.drop q) = K) ∧ Hid (TS kReplica 90 wr F (done ++ l.drop q) (.slice A l.length c)) ∧ Hid (Upd F w wr))
  case atStart => exact ⟨0, k, [], by omega, rfl, rfl, h0, Lib.hid rfl, Lib.hid rfl, Lib.hid (by simpa using HK.out), Lib.hid (by simpa using HT.out), Lib.hid (Upd.refl _ _)⟩
  case round =>
    clear HT HK h0
    obtain ⟨q, m, done, hq, rfl, rfl, hm0, HL, HM, HC, HT, HU⟩ := hrel
    by_cases hlt : q < l.length
    case neg =>
      have HE : Hid (m = K) := Lib.hid (by have h := HC.out; rw [List.drop_eq_nil_of_le (by omega)] at h; simpa [sumF] using h)
      go_wp2
      go_ret
      exact ⟨done, by rw [HE.out]; rfl, by have := HL.out; omega, by rw [← HE.out]; exact HM.out, by have h := HT.out; rw [List.drop_eq_nil_of_le (by omega), List.append_nil] at h; exact h, HU.out⟩
    obtain ⟨g, cap, G3, x, cs, hv, hcap, _, hx, hTx, foc0⟩ := Foc.open HT.out HF.out (i := q) (by have := HL.out; simp; omega)
    have hn2 : (done ++ l.drop q).length = l.length := by have := HL.out; simp; omega
    rw [hn2] at hv foc0 hcap
    have hxl : l[q]? = some x := by rw [List.getElem?_append_right (by have := HL.out; omega), List.getElem?_drop] at hx; simpa [HL.out] using hx
    simp only [Value.slice.injEq] at hv
    obtain ⟨rfl, -, rfl⟩ := hv
    have HX := Lib.hid hxl
    have hcx : m + (Replica.cnt x + sumF Replica.cnt (l.drop (q + 1)) : Nat) = K := by have h := HC.out; rw [sumF_drop hxl] at h; exact h
    have HCX := Lib.hid hcx
    have Sx := Lib.hid (HS.out.2 x (List.mem_of_getElem? hxl))
    clear hx hxl hn2
    obtain ⟨v3, G_3, rfl, rfl, hT3_0⟩ := Replica.opnT hTx
    obtain ⟨B3, d3, rfl, lb3, _, _⟩ := TS_read hT3_0
    have hmem := foc0.mem
    have hgF := Lib.hid hmem.1
    have hgn := hmem.2.1
    have hnd := hmem.2.2.1
    have hsub := Lib.hid hmem.2.2.2
    have Hn3 := Lib.hid hnd
    have Hg3 : Hid (g ∉ G3) := Lib.hid (fun hh => hgn (by simp [hh]))
    clear hgn hnd
    clear hmem
    have hcb : m + ((5 + sumF Segment.cnt x.Log.Segments : Nat) : Int) ≤ K := by unfold Replica.cnt at hcx; omega
    push_cast at hcb
    clear hcx
    have U0 := HU
    go_upto_region 4 with fail
    obtain ⟨cc, ff, gg⟩ := Foc.cell foc0 0 (by decide)
    replace cc : World.cell? wr ⟨g, q * 6, none⟩ = some (.int .i64 x.Log.Start) := cc
    replace ff : World.frozen? wr ⟨g, q * 6, none⟩ = false := ff
    go_upto_region 6 with fail
    have foc1 : Foc kReplica 90 (World.setCell wr ⟨g, q * 6, none⟩ (.int .i64 (m))) F (G3) g l.length c (done ++ l.drop q) q [.int .i64 (m), .int .i64 x.Log.Next, .int .i64 x.Log.Roll, .slice B3 x.Log.Segments.length d3, .int .i64 x.Mark, .bool x.Up] := Foc.set foc0 0 (by decide) (.int .i64 (m))
    have hT3_1 : TS kSegment 143 (World.setCell wr ⟨g, q * 6, none⟩ (.int .i64 (m))) G3 x.Log.Segments (.slice B3 x.Log.Segments.length d3) := TS_setn hT3_0 Hg3.out
    have U1 : Hid (Upd F w (World.setCell wr ⟨g, q * 6, none⟩ (.int .i64 (m)))) := Lib.hid (U0.out.trans (Upd.set _ _ _ hgF.out))
    generalize hgw : (World.setCell wr ⟨g, q * 6, none⟩ (.int .i64 (m))) = w1_ at foc1 hT3_1 U1 ⊢
    clear hgw cc ff gg foc0 hT3_0 U0
    obtain ⟨cc, ff, gg⟩ := Foc.cell foc1 1 (by decide)
    replace cc : World.cell? w1_ ⟨g, q * 6 + 1, none⟩ = some (.int .i64 x.Log.Next) := cc
    replace ff : World.frozen? w1_ ⟨g, q * 6 + 1, none⟩ = false := ff
    go_upto_region 8 with fail
    have foc2 : Foc kReplica 90 (World.setCell w1_ ⟨g, q * 6 + 1, none⟩ (.int .i64 (m + 1))) F (G3) g l.length c (done ++ l.drop q) q [.int .i64 (m), .int .i64 (m + 1), .int .i64 x.Log.Roll, .slice B3 x.Log.Segments.length d3, .int .i64 x.Mark, .bool x.Up] := Foc.set foc1 1 (by decide) (.int .i64 (m + 1))
    have hT3_2 : TS kSegment 143 (World.setCell w1_ ⟨g, q * 6 + 1, none⟩ (.int .i64 (m + 1))) G3 x.Log.Segments (.slice B3 x.Log.Segments.length d3) := TS_setn hT3_1 Hg3.out
    have U2 : Hid (Upd F w (World.setCell w1_ ⟨g, q * 6 + 1, none⟩ (.int .i64 (m + 1)))) := Lib.hid (U1.out.trans (Upd.set _ _ _ hgF.out))
    generalize hgw : (World.setCell w1_ ⟨g, q * 6 + 1, none⟩ (.int .i64 (m + 1))) = w2_ at foc2 hT3_2 U2 ⊢
    clear hgw cc ff gg foc1 hT3_1 U1
    obtain ⟨cc, ff, gg⟩ := Foc.cell foc2 2 (by decide)
    replace cc : World.cell? w2_ ⟨g, q * 6 + 2, none⟩ = some (.int .i64 x.Log.Roll) := cc
    replace ff : World.frozen? w2_ ⟨g, q * 6 + 2, none⟩ = false := ff
    go_upto_region 10 with fail
    have foc3 : Foc kReplica 90 (World.setCell w2_ ⟨g, q * 6 + 2, none⟩ (.int .i64 (m + 1 + 1))) F (G3) g l.length c (done ++ l.drop q) q [.int .i64 (m), .int .i64 (m + 1), .int .i64 (m + 1 + 1), .slice B3 x.Log.Segments.length d3, .int .i64 x.Mark, .bool x.Up] := Foc.set foc2 2 (by decide) (.int .i64 (m + 1 + 1))
    have hT3_3 : TS kSegment 143 (World.setCell w2_ ⟨g, q * 6 + 2, none⟩ (.int .i64 (m + 1 + 1))) G3 x.Log.Segments (.slice B3 x.Log.Segments.length d3) := TS_setn hT3_2 Hg3.out
    have U3 : Hid (Upd F w (World.setCell w2_ ⟨g, q * 6 + 2, none⟩ (.int .i64 (m + 1 + 1)))) := Lib.hid (U2.out.trans (Upd.set _ _ _ hgF.out))
    generalize hgw : (World.setCell w2_ ⟨g, q * 6 + 2, none⟩ (.int .i64 (m + 1 + 1))) = w3_ at foc3 hT3_3 U3 ⊢
    clear hgw cc ff gg foc2 hT3_2 U2
    obtain ⟨cc, ff, gg⟩ := Foc.cell foc3 3 (by decide)
    replace cc : World.cell? w3_ ⟨g, q * 6 + 3, none⟩ = some (.slice B3 x.Log.Segments.length d3) := cc
    replace ff : World.frozen? w3_ ⟨g, q * 6 + 3, none⟩ = false := ff
    go_upto_region 11 with (go_at_call 93; refine (markSegmentS_c _ G3 x.Log.Segments _ _ hT3_3 Hn3.out (show x.Log.sm from Sx.out) (by omega) (by omega)).mono ?_; rintro e w4_ ⟨y3, rfl, hL3, hM3, hTn, hup⟩; have HM3 := Lib.hid hM3; have HL3 := Lib.hid hL3; clear hM3 hL3)
    have foc4 := Foc.upd foc3 (hup.mono (fun z hz => (by simp [hz] : z ∈ (G3))))
    have hT3_4 : TS kSegment 143 w4_ G3 y3 (.slice B3 x.Log.Segments.length d3) := hTn
    have U4 : Hid (Upd F w w4_) := Lib.hid (U3.out.trans (hup.mono (fun z hz => hsub.out z (by simp [hz]))))
    clear cc ff gg foc3 U3 hup hTn
    clear hT3_3
    obtain ⟨cc, ff, gg⟩ := Foc.cell foc4 4 (by decide)
    replace cc : World.cell? w4_ ⟨g, q * 6 + 4, none⟩ = some (.int .i64 x.Mark) := cc
    replace ff : World.frozen? w4_ ⟨g, q * 6 + 4, none⟩ = false := ff
    go_upto_region 13 with fail
    have foc5 : Foc kReplica 90 (World.setCell w4_ ⟨g, q * 6 + 4, none⟩ (.int .i64 ((m + 1 + 1 + 1 + (sumF Segment.cnt x.Log.Segments : Nat))))) F (G3) g l.length c (done ++ l.drop q) q [.int .i64 (m), .int .i64 (m + 1), .int .i64 (m + 1 + 1), .slice B3 x.Log.Segments.length d3, .int .i64 ((m + 1 + 1 + 1 + (sumF Segment.cnt x.Log.Segments : Nat))), .bool x.Up] := Foc.set foc4 4 (by decide) (.int .i64 ((m + 1 + 1 + 1 + (sumF Segment.cnt x.Log.Segments : Nat))))
    have hT3_5 : TS kSegment 143 (World.setCell w4_ ⟨g, q * 6 + 4, none⟩ (.int .i64 ((m + 1 + 1 + 1 + (sumF Segment.cnt x.Log.Segments : Nat))))) G3 y3 (.slice B3 x.Log.Segments.length d3) := TS_setn hT3_4 Hg3.out
    have U5 : Hid (Upd F w (World.setCell w4_ ⟨g, q * 6 + 4, none⟩ (.int .i64 ((m + 1 + 1 + 1 + (sumF Segment.cnt x.Log.Segments : Nat)))))) := Lib.hid (U4.out.trans (Upd.set _ _ _ hgF.out))
    generalize hgw : (World.setCell w4_ ⟨g, q * 6 + 4, none⟩ (.int .i64 ((m + 1 + 1 + 1 + (sumF Segment.cnt x.Log.Segments : Nat))))) = w5_ at foc5 hT3_5 U5 ⊢
    clear hgw cc ff gg foc4 hT3_4 U4
    obtain ⟨cc, ff, gg⟩ := Foc.cell foc5 5 (by decide)
    replace cc : World.cell? w5_ ⟨g, q * 6 + 5, none⟩ = some (.bool x.Up) := cc
    replace ff : World.frozen? w5_ ⟨g, q * 6 + 5, none⟩ = false := ff
    go_wp2
    have foc6 : Foc kReplica 90 (World.setCell w5_ ⟨g, q * 6 + 5, none⟩ (.bool (((m + 1 + 1 + 1 + (sumF Segment.cnt x.Log.Segments : Nat)) + 1) % 3 == 0))) F (G3) g l.length c (done ++ l.drop q) q [.int .i64 (m), .int .i64 (m + 1), .int .i64 (m + 1 + 1), .slice B3 x.Log.Segments.length d3, .int .i64 ((m + 1 + 1 + 1 + (sumF Segment.cnt x.Log.Segments : Nat))), .bool (((m + 1 + 1 + 1 + (sumF Segment.cnt x.Log.Segments : Nat)) + 1) % 3 == 0)] := Foc.set foc5 5 (by decide) (.bool (((m + 1 + 1 + 1 + (sumF Segment.cnt x.Log.Segments : Nat)) + 1) % 3 == 0))
    have hT3_6 : TS kSegment 143 (World.setCell w5_ ⟨g, q * 6 + 5, none⟩ (.bool (((m + 1 + 1 + 1 + (sumF Segment.cnt x.Log.Segments : Nat)) + 1) % 3 == 0))) G3 y3 (.slice B3 x.Log.Segments.length d3) := TS_setn hT3_5 Hg3.out
    have U6 : Hid (Upd F w (World.setCell w5_ ⟨g, q * 6 + 5, none⟩ (.bool (((m + 1 + 1 + 1 + (sumF Segment.cnt x.Log.Segments : Nat)) + 1) % 3 == 0)))) := Lib.hid (U5.out.trans (Upd.set _ _ _ hgF.out))
    generalize hgw : (World.setCell w5_ ⟨g, q * 6 + 5, none⟩ (.bool (((m + 1 + 1 + 1 + (sumF Segment.cnt x.Log.Segments : Nat)) + 1) % 3 == 0))) = w6_ at foc6 hT3_6 U6 ⊢
    clear hgw cc ff gg foc5 hT3_5 U5
    have hcl := Foc.close foc6 (x' := (⟨⟨(m), (m + 1), (m + 1 + 1), y3⟩, ((m + 1 + 1 + 1 + (sumF Segment.cnt x.Log.Segments : Nat))), (((m + 1 + 1 + 1 + (sumF Segment.cnt x.Log.Segments : Nat)) + 1) % 3 == 0)⟩ : Replica)) (Replica.mkT _ _ hT3_6)
    rw [set_snoc HL.out HX.out] at hcl
    go_roundg (gk - 1)
    case rel => exact ⟨q + 1, (m + 1 + 1 + 1 + (sumF Segment.cnt x.Log.Segments : Nat)) + 1 + 1, done ++ [(⟨⟨(m), (m + 1), (m + 1 + 1), y3⟩, ((m + 1 + 1 + 1 + (sumF Segment.cnt x.Log.Segments : Nat))), (((m + 1 + 1 + 1 + (sumF Segment.cnt x.Log.Segments : Nat)) + 1) % 3 == 0)⟩ : Replica)], by omega, by go_num, rfl, by omega, Lib.hid (by have := HL.out; simp; omega), Lib.hid (HM.out.snoc ⟨_, rfl, rfl, rfl, HM3.out, rfl, rfl, rfl⟩), Lib.hid (by have h := HCX.out; rw [Replica.cnt_eq x] at h; push_cast at h; omega), Lib.hid hcl, U6⟩
    case measure => omega
set_option maxHeartbeats 8000000 in
theorem markIntS_c (w : World) (F : List Nat) (l : List Int) (v : Value) (k : Int) (hT : TS (Ki.int .i64) 3 w F l v) (hF : F.Nodup) (hs : (l.length ≤ 1048576)) (h0 : 0 ≤ k) (h1 : k + sumF (fun _ => 1) l ≤ 1000000000000000) :
    Calls Try.prog 57 #[v, .int .i64 k] w (MarkedS (Ki.int .i64) 3 intR F l.length v k (k + sumF (fun _ => 1) l) w) := by
  have HT := Lib.hid hT
  obtain ⟨A, c, rfl, hc, hcm, hr⟩ := TS_read hT
  clear hT hr
  have HF := Lib.hid hF
  clear hF
  have hl : l.length ≤ 1048576 := hs
  have HS := Lib.hid hs
  clear hs
  have hu := Try.underlying3
  have hu2 := Try.underlying37
  generalize hK : k + (sumF (fun _ => 1) l : Nat) = K at h1 ⊢
  have HK := Lib.hid hK
  clear hK
  go_enter Try.func57, Try.ntmps57
  go_wp2
  go_loopg [1, 5] l.length (fun g v1 v5 wr => ∃ (q : Nat) (m : Int) (done : List Int), q + g = l.length ∧ v5 = .int .i64 q ∧ v1 = .int .i64 m ∧ 0 ≤ m ∧ Hid (done.length = q) ∧ Hid (Mks intR done k m) ∧ Hid (m + sumF (fun _ => 1) (l.drop q) = K) ∧ Hid (TS (Ki.int .i64) 3 wr F (done ++ l.drop q) (.slice A l.length c)) ∧ Hid (Upd F w wr))
  case atStart => exact ⟨0, k, [], by omega, rfl, rfl, h0, Lib.hid rfl, Lib.hid rfl, Lib.hid (by simpa using HK.out), Lib.hid (by simpa using HT.out), Lib.hid (Upd.refl _ _)⟩
  case round =>
    clear HT HK h0
    obtain ⟨q, m, done, hq, rfl, rfl, hm0, HL, HM, HC, HT, HU⟩ := hrel
    by_cases hlt : q < l.length
    case neg =>
      have HE : Hid (m = K) := Lib.hid (by have h := HC.out; rw [List.drop_eq_nil_of_le (by omega)] at h; simpa [sumF] using h)
      go_wp2
      go_ret
      exact ⟨done, by rw [HE.out]; rfl, by have := HL.out; omega, by rw [← HE.out]; exact HM.out, by have h := HT.out; rw [List.drop_eq_nil_of_le (by omega), List.append_nil] at h; exact h, HU.out⟩
    obtain ⟨g, cap, Fi, x, cs, hv, hcap, _, hx, hTx, foc0⟩ := Foc.open HT.out HF.out (i := q) (by have := HL.out; simp; omega)
    have hn2 : (done ++ l.drop q).length = l.length := by have := HL.out; simp; omega
    rw [hn2] at hv foc0 hcap
    have hxl : l[q]? = some x := by rw [List.getElem?_append_right (by have := HL.out; omega), List.getElem?_drop] at hx; simpa [HL.out] using hx
    simp only [Value.slice.injEq] at hv
    obtain ⟨rfl, -, rfl⟩ := hv
    have HX := Lib.hid hxl
    have hcx : m + ((fun _ => 1) x + sumF (fun _ => 1) (l.drop (q + 1)) : Nat) = K := by have h := HC.out; rw [sumF_drop hxl] at h; exact h
    have HCX := Lib.hid hcx
    clear hx hxl hn2
    obtain ⟨rfl, rfl⟩ := hTx
    dsimp only at hcx
    have hnk : m + 1 ≤ K := by omega
    clear hcx
    obtain ⟨c0, f0, gl0⟩ := Foc.cell foc0 0 (by decide)
    have c0' : wr.cell? ⟨g, q, none⟩ = some (.int .i64 x) := by simpa [Ki.int, Ki.scalar] using c0
    have f0' : wr.frozen? ⟨g, q, none⟩ = false := by simpa [Ki.int, Ki.scalar] using f0
    clear c0 f0
    go_wp2
    have hcl := Foc.close (Foc.set foc0 0 (by decide) (.int .i64 m)) (x' := m) ⟨rfl, rfl⟩
    rw [set_snoc HL.out HX.out] at hcl
    have hcl2 : TS (Ki.int .i64) 3 (wr.setCell ⟨g, q, none⟩ (.int .i64 m)) F ((done ++ [m]) ++ l.drop (q + 1)) (.slice (some ⟨g, 0, none⟩) l.length c) := by simpa [Ki.int, Ki.scalar] using hcl
    go_roundg (gk - 1)
    case rel => exact ⟨q + 1, m + 1, done ++ [m], by omega, by go_num, rfl, by omega, Lib.hid (by have := HL.out; simp; omega), Lib.hid (HM.out.snoc ⟨rfl, rfl⟩), Lib.hid (by have h := HCX.out; push_cast at h; omega), Lib.hid hcl2, Lib.hid (HU.out.trans (Upd.set _ _ _ foc0.mem.1))⟩
    case measure => omega
set_option maxHeartbeats 4000000 in
theorem markPart_c (w : World) (x : Part) {v0 : Value} {F0 : List Nat} (g0 : TS kReplica 90 w F0 x.Replicas v0) {v3 : Value} {F3 : List Nat} (g3 : TS (Ki.int .i64) 3 w F3 x.Insync v3) {v4 : Value} {F4 : List Nat} (g4 : TS (Ki.int .i64) 3 w F4 x.Known v4) (hF : ((F0 ++ (F3 ++ (F4))) : List Nat).Nodup) (hs : x.sm) (k : Int) (h0 : 0 ≤ k) (h1 : k + x.cntV ≤ 1000000000000000) :
    Calls Try.prog 22 #[.agg #[v0, .int .i64 x.Leader, .int .i64 x.Epoch, v3, v4, .int .i64 x.Least], .int .i64 k] w fun en w' => ∃ x' : Part, en = .returned (.int .i64 (k + x.cntV)) ∧ x'.mkV k (k + x.cntV) ∧ kPart.T w' (F0 ++ (F3 ++ (F4))) x' [v0, .int .i64 x.Leader, .int .i64 x.Epoch, v3, v4, .int .i64 x.Least] ∧ Upd (F0 ++ (F3 ++ (F4))) w w' := by
  have HS := Lib.hid hs
  clear hs
  have hcv : k + ((sumF Replica.cnt x.Replicas + sumF (fun _ => 1) x.Insync + sumF (fun _ => 1) x.Known : Nat) : Int) ≤ 1000000000000000 := by unfold Part.cntV at h1; exact h1
  push_cast at hcv
  obtain ⟨B0, d0, rfl, lb0, _, _⟩ := TS_read g0
  obtain ⟨B3, d3, rfl, lb3, _, _⟩ := TS_read g3
  obtain ⟨B4, d4, rfl, lb4, _, _⟩ := TS_read g4
  obtain ⟨nd0, ndr0, dj0, dk0⟩ := nd_split hF
  obtain ⟨nd3, ndr3, dj3, dk3⟩ := nd_split ndr0
  have Hn4 := Lib.hid ndr3
  have Hn0 := Lib.hid nd0
  have Hn3 := Lib.hid nd3
  have ds3_0 : Hid (∀ z ∈ F3, z ∉ F0) := Lib.hid (fun z hz => dj0 z (by simp [hz]))
  have ds4_0 : Hid (∀ z ∈ F4, z ∉ F0) := Lib.hid (fun z hz => dj0 z (by simp [hz]))
  have ds0_3 : Hid (∀ z ∈ F0, z ∉ F3) := Lib.hid (fun z hz hh => dk0 z hz (by simp [hh]))
  have ds4_3 : Hid (∀ z ∈ F4, z ∉ F3) := Lib.hid (fun z hz => dj3 z (by simp [hz]))
  have ds0_4 : Hid (∀ z ∈ F0, z ∉ F4) := Lib.hid (fun z hz hh => dk0 z hz (by simp [hh]))
  have ds3_4 : Hid (∀ z ∈ F3, z ∉ F4) := Lib.hid (fun z hz hh => dk3 z hz (by simp [hh]))
  clear hF nd0 ndr0 dj0 dk0 nd3 ndr3 dj3 dk3
  have hBX := Box.new w #[.slice B0 x.Replicas.length d0, .int .i64 x.Leader, .int .i64 x.Epoch, .slice B3 x.Insync.length d3, .slice B4 x.Known.length d4, .int .i64 x.Least] 39
  have hT0_0 := TS_below g0 (below_al w (.cells #[.slice B0 x.Replicas.length d0, .int .i64 x.Leader, .int .i64 x.Epoch, .slice B3 x.Insync.length d3, .slice B4 x.Known.length d4, .int .i64 x.Least] 39))
  have hT3_0 := TS_below g3 (below_al w (.cells #[.slice B0 x.Replicas.length d0, .int .i64 x.Leader, .int .i64 x.Epoch, .slice B3 x.Insync.length d3, .slice B4 x.Known.length d4, .int .i64 x.Least] 39))
  have hT4_0 := TS_below g4 (below_al w (.cells #[.slice B0 x.Replicas.length d0, .int .i64 x.Leader, .int .i64 x.Epoch, .slice B3 x.Insync.length d3, .slice B4 x.Known.length d4, .int .i64 x.Least] 39))
  have U0 : Hid (Upd (F0 ++ (F3 ++ (F4))) w (w.alloc (.cells #[.slice B0 x.Replicas.length d0, .int .i64 x.Leader, .int .i64 x.Epoch, .slice B3 x.Insync.length d3, .slice B4 x.Known.length d4, .int .i64 x.Least] 39))) := Lib.hid (Upd.of_below (below_al _ _))
  have Hlt0 := Lib.hid (TS_lt g0)
  have Hlt3 := Lib.hid (TS_lt g3)
  have Hlt4 := Lib.hid (TS_lt g4)
  go_enter Try.func22, Try.ntmps22
  go_upto_region 1 with fail
  clear hBX
  go_upto_region 2 with (go_at_call 56; refine (markReplicaS_c _ F0 x.Replicas _ _ hT0_0 Hn0.out HS.out.1 (by omega) (by omega)).mono ?_; rintro e w1_ ⟨y0, rfl, hL0, hM0, hTn0, hup⟩; have HM0 := Lib.hid hM0; have HL0 := Lib.hid hL0; clear hM0 hL0; have cq0 : w1_.cell? ⟨w.heap.size, 3, none⟩ = some (.slice B3 x.Insync.length d3) := (upd_cell hup (fun hh => by have := Hlt0.out _ hh; omega) (by simp)); have cr0_2 : w1_.cell? ⟨w.heap.size, 4, none⟩ = some (.slice B4 x.Known.length d4) := (upd_cell hup (fun hh => by have := Hlt0.out _ hh; omega) (by simp)); have hgs0 := World.block_lt_of_cell? w1_ _ cq0; have HUP0 := Lib.hid hup; clear hup)
  have hT0_1 : TS kReplica 90 w1_ F0 y0 (.slice B0 x.Replicas.length d0) := hTn0
  have hT3_1 : TS (Ki.int .i64) 3 w1_ F3 x.Insync (.slice B3 x.Insync.length d3) := TS_upd hT3_0 HUP0.out ds3_0.out
  have hT4_1 : TS (Ki.int .i64) 3 w1_ F4 x.Known (.slice B4 x.Known.length d4) := TS_upd hT4_0 HUP0.out ds4_0.out
  have U1 : Hid (Upd (F0 ++ (F3 ++ (F4))) w w1_) := Lib.hid (U0.out.trans (HUP0.out.mono (fun z hz => by simp [hz])))
  go_upto_region 3 with (go_at_call 57; refine (markIntS_c _ F3 x.Insync _ _ hT3_1 Hn3.out HS.out.2.1 (by omega) (by omega)).mono ?_; rintro e w2_ ⟨y3, rfl, hL3, hM3, hTn3, hup⟩; have HM3 := Lib.hid hM3; have HL3 := Lib.hid hL3; clear hM3 hL3; have cq1 : w2_.cell? ⟨w.heap.size, 4, none⟩ = some (.slice B4 x.Known.length d4) := (upd_cell hup (fun hh => by have := Hlt3.out _ hh; omega) (by assumption)); have hgs1 := World.block_lt_of_cell? w2_ _ cq1; have HUP3 := Lib.hid hup; clear hup)
  have hT0_2 : TS kReplica 90 w2_ F0 y0 (.slice B0 x.Replicas.length d0) := TS_upd hT0_1 HUP3.out ds0_3.out
  have hT3_2 : TS (Ki.int .i64) 3 w2_ F3 y3 (.slice B3 x.Insync.length d3) := hTn3
  have hT4_2 : TS (Ki.int .i64) 3 w2_ F4 x.Known (.slice B4 x.Known.length d4) := TS_upd hT4_1 HUP3.out ds4_3.out
  have U2 : Hid (Upd (F0 ++ (F3 ++ (F4))) w w2_) := Lib.hid (U1.out.trans (HUP3.out.mono (fun z hz => by simp [hz])))
  go_wp2_with (go_at_call 57; refine (markIntS_c _ F4 x.Known _ _ hT4_2 Hn4.out HS.out.2.2 (by omega) (by omega)).mono ?_; rintro e w3_ ⟨y4, rfl, hL4, hM4, hTn4, hup⟩; have HM4 := Lib.hid hM4; have HL4 := Lib.hid hL4; clear hM4 hL4; have HUP4 := Lib.hid hup; clear hup)
  have hT0_3 : TS kReplica 90 w3_ F0 y0 (.slice B0 x.Replicas.length d0) := TS_upd hT0_2 HUP4.out ds0_4.out
  have hT3_3 : TS (Ki.int .i64) 3 w3_ F3 y3 (.slice B3 x.Insync.length d3) := TS_upd hT3_2 HUP4.out ds3_4.out
  have hT4_3 : TS (Ki.int .i64) 3 w3_ F4 y4 (.slice B4 x.Known.length d4) := hTn4
  have U3 : Hid (Upd (F0 ++ (F3 ++ (F4))) w w3_) := Lib.hid (U2.out.trans (HUP4.out.mono (fun z hz => by simp [hz])))
  go_ret
  have hE : k + (x.cntV : Int) = (((k + (sumF Replica.cnt x.Replicas : Nat)) + (sumF (fun _ => 1) x.Insync : Nat)) + (sumF (fun _ => 1) x.Known : Nat)) := by unfold Part.cntV; push_cast; omega
  rw [hE]
  exact ⟨(⟨y0, x.Leader, x.Epoch, y3, y4, x.Least⟩ : Part), rfl, ⟨_, _, _, HM0.out, HM3.out, HM4.out, rfl⟩, Part.mkT _ _ hT0_3 hT3_3 hT4_3, U3.out⟩
set_option maxHeartbeats 8000000 in
theorem markLogS_c (w : World) (F : List Nat) (l : List Log) (v : Value) (k : Int) (hT : TS kLog 59 w F l v) (hF : F.Nodup) (hs : (l.length ≤ 1048576 ∧ ∀ y ∈ l, y.sm)) (h0 : 0 ≤ k) (h1 : k + sumF Log.cnt l ≤ 1000000000000000) :
    Calls Try.prog 62 #[v, .int .i64 k] w (MarkedS kLog 59 Log.mkR F l.length v k (k + sumF Log.cnt l) w) := by
  have HT := Lib.hid hT
  obtain ⟨A, c, rfl, hc, hcm, hr⟩ := TS_read hT
  clear hT hr
  have HF := Lib.hid hF
  clear hF
  have hl : l.length ≤ 1048576 := hs.1
  have HS := Lib.hid hs
  clear hs
  have hu := Try.underlying59
  have hu2 := Try.underlying44
  generalize hK : k + (sumF Log.cnt l : Nat) = K at h1 ⊢
  have HK := Lib.hid hK
  clear hK
  go_enter Try.func62, Try.ntmps62
  go_wp2
  go_loopg [1, 5] l.length (fun g v1 v5 wr => ∃ (q : Nat) (m : Int) (done : List Log), q + g = l.length ∧ v5 = .int .i64 q ∧ v1 = .int .i64 m ∧ 0 ≤ m ∧ Hid (done.length = q) ∧ Hid (Mks Log.mkR done k m) ∧ Hid (m + sumF Log.cnt (l.drop q) = K) ∧ Hid (TS kLog 59 wr F (done ++ l.drop q) (.slice A l.length c)) ∧ Hid (Upd F w wr))
  case atStart => exact ⟨0, k, [], by omega, rfl, rfl, h0, Lib.hid rfl, Lib.hid rfl, Lib.hid (by simpa using HK.out), Lib.hid (by simpa using HT.out), Lib.hid (Upd.refl _ _)⟩
  case round =>
    clear HT HK h0
    obtain ⟨q, m, done, hq, rfl, rfl, hm0, HL, HM, HC, HT, HU⟩ := hrel
    by_cases hlt : q < l.length
    case neg =>
      have HE : Hid (m = K) := Lib.hid (by have h := HC.out; rw [List.drop_eq_nil_of_le (by omega)] at h; simpa [sumF] using h)
      go_wp2
      go_ret
      exact ⟨done, by rw [HE.out]; rfl, by have := HL.out; omega, by rw [← HE.out]; exact HM.out, by have h := HT.out; rw [List.drop_eq_nil_of_le (by omega), List.append_nil] at h; exact h, HU.out⟩
    obtain ⟨g, cap, G3, x, cs, hv, hcap, _, hx, hTx, foc0⟩ := Foc.open HT.out HF.out (i := q) (by have := HL.out; simp; omega)
    have hn2 : (done ++ l.drop q).length = l.length := by have := HL.out; simp; omega
    rw [hn2] at hv foc0 hcap
    have hxl : l[q]? = some x := by rw [List.getElem?_append_right (by have := HL.out; omega), List.getElem?_drop] at hx; simpa [HL.out] using hx
    simp only [Value.slice.injEq] at hv
    obtain ⟨rfl, -, rfl⟩ := hv
    have HX := Lib.hid hxl
    have hcx : m + (Log.cnt x + sumF Log.cnt (l.drop (q + 1)) : Nat) = K := by have h := HC.out; rw [sumF_drop hxl] at h; exact h
    have HCX := Lib.hid hcx
    have Sx := Lib.hid (HS.out.2 x (List.mem_of_getElem? hxl))
    clear hx hxl hn2
    obtain ⟨v3, G_3, rfl, rfl, hT3_0⟩ := Log.opnT hTx
    obtain ⟨B3, d3, rfl, lb3, _, _⟩ := TS_read hT3_0
    have hmem := foc0.mem
    have hgF := Lib.hid hmem.1
    have hgn := hmem.2.1
    have hnd := hmem.2.2.1
    have hsub := Lib.hid hmem.2.2.2
    have Hn3 := Lib.hid hnd
    have Hg3 : Hid (g ∉ G3) := Lib.hid (fun hh => hgn (by simp [hh]))
    clear hgn hnd
    clear hmem
    have hcb : m + ((3 + sumF Segment.cnt x.Segments : Nat) : Int) ≤ K := by unfold Log.cnt at hcx; omega
    push_cast at hcb
    clear hcx
    have U0 := HU
    go_upto_region 4 with fail
    obtain ⟨cc, ff, gg⟩ := Foc.cell foc0 0 (by decide)
    replace cc : World.cell? wr ⟨g, q * 4, none⟩ = some (.int .i64 x.Start) := cc
    replace ff : World.frozen? wr ⟨g, q * 4, none⟩ = false := ff
    go_upto_region 6 with fail
    have foc1 : Foc kLog 59 (World.setCell wr ⟨g, q * 4, none⟩ (.int .i64 (m))) F (G3) g l.length c (done ++ l.drop q) q [.int .i64 (m), .int .i64 x.Next, .int .i64 x.Roll, .slice B3 x.Segments.length d3] := Foc.set foc0 0 (by decide) (.int .i64 (m))
    have hT3_1 : TS kSegment 143 (World.setCell wr ⟨g, q * 4, none⟩ (.int .i64 (m))) G3 x.Segments (.slice B3 x.Segments.length d3) := TS_setn hT3_0 Hg3.out
    have U1 : Hid (Upd F w (World.setCell wr ⟨g, q * 4, none⟩ (.int .i64 (m)))) := Lib.hid (U0.out.trans (Upd.set _ _ _ hgF.out))
    generalize hgw : (World.setCell wr ⟨g, q * 4, none⟩ (.int .i64 (m))) = w1_ at foc1 hT3_1 U1 ⊢
    clear hgw cc ff gg foc0 hT3_0 U0
    obtain ⟨cc, ff, gg⟩ := Foc.cell foc1 1 (by decide)
    replace cc : World.cell? w1_ ⟨g, q * 4 + 1, none⟩ = some (.int .i64 x.Next) := cc
    replace ff : World.frozen? w1_ ⟨g, q * 4 + 1, none⟩ = false := ff
    go_upto_region 8 with fail
    have foc2 : Foc kLog 59 (World.setCell w1_ ⟨g, q * 4 + 1, none⟩ (.int .i64 (m + 1))) F (G3) g l.length c (done ++ l.drop q) q [.int .i64 (m), .int .i64 (m + 1), .int .i64 x.Roll, .slice B3 x.Segments.length d3] := Foc.set foc1 1 (by decide) (.int .i64 (m + 1))
    have hT3_2 : TS kSegment 143 (World.setCell w1_ ⟨g, q * 4 + 1, none⟩ (.int .i64 (m + 1))) G3 x.Segments (.slice B3 x.Segments.length d3) := TS_setn hT3_1 Hg3.out
    have U2 : Hid (Upd F w (World.setCell w1_ ⟨g, q * 4 + 1, none⟩ (.int .i64 (m + 1)))) := Lib.hid (U1.out.trans (Upd.set _ _ _ hgF.out))
    generalize hgw : (World.setCell w1_ ⟨g, q * 4 + 1, none⟩ (.int .i64 (m + 1))) = w2_ at foc2 hT3_2 U2 ⊢
    clear hgw cc ff gg foc1 hT3_1 U1
    obtain ⟨cc, ff, gg⟩ := Foc.cell foc2 2 (by decide)
    replace cc : World.cell? w2_ ⟨g, q * 4 + 2, none⟩ = some (.int .i64 x.Roll) := cc
    replace ff : World.frozen? w2_ ⟨g, q * 4 + 2, none⟩ = false := ff
    go_upto_region 10 with fail
    have foc3 : Foc kLog 59 (World.setCell w2_ ⟨g, q * 4 + 2, none⟩ (.int .i64 (m + 1 + 1))) F (G3) g l.length c (done ++ l.drop q) q [.int .i64 (m), .int .i64 (m + 1), .int .i64 (m + 1 + 1), .slice B3 x.Segments.length d3] := Foc.set foc2 2 (by decide) (.int .i64 (m + 1 + 1))
    have hT3_3 : TS kSegment 143 (World.setCell w2_ ⟨g, q * 4 + 2, none⟩ (.int .i64 (m + 1 + 1))) G3 x.Segments (.slice B3 x.Segments.length d3) := TS_setn hT3_2 Hg3.out
    have U3 : Hid (Upd F w (World.setCell w2_ ⟨g, q * 4 + 2, none⟩ (.int .i64 (m + 1 + 1)))) := Lib.hid (U2.out.trans (Upd.set _ _ _ hgF.out))
    generalize hgw : (World.setCell w2_ ⟨g, q * 4 + 2, none⟩ (.int .i64 (m + 1 + 1))) = w3_ at foc3 hT3_3 U3 ⊢
    clear hgw cc ff gg foc2 hT3_2 U2
    obtain ⟨cc, ff, gg⟩ := Foc.cell foc3 3 (by decide)
    replace cc : World.cell? w3_ ⟨g, q * 4 + 3, none⟩ = some (.slice B3 x.Segments.length d3) := cc
    replace ff : World.frozen? w3_ ⟨g, q * 4 + 3, none⟩ = false := ff
    go_wp2_with (go_at_call 93; refine (markSegmentS_c _ G3 x.Segments _ _ hT3_3 Hn3.out Sx.out (by omega) (by omega)).mono ?_; rintro e w4_ ⟨y3, rfl, hL3, hM3, hTn, hup⟩; have HM3 := Lib.hid hM3; have HL3 := Lib.hid hL3; clear hM3 hL3)
    have foc4 := Foc.upd foc3 (hup.mono (fun z hz => (by simp [hz] : z ∈ (G3))))
    have hT3_4 : TS kSegment 143 w4_ G3 y3 (.slice B3 x.Segments.length d3) := hTn
    have U4 : Hid (Upd F w w4_) := Lib.hid (U3.out.trans (hup.mono (fun z hz => hsub.out z (by simp [hz]))))
    clear cc ff gg foc3 U3 hup hTn
    clear hT3_3
    have hcl := Foc.close foc4 (x' := (⟨(m), (m + 1), (m + 1 + 1), y3⟩ : Log)) (Log.mkT _ _ hT3_4)
    rw [set_snoc HL.out HX.out] at hcl
    go_roundg (gk - 1)
    case rel => exact ⟨q + 1, (m + 1 + 1 + 1 + (sumF Segment.cnt x.Segments : Nat)), done ++ [(⟨(m), (m + 1), (m + 1 + 1), y3⟩ : Log)], by omega, by go_num, rfl, by omega, Lib.hid (by have := HL.out; simp; omega), Lib.hid (HM.out.snoc ⟨_, rfl, rfl, rfl, HM3.out, rfl⟩), Lib.hid (by have h := HCX.out; rw [Log.cnt_eq x] at h; push_cast at h; omega), Lib.hid hcl, U4⟩
    case measure => omega
set_option maxHeartbeats 8000000 in
theorem markTxnS_c (w : World) (F : List Nat) (l : List Txn) (v : Value) (k : Int) (hT : TS kTxn 136 w F l v) (hF : F.Nodup) (hs : (l.length ≤ 1048576 ∧ ∀ y ∈ l, y.sm)) (h0 : 0 ≤ k) (h1 : k + sumF Txn.cnt l ≤ 1000000000000000) :
    Calls Try.prog 63 #[v, .int .i64 k] w (MarkedS kTxn 136 Txn.mkR F l.length v k (k + sumF Txn.cnt l) w) := by
  have HT := Lib.hid hT
  obtain ⟨A, c, rfl, hc, hcm, hr⟩ := TS_read hT
  clear hT hr
  have HF := Lib.hid hF
  clear hF
  have hl : l.length ≤ 1048576 := hs.1
  have HS := Lib.hid hs
  clear hs
  have hu := Try.underlying136
  have hu2 := Try.underlying45
  generalize hK : k + (sumF Txn.cnt l : Nat) = K at h1 ⊢
  have HK := Lib.hid hK
  clear hK
  go_enter Try.func63, Try.ntmps63
  go_wp2
  go_loopg [1, 5] l.length (fun g v1 v5 wr => ∃ (q : Nat) (m : Int) (done : List Txn), q + g = l.length ∧ v5 = .int .i64 q ∧ v1 = .int .i64 m ∧ 0 ≤ m ∧ Hid (done.length = q) ∧ Hid (Mks Txn.mkR done k m) ∧ Hid (m + sumF Txn.cnt (l.drop q) = K) ∧ Hid (TS kTxn 136 wr F (done ++ l.drop q) (.slice A l.length c)) ∧ Hid (Upd F w wr))
  case atStart => exact ⟨0, k, [], by omega, rfl, rfl, h0, Lib.hid rfl, Lib.hid rfl, Lib.hid (by simpa using HK.out), Lib.hid (by simpa using HT.out), Lib.hid (Upd.refl _ _)⟩
  case round =>
    clear HT HK h0
    obtain ⟨q, m, done, hq, rfl, rfl, hm0, HL, HM, HC, HT, HU⟩ := hrel
    by_cases hlt : q < l.length
    case neg =>
      have HE : Hid (m = K) := Lib.hid (by have h := HC.out; rw [List.drop_eq_nil_of_le (by omega)] at h; simpa [sumF] using h)
      go_wp2
      go_ret
      exact ⟨done, by rw [HE.out]; rfl, by have := HL.out; omega, by rw [← HE.out]; exact HM.out, by have h := HT.out; rw [List.drop_eq_nil_of_le (by omega), List.append_nil] at h; exact h, HU.out⟩
    obtain ⟨g, cap, G4, x, cs, hv, hcap, _, hx, hTx, foc0⟩ := Foc.open HT.out HF.out (i := q) (by have := HL.out; simp; omega)
    have hn2 : (done ++ l.drop q).length = l.length := by have := HL.out; simp; omega
    rw [hn2] at hv foc0 hcap
    have hxl : l[q]? = some x := by rw [List.getElem?_append_right (by have := HL.out; omega), List.getElem?_drop] at hx; simpa [HL.out] using hx
    simp only [Value.slice.injEq] at hv
    obtain ⟨rfl, -, rfl⟩ := hv
    have HX := Lib.hid hxl
    have hcx : m + (Txn.cnt x + sumF Txn.cnt (l.drop (q + 1)) : Nat) = K := by have h := HC.out; rw [sumF_drop hxl] at h; exact h
    have HCX := Lib.hid hcx
    have Sx := Lib.hid (HS.out.2 x (List.mem_of_getElem? hxl))
    clear hx hxl hn2
    obtain ⟨v4, G_4, rfl, rfl, hT4_0⟩ := Txn.opnT hTx
    obtain ⟨B4, d4, rfl, lb4, _, _⟩ := TS_read hT4_0
    have hmem := foc0.mem
    have hgF := Lib.hid hmem.1
    have hgn := hmem.2.1
    have hnd := hmem.2.2.1
    have hsub := Lib.hid hmem.2.2.2
    have Hn4 := Lib.hid hnd
    have Hg4 : Hid (g ∉ G4) := Lib.hid (fun hh => hgn (by simp [hh]))
    clear hgn hnd
    clear hmem
    have hcb : m + ((4 + sumF (fun _ => 1) x.Parts : Nat) : Int) ≤ K := by unfold Txn.cnt at hcx; omega
    push_cast at hcb
    clear hcx
    have U0 := HU
    go_upto_region 4 with fail
    go_upto_region 6 with (go_at_call 96; refine (markText_c _ _ (by omega)).mono ?_; rintro e wt ⟨rfl, hbt⟩; have fot := Foc.upd foc0 (Upd.of_below hbt); obtain ⟨cc, ff, gg⟩ := Foc.cell fot 0 (by decide); replace cc : World.cell? wt ⟨g, q * 5, none⟩ = some (.string x.Name) := cc; replace ff : World.frozen? wt ⟨g, q * 5, none⟩ = false := ff)
    have foc1 : Foc kTxn 136 (World.setCell wt ⟨g, q * 5, none⟩ (.string (mtext (m)))) F (G4) g l.length c (done ++ l.drop q) q [.string (mtext (m)), .int .i64 x.Producer, .int .i64 x.Turn, .bool x.Open, .slice B4 x.Parts.length d4] := Foc.set fot 0 (by decide) (.string (mtext (m)))
    have hT4_1 : TS (Ki.int .i64) 3 (World.setCell wt ⟨g, q * 5, none⟩ (.string (mtext (m)))) G4 x.Parts (.slice B4 x.Parts.length d4) := TS_setn (TS_below hT4_0 hbt) Hg4.out
    have U1 : Hid (Upd F w (World.setCell wt ⟨g, q * 5, none⟩ (.string (mtext (m))))) := Lib.hid ((U0.out.trans (Upd.of_below hbt)).trans (Upd.set _ _ _ hgF.out))
    generalize hgw : (World.setCell wt ⟨g, q * 5, none⟩ (.string (mtext (m)))) = w1_ at foc1 hT4_1 U1 ⊢
    clear hgw cc ff gg fot hbt foc0 hT4_0 U0
    obtain ⟨cc, ff, gg⟩ := Foc.cell foc1 1 (by decide)
    replace cc : World.cell? w1_ ⟨g, q * 5 + 1, none⟩ = some (.int .i64 x.Producer) := cc
    replace ff : World.frozen? w1_ ⟨g, q * 5 + 1, none⟩ = false := ff
    go_upto_region 8 with fail
    have foc2 : Foc kTxn 136 (World.setCell w1_ ⟨g, q * 5 + 1, none⟩ (.int .i64 (m + 1))) F (G4) g l.length c (done ++ l.drop q) q [.string (mtext (m)), .int .i64 (m + 1), .int .i64 x.Turn, .bool x.Open, .slice B4 x.Parts.length d4] := Foc.set foc1 1 (by decide) (.int .i64 (m + 1))
    have hT4_2 : TS (Ki.int .i64) 3 (World.setCell w1_ ⟨g, q * 5 + 1, none⟩ (.int .i64 (m + 1))) G4 x.Parts (.slice B4 x.Parts.length d4) := TS_setn hT4_1 Hg4.out
    have U2 : Hid (Upd F w (World.setCell w1_ ⟨g, q * 5 + 1, none⟩ (.int .i64 (m + 1)))) := Lib.hid (U1.out.trans (Upd.set _ _ _ hgF.out))
    generalize hgw : (World.setCell w1_ ⟨g, q * 5 + 1, none⟩ (.int .i64 (m + 1))) = w2_ at foc2 hT4_2 U2 ⊢
    clear hgw cc ff gg foc1 hT4_1 U1
    obtain ⟨cc, ff, gg⟩ := Foc.cell foc2 2 (by decide)
    replace cc : World.cell? w2_ ⟨g, q * 5 + 2, none⟩ = some (.int .i64 x.Turn) := cc
    replace ff : World.frozen? w2_ ⟨g, q * 5 + 2, none⟩ = false := ff
    go_upto_region 10 with fail
    have foc3 : Foc kTxn 136 (World.setCell w2_ ⟨g, q * 5 + 2, none⟩ (.int .i64 (m + 1 + 1))) F (G4) g l.length c (done ++ l.drop q) q [.string (mtext (m)), .int .i64 (m + 1), .int .i64 (m + 1 + 1), .bool x.Open, .slice B4 x.Parts.length d4] := Foc.set foc2 2 (by decide) (.int .i64 (m + 1 + 1))
    have hT4_3 : TS (Ki.int .i64) 3 (World.setCell w2_ ⟨g, q * 5 + 2, none⟩ (.int .i64 (m + 1 + 1))) G4 x.Parts (.slice B4 x.Parts.length d4) := TS_setn hT4_2 Hg4.out
    have U3 : Hid (Upd F w (World.setCell w2_ ⟨g, q * 5 + 2, none⟩ (.int .i64 (m + 1 + 1)))) := Lib.hid (U2.out.trans (Upd.set _ _ _ hgF.out))
    generalize hgw : (World.setCell w2_ ⟨g, q * 5 + 2, none⟩ (.int .i64 (m + 1 + 1))) = w3_ at foc3 hT4_3 U3 ⊢
    clear hgw cc ff gg foc2 hT4_2 U2
    obtain ⟨cc, ff, gg⟩ := Foc.cell foc3 3 (by decide)
    replace cc : World.cell? w3_ ⟨g, q * 5 + 3, none⟩ = some (.bool x.Open) := cc
    replace ff : World.frozen? w3_ ⟨g, q * 5 + 3, none⟩ = false := ff
    go_upto_region 12 with fail
    have foc4 : Foc kTxn 136 (World.setCell w3_ ⟨g, q * 5 + 3, none⟩ (.bool ((m + 1 + 1 + 1) % 3 == 0))) F (G4) g l.length c (done ++ l.drop q) q [.string (mtext (m)), .int .i64 (m + 1), .int .i64 (m + 1 + 1), .bool ((m + 1 + 1 + 1) % 3 == 0), .slice B4 x.Parts.length d4] := Foc.set foc3 3 (by decide) (.bool ((m + 1 + 1 + 1) % 3 == 0))
    have hT4_4 : TS (Ki.int .i64) 3 (World.setCell w3_ ⟨g, q * 5 + 3, none⟩ (.bool ((m + 1 + 1 + 1) % 3 == 0))) G4 x.Parts (.slice B4 x.Parts.length d4) := TS_setn hT4_3 Hg4.out
    have U4 : Hid (Upd F w (World.setCell w3_ ⟨g, q * 5 + 3, none⟩ (.bool ((m + 1 + 1 + 1) % 3 == 0)))) := Lib.hid (U3.out.trans (Upd.set _ _ _ hgF.out))
    generalize hgw : (World.setCell w3_ ⟨g, q * 5 + 3, none⟩ (.bool ((m + 1 + 1 + 1) % 3 == 0))) = w4_ at foc4 hT4_4 U4 ⊢
    clear hgw cc ff gg foc3 hT4_3 U3
    obtain ⟨cc, ff, gg⟩ := Foc.cell foc4 4 (by decide)
    replace cc : World.cell? w4_ ⟨g, q * 5 + 4, none⟩ = some (.slice B4 x.Parts.length d4) := cc
    replace ff : World.frozen? w4_ ⟨g, q * 5 + 4, none⟩ = false := ff
    go_wp2_with (go_at_call 57; refine (markIntS_c _ G4 x.Parts _ _ hT4_4 Hn4.out Sx.out.2 (by omega) (by omega)).mono ?_; rintro e w5_ ⟨y4, rfl, hL4, hM4, hTn, hup⟩; have HM4 := Lib.hid hM4; have HL4 := Lib.hid hL4; clear hM4 hL4)
    have foc5 := Foc.upd foc4 (hup.mono (fun z hz => (by simp [hz] : z ∈ (G4))))
    have hT4_5 : TS (Ki.int .i64) 3 w5_ G4 y4 (.slice B4 x.Parts.length d4) := hTn
    have U5 : Hid (Upd F w w5_) := Lib.hid (U4.out.trans (hup.mono (fun z hz => hsub.out z (by simp [hz]))))
    clear cc ff gg foc4 U4 hup hTn
    clear hT4_4
    have hcl := Foc.close foc5 (x' := (⟨(mtext (m)), (m + 1), (m + 1 + 1), ((m + 1 + 1 + 1) % 3 == 0), y4⟩ : Txn)) (Txn.mkT _ _ hT4_5)
    rw [set_snoc HL.out HX.out] at hcl
    go_roundg (gk - 1)
    case rel => exact ⟨q + 1, (m + 1 + 1 + 1 + 1 + (sumF (fun _ => 1) x.Parts : Nat)), done ++ [(⟨(mtext (m)), (m + 1), (m + 1 + 1), ((m + 1 + 1 + 1) % 3 == 0), y4⟩ : Txn)], by omega, by go_num, rfl, by omega, Lib.hid (by have := HL.out; simp; omega), Lib.hid (HM.out.snoc ⟨_, rfl, rfl, rfl, rfl, HM4.out, rfl⟩), Lib.hid (by have h := HCX.out; rw [Txn.cnt_eq x] at h; push_cast at h; omega), Lib.hid hcl, U5⟩
    case measure => omega
set_option maxHeartbeats 4000000 in
theorem markStore_c (w : World) (x : Store) {v0 : Value} {F0 : List Nat} (g0 : TS kLog 59 w F0 x.Logs v0) {v1 : Value} {F1 : List Nat} (g1 : TS kTxn 136 w F1 x.Txns v1) (hF : ((F0 ++ (F1)) : List Nat).Nodup) (hs : x.sm) (k : Int) (h0 : 0 ≤ k) (h1 : k + x.cntV ≤ 1000000000000000) :
    Calls Try.prog 27 #[.agg #[v0, v1, .int .i64 x.Used], .int .i64 k] w fun en w' => ∃ x' : Store, en = .returned (.int .i64 (k + x.cntV)) ∧ x'.mkV k (k + x.cntV) ∧ kStore.T w' (F0 ++ (F1)) x' [v0, v1, .int .i64 x.Used] ∧ Upd (F0 ++ (F1)) w w' := by
  have HS := Lib.hid hs
  clear hs
  have hcv : k + ((sumF Log.cnt x.Logs + sumF Txn.cnt x.Txns : Nat) : Int) ≤ 1000000000000000 := by unfold Store.cntV at h1; exact h1
  push_cast at hcv
  obtain ⟨B0, d0, rfl, lb0, _, _⟩ := TS_read g0
  obtain ⟨B1, d1, rfl, lb1, _, _⟩ := TS_read g1
  obtain ⟨nd0, ndr0, dj0, dk0⟩ := nd_split hF
  have Hn1 := Lib.hid ndr0
  have Hn0 := Lib.hid nd0
  have ds1_0 : Hid (∀ z ∈ F1, z ∉ F0) := Lib.hid (fun z hz => dj0 z (by simp [hz]))
  have ds0_1 : Hid (∀ z ∈ F0, z ∉ F1) := Lib.hid (fun z hz hh => dk0 z hz (by simp [hh]))
  clear hF nd0 ndr0 dj0 dk0
  have hBX := Box.new w #[.slice B0 x.Logs.length d0, .slice B1 x.Txns.length d1, .int .i64 x.Used] 47
  have hT0_0 := TS_below g0 (below_al w (.cells #[.slice B0 x.Logs.length d0, .slice B1 x.Txns.length d1, .int .i64 x.Used] 47))
  have hT1_0 := TS_below g1 (below_al w (.cells #[.slice B0 x.Logs.length d0, .slice B1 x.Txns.length d1, .int .i64 x.Used] 47))
  have U0 : Hid (Upd (F0 ++ (F1)) w (w.alloc (.cells #[.slice B0 x.Logs.length d0, .slice B1 x.Txns.length d1, .int .i64 x.Used] 47))) := Lib.hid (Upd.of_below (below_al _ _))
  have Hlt0 := Lib.hid (TS_lt g0)
  have Hlt1 := Lib.hid (TS_lt g1)
  go_enter Try.func27, Try.ntmps27
  go_upto_region 1 with fail
  clear hBX
  go_upto_region 2 with (go_at_call 62; refine (markLogS_c _ F0 x.Logs _ _ hT0_0 Hn0.out HS.out.1 (by omega) (by omega)).mono ?_; rintro e w1_ ⟨y0, rfl, hL0, hM0, hTn0, hup⟩; have HM0 := Lib.hid hM0; have HL0 := Lib.hid hL0; clear hM0 hL0; have cq0 : w1_.cell? ⟨w.heap.size, 1, none⟩ = some (.slice B1 x.Txns.length d1) := (upd_cell hup (fun hh => by have := Hlt0.out _ hh; omega) (by simp)); have hgs0 := World.block_lt_of_cell? w1_ _ cq0; have HUP0 := Lib.hid hup; clear hup)
  have hT0_1 : TS kLog 59 w1_ F0 y0 (.slice B0 x.Logs.length d0) := hTn0
  have hT1_1 : TS kTxn 136 w1_ F1 x.Txns (.slice B1 x.Txns.length d1) := TS_upd hT1_0 HUP0.out ds1_0.out
  have U1 : Hid (Upd (F0 ++ (F1)) w w1_) := Lib.hid (U0.out.trans (HUP0.out.mono (fun z hz => by simp [hz])))
  go_wp2_with (go_at_call 63; refine (markTxnS_c _ F1 x.Txns _ _ hT1_1 Hn1.out HS.out.2 (by omega) (by omega)).mono ?_; rintro e w2_ ⟨y1, rfl, hL1, hM1, hTn1, hup⟩; have HM1 := Lib.hid hM1; have HL1 := Lib.hid hL1; clear hM1 hL1; have HUP1 := Lib.hid hup; clear hup)
  have hT0_2 : TS kLog 59 w2_ F0 y0 (.slice B0 x.Logs.length d0) := TS_upd hT0_1 HUP1.out ds0_1.out
  have hT1_2 : TS kTxn 136 w2_ F1 y1 (.slice B1 x.Txns.length d1) := hTn1
  have U2 : Hid (Upd (F0 ++ (F1)) w w2_) := Lib.hid (U1.out.trans (HUP1.out.mono (fun z hz => by simp [hz])))
  go_ret
  have hE : k + (x.cntV : Int) = ((k + (sumF Log.cnt x.Logs : Nat)) + (sumF Txn.cnt x.Txns : Nat)) := by unfold Store.cntV; push_cast; omega
  rw [hE]
  exact ⟨(⟨y0, y1, x.Used⟩ : Store), rfl, ⟨_, _, HM0.out, HM1.out, rfl⟩, Store.mkT _ _ hT0_2 hT1_2, U2.out⟩
end Go.Proofs.Ytenldgbabcjjkaa.H
