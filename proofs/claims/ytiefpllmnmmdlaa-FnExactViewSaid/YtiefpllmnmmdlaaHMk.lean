/-
The laws' own functions mark..: a value of the call's own is marked, number after number. Printed by hlaws.py (this session's own). Conditions: each contract's own premises.
-/
import Derived.Test.YtiefpllmnmmdlaaHMkDef
import Derived.Test.YtiefpllmnmmdlaaProg
namespace Go.Proofs.Ytiefpllmnmmdlaa.H
open Go.RowKit
set_option linter.unusedVariables false
set_option linter.unusedSimpArgs false
set_option maxRecDepth 100000
set_option maxHeartbeats 8000000 in
theorem markHeadS_c (w : World) (F : List Nat) (l : List Head) (v : Value) (k : Int) (hT : TS kHead 127 w F l v) (hF : F.Nodup) (hs : (l.length ≤ 1048576 ∧ ∀ y ∈ l, y.sm)) (h0 : 0 ≤ k) (h1 : k + sumF Head.cnt l ≤ 1000000000000000) :
    Calls Try.prog 86 #[v, .int .i64 k] w (MarkedS kHead 127 Head.mkR F l.length v k (k + sumF Head.cnt l) w) := by
  have HT := Lib.hid hT
  obtain ⟨A, c, rfl, hc, hcm, hr⟩ := TS_read hT
  clear hT hr
  have HF := Lib.hid hF
  clear hF
  have hl : l.length ≤ 1048576 := hs.1
  have HS := Lib.hid hs
  clear hs
  have hu := Try.underlying127
  have hu2 := Try.underlying51
  generalize hK : k + (sumF Head.cnt l : Nat) = K at h1 ⊢
  have HK := Lib.hid hK
  clear hK
  go_enter Try.func86, Try.ntmps86
  go_wp2
  go_loopg [1, 5] l.length (fun g v1 v5 wr => ∃ (q : Nat) (m : Int) (done : List Head), q + g = l.length ∧ v5 = .int .i64 q ∧ v1 = .int .i64 m ∧ 0 ≤ m ∧ Hid (done.length = q) ∧ Hid (Mks Head.mkR done k m) ∧ Hid (m + sumF Head.cnt (l.drop q) = K) ∧ Hid (TS kHead 127 wr F (done ++ l.drop q) (.slice A l.length c)) ∧ Hid (Upd F w wr))
  case atStart => exact ⟨0, k, [], by omega, rfl, rfl, h0, Lib.hid rfl, Lib.hid rfl, Lib.hid (by simpa using HK.out), Lib.hid (by simpa using HT.out), Lib.hid (Upd.refl _ _)⟩
  case round =>
    clear HT HK h0
    obtain ⟨q, m, done, hq, rfl, rfl, hm0, HL, HM, HC, HT, HU⟩ := hrel
    by_cases hlt : q < l.length
    case neg =>
      have HE : Hid (m = K) := Lib.hid (by have h := HC.out; rw [List.drop_eq_nil_of_le (by omega)] at h; simpa [sumF] using h)
      go_wp2
      go_ret
      exact ⟨done, by rw [HE.out]; rfl, by have := HL.out; omega, by rw [← HE.out]; exact HM.out, by have h := HT.out; rw [List.drop_eq_nil_of_le (by omega), List.append_nil] at h; exact h, HU.out⟩
    obtain ⟨g, cap, Fi, x, cs, hv, hcap, _, hx, hTx, foc0⟩ := Foc.open HT.out HF.out (i := q) (by have := HL.out; simp; omega)
    have hn2 : (done ++ l.drop q).length = l.length := by have := HL.out; simp; omega
    rw [hn2] at hv foc0 hcap
    have hxl : l[q]? = some x := by rw [List.getElem?_append_right (by have := HL.out; omega), List.getElem?_drop] at hx; simpa [HL.out] using hx
    simp only [Value.slice.injEq] at hv
    obtain ⟨rfl, -, rfl⟩ := hv
    have HX := Lib.hid hxl
    have hcx : m + (Head.cnt x + sumF Head.cnt (l.drop (q + 1)) : Nat) = K := by have h := HC.out; rw [sumF_drop hxl] at h; exact h
    have HCX := Lib.hid hcx
    have Sx := Lib.hid (HS.out.2 x (List.mem_of_getElem? hxl))
    clear hx hxl hn2
    obtain ⟨rfl, rfl⟩ := Head.opnT hTx
    have hmem := foc0.mem
    have hgF := Lib.hid hmem.1
    clear hmem
    have hcb : m + ((2 : Nat) : Int) ≤ K := by unfold Head.cnt at hcx; omega
    push_cast at hcb
    clear hcx
    have U0 := HU
    go_upto_region 4 with fail
    go_upto_region 6 with (go_at_call 35; refine (markText_c _ _ (by omega)).mono ?_; rintro e wt ⟨rfl, hbt⟩; have fot := Foc.upd foc0 (Upd.of_below hbt); obtain ⟨cc, ff, gg⟩ := Foc.cell fot 0 (by decide); replace cc : World.cell? wt ⟨g, q * 2, none⟩ = some (.string x.Key) := cc; replace ff : World.frozen? wt ⟨g, q * 2, none⟩ = false := ff)
    have foc1 : Foc kHead 127 (World.setCell wt ⟨g, q * 2, none⟩ (.string (mtext (m)))) F [] g l.length c (done ++ l.drop q) q [.string (mtext (m)), .string x.Value] := Foc.set fot 0 (by decide) (.string (mtext (m)))
    have U1 : Hid (Upd F w (World.setCell wt ⟨g, q * 2, none⟩ (.string (mtext (m))))) := Lib.hid ((U0.out.trans (Upd.of_below hbt)).trans (Upd.set _ _ _ hgF.out))
    generalize hgw : (World.setCell wt ⟨g, q * 2, none⟩ (.string (mtext (m)))) = w1_ at foc1 U1 ⊢
    clear hgw cc ff gg fot hbt foc0 U0
    go_wp2_with (go_at_call 35; refine (markText_c _ _ (by omega)).mono ?_; rintro e wt ⟨rfl, hbt⟩; have fot := Foc.upd foc1 (Upd.of_below hbt); obtain ⟨cc, ff, gg⟩ := Foc.cell fot 1 (by decide); replace cc : World.cell? wt ⟨g, q * 2 + 1, none⟩ = some (.string x.Value) := cc; replace ff : World.frozen? wt ⟨g, q * 2 + 1, none⟩ = false := ff)
    have foc2 : Foc kHead 127 (World.setCell wt ⟨g, q * 2 + 1, none⟩ (.string (mtext (m + 1)))) F [] g l.length c (done ++ l.drop q) q [.string (mtext (m)), .string (mtext (m + 1))] := Foc.set fot 1 (by decide) (.string (mtext (m + 1)))
    have U2 : Hid (Upd F w (World.setCell wt ⟨g, q * 2 + 1, none⟩ (.string (mtext (m + 1))))) := Lib.hid ((U1.out.trans (Upd.of_below hbt)).trans (Upd.set _ _ _ hgF.out))
    generalize hgw : (World.setCell wt ⟨g, q * 2 + 1, none⟩ (.string (mtext (m + 1)))) = w2_ at foc2 U2 ⊢
    clear hgw cc ff gg fot hbt foc1 U1
    have hcl := Foc.close foc2 (x' := (⟨(mtext (m)), (mtext (m + 1))⟩ : Head)) (Head.mkT _ _)
    rw [set_snoc HL.out HX.out] at hcl
    go_roundg (gk - 1)
    case rel => exact ⟨q + 1, m + 1 + 1, done ++ [(⟨(mtext (m)), (mtext (m + 1))⟩ : Head)], by omega, by go_num, rfl, by omega, Lib.hid (by have := HL.out; simp; omega), Lib.hid (HM.out.snoc ⟨rfl, rfl, rfl⟩), Lib.hid (by have h := HCX.out; rw [Head.cnt_eq x] at h; push_cast at h; omega), Lib.hid hcl, U2⟩
    case measure => omega
set_option maxHeartbeats 8000000 in
theorem markRecordS_c (w : World) (F : List Nat) (l : List Record) (v : Value) (k : Int) (hT : TS kRecord 53 w F l v) (hF : F.Nodup) (hs : (l.length ≤ 1048576 ∧ ∀ y ∈ l, y.sm)) (h0 : 0 ≤ k) (h1 : k + sumF Record.cnt l ≤ 1000000000000000) :
    Calls Try.prog 60 #[v, .int .i64 k] w (MarkedS kRecord 53 Record.mkR F l.length v k (k + sumF Record.cnt l) w) := by
  have HT := Lib.hid hT
  obtain ⟨A, c, rfl, hc, hcm, hr⟩ := TS_read hT
  clear hT hr
  have HF := Lib.hid hF
  clear hF
  have hl : l.length ≤ 1048576 := hs.1
  have HS := Lib.hid hs
  clear hs
  have hu := Try.underlying53
  have hu2 := Try.underlying46
  generalize hK : k + (sumF Record.cnt l : Nat) = K at h1 ⊢
  have HK := Lib.hid hK
  clear hK
  go_enter Try.func60, Try.ntmps60
  go_wp2
  go_loopg [1, 5] l.length (fun g v1 v5 wr => ∃ (q : Nat) (m : Int) (done : List Record), q + g = l.length ∧ v5 = .int .i64 q ∧ v1 = .int .i64 m ∧ 0 ≤ m ∧ Hid (done.length = q) ∧ Hid (Mks Record.mkR done k m) ∧ Hid (m + sumF Record.cnt (l.drop q) = K) ∧ Hid (TS kRecord 53 wr F (done ++ l.drop q) (.slice A l.length c)) ∧ Hid (Upd F w wr))
  case atStart => exact ⟨0, k, [], by omega, rfl, rfl, h0, Lib.hid rfl, Lib.hid rfl, Lib.hid (by simpa using HK.out), Lib.hid (by simpa using HT.out), Lib.hid (Upd.refl _ _)⟩
  case round =>
    clear HT HK h0
    obtain ⟨q, m, done, hq, rfl, rfl, hm0, HL, HM, HC, HT, HU⟩ := hrel
    by_cases hlt : q < l.length
    case neg =>
      have HE : Hid (m = K) := Lib.hid (by have h := HC.out; rw [List.drop_eq_nil_of_le (by omega)] at h; simpa [sumF] using h)
      go_wp2
      go_ret
      exact ⟨done, by rw [HE.out]; rfl, by have := HL.out; omega, by rw [← HE.out]; exact HM.out, by have h := HT.out; rw [List.drop_eq_nil_of_le (by omega), List.append_nil] at h; exact h, HU.out⟩
    obtain ⟨g, cap, G5, x, cs, hv, hcap, _, hx, hTx, foc0⟩ := Foc.open HT.out HF.out (i := q) (by have := HL.out; simp; omega)
    have hn2 : (done ++ l.drop q).length = l.length := by have := HL.out; simp; omega
    rw [hn2] at hv foc0 hcap
    have hxl : l[q]? = some x := by rw [List.getElem?_append_right (by have := HL.out; omega), List.getElem?_drop] at hx; simpa [HL.out] using hx
    simp only [Value.slice.injEq] at hv
    obtain ⟨rfl, -, rfl⟩ := hv
    have HX := Lib.hid hxl
    have hcx : m + (Record.cnt x + sumF Record.cnt (l.drop (q + 1)) : Nat) = K := by have h := HC.out; rw [sumF_drop hxl] at h; exact h
    have HCX := Lib.hid hcx
    have Sx := Lib.hid (HS.out.2 x (List.mem_of_getElem? hxl))
    clear hx hxl hn2
    obtain ⟨v5, G_5, rfl, rfl, hT5_0⟩ := Record.opnT hTx
    obtain ⟨B5, d5, rfl, lb5, _, _⟩ := TS_read hT5_0
    have hmem := foc0.mem
    have hgF := Lib.hid hmem.1
    have hgn := hmem.2.1
    have hnd := hmem.2.2.1
    have hsub := Lib.hid hmem.2.2.2
    have Hn5 := Lib.hid hnd
    have Hg5 : Hid (g ∉ G5) := Lib.hid (fun hh => hgn (by simp [hh]))
    clear hgn hnd
    clear hmem
    have hcb : m + ((5 + sumF Head.cnt x.Heads : Nat) : Int) ≤ K := by unfold Record.cnt at hcx; omega
    push_cast at hcb
    clear hcx
    have U0 := HU
    go_upto_region 4 with fail
    obtain ⟨cc, ff, gg⟩ := Foc.cell foc0 0 (by decide)
    replace cc : World.cell? wr ⟨g, q * 6, none⟩ = some (.int .i64 x.Time) := cc
    replace ff : World.frozen? wr ⟨g, q * 6, none⟩ = false := ff
    go_upto_region 6 with fail
    have foc1 : Foc kRecord 53 (World.setCell wr ⟨g, q * 6, none⟩ (.int .i64 (m))) F (G5) g l.length c (done ++ l.drop q) q [.int .i64 (m), .bool x.Keyed, .string x.Key, .bool x.Gone, .string x.Value, .slice B5 x.Heads.length d5] := Foc.set foc0 0 (by decide) (.int .i64 (m))
    have hT5_1 : TS kHead 127 (World.setCell wr ⟨g, q * 6, none⟩ (.int .i64 (m))) G5 x.Heads (.slice B5 x.Heads.length d5) := TS_setn hT5_0 Hg5.out
    have U1 : Hid (Upd F w (World.setCell wr ⟨g, q * 6, none⟩ (.int .i64 (m)))) := Lib.hid (U0.out.trans (Upd.set _ _ _ hgF.out))
    generalize hgw : (World.setCell wr ⟨g, q * 6, none⟩ (.int .i64 (m))) = w1_ at foc1 hT5_1 U1 ⊢
    clear hgw cc ff gg foc0 hT5_0 U0
    obtain ⟨cc, ff, gg⟩ := Foc.cell foc1 1 (by decide)
    replace cc : World.cell? w1_ ⟨g, q * 6 + 1, none⟩ = some (.bool x.Keyed) := cc
    replace ff : World.frozen? w1_ ⟨g, q * 6 + 1, none⟩ = false := ff
    go_upto_region 8 with fail
    have foc2 : Foc kRecord 53 (World.setCell w1_ ⟨g, q * 6 + 1, none⟩ (.bool ((m + 1) % 3 == 0))) F (G5) g l.length c (done ++ l.drop q) q [.int .i64 (m), .bool ((m + 1) % 3 == 0), .string x.Key, .bool x.Gone, .string x.Value, .slice B5 x.Heads.length d5] := Foc.set foc1 1 (by decide) (.bool ((m + 1) % 3 == 0))
    have hT5_2 : TS kHead 127 (World.setCell w1_ ⟨g, q * 6 + 1, none⟩ (.bool ((m + 1) % 3 == 0))) G5 x.Heads (.slice B5 x.Heads.length d5) := TS_setn hT5_1 Hg5.out
    have U2 : Hid (Upd F w (World.setCell w1_ ⟨g, q * 6 + 1, none⟩ (.bool ((m + 1) % 3 == 0)))) := Lib.hid (U1.out.trans (Upd.set _ _ _ hgF.out))
    generalize hgw : (World.setCell w1_ ⟨g, q * 6 + 1, none⟩ (.bool ((m + 1) % 3 == 0))) = w2_ at foc2 hT5_2 U2 ⊢
    clear hgw cc ff gg foc1 hT5_1 U1
    go_upto_region 10 with (go_at_call 35; refine (markText_c _ _ (by omega)).mono ?_; rintro e wt ⟨rfl, hbt⟩; have fot := Foc.upd foc2 (Upd.of_below hbt); obtain ⟨cc, ff, gg⟩ := Foc.cell fot 2 (by decide); replace cc : World.cell? wt ⟨g, q * 6 + 2, none⟩ = some (.string x.Key) := cc; replace ff : World.frozen? wt ⟨g, q * 6 + 2, none⟩ = false := ff)
    have foc3 : Foc kRecord 53 (World.setCell wt ⟨g, q * 6 + 2, none⟩ (.string (mtext (m + 1 + 1)))) F (G5) g l.length c (done ++ l.drop q) q [.int .i64 (m), .bool ((m + 1) % 3 == 0), .string (mtext (m + 1 + 1)), .bool x.Gone, .string x.Value, .slice B5 x.Heads.length d5] := Foc.set fot 2 (by decide) (.string (mtext (m + 1 + 1)))
    have hT5_3 : TS kHead 127 (World.setCell wt ⟨g, q * 6 + 2, none⟩ (.string (mtext (m + 1 + 1)))) G5 x.Heads (.slice B5 x.Heads.length d5) := TS_setn (TS_below hT5_2 hbt) Hg5.out
    have U3 : Hid (Upd F w (World.setCell wt ⟨g, q * 6 + 2, none⟩ (.string (mtext (m + 1 + 1))))) := Lib.hid ((U2.out.trans (Upd.of_below hbt)).trans (Upd.set _ _ _ hgF.out))
    generalize hgw : (World.setCell wt ⟨g, q * 6 + 2, none⟩ (.string (mtext (m + 1 + 1)))) = w3_ at foc3 hT5_3 U3 ⊢
    clear hgw cc ff gg fot hbt foc2 hT5_2 U2
    obtain ⟨cc, ff, gg⟩ := Foc.cell foc3 3 (by decide)
    replace cc : World.cell? w3_ ⟨g, q * 6 + 3, none⟩ = some (.bool x.Gone) := cc
    replace ff : World.frozen? w3_ ⟨g, q * 6 + 3, none⟩ = false := ff
    go_upto_region 12 with fail
    have foc4 : Foc kRecord 53 (World.setCell w3_ ⟨g, q * 6 + 3, none⟩ (.bool ((m + 1 + 1 + 1) % 3 == 0))) F (G5) g l.length c (done ++ l.drop q) q [.int .i64 (m), .bool ((m + 1) % 3 == 0), .string (mtext (m + 1 + 1)), .bool ((m + 1 + 1 + 1) % 3 == 0), .string x.Value, .slice B5 x.Heads.length d5] := Foc.set foc3 3 (by decide) (.bool ((m + 1 + 1 + 1) % 3 == 0))
    have hT5_4 : TS kHead 127 (World.setCell w3_ ⟨g, q * 6 + 3, none⟩ (.bool ((m + 1 + 1 + 1) % 3 == 0))) G5 x.Heads (.slice B5 x.Heads.length d5) := TS_setn hT5_3 Hg5.out
    have U4 : Hid (Upd F w (World.setCell w3_ ⟨g, q * 6 + 3, none⟩ (.bool ((m + 1 + 1 + 1) % 3 == 0)))) := Lib.hid (U3.out.trans (Upd.set _ _ _ hgF.out))
    generalize hgw : (World.setCell w3_ ⟨g, q * 6 + 3, none⟩ (.bool ((m + 1 + 1 + 1) % 3 == 0))) = w4_ at foc4 hT5_4 U4 ⊢
    clear hgw cc ff gg foc3 hT5_3 U3
    go_upto_region 14 with (go_at_call 35; refine (markText_c _ _ (by omega)).mono ?_; rintro e wt ⟨rfl, hbt⟩; have fot := Foc.upd foc4 (Upd.of_below hbt); obtain ⟨cc, ff, gg⟩ := Foc.cell fot 4 (by decide); replace cc : World.cell? wt ⟨g, q * 6 + 4, none⟩ = some (.string x.Value) := cc; replace ff : World.frozen? wt ⟨g, q * 6 + 4, none⟩ = false := ff)
    have foc5 : Foc kRecord 53 (World.setCell wt ⟨g, q * 6 + 4, none⟩ (.string (mtext (m + 1 + 1 + 1 + 1)))) F (G5) g l.length c (done ++ l.drop q) q [.int .i64 (m), .bool ((m + 1) % 3 == 0), .string (mtext (m + 1 + 1)), .bool ((m + 1 + 1 + 1) % 3 == 0), .string (mtext (m + 1 + 1 + 1 + 1)), .slice B5 x.Heads.length d5] := Foc.set fot 4 (by decide) (.string (mtext (m + 1 + 1 + 1 + 1)))
    have hT5_5 : TS kHead 127 (World.setCell wt ⟨g, q * 6 + 4, none⟩ (.string (mtext (m + 1 + 1 + 1 + 1)))) G5 x.Heads (.slice B5 x.Heads.length d5) := TS_setn (TS_below hT5_4 hbt) Hg5.out
    have U5 : Hid (Upd F w (World.setCell wt ⟨g, q * 6 + 4, none⟩ (.string (mtext (m + 1 + 1 + 1 + 1))))) := Lib.hid ((U4.out.trans (Upd.of_below hbt)).trans (Upd.set _ _ _ hgF.out))
    generalize hgw : (World.setCell wt ⟨g, q * 6 + 4, none⟩ (.string (mtext (m + 1 + 1 + 1 + 1)))) = w5_ at foc5 hT5_5 U5 ⊢
    clear hgw cc ff gg fot hbt foc4 hT5_4 U4
    obtain ⟨cc, ff, gg⟩ := Foc.cell foc5 5 (by decide)
    replace cc : World.cell? w5_ ⟨g, q * 6 + 5, none⟩ = some (.slice B5 x.Heads.length d5) := cc
    replace ff : World.frozen? w5_ ⟨g, q * 6 + 5, none⟩ = false := ff
    go_wp2_with (go_at_call 86; refine (markHeadS_c _ G5 x.Heads _ _ hT5_5 Hn5.out Sx.out.2.2 (by omega) (by omega)).mono ?_; rintro e w6_ ⟨y5, rfl, hL5, hM5, hTn, hup⟩; have HM5 := Lib.hid hM5; have HL5 := Lib.hid hL5; clear hM5 hL5)
    have foc6 := Foc.upd foc5 (hup.mono (fun z hz => (by simp [hz] : z ∈ (G5))))
    have hT5_6 : TS kHead 127 w6_ G5 y5 (.slice B5 x.Heads.length d5) := hTn
    have U6 : Hid (Upd F w w6_) := Lib.hid (U5.out.trans (hup.mono (fun z hz => hsub.out z (by simp [hz]))))
    clear cc ff gg foc5 U5 hup hTn
    clear hT5_5
    have hcl := Foc.close foc6 (x' := (⟨(m), ((m + 1) % 3 == 0), (mtext (m + 1 + 1)), ((m + 1 + 1 + 1) % 3 == 0), (mtext (m + 1 + 1 + 1 + 1)), y5⟩ : Record)) (Record.mkT _ _ hT5_6)
    rw [set_snoc HL.out HX.out] at hcl
    go_roundg (gk - 1)
    case rel => exact ⟨q + 1, (m + 1 + 1 + 1 + 1 + 1 + (sumF Head.cnt x.Heads : Nat)), done ++ [(⟨(m), ((m + 1) % 3 == 0), (mtext (m + 1 + 1)), ((m + 1 + 1 + 1) % 3 == 0), (mtext (m + 1 + 1 + 1 + 1)), y5⟩ : Record)], by omega, by go_num, rfl, by omega, Lib.hid (by have := HL.out; simp; omega), Lib.hid (HM.out.snoc ⟨_, rfl, rfl, rfl, rfl, rfl, HM5.out, rfl⟩), Lib.hid (by have h := HCX.out; rw [Record.cnt_eq x] at h; push_cast at h; omega), Lib.hid hcl, U6⟩
    case measure => omega
set_option maxHeartbeats 8000000 in
theorem markBatchS_c (w : World) (F : List Nat) (l : List Batch) (v : Value) (k : Int) (hT : TS kBatch 48 w F l v) (hF : F.Nodup) (hs : (l.length ≤ 1048576 ∧ ∀ y ∈ l, y.sm)) (h0 : 0 ≤ k) (h1 : k + sumF Batch.cnt l ≤ 1000000000000000) :
    Calls Try.prog 43 #[v, .int .i64 k] w (MarkedS kBatch 48 Batch.mkR F l.length v k (k + sumF Batch.cnt l) w) := by
  have HT := Lib.hid hT
  obtain ⟨A, c, rfl, hc, hcm, hr⟩ := TS_read hT
  clear hT hr
  have HF := Lib.hid hF
  clear hF
  have hl : l.length ≤ 1048576 := hs.1
  have HS := Lib.hid hs
  clear hs
  have hu := Try.underlying48
  have hu2 := Try.underlying42
  generalize hK : k + (sumF Batch.cnt l : Nat) = K at h1 ⊢
  have HK := Lib.hid hK
  clear hK
  go_enter Try.func43, Try.ntmps43
  go_wp2
  go_loopg [1, 5] l.length (fun g v1 v5 wr => ∃ (q : Nat) (m : Int) (done : List Batch), q + g = l.length ∧ v5 = .int .i64 q ∧ v1 = .int .i64 m ∧ 0 ≤ m ∧ Hid (done.length = q) ∧ Hid (Mks Batch.mkR done k m) ∧ Hid (m + sumF Batch.cnt (l.drop q) = K) ∧ Hid (TS kBatch 48 wr F (done ++ l.drop q) (.slice A l.length c)) ∧ Hid (Upd F w wr))
  case atStart => exact ⟨0, k, [], by omega, rfl, rfl, h0, Lib.hid rfl, Lib.hid rfl, Lib.hid (by simpa using HK.out), Lib.hid (by simpa using HT.out), Lib.hid (Upd.refl _ _)⟩
  case round =>
    clear HT HK h0
    obtain ⟨q, m, done, hq, rfl, rfl, hm0, HL, HM, HC, HT, HU⟩ := hrel
    by_cases hlt : q < l.length
    case neg =>
      have HE : Hid (m = K) := Lib.hid (by have h := HC.out; rw [List.drop_eq_nil_of_le (by omega)] at h; simpa [sumF] using h)
      go_wp2
      go_ret
      exact ⟨done, by rw [HE.out]; rfl, by have := HL.out; omega, by rw [← HE.out]; exact HM.out, by have h := HT.out; rw [List.drop_eq_nil_of_le (by omega), List.append_nil] at h; exact h, HU.out⟩
    obtain ⟨g, cap, G6, x, cs, hv, hcap, _, hx, hTx, foc0⟩ := Foc.open HT.out HF.out (i := q) (by have := HL.out; simp; omega)
    have hn2 : (done ++ l.drop q).length = l.length := by have := HL.out; simp; omega
    rw [hn2] at hv foc0 hcap
    have hxl : l[q]? = some x := by rw [List.getElem?_append_right (by have := HL.out; omega), List.getElem?_drop] at hx; simpa [HL.out] using hx
    simp only [Value.slice.injEq] at hv
    obtain ⟨rfl, -, rfl⟩ := hv
    have HX := Lib.hid hxl
    have hcx : m + (Batch.cnt x + sumF Batch.cnt (l.drop (q + 1)) : Nat) = K := by have h := HC.out; rw [sumF_drop hxl] at h; exact h
    have HCX := Lib.hid hcx
    have Sx := Lib.hid (HS.out.2 x (List.mem_of_getElem? hxl))
    clear hx hxl hn2
    obtain ⟨v6, G_6, rfl, rfl, hT6_0⟩ := Batch.opnT hTx
    obtain ⟨B6, d6, rfl, lb6, _, _⟩ := TS_read hT6_0
    have hmem := foc0.mem
    have hgF := Lib.hid hmem.1
    have hgn := hmem.2.1
    have hnd := hmem.2.2.1
    have hsub := Lib.hid hmem.2.2.2
    have Hn6 := Lib.hid hnd
    have Hg6 : Hid (g ∉ G6) := Lib.hid (fun hh => hgn (by simp [hh]))
    clear hgn hnd
    clear hmem
    have hcb : m + ((6 + sumF Record.cnt x.Records : Nat) : Int) ≤ K := by unfold Batch.cnt at hcx; omega
    push_cast at hcb
    clear hcx
    have U0 := HU
    go_upto_region 4 with fail
    obtain ⟨cc, ff, gg⟩ := Foc.cell foc0 0 (by decide)
    replace cc : World.cell? wr ⟨g, q * 7, none⟩ = some (.int .i64 x.Base) := cc
    replace ff : World.frozen? wr ⟨g, q * 7, none⟩ = false := ff
    go_upto_region 6 with fail
    have foc1 : Foc kBatch 48 (World.setCell wr ⟨g, q * 7, none⟩ (.int .i64 (m))) F (G6) g l.length c (done ++ l.drop q) q [.int .i64 (m), .int .i64 x.Epoch, .int .i64 x.Producer, .int .i64 x.Turn, .int .i64 x.Seq, .int .i64 x.Flags, .slice B6 x.Records.length d6] := Foc.set foc0 0 (by decide) (.int .i64 (m))
    have hT6_1 : TS kRecord 53 (World.setCell wr ⟨g, q * 7, none⟩ (.int .i64 (m))) G6 x.Records (.slice B6 x.Records.length d6) := TS_setn hT6_0 Hg6.out
    have U1 : Hid (Upd F w (World.setCell wr ⟨g, q * 7, none⟩ (.int .i64 (m)))) := Lib.hid (U0.out.trans (Upd.set _ _ _ hgF.out))
    generalize hgw : (World.setCell wr ⟨g, q * 7, none⟩ (.int .i64 (m))) = w1_ at foc1 hT6_1 U1 ⊢
    clear hgw cc ff gg foc0 hT6_0 U0
    obtain ⟨cc, ff, gg⟩ := Foc.cell foc1 1 (by decide)
    replace cc : World.cell? w1_ ⟨g, q * 7 + 1, none⟩ = some (.int .i64 x.Epoch) := cc
    replace ff : World.frozen? w1_ ⟨g, q * 7 + 1, none⟩ = false := ff
    go_upto_region 8 with fail
    have foc2 : Foc kBatch 48 (World.setCell w1_ ⟨g, q * 7 + 1, none⟩ (.int .i64 (m + 1))) F (G6) g l.length c (done ++ l.drop q) q [.int .i64 (m), .int .i64 (m + 1), .int .i64 x.Producer, .int .i64 x.Turn, .int .i64 x.Seq, .int .i64 x.Flags, .slice B6 x.Records.length d6] := Foc.set foc1 1 (by decide) (.int .i64 (m + 1))
    have hT6_2 : TS kRecord 53 (World.setCell w1_ ⟨g, q * 7 + 1, none⟩ (.int .i64 (m + 1))) G6 x.Records (.slice B6 x.Records.length d6) := TS_setn hT6_1 Hg6.out
    have U2 : Hid (Upd F w (World.setCell w1_ ⟨g, q * 7 + 1, none⟩ (.int .i64 (m + 1)))) := Lib.hid (U1.out.trans (Upd.set _ _ _ hgF.out))
    generalize hgw : (World.setCell w1_ ⟨g, q * 7 + 1, none⟩ (.int .i64 (m + 1))) = w2_ at foc2 hT6_2 U2 ⊢
    clear hgw cc ff gg foc1 hT6_1 U1
    obtain ⟨cc, ff, gg⟩ := Foc.cell foc2 2 (by decide)
    replace cc : World.cell? w2_ ⟨g, q * 7 + 2, none⟩ = some (.int .i64 x.Producer) := cc
    replace ff : World.frozen? w2_ ⟨g, q * 7 + 2, none⟩ = false := ff
    go_upto_region 10 with fail
    have foc3 : Foc kBatch 48 (World.setCell w2_ ⟨g, q * 7 + 2, none⟩ (.int .i64 (m + 1 + 1))) F (G6) g l.length c (done ++ l.drop q) q [.int .i64 (m), .int .i64 (m + 1), .int .i64 (m + 1 + 1), .int .i64 x.Turn, .int .i64 x.Seq, .int .i64 x.Flags, .slice B6 x.Records.length d6] := Foc.set foc2 2 (by decide) (.int .i64 (m + 1 + 1))
    have hT6_3 : TS kRecord 53 (World.setCell w2_ ⟨g, q * 7 + 2, none⟩ (.int .i64 (m + 1 + 1))) G6 x.Records (.slice B6 x.Records.length d6) := TS_setn hT6_2 Hg6.out
    have U3 : Hid (Upd F w (World.setCell w2_ ⟨g, q * 7 + 2, none⟩ (.int .i64 (m + 1 + 1)))) := Lib.hid (U2.out.trans (Upd.set _ _ _ hgF.out))
    generalize hgw : (World.setCell w2_ ⟨g, q * 7 + 2, none⟩ (.int .i64 (m + 1 + 1))) = w3_ at foc3 hT6_3 U3 ⊢
    clear hgw cc ff gg foc2 hT6_2 U2
    obtain ⟨cc, ff, gg⟩ := Foc.cell foc3 3 (by decide)
    replace cc : World.cell? w3_ ⟨g, q * 7 + 3, none⟩ = some (.int .i64 x.Turn) := cc
    replace ff : World.frozen? w3_ ⟨g, q * 7 + 3, none⟩ = false := ff
    go_upto_region 12 with fail
    have foc4 : Foc kBatch 48 (World.setCell w3_ ⟨g, q * 7 + 3, none⟩ (.int .i64 (m + 1 + 1 + 1))) F (G6) g l.length c (done ++ l.drop q) q [.int .i64 (m), .int .i64 (m + 1), .int .i64 (m + 1 + 1), .int .i64 (m + 1 + 1 + 1), .int .i64 x.Seq, .int .i64 x.Flags, .slice B6 x.Records.length d6] := Foc.set foc3 3 (by decide) (.int .i64 (m + 1 + 1 + 1))
    have hT6_4 : TS kRecord 53 (World.setCell w3_ ⟨g, q * 7 + 3, none⟩ (.int .i64 (m + 1 + 1 + 1))) G6 x.Records (.slice B6 x.Records.length d6) := TS_setn hT6_3 Hg6.out
    have U4 : Hid (Upd F w (World.setCell w3_ ⟨g, q * 7 + 3, none⟩ (.int .i64 (m + 1 + 1 + 1)))) := Lib.hid (U3.out.trans (Upd.set _ _ _ hgF.out))
    generalize hgw : (World.setCell w3_ ⟨g, q * 7 + 3, none⟩ (.int .i64 (m + 1 + 1 + 1))) = w4_ at foc4 hT6_4 U4 ⊢
    clear hgw cc ff gg foc3 hT6_3 U3
    obtain ⟨cc, ff, gg⟩ := Foc.cell foc4 4 (by decide)
    replace cc : World.cell? w4_ ⟨g, q * 7 + 4, none⟩ = some (.int .i64 x.Seq) := cc
    replace ff : World.frozen? w4_ ⟨g, q * 7 + 4, none⟩ = false := ff
    go_upto_region 14 with fail
    have foc5 : Foc kBatch 48 (World.setCell w4_ ⟨g, q * 7 + 4, none⟩ (.int .i64 (m + 1 + 1 + 1 + 1))) F (G6) g l.length c (done ++ l.drop q) q [.int .i64 (m), .int .i64 (m + 1), .int .i64 (m + 1 + 1), .int .i64 (m + 1 + 1 + 1), .int .i64 (m + 1 + 1 + 1 + 1), .int .i64 x.Flags, .slice B6 x.Records.length d6] := Foc.set foc4 4 (by decide) (.int .i64 (m + 1 + 1 + 1 + 1))
    have hT6_5 : TS kRecord 53 (World.setCell w4_ ⟨g, q * 7 + 4, none⟩ (.int .i64 (m + 1 + 1 + 1 + 1))) G6 x.Records (.slice B6 x.Records.length d6) := TS_setn hT6_4 Hg6.out
    have U5 : Hid (Upd F w (World.setCell w4_ ⟨g, q * 7 + 4, none⟩ (.int .i64 (m + 1 + 1 + 1 + 1)))) := Lib.hid (U4.out.trans (Upd.set _ _ _ hgF.out))
    generalize hgw : (World.setCell w4_ ⟨g, q * 7 + 4, none⟩ (.int .i64 (m + 1 + 1 + 1 + 1))) = w5_ at foc5 hT6_5 U5 ⊢
    clear hgw cc ff gg foc4 hT6_4 U4
    obtain ⟨cc, ff, gg⟩ := Foc.cell foc5 5 (by decide)
    replace cc : World.cell? w5_ ⟨g, q * 7 + 5, none⟩ = some (.int .i64 x.Flags) := cc
    replace ff : World.frozen? w5_ ⟨g, q * 7 + 5, none⟩ = false := ff
    go_upto_region 16 with fail
    have foc6 : Foc kBatch 48 (World.setCell w5_ ⟨g, q * 7 + 5, none⟩ (.int .i64 (m + 1 + 1 + 1 + 1 + 1))) F (G6) g l.length c (done ++ l.drop q) q [.int .i64 (m), .int .i64 (m + 1), .int .i64 (m + 1 + 1), .int .i64 (m + 1 + 1 + 1), .int .i64 (m + 1 + 1 + 1 + 1), .int .i64 (m + 1 + 1 + 1 + 1 + 1), .slice B6 x.Records.length d6] := Foc.set foc5 5 (by decide) (.int .i64 (m + 1 + 1 + 1 + 1 + 1))
    have hT6_6 : TS kRecord 53 (World.setCell w5_ ⟨g, q * 7 + 5, none⟩ (.int .i64 (m + 1 + 1 + 1 + 1 + 1))) G6 x.Records (.slice B6 x.Records.length d6) := TS_setn hT6_5 Hg6.out
    have U6 : Hid (Upd F w (World.setCell w5_ ⟨g, q * 7 + 5, none⟩ (.int .i64 (m + 1 + 1 + 1 + 1 + 1)))) := Lib.hid (U5.out.trans (Upd.set _ _ _ hgF.out))
    generalize hgw : (World.setCell w5_ ⟨g, q * 7 + 5, none⟩ (.int .i64 (m + 1 + 1 + 1 + 1 + 1))) = w6_ at foc6 hT6_6 U6 ⊢
    clear hgw cc ff gg foc5 hT6_5 U5
    obtain ⟨cc, ff, gg⟩ := Foc.cell foc6 6 (by decide)
    replace cc : World.cell? w6_ ⟨g, q * 7 + 6, none⟩ = some (.slice B6 x.Records.length d6) := cc
    replace ff : World.frozen? w6_ ⟨g, q * 7 + 6, none⟩ = false := ff
    go_wp2_with (go_at_call 60; refine (markRecordS_c _ G6 x.Records _ _ hT6_6 Hn6.out Sx.out (by omega) (by omega)).mono ?_; rintro e w7_ ⟨y6, rfl, hL6, hM6, hTn, hup⟩; have HM6 := Lib.hid hM6; have HL6 := Lib.hid hL6; clear hM6 hL6)
    have foc7 := Foc.upd foc6 (hup.mono (fun z hz => (by simp [hz] : z ∈ (G6))))
    have hT6_7 : TS kRecord 53 w7_ G6 y6 (.slice B6 x.Records.length d6) := hTn
    have U7 : Hid (Upd F w w7_) := Lib.hid (U6.out.trans (hup.mono (fun z hz => hsub.out z (by simp [hz]))))
    clear cc ff gg foc6 U6 hup hTn
    clear hT6_6
    have hcl := Foc.close foc7 (x' := (⟨(m), (m + 1), (m + 1 + 1), (m + 1 + 1 + 1), (m + 1 + 1 + 1 + 1), (m + 1 + 1 + 1 + 1 + 1), y6⟩ : Batch)) (Batch.mkT _ _ hT6_7)
    rw [set_snoc HL.out HX.out] at hcl
    go_roundg (gk - 1)
    case rel => exact ⟨q + 1, (m + 1 + 1 + 1 + 1 + 1 + 1 + (sumF Record.cnt x.Records : Nat)), done ++ [(⟨(m), (m + 1), (m + 1 + 1), (m + 1 + 1 + 1), (m + 1 + 1 + 1 + 1), (m + 1 + 1 + 1 + 1 + 1), y6⟩ : Batch)], by omega, by go_num, rfl, by omega, Lib.hid (by have := HL.out; simp; omega), Lib.hid (HM.out.snoc ⟨_, rfl, rfl, rfl, rfl, rfl, rfl, HM6.out, rfl⟩), Lib.hid (by have h := HCX.out; rw [Batch.cnt_eq x] at h; push_cast at h; omega), Lib.hid hcl, U7⟩
    case measure => omega
set_option maxHeartbeats 8000000 in
theorem markSegmentS_c (w : World) (F : List Nat) (l : List Segment) (v : Value) (k : Int) (hT : TS kSegment 45 w F l v) (hF : F.Nodup) (hs : (l.length ≤ 1048576 ∧ ∀ y ∈ l, y.sm)) (h0 : 0 ≤ k) (h1 : k + sumF Segment.cnt l ≤ 1000000000000000) :
    Calls Try.prog 28 #[v, .int .i64 k] w (MarkedS kSegment 45 Segment.mkR F l.length v k (k + sumF Segment.cnt l) w) := by
  have HT := Lib.hid hT
  obtain ⟨A, c, rfl, hc, hcm, hr⟩ := TS_read hT
  clear hT hr
  have HF := Lib.hid hF
  clear hF
  have hl : l.length ≤ 1048576 := hs.1
  have HS := Lib.hid hs
  clear hs
  have hu := Try.underlying45
  have hu2 := Try.underlying26
  generalize hK : k + (sumF Segment.cnt l : Nat) = K at h1 ⊢
  have HK := Lib.hid hK
  clear hK
  go_enter Try.func28, Try.ntmps28
  go_wp2
  go_loopg [1, 5] l.length (fun g v1 v5 wr => ∃ (q : Nat) (m : Int) (done : List Segment), q + g = l.length ∧ v5 = .int .i64 q ∧ v1 = .int .i64 m ∧ 0 ≤ m ∧ Hid (done.length = q) ∧ Hid (Mks Segment.mkR done k m) ∧ Hid (m + sumF Segment.cnt (l.drop q) = K) ∧ Hid (TS kSegment 45 wr F (done ++ l.drop q) (.slice A l.length c)) ∧ Hid (Upd F w wr))
  case atStart => exact ⟨0, k, [], by omega, rfl, rfl, h0, Lib.hid rfl, Lib.hid rfl, Lib.hid (by simpa using HK.out), Lib.hid (by simpa using HT.out), Lib.hid (Upd.refl _ _)⟩
  case round =>
    clear HT HK h0
    obtain ⟨q, m, done, hq, rfl, rfl, hm0, HL, HM, HC, HT, HU⟩ := hrel
    by_cases hlt : q < l.length
    case neg =>
      have HE : Hid (m = K) := Lib.hid (by have h := HC.out; rw [List.drop_eq_nil_of_le (by omega)] at h; simpa [sumF] using h)
      go_wp2
      go_ret
      exact ⟨done, by rw [HE.out]; rfl, by have := HL.out; omega, by rw [← HE.out]; exact HM.out, by have h := HT.out; rw [List.drop_eq_nil_of_le (by omega), List.append_nil] at h; exact h, HU.out⟩
    obtain ⟨g, cap, G1, x, cs, hv, hcap, _, hx, hTx, foc0⟩ := Foc.open HT.out HF.out (i := q) (by have := HL.out; simp; omega)
    have hn2 : (done ++ l.drop q).length = l.length := by have := HL.out; simp; omega
    rw [hn2] at hv foc0 hcap
    have hxl : l[q]? = some x := by rw [List.getElem?_append_right (by have := HL.out; omega), List.getElem?_drop] at hx; simpa [HL.out] using hx
    simp only [Value.slice.injEq] at hv
    obtain ⟨rfl, -, rfl⟩ := hv
    have HX := Lib.hid hxl
    have hcx : m + (Segment.cnt x + sumF Segment.cnt (l.drop (q + 1)) : Nat) = K := by have h := HC.out; rw [sumF_drop hxl] at h; exact h
    have HCX := Lib.hid hcx
    have Sx := Lib.hid (HS.out.2 x (List.mem_of_getElem? hxl))
    clear hx hxl hn2
    obtain ⟨v1, G_1, rfl, rfl, hT1_0⟩ := Segment.opnT hTx
    obtain ⟨B1, d1, rfl, lb1, _, _⟩ := TS_read hT1_0
    have hmem := foc0.mem
    have hgF := Lib.hid hmem.1
    have hgn := hmem.2.1
    have hnd := hmem.2.2.1
    have hsub := Lib.hid hmem.2.2.2
    have Hn1 := Lib.hid hnd
    have Hg1 : Hid (g ∉ G1) := Lib.hid (fun hh => hgn (by simp [hh]))
    clear hgn hnd
    clear hmem
    have hcb : m + ((1 + sumF Batch.cnt x.Batches : Nat) : Int) ≤ K := by unfold Segment.cnt at hcx; omega
    push_cast at hcb
    clear hcx
    have U0 := HU
    go_upto_region 4 with fail
    obtain ⟨cc, ff, gg⟩ := Foc.cell foc0 0 (by decide)
    replace cc : World.cell? wr ⟨g, q * 2, none⟩ = some (.int .i64 x.Base) := cc
    replace ff : World.frozen? wr ⟨g, q * 2, none⟩ = false := ff
    go_upto_region 6 with fail
    have foc1 : Foc kSegment 45 (World.setCell wr ⟨g, q * 2, none⟩ (.int .i64 (m))) F (G1) g l.length c (done ++ l.drop q) q [.int .i64 (m), .slice B1 x.Batches.length d1] := Foc.set foc0 0 (by decide) (.int .i64 (m))
    have hT1_1 : TS kBatch 48 (World.setCell wr ⟨g, q * 2, none⟩ (.int .i64 (m))) G1 x.Batches (.slice B1 x.Batches.length d1) := TS_setn hT1_0 Hg1.out
    have U1 : Hid (Upd F w (World.setCell wr ⟨g, q * 2, none⟩ (.int .i64 (m)))) := Lib.hid (U0.out.trans (Upd.set _ _ _ hgF.out))
    generalize hgw : (World.setCell wr ⟨g, q * 2, none⟩ (.int .i64 (m))) = w1_ at foc1 hT1_1 U1 ⊢
    clear hgw cc ff gg foc0 hT1_0 U0
    obtain ⟨cc, ff, gg⟩ := Foc.cell foc1 1 (by decide)
    replace cc : World.cell? w1_ ⟨g, q * 2 + 1, none⟩ = some (.slice B1 x.Batches.length d1) := cc
    replace ff : World.frozen? w1_ ⟨g, q * 2 + 1, none⟩ = false := ff
    go_wp2_with (go_at_call 43; refine (markBatchS_c _ G1 x.Batches _ _ hT1_1 Hn1.out Sx.out (by omega) (by omega)).mono ?_; rintro e w2_ ⟨y1, rfl, hL1, hM1, hTn, hup⟩; have HM1 := Lib.hid hM1; have HL1 := Lib.hid hL1; clear hM1 hL1)
    have foc2 := Foc.upd foc1 (hup.mono (fun z hz => (by simp [hz] : z ∈ (G1))))
    have hT1_2 : TS kBatch 48 w2_ G1 y1 (.slice B1 x.Batches.length d1) := hTn
    have U2 : Hid (Upd F w w2_) := Lib.hid (U1.out.trans (hup.mono (fun z hz => hsub.out z (by simp [hz]))))
    clear cc ff gg foc1 U1 hup hTn
    clear hT1_1
    have hcl := Foc.close foc2 (x' := (⟨(m), y1⟩ : Segment)) (Segment.mkT _ _ hT1_2)
    rw [set_snoc HL.out HX.out] at hcl
    go_roundg (gk - 1)
    case rel => exact ⟨q + 1, (m + 1 + (sumF Batch.cnt x.Batches : Nat)), done ++ [(⟨(m), y1⟩ : Segment)], by omega, by go_num, rfl, by omega, Lib.hid (by have := HL.out; simp; omega), Lib.hid (HM.out.snoc ⟨_, rfl, HM1.out, rfl⟩), Lib.hid (by have h := HCX.out; rw [Segment.cnt_eq x] at h; push_cast at h; omega), Lib.hid hcl, U2⟩
    case measure => omega
set_option maxHeartbeats 4000000 in
theorem markLog_c (w : World) (x : Log) {v3 : Value} {F3 : List Nat} (g3 : TS kSegment 45 w F3 x.Segments v3) (hF : ((F3) : List Nat).Nodup) (hs : x.sm) (k : Int) (h0 : 0 ≤ k) (h1 : k + x.cntV ≤ 1000000000000000) :
    Calls Try.prog 10 #[.agg #[.int .i64 x.Start, .int .i64 x.Next, .int .i64 x.Roll, v3], .int .i64 k] w fun en w' => ∃ x' : Log, en = .returned (.int .i64 (k + x.cntV)) ∧ x'.mkV k (k + x.cntV) ∧ kLog.T w' (F3) x' [.int .i64 x.Start, .int .i64 x.Next, .int .i64 x.Roll, v3] ∧ Upd (F3) w w' := by
  have HS := Lib.hid hs
  clear hs
  have hcv : k + ((sumF Segment.cnt x.Segments : Nat) : Int) ≤ 1000000000000000 := by unfold Log.cntV at h1; exact h1
  push_cast at hcv
  obtain ⟨B3, d3, rfl, lb3, _, _⟩ := TS_read g3
  have Hn3 := Lib.hid hF
  clear hF
  have hBX := Box.new w #[.int .i64 x.Start, .int .i64 x.Next, .int .i64 x.Roll, .slice B3 x.Segments.length d3] 28
  have hT3_0 := TS_below g3 (below_al w (.cells #[.int .i64 x.Start, .int .i64 x.Next, .int .i64 x.Roll, .slice B3 x.Segments.length d3] 28))
  have U0 : Hid (Upd (F3) w (w.alloc (.cells #[.int .i64 x.Start, .int .i64 x.Next, .int .i64 x.Roll, .slice B3 x.Segments.length d3] 28))) := Lib.hid (Upd.of_below (below_al _ _))
  have Hlt3 := Lib.hid (TS_lt g3)
  go_enter Try.func10, Try.ntmps10
  go_upto_region 1 with fail
  clear hBX
  go_wp2_with (go_at_call 28; refine (markSegmentS_c _ F3 x.Segments _ _ hT3_0 Hn3.out HS.out (by omega) (by omega)).mono ?_; rintro e w1_ ⟨y3, rfl, hL3, hM3, hTn3, hup⟩; have HM3 := Lib.hid hM3; have HL3 := Lib.hid hL3; clear hM3 hL3; have HUP3 := Lib.hid hup; clear hup)
  have hT3_1 : TS kSegment 45 w1_ F3 y3 (.slice B3 x.Segments.length d3) := hTn3
  have U1 : Hid (Upd (F3) w w1_) := Lib.hid (U0.out.trans (HUP3.out.mono (fun z hz => by simp [hz])))
  go_ret
  have hE : k + (x.cntV : Int) = (k + (sumF Segment.cnt x.Segments : Nat)) := by unfold Log.cntV; push_cast; omega
  rw [hE]
  exact ⟨(⟨x.Start, x.Next, x.Roll, y3⟩ : Log), rfl, ⟨_, HM3.out, rfl⟩, Log.mkT _ _ hT3_1, U1.out⟩
set_option maxHeartbeats 8000000 in
theorem markPairS_c (w : World) (F : List Nat) (l : List Pair) (v : Value) (k : Int) (hT : TS kPair 64 w F l v) (hF : F.Nodup) (hs : (l.length ≤ 1048576 ∧ ∀ y ∈ l, y.sm)) (h0 : 0 ≤ k) (h1 : k + sumF Pair.cnt l ≤ 1000000000000000) :
    Calls Try.prog 15 #[v, .int .i64 k] w (MarkedS kPair 64 Pair.mkR F l.length v k (k + sumF Pair.cnt l) w) := by
  have HT := Lib.hid hT
  obtain ⟨A, c, rfl, hc, hcm, hr⟩ := TS_read hT
  clear hT hr
  have HF := Lib.hid hF
  clear hF
  have hl : l.length ≤ 1048576 := hs.1
  have HS := Lib.hid hs
  clear hs
  have hu := Try.underlying64
  have hu2 := Try.underlying35
  generalize hK : k + (sumF Pair.cnt l : Nat) = K at h1 ⊢
  have HK := Lib.hid hK
  clear hK
  go_enter Try.func15, Try.ntmps15
  go_wp2
  go_loopg [1, 5] l.length (fun g v1 v5 wr => ∃ (q : Nat) (m : Int) (done : List Pair), q + g = l.length ∧ v5 = .int .i64 q ∧ v1 = .int .i64 m ∧ 0 ≤ m ∧ Hid (done.length = q) ∧ Hid (Mks Pair.mkR done k m) ∧ Hid (m + sumF Pair.cnt (l.drop q) = K) ∧ Hid (TS kPair 64 wr F (done ++ l.drop q) (.slice A l.length c)) ∧ Hid (Upd F w wr))
  case atStart => exact ⟨0, k, [], by omega, rfl, rfl, h0, Lib.hid rfl, Lib.hid rfl, Lib.hid (by simpa using HK.out), Lib.hid (by simpa using HT.out), Lib.hid (Upd.refl _ _)⟩
  case round =>
    clear HT HK h0
    obtain ⟨q, m, done, hq, rfl, rfl, hm0, HL, HM, HC, HT, HU⟩ := hrel
    by_cases hlt : q < l.length
    case neg =>
      have HE : Hid (m = K) := Lib.hid (by have h := HC.out; rw [List.drop_eq_nil_of_le (by omega)] at h; simpa [sumF] using h)
      go_wp2
      go_ret
      exact ⟨done, by rw [HE.out]; rfl, by have := HL.out; omega, by rw [← HE.out]; exact HM.out, by have h := HT.out; rw [List.drop_eq_nil_of_le (by omega), List.append_nil] at h; exact h, HU.out⟩
    obtain ⟨g, cap, Fi, x, cs, hv, hcap, _, hx, hTx, foc0⟩ := Foc.open HT.out HF.out (i := q) (by have := HL.out; simp; omega)
    have hn2 : (done ++ l.drop q).length = l.length := by have := HL.out; simp; omega
    rw [hn2] at hv foc0 hcap
    have hxl : l[q]? = some x := by rw [List.getElem?_append_right (by have := HL.out; omega), List.getElem?_drop] at hx; simpa [HL.out] using hx
    simp only [Value.slice.injEq] at hv
    obtain ⟨rfl, -, rfl⟩ := hv
    have HX := Lib.hid hxl
    have hcx : m + (Pair.cnt x + sumF Pair.cnt (l.drop (q + 1)) : Nat) = K := by have h := HC.out; rw [sumF_drop hxl] at h; exact h
    have HCX := Lib.hid hcx
    have Sx := Lib.hid (HS.out.2 x (List.mem_of_getElem? hxl))
    clear hx hxl hn2
    obtain ⟨rfl, rfl⟩ := Pair.opnT hTx
    have hmem := foc0.mem
    have hgF := Lib.hid hmem.1
    clear hmem
    have hcb : m + ((2 : Nat) : Int) ≤ K := by unfold Pair.cnt at hcx; omega
    push_cast at hcb
    clear hcx
    have U0 := HU
    go_upto_region 4 with fail
    go_upto_region 6 with (go_at_call 35; refine (markText_c _ _ (by omega)).mono ?_; rintro e wt ⟨rfl, hbt⟩; have fot := Foc.upd foc0 (Upd.of_below hbt); obtain ⟨cc, ff, gg⟩ := Foc.cell fot 0 (by decide); replace cc : World.cell? wt ⟨g, q * 2, none⟩ = some (.string x.Key) := cc; replace ff : World.frozen? wt ⟨g, q * 2, none⟩ = false := ff)
    have foc1 : Foc kPair 64 (World.setCell wt ⟨g, q * 2, none⟩ (.string (mtext (m)))) F [] g l.length c (done ++ l.drop q) q [.string (mtext (m)), .string x.Value] := Foc.set fot 0 (by decide) (.string (mtext (m)))
    have U1 : Hid (Upd F w (World.setCell wt ⟨g, q * 2, none⟩ (.string (mtext (m))))) := Lib.hid ((U0.out.trans (Upd.of_below hbt)).trans (Upd.set _ _ _ hgF.out))
    generalize hgw : (World.setCell wt ⟨g, q * 2, none⟩ (.string (mtext (m)))) = w1_ at foc1 U1 ⊢
    clear hgw cc ff gg fot hbt foc0 U0
    go_wp2_with (go_at_call 35; refine (markText_c _ _ (by omega)).mono ?_; rintro e wt ⟨rfl, hbt⟩; have fot := Foc.upd foc1 (Upd.of_below hbt); obtain ⟨cc, ff, gg⟩ := Foc.cell fot 1 (by decide); replace cc : World.cell? wt ⟨g, q * 2 + 1, none⟩ = some (.string x.Value) := cc; replace ff : World.frozen? wt ⟨g, q * 2 + 1, none⟩ = false := ff)
    have foc2 : Foc kPair 64 (World.setCell wt ⟨g, q * 2 + 1, none⟩ (.string (mtext (m + 1)))) F [] g l.length c (done ++ l.drop q) q [.string (mtext (m)), .string (mtext (m + 1))] := Foc.set fot 1 (by decide) (.string (mtext (m + 1)))
    have U2 : Hid (Upd F w (World.setCell wt ⟨g, q * 2 + 1, none⟩ (.string (mtext (m + 1))))) := Lib.hid ((U1.out.trans (Upd.of_below hbt)).trans (Upd.set _ _ _ hgF.out))
    generalize hgw : (World.setCell wt ⟨g, q * 2 + 1, none⟩ (.string (mtext (m + 1)))) = w2_ at foc2 U2 ⊢
    clear hgw cc ff gg fot hbt foc1 U1
    have hcl := Foc.close foc2 (x' := (⟨(mtext (m)), (mtext (m + 1))⟩ : Pair)) (Pair.mkT _ _)
    rw [set_snoc HL.out HX.out] at hcl
    go_roundg (gk - 1)
    case rel => exact ⟨q + 1, m + 1 + 1, done ++ [(⟨(mtext (m)), (mtext (m + 1))⟩ : Pair)], by omega, by go_num, rfl, by omega, Lib.hid (by have := HL.out; simp; omega), Lib.hid (HM.out.snoc ⟨rfl, rfl, rfl⟩), Lib.hid (by have h := HCX.out; rw [Pair.cnt_eq x] at h; push_cast at h; omega), Lib.hid hcl, U2⟩
    case measure => omega
end Go.Proofs.Ytiefpllmnmmdlaa.H
