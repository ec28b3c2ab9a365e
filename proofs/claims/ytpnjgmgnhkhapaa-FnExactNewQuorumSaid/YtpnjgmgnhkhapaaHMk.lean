/-
The laws' own functions mark..: a value of the call's own is marked, number after number. Printed by hlaws.py (this session's own). Conditions: each contract's own premises.
-/
import Derived.Test.YtpnjgmgnhkhapaaHMkDef
import Derived.Test.YtpnjgmgnhkhapaaProg
namespace Go.Proofs.Ytpnjgmgnhkhapaa.H
open Go.RowKit
set_option linter.unusedVariables false
set_option linter.unusedSimpArgs false
set_option maxRecDepth 100000
set_option maxHeartbeats 8000000 in
theorem markIntS_c (w : World) (F : List Nat) (l : List Int) (v : Value) (k : Int) (hT : TS (Ki.int .i64) 3 w F l v) (hF : F.Nodup) (hs : (l.length ≤ 1048576)) (h0 : 0 ≤ k) (h1 : k + sumF (fun _ => 1) l ≤ 1000000000000000) :
    Calls Try.prog 75 #[v, .int .i64 k] w (MarkedS (Ki.int .i64) 3 intR F l.length v k (k + sumF (fun _ => 1) l) w) := by
  have HT := Lib.hid hT
  obtain ⟨A, c, rfl, hc, hcm, hr⟩ := TS_read hT
  clear hT hr
  have HF := Lib.hid hF
  clear hF
  have hl : l.length ≤ 1048576 := hs
  have HS := Lib.hid hs
  clear hs
  have hu := Try.underlying3
  have hu2 := Try.underlying41
  generalize hK : k + (sumF (fun _ => 1) l : Nat) = K at h1 ⊢
  have HK := Lib.hid hK
  clear hK
  go_enter Try.func75, Try.ntmps75
  go_wp2
  go_loopg [1, 5] l.length (fun g v1 v5 wr => ∃ (q : Nat) (m : Int) (done : List Int), q + g = l.length ∧ v5 = .int .i64 q ∧ v1 = .int .i64 m ∧ 0 ≤ m ∧ Hid (done.length = q) ∧ Hid (Mks intR done k m) ∧ Hid (m + sumF (fun _ => 1) (l.drop q) = K) ∧ Hid (TS (Ki.int .i64) 3 wr F (done ++ l.drop q) (.slice A l.length c)) ∧ Hid (Upd F w wr))
  case atStart => exact ⟨0, k, [], by omega, rfl, rfl, h0, Lib.hid rfl, Lib.hid rfl, Lib.hid (by simpa using HK.out), Lib.hid (by simpa using HT.out), Lib.hid (Upd.refl _ _)⟩
  case round =>
    clear HT HK h0
    obtain ⟨q, m, done, hq, rfl, rfl, hm0, HL, HM, HC, HT, HU⟩ := hrel
    by_cases hlt : q < l.length
    case neg =>
      have HE : Hid (m = K) := Lib.hid (by have h := HC.out; rw [List.drop_eq_nil_of_le (by omega)] at h; simpa [sumF] using h)
      go_wp2
      go_ret
      exact ⟨done, by rw [HE.out]; rfl, by have := HL.out; omega, by rw [← HE.out]; exact HM.out, by have h := HT.out; rw [List.drop_eq_nil_of_le (by omega), List.append_nil] at h; exact h, HU.out⟩
    obtain ⟨g, cap, Fi, x, cs, hv, hcap, _, hx, hTx, foc0⟩ := Foc.open HT.out HF.out (i := q) (by have := HL.out; simp; omega)
    have hn2 : (done ++ l.drop q).length = l.length := by have := HL.out; simp; omega
    rw [hn2] at hv foc0 hcap
    have hxl : l[q]? = some x := by rw [List.getElem?_append_right (by have := HL.out; omega), List.getElem?_drop] at hx; simpa [HL.out] using hx
    simp only [Value.slice.injEq] at hv
    obtain ⟨rfl, -, rfl⟩ := hv
    have HX := Lib.hid hxl
    have hcx : m + ((fun _ => 1) x + sumF (fun _ => 1) (l.drop (q + 1)) : Nat) = K := by have h := HC.out; rw [sumF_drop hxl] at h; exact h
    have HCX := Lib.hid hcx
    clear hx hxl hn2
    obtain ⟨rfl, rfl⟩ := hTx
    dsimp only at hcx
    have hnk : m + 1 ≤ K := by omega
    clear hcx
    obtain ⟨c0, f0, gl0⟩ := Foc.cell foc0 0 (by decide)
    have c0' : wr.cell? ⟨g, q, none⟩ = some (.int .i64 x) := by simpa [Ki.int, Ki.scalar] using c0
    have f0' : wr.frozen? ⟨g, q, none⟩ = false := by simpa [Ki.int, Ki.scalar] using f0
    clear c0 f0
    go_wp2
    have hcl := Foc.close (Foc.set foc0 0 (by decide) (.int .i64 m)) (x' := m) ⟨rfl, rfl⟩
    rw [set_snoc HL.out HX.out] at hcl
    have hcl2 : TS (Ki.int .i64) 3 (wr.setCell ⟨g, q, none⟩ (.int .i64 m)) F ((done ++ [m]) ++ l.drop (q + 1)) (.slice (some ⟨g, 0, none⟩) l.length c) := by simpa [Ki.int, Ki.scalar] using hcl
    go_roundg (gk - 1)
    case rel => exact ⟨q + 1, m + 1, done ++ [m], by omega, by go_num, rfl, by omega, Lib.hid (by have := HL.out; simp; omega), Lib.hid (HM.out.snoc ⟨rfl, rfl⟩), Lib.hid (by have h := HCX.out; push_cast at h; omega), Lib.hid hcl2, Lib.hid (HU.out.trans (Upd.set _ _ _ foc0.mem.1))⟩
    case measure => omega
set_option maxHeartbeats 8000000 in
theorem markCommandS_c (w : World) (F : List Nat) (l : List Command) (v : Value) (k : Int) (hT : TS kCommand 76 w F l v) (hF : F.Nodup) (hs : (l.length ≤ 1048576 ∧ ∀ y ∈ l, y.sm)) (h0 : 0 ≤ k) (h1 : k + sumF Command.cnt l ≤ 1000000000000000) :
    Calls Try.prog 76 #[v, .int .i64 k] w (MarkedS kCommand 76 Command.mkR F l.length v k (k + sumF Command.cnt l) w) := by
  have HT := Lib.hid hT
  obtain ⟨A, c, rfl, hc, hcm, hr⟩ := TS_read hT
  clear hT hr
  have HF := Lib.hid hF
  clear hF
  have hl : l.length ≤ 1048576 := hs.1
  have HS := Lib.hid hs
  clear hs
  have hu := Try.underlying76
  have hu2 := Try.underlying68
  generalize hK : k + (sumF Command.cnt l : Nat) = K at h1 ⊢
  have HK := Lib.hid hK
  clear hK
  go_enter Try.func76, Try.ntmps76
  go_wp2
  go_loopg [1, 5] l.length (fun g v1 v5 wr => ∃ (q : Nat) (m : Int) (done : List Command), q + g = l.length ∧ v5 = .int .i64 q ∧ v1 = .int .i64 m ∧ 0 ≤ m ∧ Hid (done.length = q) ∧ Hid (Mks Command.mkR done k m) ∧ Hid (m + sumF Command.cnt (l.drop q) = K) ∧ Hid (TS kCommand 76 wr F (done ++ l.drop q) (.slice A l.length c)) ∧ Hid (Upd F w wr))
  case atStart => exact ⟨0, k, [], by omega, rfl, rfl, h0, Lib.hid rfl, Lib.hid rfl, Lib.hid (by simpa using HK.out), Lib.hid (by simpa using HT.out), Lib.hid (Upd.refl _ _)⟩
  case round =>
    clear HT HK h0
    obtain ⟨q, m, done, hq, rfl, rfl, hm0, HL, HM, HC, HT, HU⟩ := hrel
    by_cases hlt : q < l.length
    case neg =>
      have HE : Hid (m = K) := Lib.hid (by have h := HC.out; rw [List.drop_eq_nil_of_le (by omega)] at h; simpa [sumF] using h)
      go_wp2
      go_ret
      exact ⟨done, by rw [HE.out]; rfl, by have := HL.out; omega, by rw [← HE.out]; exact HM.out, by have h := HT.out; rw [List.drop_eq_nil_of_le (by omega), List.append_nil] at h; exact h, HU.out⟩
    obtain ⟨g, cap, Fi, x, cs, hv, hcap, _, hx, hTx, foc0⟩ := Foc.open HT.out HF.out (i := q) (by have := HL.out; simp; omega)
    have hn2 : (done ++ l.drop q).length = l.length := by have := HL.out; simp; omega
    rw [hn2] at hv foc0 hcap
    have hxl : l[q]? = some x := by rw [List.getElem?_append_right (by have := HL.out; omega), List.getElem?_drop] at hx; simpa [HL.out] using hx
    simp only [Value.slice.injEq] at hv
    obtain ⟨rfl, -, rfl⟩ := hv
    have HX := Lib.hid hxl
    have hcx : m + (Command.cnt x + sumF Command.cnt (l.drop (q + 1)) : Nat) = K := by have h := HC.out; rw [sumF_drop hxl] at h; exact h
    have HCX := Lib.hid hcx
    have Sx := Lib.hid (HS.out.2 x (List.mem_of_getElem? hxl))
    clear hx hxl hn2
    obtain ⟨rfl, rfl⟩ := Command.opnT hTx
    have hmem := foc0.mem
    have hgF := Lib.hid hmem.1
    clear hmem
    have hcb : m + ((2 : Nat) : Int) ≤ K := by unfold Command.cnt at hcx; omega
    push_cast at hcb
    clear hcx
    have U0 := HU
    go_upto_region 4 with fail
    obtain ⟨cc, ff, gg⟩ := Foc.cell foc0 0 (by decide)
    replace cc : World.cell? wr ⟨g, q * 2, none⟩ = some (.int .i64 x.Term) := cc
    replace ff : World.frozen? wr ⟨g, q * 2, none⟩ = false := ff
    go_upto_region 6 with fail
    have foc1 : Foc kCommand 76 (World.setCell wr ⟨g, q * 2, none⟩ (.int .i64 (m))) F [] g l.length c (done ++ l.drop q) q [.int .i64 (m), .string x.Text] := Foc.set foc0 0 (by decide) (.int .i64 (m))
    have U1 : Hid (Upd F w (World.setCell wr ⟨g, q * 2, none⟩ (.int .i64 (m)))) := Lib.hid (U0.out.trans (Upd.set _ _ _ hgF.out))
    generalize hgw : (World.setCell wr ⟨g, q * 2, none⟩ (.int .i64 (m))) = w1_ at foc1 U1 ⊢
    clear hgw cc ff gg foc0 U0
    go_wp2_with (go_at_call 99; refine (markText_c _ _ (by omega)).mono ?_; rintro e wt ⟨rfl, hbt⟩; have fot := Foc.upd foc1 (Upd.of_below hbt); obtain ⟨cc, ff, gg⟩ := Foc.cell fot 1 (by decide); replace cc : World.cell? wt ⟨g, q * 2 + 1, none⟩ = some (.string x.Text) := cc; replace ff : World.frozen? wt ⟨g, q * 2 + 1, none⟩ = false := ff)
    have foc2 : Foc kCommand 76 (World.setCell wt ⟨g, q * 2 + 1, none⟩ (.string (mtext (m + 1)))) F [] g l.length c (done ++ l.drop q) q [.int .i64 (m), .string (mtext (m + 1))] := Foc.set fot 1 (by decide) (.string (mtext (m + 1)))
    have U2 : Hid (Upd F w (World.setCell wt ⟨g, q * 2 + 1, none⟩ (.string (mtext (m + 1))))) := Lib.hid ((U1.out.trans (Upd.of_below hbt)).trans (Upd.set _ _ _ hgF.out))
    generalize hgw : (World.setCell wt ⟨g, q * 2 + 1, none⟩ (.string (mtext (m + 1)))) = w2_ at foc2 U2 ⊢
    clear hgw cc ff gg fot hbt foc1 U1
    have hcl := Foc.close foc2 (x' := (⟨(m), (mtext (m + 1))⟩ : Command)) (Command.mkT _ _)
    rw [set_snoc HL.out HX.out] at hcl
    go_roundg (gk - 1)
    case rel => exact ⟨q + 1, m + 1 + 1, done ++ [(⟨(m), (mtext (m + 1))⟩ : Command)], by omega, by go_num, rfl, by omega, Lib.hid (by have := HL.out; simp; omega), Lib.hid (HM.out.snoc ⟨rfl, rfl, rfl⟩), Lib.hid (by have h := HCX.out; rw [Command.cnt_eq x] at h; push_cast at h; omega), Lib.hid hcl, U2⟩
    case measure => omega
set_option maxHeartbeats 8000000 in
theorem markVoterS_c (w : World) (F : List Nat) (l : List Voter) (v : Value) (k : Int) (hT : TS kVoter 70 w F l v) (hF : F.Nodup) (hs : (l.length ≤ 1048576 ∧ ∀ y ∈ l, y.sm)) (h0 : 0 ≤ k) (h1 : k + sumF Voter.cnt l ≤ 1000000000000000) :
    Calls Try.prog 44 #[v, .int .i64 k] w (MarkedS kVoter 70 Voter.mkR F l.length v k (k + sumF Voter.cnt l) w) := by
  have HT := Lib.hid hT
  obtain ⟨A, c, rfl, hc, hcm, hr⟩ := TS_read hT
  clear hT hr
  have HF := Lib.hid hF
  clear hF
  have hl : l.length ≤ 1048576 := hs.1
  have HS := Lib.hid hs
  clear hs
  have hu := Try.underlying70
  have hu2 := Try.underlying29
  generalize hK : k + (sumF Voter.cnt l : Nat) = K at h1 ⊢
  have HK := Lib.hid hK
  clear hK
  go_enter Try.func44, Try.ntmps44
  go_wp2
  go_loopg [1, 5] l.length (fun g v1 v5 wr => ∃ (q : Nat) (m : Int) (done : List Voter), q + g = l.length ∧ v5 = .int .i64 q ∧ v1 = .int .i64 m ∧ 0 ≤ m ∧ Hid (done.length = q) ∧ Hid (Mks Voter.mkR done k m) ∧ Hid (m + sumF Voter.cnt (l.drop q) = K) ∧ Hid (TS kVoter 70 wr F (done ++ l.drop q) (.slice A l.length c)) ∧ Hid (Upd F w wr))
  case atStart => exact ⟨0, k, [], by omega, rfl, rfl, h0, Lib.hid rfl, Lib.hid rfl, Lib.hid (by simpa using HK.out), Lib.hid (by simpa using HT.out), Lib.hid (Upd.refl _ _)⟩
  case round =>
    clear HT HK h0
    obtain ⟨q, m, done, hq, rfl, rfl, hm0, HL, HM, HC, HT, HU⟩ := hrel
    by_cases hlt : q < l.length
    case neg =>
      have HE : Hid (m = K) := Lib.hid (by have h := HC.out; rw [List.drop_eq_nil_of_le (by omega)] at h; simpa [sumF] using h)
      go_wp2
      go_ret
      exact ⟨done, by rw [HE.out]; rfl, by have := HL.out; omega, by rw [← HE.out]; exact HM.out, by have h := HT.out; rw [List.drop_eq_nil_of_le (by omega), List.append_nil] at h; exact h, HU.out⟩
    obtain ⟨g, cap, Fi, x, cs, hv, hcap, _, hx, hTx, foc0⟩ := Foc.open HT.out HF.out (i := q) (by have := HL.out; simp; omega)
    have hn2 : (done ++ l.drop q).length = l.length := by have := HL.out; simp; omega
    rw [hn2] at hv foc0 hcap
    have hxl : l[q]? = some x := by rw [List.getElem?_append_right (by have := HL.out; omega), List.getElem?_drop] at hx; simpa [HL.out] using hx
    simp only [Value.slice.injEq] at hv
    obtain ⟨rfl, -, rfl⟩ := hv
    have HX := Lib.hid hxl
    have hcx : m + (Voter.cnt x + sumF Voter.cnt (l.drop (q + 1)) : Nat) = K := by have h := HC.out; rw [sumF_drop hxl] at h; exact h
    have HCX := Lib.hid hcx
    have Sx := Lib.hid (HS.out.2 x (List.mem_of_getElem? hxl))
    clear hx hxl hn2
    obtain ⟨v3, G3, v4, G4, v5, G5, v6, G6, rfl, rfl, hT3_0, hT4_0, hT5_0, hT6_0⟩ := Voter.opnT hTx
    obtain ⟨B3, d3, rfl, lb3, _, _⟩ := TS_read hT3_0
    obtain ⟨B4, d4, rfl, lb4, _, _⟩ := TS_read hT4_0
    obtain ⟨B5, d5, rfl, lb5, _, _⟩ := TS_read hT5_0
    obtain ⟨B6, d6, rfl, lb6, _, _⟩ := TS_read hT6_0
    have hmem := foc0.mem
    have hgF := Lib.hid hmem.1
    have hgn := hmem.2.1
    have hnd := hmem.2.2.1
    have hsub := Lib.hid hmem.2.2.2
    obtain ⟨nd3, ndr3, dj3, dk3⟩ := nd_split hnd
    obtain ⟨nd4, ndr4, dj4, dk4⟩ := nd_split ndr3
    obtain ⟨nd5, ndr5, dj5, dk5⟩ := nd_split ndr4
    have Hn6 := Lib.hid ndr5
    have Hn3 := Lib.hid nd3
    have Hn4 := Lib.hid nd4
    have Hn5 := Lib.hid nd5
    have Hg3 : Hid (g ∉ G3) := Lib.hid (fun hh => hgn (by simp [hh]))
    have Hg4 : Hid (g ∉ G4) := Lib.hid (fun hh => hgn (by simp [hh]))
    have Hg5 : Hid (g ∉ G5) := Lib.hid (fun hh => hgn (by simp [hh]))
    have Hg6 : Hid (g ∉ G6) := Lib.hid (fun hh => hgn (by simp [hh]))
    have ds4_3 : Hid (∀ z ∈ G4, z ∉ G3) := Lib.hid (fun z hz => dj3 z (by simp [hz]))
    have ds5_3 : Hid (∀ z ∈ G5, z ∉ G3) := Lib.hid (fun z hz => dj3 z (by simp [hz]))
    have ds6_3 : Hid (∀ z ∈ G6, z ∉ G3) := Lib.hid (fun z hz => dj3 z (by simp [hz]))
    have ds3_4 : Hid (∀ z ∈ G3, z ∉ G4) := Lib.hid (fun z hz hh => dk3 z hz (by simp [hh]))
    have ds5_4 : Hid (∀ z ∈ G5, z ∉ G4) := Lib.hid (fun z hz => dj4 z (by simp [hz]))
    have ds6_4 : Hid (∀ z ∈ G6, z ∉ G4) := Lib.hid (fun z hz => dj4 z (by simp [hz]))
    have ds3_5 : Hid (∀ z ∈ G3, z ∉ G5) := Lib.hid (fun z hz hh => dk3 z hz (by simp [hh]))
    have ds4_5 : Hid (∀ z ∈ G4, z ∉ G5) := Lib.hid (fun z hz hh => dk4 z hz (by simp [hh]))
    have ds6_5 : Hid (∀ z ∈ G6, z ∉ G5) := Lib.hid (fun z hz => dj5 z (by simp [hz]))
    have ds3_6 : Hid (∀ z ∈ G3, z ∉ G6) := Lib.hid (fun z hz hh => dk3 z hz (by simp [hh]))
    have ds4_6 : Hid (∀ z ∈ G4, z ∉ G6) := Lib.hid (fun z hz hh => dk4 z hz (by simp [hh]))
    have ds5_6 : Hid (∀ z ∈ G5, z ∉ G6) := Lib.hid (fun z hz hh => dk5 z hz (by simp [hh]))
    clear hgn hnd nd3 ndr3 dj3 dk3 nd4 ndr4 dj4 dk4 nd5 ndr5 dj5 dk5
    clear hmem
    have hcb : m + ((4 + sumF (fun _ => 1) x.Votes + sumF Command.cnt x.Log + sumF (fun _ => 1) x.Next + sumF (fun _ => 1) x.Match : Nat) : Int) ≤ K := by unfold Voter.cnt at hcx; omega
    push_cast at hcb
    clear hcx
    have U0 := HU
    go_upto_region 4 with fail
    obtain ⟨cc, ff, gg⟩ := Foc.cell foc0 0 (by decide)
    replace cc : World.cell? wr ⟨g, q * 8, none⟩ = some (.int .i64 x.Term) := cc
    replace ff : World.frozen? wr ⟨g, q * 8, none⟩ = false := ff
    go_upto_region 6 with fail
    have foc1 : Foc kVoter 70 (World.setCell wr ⟨g, q * 8, none⟩ (.int .i64 (m))) F (G3 ++ (G4 ++ (G5 ++ (G6)))) g l.length c (done ++ l.drop q) q [.int .i64 (m), .int .i64 x.Vote, .int .i64 x.Role, .slice B3 x.Votes.length d3, .slice B4 x.Log.length d4, .slice B5 x.Next.length d5, .slice B6 x.Match.length d6, .int .i64 x.Sealed] := Foc.set foc0 0 (by decide) (.int .i64 (m))
    have hT3_1 : TS (Ki.int .i64) 3 (World.setCell wr ⟨g, q * 8, none⟩ (.int .i64 (m))) G3 x.Votes (.slice B3 x.Votes.length d3) := TS_setn hT3_0 Hg3.out
    have hT4_1 : TS kCommand 76 (World.setCell wr ⟨g, q * 8, none⟩ (.int .i64 (m))) G4 x.Log (.slice B4 x.Log.length d4) := TS_setn hT4_0 Hg4.out
    have hT5_1 : TS (Ki.int .i64) 3 (World.setCell wr ⟨g, q * 8, none⟩ (.int .i64 (m))) G5 x.Next (.slice B5 x.Next.length d5) := TS_setn hT5_0 Hg5.out
    have hT6_1 : TS (Ki.int .i64) 3 (World.setCell wr ⟨g, q * 8, none⟩ (.int .i64 (m))) G6 x.Match (.slice B6 x.Match.length d6) := TS_setn hT6_0 Hg6.out
    have U1 : Hid (Upd F w (World.setCell wr ⟨g, q * 8, none⟩ (.int .i64 (m)))) := Lib.hid (U0.out.trans (Upd.set _ _ _ hgF.out))
    generalize hgw : (World.setCell wr ⟨g, q * 8, none⟩ (.int .i64 (m))) = w1_ at foc1 hT3_1 hT4_1 hT5_1 hT6_1 U1 ⊢
    clear hgw cc ff gg foc0 hT3_0 hT4_0 hT5_0 hT6_0 U0
    obtain ⟨cc, ff, gg⟩ := Foc.cell foc1 1 (by decide)
    replace cc : World.cell? w1_ ⟨g, q * 8 + 1, none⟩ = some (.int .i64 x.Vote) := cc
    replace ff : World.frozen? w1_ ⟨g, q * 8 + 1, none⟩ = false := ff
    go_upto_region 8 with fail
    have foc2 : Foc kVoter 70 (World.setCell w1_ ⟨g, q * 8 + 1, none⟩ (.int .i64 (m + 1))) F (G3 ++ (G4 ++ (G5 ++ (G6)))) g l.length c (done ++ l.drop q) q [.int .i64 (m), .int .i64 (m + 1), .int .i64 x.Role, .slice B3 x.Votes.length d3, .slice B4 x.Log.length d4, .slice B5 x.Next.length d5, .slice B6 x.Match.length d6, .int .i64 x.Sealed] := Foc.set foc1 1 (by decide) (.int .i64 (m + 1))
    have hT3_2 : TS (Ki.int .i64) 3 (World.setCell w1_ ⟨g, q * 8 + 1, none⟩ (.int .i64 (m + 1))) G3 x.Votes (.slice B3 x.Votes.length d3) := TS_setn hT3_1 Hg3.out
    have hT4_2 : TS kCommand 76 (World.setCell w1_ ⟨g, q * 8 + 1, none⟩ (.int .i64 (m + 1))) G4 x.Log (.slice B4 x.Log.length d4) := TS_setn hT4_1 Hg4.out
    have hT5_2 : TS (Ki.int .i64) 3 (World.setCell w1_ ⟨g, q * 8 + 1, none⟩ (.int .i64 (m + 1))) G5 x.Next (.slice B5 x.Next.length d5) := TS_setn hT5_1 Hg5.out
    have hT6_2 : TS (Ki.int .i64) 3 (World.setCell w1_ ⟨g, q * 8 + 1, none⟩ (.int .i64 (m + 1))) G6 x.Match (.slice B6 x.Match.length d6) := TS_setn hT6_1 Hg6.out
    have U2 : Hid (Upd F w (World.setCell w1_ ⟨g, q * 8 + 1, none⟩ (.int .i64 (m + 1)))) := Lib.hid (U1.out.trans (Upd.set _ _ _ hgF.out))
    generalize hgw : (World.setCell w1_ ⟨g, q * 8 + 1, none⟩ (.int .i64 (m + 1))) = w2_ at foc2 hT3_2 hT4_2 hT5_2 hT6_2 U2 ⊢
    clear hgw cc ff gg foc1 hT3_1 hT4_1 hT5_1 hT6_1 U1
    obtain ⟨cc, ff, gg⟩ := Foc.cell foc2 2 (by decide)
    replace cc : World.cell? w2_ ⟨g, q * 8 + 2, none⟩ = some (.int .i64 x.Role) := cc
    replace ff : World.frozen? w2_ ⟨g, q * 8 + 2, none⟩ = false := ff
    go_upto_region 10 with fail
    have foc3 : Foc kVoter 70 (World.setCell w2_ ⟨g, q * 8 + 2, none⟩ (.int .i64 (m + 1 + 1))) F (G3 ++ (G4 ++ (G5 ++ (G6)))) g l.length c (done ++ l.drop q) q [.int .i64 (m), .int .i64 (m + 1), .int .i64 (m + 1 + 1), .slice B3 x.Votes.length d3, .slice B4 x.Log.length d4, .slice B5 x.Next.length d5, .slice B6 x.Match.length d6, .int .i64 x.Sealed] := Foc.set foc2 2 (by decide) (.int .i64 (m + 1 + 1))
    have hT3_3 : TS (Ki.int .i64) 3 (World.setCell w2_ ⟨g, q * 8 + 2, none⟩ (.int .i64 (m + 1 + 1))) G3 x.Votes (.slice B3 x.Votes.length d3) := TS_setn hT3_2 Hg3.out
    have hT4_3 : TS kCommand 76 (World.setCell w2_ ⟨g, q * 8 + 2, none⟩ (.int .i64 (m + 1 + 1))) G4 x.Log (.slice B4 x.Log.length d4) := TS_setn hT4_2 Hg4.out
    have hT5_3 : TS (Ki.int .i64) 3 (World.setCell w2_ ⟨g, q * 8 + 2, none⟩ (.int .i64 (m + 1 + 1))) G5 x.Next (.slice B5 x.Next.length d5) := TS_setn hT5_2 Hg5.out
    have hT6_3 : TS (Ki.int .i64) 3 (World.setCell w2_ ⟨g, q * 8 + 2, none⟩ (.int .i64 (m + 1 + 1))) G6 x.Match (.slice B6 x.Match.length d6) := TS_setn hT6_2 Hg6.out
    have U3 : Hid (Upd F w (World.setCell w2_ ⟨g, q * 8 + 2, none⟩ (.int .i64 (m + 1 + 1)))) := Lib.hid (U2.out.trans (Upd.set _ _ _ hgF.out))
    generalize hgw : (World.setCell w2_ ⟨g, q * 8 + 2, none⟩ (.int .i64 (m + 1 + 1))) = w3_ at foc3 hT3_3 hT4_3 hT5_3 hT6_3 U3 ⊢
    clear hgw cc ff gg foc2 hT3_2 hT4_2 hT5_2 hT6_2 U2
    obtain ⟨cc, ff, gg⟩ := Foc.cell foc3 3 (by decide)
    replace cc : World.cell? w3_ ⟨g, q * 8 + 3, none⟩ = some (.slice B3 x.Votes.length d3) := cc
    replace ff : World.frozen? w3_ ⟨g, q * 8 + 3, none⟩ = false := ff
    go_upto_region 11 with (go_at_call 75; refine (markIntS_c _ G3 x.Votes _ _ hT3_3 Hn3.out Sx.out.1 (by omega) (by omega)).mono ?_; rintro e w4_ ⟨y3, rfl, hL3, hM3, hTn, hup⟩; have HM3 := Lib.hid hM3; have HL3 := Lib.hid hL3; clear hM3 hL3)
    have foc4 := Foc.upd foc3 (hup.mono (fun z hz => (by simp [hz] : z ∈ (G3 ++ (G4 ++ (G5 ++ (G6)))))))
    have hT3_4 : TS (Ki.int .i64) 3 w4_ G3 y3 (.slice B3 x.Votes.length d3) := hTn
    have hT4_4 : TS kCommand 76 w4_ G4 x.Log (.slice B4 x.Log.length d4) := TS_upd hT4_3 hup ds4_3.out
    have hT5_4 : TS (Ki.int .i64) 3 w4_ G5 x.Next (.slice B5 x.Next.length d5) := TS_upd hT5_3 hup ds5_3.out
    have hT6_4 : TS (Ki.int .i64) 3 w4_ G6 x.Match (.slice B6 x.Match.length d6) := TS_upd hT6_3 hup ds6_3.out
    have U4 : Hid (Upd F w w4_) := Lib.hid (U3.out.trans (hup.mono (fun z hz => hsub.out z (by simp [hz]))))
    clear cc ff gg foc3 hT4_3 hT5_3 hT6_3 U3 hup hTn
    clear hT3_3
    obtain ⟨cc, ff, gg⟩ := Foc.cell foc4 4 (by decide)
    replace cc : World.cell? w4_ ⟨g, q * 8 + 4, none⟩ = some (.slice B4 x.Log.length d4) := cc
    replace ff : World.frozen? w4_ ⟨g, q * 8 + 4, none⟩ = false := ff
    go_upto_region 12 with (go_at_call 76; refine (markCommandS_c _ G4 x.Log _ _ hT4_4 Hn4.out Sx.out.2.1 (by omega) (by omega)).mono ?_; rintro e w5_ ⟨y4, rfl, hL4, hM4, hTn, hup⟩; have HM4 := Lib.hid hM4; have HL4 := Lib.hid hL4; clear hM4 hL4)
    have foc5 := Foc.upd foc4 (hup.mono (fun z hz => (by simp [hz] : z ∈ (G3 ++ (G4 ++ (G5 ++ (G6)))))))
    have hT3_5 : TS (Ki.int .i64) 3 w5_ G3 y3 (.slice B3 x.Votes.length d3) := TS_upd hT3_4 hup ds3_4.out
    have hT4_5 : TS kCommand 76 w5_ G4 y4 (.slice B4 x.Log.length d4) := hTn
    have hT5_5 : TS (Ki.int .i64) 3 w5_ G5 x.Next (.slice B5 x.Next.length d5) := TS_upd hT5_4 hup ds5_4.out
    have hT6_5 : TS (Ki.int .i64) 3 w5_ G6 x.Match (.slice B6 x.Match.length d6) := TS_upd hT6_4 hup ds6_4.out
    have U5 : Hid (Upd F w w5_) := Lib.hid (U4.out.trans (hup.mono (fun z hz => hsub.out z (by simp [hz]))))
    clear cc ff gg foc4 hT3_4 hT5_4 hT6_4 U4 hup hTn
    clear hT4_4
    obtain ⟨cc, ff, gg⟩ := Foc.cell foc5 5 (by decide)
    replace cc : World.cell? w5_ ⟨g, q * 8 + 5, none⟩ = some (.slice B5 x.Next.length d5) := cc
    replace ff : World.frozen? w5_ ⟨g, q * 8 + 5, none⟩ = false := ff
    go_upto_region 13 with (go_at_call 75; refine (markIntS_c _ G5 x.Next _ _ hT5_5 Hn5.out Sx.out.2.2.1 (by omega) (by omega)).mono ?_; rintro e w6_ ⟨y5, rfl, hL5, hM5, hTn, hup⟩; have HM5 := Lib.hid hM5; have HL5 := Lib.hid hL5; clear hM5 hL5)
    have foc6 := Foc.upd foc5 (hup.mono (fun z hz => (by simp [hz] : z ∈ (G3 ++ (G4 ++ (G5 ++ (G6)))))))
    have hT3_6 : TS (Ki.int .i64) 3 w6_ G3 y3 (.slice B3 x.Votes.length d3) := TS_upd hT3_5 hup ds3_5.out
    have hT4_6 : TS kCommand 76 w6_ G4 y4 (.slice B4 x.Log.length d4) := TS_upd hT4_5 hup ds4_5.out
    have hT5_6 : TS (Ki.int .i64) 3 w6_ G5 y5 (.slice B5 x.Next.length d5) := hTn
    have hT6_6 : TS (Ki.int .i64) 3 w6_ G6 x.Match (.slice B6 x.Match.length d6) := TS_upd hT6_5 hup ds6_5.out
    have U6 : Hid (Upd F w w6_) := Lib.hid (U5.out.trans (hup.mono (fun z hz => hsub.out z (by simp [hz]))))
    clear cc ff gg foc5 hT3_5 hT4_5 hT6_5 U5 hup hTn
    clear hT5_5
    obtain ⟨cc, ff, gg⟩ := Foc.cell foc6 6 (by decide)
    replace cc : World.cell? w6_ ⟨g, q * 8 + 6, none⟩ = some (.slice B6 x.Match.length d6) := cc
    replace ff : World.frozen? w6_ ⟨g, q * 8 + 6, none⟩ = false := ff
    go_upto_region 14 with (go_at_call 75; refine (markIntS_c _ G6 x.Match _ _ hT6_6 Hn6.out Sx.out.2.2.2 (by omega) (by omega)).mono ?_; rintro e w7_ ⟨y6, rfl, hL6, hM6, hTn, hup⟩; have HM6 := Lib.hid hM6; have HL6 := Lib.hid hL6; clear hM6 hL6)
    have foc7 := Foc.upd foc6 (hup.mono (fun z hz => (by simp [hz] : z ∈ (G3 ++ (G4 ++ (G5 ++ (G6)))))))
    have hT3_7 : TS (Ki.int .i64) 3 w7_ G3 y3 (.slice B3 x.Votes.length d3) := TS_upd hT3_6 hup ds3_6.out
    have hT4_7 : TS kCommand 76 w7_ G4 y4 (.slice B4 x.Log.length d4) := TS_upd hT4_6 hup ds4_6.out
    have hT5_7 : TS (Ki.int .i64) 3 w7_ G5 y5 (.slice B5 x.Next.length d5) := TS_upd hT5_6 hup ds5_6.out
    have hT6_7 : TS (Ki.int .i64) 3 w7_ G6 y6 (.slice B6 x.Match.length d6) := hTn
    have U7 : Hid (Upd F w w7_) := Lib.hid (U6.out.trans (hup.mono (fun z hz => hsub.out z (by simp [hz]))))
    clear cc ff gg foc6 hT3_6 hT4_6 hT5_6 U6 hup hTn
    clear hT6_6
    obtain ⟨cc, ff, gg⟩ := Foc.cell foc7 7 (by decide)
    replace cc : World.cell? w7_ ⟨g, q * 8 + 7, none⟩ = some (.int .i64 x.Sealed) := cc
    replace ff : World.frozen? w7_ ⟨g, q * 8 + 7, none⟩ = false := ff
    go_wp2
    have foc8 : Foc kVoter 70 (World.setCell w7_ ⟨g, q * 8 + 7, none⟩ (.int .i64 (((((m + 1 + 1 + 1 + (sumF (fun _ => 1) x.Votes : Nat)) + (sumF Command.cnt x.Log : Nat)) + (sumF (fun _ => 1) x.Next : Nat)) + (sumF (fun _ => 1) x.Match : Nat))))) F (G3 ++ (G4 ++ (G5 ++ (G6)))) g l.length c (done ++ l.drop q) q [.int .i64 (m), .int .i64 (m + 1), .int .i64 (m + 1 + 1), .slice B3 x.Votes.length d3, .slice B4 x.Log.length d4, .slice B5 x.Next.length d5, .slice B6 x.Match.length d6, .int .i64 (((((m + 1 + 1 + 1 + (sumF (fun _ => 1) x.Votes : Nat)) + (sumF Command.cnt x.Log : Nat)) + (sumF (fun _ => 1) x.Next : Nat)) + (sumF (fun _ => 1) x.Match : Nat)))] := Foc.set foc7 7 (by decide) (.int .i64 (((((m + 1 + 1 + 1 + (sumF (fun _ => 1) x.Votes : Nat)) + (sumF Command.cnt x.Log : Nat)) + (sumF (fun _ => 1) x.Next : Nat)) + (sumF (fun _ => 1) x.Match : Nat))))
    have hT3_8 : TS (Ki.int .i64) 3 (World.setCell w7_ ⟨g, q * 8 + 7, none⟩ (.int .i64 (((((m + 1 + 1 + 1 + (sumF (fun _ => 1) x.Votes : Nat)) + (sumF Command.cnt x.Log : Nat)) + (sumF (fun _ => 1) x.Next : Nat)) + (sumF (fun _ => 1) x.Match : Nat))))) G3 y3 (.slice B3 x.Votes.length d3) := TS_setn hT3_7 Hg3.out
    have hT4_8 : TS kCommand 76 (World.setCell w7_ ⟨g, q * 8 + 7, none⟩ (.int .i64 (((((m + 1 + 1 + 1 + (sumF (fun _ => 1) x.Votes : Nat)) + (sumF Command.cnt x.Log : Nat)) + (sumF (fun _ => 1) x.Next : Nat)) + (sumF (fun _ => 1) x.Match : Nat))))) G4 y4 (.slice B4 x.Log.length d4) := TS_setn hT4_7 Hg4.out
    have hT5_8 : TS (Ki.int .i64) 3 (World.setCell w7_ ⟨g, q * 8 + 7, none⟩ (.int .i64 (((((m + 1 + 1 + 1 + (sumF (fun _ => 1) x.Votes : Nat)) + (sumF Command.cnt x.Log : Nat)) + (sumF (fun _ => 1) x.Next : Nat)) + (sumF (fun _ => 1) x.Match : Nat))))) G5 y5 (.slice B5 x.Next.length d5) := TS_setn hT5_7 Hg5.out
    have hT6_8 : TS (Ki.int .i64) 3 (World.setCell w7_ ⟨g, q * 8 + 7, none⟩ (.int .i64 (((((m + 1 + 1 + 1 + (sumF (fun _ => 1) x.Votes : Nat)) + (sumF Command.cnt x.Log : Nat)) + (sumF (fun _ => 1) x.Next : Nat)) + (sumF (fun _ => 1) x.Match : Nat))))) G6 y6 (.slice B6 x.Match.length d6) := TS_setn hT6_7 Hg6.out
    have U8 : Hid (Upd F w (World.setCell w7_ ⟨g, q * 8 + 7, none⟩ (.int .i64 (((((m + 1 + 1 + 1 + (sumF (fun _ => 1) x.Votes : Nat)) + (sumF Command.cnt x.Log : Nat)) + (sumF (fun _ => 1) x.Next : Nat)) + (sumF (fun _ => 1) x.Match : Nat)))))) := Lib.hid (U7.out.trans (Upd.set _ _ _ hgF.out))
    generalize hgw : (World.setCell w7_ ⟨g, q * 8 + 7, none⟩ (.int .i64 (((((m + 1 + 1 + 1 + (sumF (fun _ => 1) x.Votes : Nat)) + (sumF Command.cnt x.Log : Nat)) + (sumF (fun _ => 1) x.Next : Nat)) + (sumF (fun _ => 1) x.Match : Nat))))) = w8_ at foc8 hT3_8 hT4_8 hT5_8 hT6_8 U8 ⊢
    clear hgw cc ff gg foc7 hT3_7 hT4_7 hT5_7 hT6_7 U7
    have hcl := Foc.close foc8 (x' := (⟨(m), (m + 1), (m + 1 + 1), y3, y4, y5, y6, (((((m + 1 + 1 + 1 + (sumF (fun _ => 1) x.Votes : Nat)) + (sumF Command.cnt x.Log : Nat)) + (sumF (fun _ => 1) x.Next : Nat)) + (sumF (fun _ => 1) x.Match : Nat)))⟩ : Voter)) (Voter.mkT _ _ hT3_8 hT4_8 hT5_8 hT6_8)
    rw [set_snoc HL.out HX.out] at hcl
    go_roundg (gk - 1)
    case rel => exact ⟨q + 1, ((((m + 1 + 1 + 1 + (sumF (fun _ => 1) x.Votes : Nat)) + (sumF Command.cnt x.Log : Nat)) + (sumF (fun _ => 1) x.Next : Nat)) + (sumF (fun _ => 1) x.Match : Nat)) + 1, done ++ [(⟨(m), (m + 1), (m + 1 + 1), y3, y4, y5, y6, (((((m + 1 + 1 + 1 + (sumF (fun _ => 1) x.Votes : Nat)) + (sumF Command.cnt x.Log : Nat)) + (sumF (fun _ => 1) x.Next : Nat)) + (sumF (fun _ => 1) x.Match : Nat)))⟩ : Voter)], by omega, by go_num, rfl, by omega, Lib.hid (by have := HL.out; simp; omega), Lib.hid (HM.out.snoc ⟨_, _, _, _, rfl, rfl, rfl, HM3.out, HM4.out, HM5.out, HM6.out, rfl, rfl⟩), Lib.hid (by have h := HCX.out; rw [Voter.cnt_eq x] at h; push_cast at h; omega), Lib.hid hcl, U8⟩
    case measure => omega
set_option maxHeartbeats 8000000 in
theorem markMessageS_c (w : World) (F : List Nat) (l : List Message) (v : Value) (k : Int) (hT : TS kMessage 74 w F l v) (hF : F.Nodup) (hs : (l.length ≤ 1048576 ∧ ∀ y ∈ l, y.sm)) (h0 : 0 ≤ k) (h1 : k + sumF Message.cnt l ≤ 1000000000000000) :
    Calls Try.prog 45 #[v, .int .i64 k] w (MarkedS kMessage 74 Message.mkR F l.length v k (k + sumF Message.cnt l) w) := by
  have HT := Lib.hid hT
  obtain ⟨A, c, rfl, hc, hcm, hr⟩ := TS_read hT
  clear hT hr
  have HF := Lib.hid hF
  clear hF
  have hl : l.length ≤ 1048576 := hs.1
  have HS := Lib.hid hs
  clear hs
  have hu := Try.underlying74
  have hu2 := Try.underlying30
  generalize hK : k + (sumF Message.cnt l : Nat) = K at h1 ⊢
  have HK := Lib.hid hK
  clear hK
  go_enter Try.func45, Try.ntmps45
  go_wp2
  go_loopg [1, 5] l.length (fun g v1 v5 wr => ∃ (q : Nat) (m : Int) (done : List Message), q + g = l.length ∧ v5 = .int .i64 q ∧ v1 = .int .i64 m ∧ 0 ≤ m ∧ Hid (done.length = q) ∧ Hid (Mks Message.mkR done k m) ∧ Hid (m + sumF Message.cnt (l.drop q) = K) ∧ Hid (TS kMessage 74 wr F (done ++ l.drop q) (.slice A l.length c)) ∧ Hid (Upd F w wr))
  case atStart => exact ⟨0, k, [], by omega, rfl, rfl, h0, Lib.hid rfl, Lib.hid rfl, Lib.hid (by simpa using HK.out), Lib.hid (by simpa using HT.out), Lib.hid (Upd.refl _ _)⟩
  case round =>
    clear HT HK h0
    obtain ⟨q, m, done, hq, rfl, rfl, hm0, HL, HM, HC, HT, HU⟩ := hrel
    by_cases hlt : q < l.length
    case neg =>
      have HE : Hid (m = K) := Lib.hid (by have h := HC.out; rw [List.drop_eq_nil_of_le (by omega)] at h; simpa [sumF] using h)
      go_wp2
      go_ret
      exact ⟨done, by rw [HE.out]; rfl, by have := HL.out; omega, by rw [← HE.out]; exact HM.out, by have h := HT.out; rw [List.drop_eq_nil_of_le (by omega), List.append_nil] at h; exact h, HU.out⟩
    obtain ⟨g, cap, G6, x, cs, hv, hcap, _, hx, hTx, foc0⟩ := Foc.open HT.out HF.out (i := q) (by have := HL.out; simp; omega)
    have hn2 : (done ++ l.drop q).length = l.length := by have := HL.out; simp; omega
    rw [hn2] at hv foc0 hcap
    have hxl : l[q]? = some x := by rw [List.getElem?_append_right (by have := HL.out; omega), List.getElem?_drop] at hx; simpa [HL.out] using hx
    simp only [Value.slice.injEq] at hv
    obtain ⟨rfl, -, rfl⟩ := hv
    have HX := Lib.hid hxl
    have hcx : m + (Message.cnt x + sumF Message.cnt (l.drop (q + 1)) : Nat) = K := by have h := HC.out; rw [sumF_drop hxl] at h; exact h
    have HCX := Lib.hid hcx
    have Sx := Lib.hid (HS.out.2 x (List.mem_of_getElem? hxl))
    clear hx hxl hn2
    obtain ⟨v6, G_6, rfl, rfl, hT6_0⟩ := Message.opnT hTx
    obtain ⟨B6, d6, rfl, lb6, _, _⟩ := TS_read hT6_0
    have hmem := foc0.mem
    have hgF := Lib.hid hmem.1
    have hgn := hmem.2.1
    have hnd := hmem.2.2.1
    have hsub := Lib.hid hmem.2.2.2
    have Hn6 := Lib.hid hnd
    have Hg6 : Hid (g ∉ G6) := Lib.hid (fun hh => hgn (by simp [hh]))
    clear hgn hnd
    clear hmem
    have hcb : m + ((8 + sumF Command.cnt x.Commands : Nat) : Int) ≤ K := by unfold Message.cnt at hcx; omega
    push_cast at hcb
    clear hcx
    have U0 := HU
    go_upto_region 4 with fail
    obtain ⟨cc, ff, gg⟩ := Foc.cell foc0 0 (by decide)
    replace cc : World.cell? wr ⟨g, q * 9, none⟩ = some (.int .i64 x.Kind) := cc
    replace ff : World.frozen? wr ⟨g, q * 9, none⟩ = false := ff
    go_upto_region 6 with fail
    have foc1 : Foc kMessage 74 (World.setCell wr ⟨g, q * 9, none⟩ (.int .i64 (m))) F (G6) g l.length c (done ++ l.drop q) q [.int .i64 (m), .int .i64 x.From, .int .i64 x.To, .int .i64 x.Term, .int .i64 x.At, .int .i64 x.AtTerm, .slice B6 x.Commands.length d6, .int .i64 x.Sealed, .bool x.Yes] := Foc.set foc0 0 (by decide) (.int .i64 (m))
    have hT6_1 : TS kCommand 76 (World.setCell wr ⟨g, q * 9, none⟩ (.int .i64 (m))) G6 x.Commands (.slice B6 x.Commands.length d6) := TS_setn hT6_0 Hg6.out
    have U1 : Hid (Upd F w (World.setCell wr ⟨g, q * 9, none⟩ (.int .i64 (m)))) := Lib.hid (U0.out.trans (Upd.set _ _ _ hgF.out))
    generalize hgw : (World.setCell wr ⟨g, q * 9, none⟩ (.int .i64 (m))) = w1_ at foc1 hT6_1 U1 ⊢
    clear hgw cc ff gg foc0 hT6_0 U0
    obtain ⟨cc, ff, gg⟩ := Foc.cell foc1 1 (by decide)
    replace cc : World.cell? w1_ ⟨g, q * 9 + 1, none⟩ = some (.int .i64 x.From) := cc
    replace ff : World.frozen? w1_ ⟨g, q * 9 + 1, none⟩ = false := ff
    go_upto_region 8 with fail
    have foc2 : Foc kMessage 74 (World.setCell w1_ ⟨g, q * 9 + 1, none⟩ (.int .i64 (m + 1))) F (G6) g l.length c (done ++ l.drop q) q [.int .i64 (m), .int .i64 (m + 1), .int .i64 x.To, .int .i64 x.Term, .int .i64 x.At, .int .i64 x.AtTerm, .slice B6 x.Commands.length d6, .int .i64 x.Sealed, .bool x.Yes] := Foc.set foc1 1 (by decide) (.int .i64 (m + 1))
    have hT6_2 : TS kCommand 76 (World.setCell w1_ ⟨g, q * 9 + 1, none⟩ (.int .i64 (m + 1))) G6 x.Commands (.slice B6 x.Commands.length d6) := TS_setn hT6_1 Hg6.out
    have U2 : Hid (Upd F w (World.setCell w1_ ⟨g, q * 9 + 1, none⟩ (.int .i64 (m + 1)))) := Lib.hid (U1.out.trans (Upd.set _ _ _ hgF.out))
    generalize hgw : (World.setCell w1_ ⟨g, q * 9 + 1, none⟩ (.int .i64 (m + 1))) = w2_ at foc2 hT6_2 U2 ⊢
    clear hgw cc ff gg foc1 hT6_1 U1
    obtain ⟨cc, ff, gg⟩ := Foc.cell foc2 2 (by decide)
    replace cc : World.cell? w2_ ⟨g, q * 9 + 2, none⟩ = some (.int .i64 x.To) := cc
    replace ff : World.frozen? w2_ ⟨g, q * 9 + 2, none⟩ = false := ff
    go_upto_region 10 with fail
    have foc3 : Foc kMessage 74 (World.setCell w2_ ⟨g, q * 9 + 2, none⟩ (.int .i64 (m + 1 + 1))) F (G6) g l.length c (done ++ l.drop q) q [.int .i64 (m), .int .i64 (m + 1), .int .i64 (m + 1 + 1), .int .i64 x.Term, .int .i64 x.At, .int .i64 x.AtTerm, .slice B6 x.Commands.length d6, .int .i64 x.Sealed, .bool x.Yes] := Foc.set foc2 2 (by decide) (.int .i64 (m + 1 + 1))
    have hT6_3 : TS kCommand 76 (World.setCell w2_ ⟨g, q * 9 + 2, none⟩ (.int .i64 (m + 1 + 1))) G6 x.Commands (.slice B6 x.Commands.length d6) := TS_setn hT6_2 Hg6.out
    have U3 : Hid (Upd F w (World.setCell w2_ ⟨g, q * 9 + 2, none⟩ (.int .i64 (m + 1 + 1)))) := Lib.hid (U2.out.trans (Upd.set _ _ _ hgF.out))
    generalize hgw : (World.setCell w2_ ⟨g, q * 9 + 2, none⟩ (.int .i64 (m + 1 + 1))) = w3_ at foc3 hT6_3 U3 ⊢
    clear hgw cc ff gg foc2 hT6_2 U2
    obtain ⟨cc, ff, gg⟩ := Foc.cell foc3 3 (by decide)
    replace cc : World.cell? w3_ ⟨g, q * 9 + 3, none⟩ = some (.int .i64 x.Term) := cc
    replace ff : World.frozen? w3_ ⟨g, q * 9 + 3, none⟩ = false := ff
    go_upto_region 12 with fail
    have foc4 : Foc kMessage 74 (World.setCell w3_ ⟨g, q * 9 + 3, none⟩ (.int .i64 (m + 1 + 1 + 1))) F (G6) g l.length c (done ++ l.drop q) q [.int .i64 (m), .int .i64 (m + 1), .int .i64 (m + 1 + 1), .int .i64 (m + 1 + 1 + 1), .int .i64 x.At, .int .i64 x.AtTerm, .slice B6 x.Commands.length d6, .int .i64 x.Sealed, .bool x.Yes] := Foc.set foc3 3 (by decide) (.int .i64 (m + 1 + 1 + 1))
    have hT6_4 : TS kCommand 76 (World.setCell w3_ ⟨g, q * 9 + 3, none⟩ (.int .i64 (m + 1 + 1 + 1))) G6 x.Commands (.slice B6 x.Commands.length d6) := TS_setn hT6_3 Hg6.out
    have U4 : Hid (Upd F w (World.setCell w3_ ⟨g, q * 9 + 3, none⟩ (.int .i64 (m + 1 + 1 + 1)))) := Lib.hid (U3.out.trans (Upd.set _ _ _ hgF.out))
    generalize hgw : (World.setCell w3_ ⟨g, q * 9 + 3, none⟩ (.int .i64 (m + 1 + 1 + 1))) = w4_ at foc4 hT6_4 U4 ⊢
    clear hgw cc ff gg foc3 hT6_3 U3
    obtain ⟨cc, ff, gg⟩ := Foc.cell foc4 4 (by decide)
    replace cc : World.cell? w4_ ⟨g, q * 9 + 4, none⟩ = some (.int .i64 x.At) := cc
    replace ff : World.frozen? w4_ ⟨g, q * 9 + 4, none⟩ = false := ff
    go_upto_region 14 with fail
    have foc5 : Foc kMessage 74 (World.setCell w4_ ⟨g, q * 9 + 4, none⟩ (.int .i64 (m + 1 + 1 + 1 + 1))) F (G6) g l.length c (done ++ l.drop q) q [.int .i64 (m), .int .i64 (m + 1), .int .i64 (m + 1 + 1), .int .i64 (m + 1 + 1 + 1), .int .i64 (m + 1 + 1 + 1 + 1), .int .i64 x.AtTerm, .slice B6 x.Commands.length d6, .int .i64 x.Sealed, .bool x.Yes] := Foc.set foc4 4 (by decide) (.int .i64 (m + 1 + 1 + 1 + 1))
    have hT6_5 : TS kCommand 76 (World.setCell w4_ ⟨g, q * 9 + 4, none⟩ (.int .i64 (m + 1 + 1 + 1 + 1))) G6 x.Commands (.slice B6 x.Commands.length d6) := TS_setn hT6_4 Hg6.out
    have U5 : Hid (Upd F w (World.setCell w4_ ⟨g, q * 9 + 4, none⟩ (.int .i64 (m + 1 + 1 + 1 + 1)))) := Lib.hid (U4.out.trans (Upd.set _ _ _ hgF.out))
    generalize hgw : (World.setCell w4_ ⟨g, q * 9 + 4, none⟩ (.int .i64 (m + 1 + 1 + 1 + 1))) = w5_ at foc5 hT6_5 U5 ⊢
    clear hgw cc ff gg foc4 hT6_4 U4
    obtain ⟨cc, ff, gg⟩ := Foc.cell foc5 5 (by decide)
    replace cc : World.cell? w5_ ⟨g, q * 9 + 5, none⟩ = some (.int .i64 x.AtTerm) := cc
    replace ff : World.frozen? w5_ ⟨g, q * 9 + 5, none⟩ = false := ff
    go_upto_region 16 with fail
    have foc6 : Foc kMessage 74 (World.setCell w5_ ⟨g, q * 9 + 5, none⟩ (.int .i64 (m + 1 + 1 + 1 + 1 + 1))) F (G6) g l.length c (done ++ l.drop q) q [.int .i64 (m), .int .i64 (m + 1), .int .i64 (m + 1 + 1), .int .i64 (m + 1 + 1 + 1), .int .i64 (m + 1 + 1 + 1 + 1), .int .i64 (m + 1 + 1 + 1 + 1 + 1), .slice B6 x.Commands.length d6, .int .i64 x.Sealed, .bool x.Yes] := Foc.set foc5 5 (by decide) (.int .i64 (m + 1 + 1 + 1 + 1 + 1))
    have hT6_6 : TS kCommand 76 (World.setCell w5_ ⟨g, q * 9 + 5, none⟩ (.int .i64 (m + 1 + 1 + 1 + 1 + 1))) G6 x.Commands (.slice B6 x.Commands.length d6) := TS_setn hT6_5 Hg6.out
    have U6 : Hid (Upd F w (World.setCell w5_ ⟨g, q * 9 + 5, none⟩ (.int .i64 (m + 1 + 1 + 1 + 1 + 1)))) := Lib.hid (U5.out.trans (Upd.set _ _ _ hgF.out))
    generalize hgw : (World.setCell w5_ ⟨g, q * 9 + 5, none⟩ (.int .i64 (m + 1 + 1 + 1 + 1 + 1))) = w6_ at foc6 hT6_6 U6 ⊢
    clear hgw cc ff gg foc5 hT6_5 U5
    obtain ⟨cc, ff, gg⟩ := Foc.cell foc6 6 (by decide)
    replace cc : World.cell? w6_ ⟨g, q * 9 + 6, none⟩ = some (.slice B6 x.Commands.length d6) := cc
    replace ff : World.frozen? w6_ ⟨g, q * 9 + 6, none⟩ = false := ff
    go_upto_region 17 with (go_at_call 76; refine (markCommandS_c _ G6 x.Commands _ _ hT6_6 Hn6.out Sx.out (by omega) (by omega)).mono ?_; rintro e w7_ ⟨y6, rfl, hL6, hM6, hTn, hup⟩; have HM6 := Lib.hid hM6; have HL6 := Lib.hid hL6; clear hM6 hL6)
    have foc7 := Foc.upd foc6 (hup.mono (fun z hz => (by simp [hz] : z ∈ (G6))))
    have hT6_7 : TS kCommand 76 w7_ G6 y6 (.slice B6 x.Commands.length d6) := hTn
    have U7 : Hid (Upd F w w7_) := Lib.hid (U6.out.trans (hup.mono (fun z hz => hsub.out z (by simp [hz]))))
    clear cc ff gg foc6 U6 hup hTn
    clear hT6_6
    obtain ⟨cc, ff, gg⟩ := Foc.cell foc7 7 (by decide)
    replace cc : World.cell? w7_ ⟨g, q * 9 + 7, none⟩ = some (.int .i64 x.Sealed) := cc
    replace ff : World.frozen? w7_ ⟨g, q * 9 + 7, none⟩ = false := ff
    go_upto_region 19 with fail
    have foc8 : Foc kMessage 74 (World.setCell w7_ ⟨g, q * 9 + 7, none⟩ (.int .i64 ((m + 1 + 1 + 1 + 1 + 1 + 1 + (sumF Command.cnt x.Commands : Nat))))) F (G6) g l.length c (done ++ l.drop q) q [.int .i64 (m), .int .i64 (m + 1), .int .i64 (m + 1 + 1), .int .i64 (m + 1 + 1 + 1), .int .i64 (m + 1 + 1 + 1 + 1), .int .i64 (m + 1 + 1 + 1 + 1 + 1), .slice B6 x.Commands.length d6, .int .i64 ((m + 1 + 1 + 1 + 1 + 1 + 1 + (sumF Command.cnt x.Commands : Nat))), .bool x.Yes] := Foc.set foc7 7 (by decide) (.int .i64 ((m + 1 + 1 + 1 + 1 + 1 + 1 + (sumF Command.cnt x.Commands : Nat))))
    have hT6_8 : TS kCommand 76 (World.setCell w7_ ⟨g, q * 9 + 7, none⟩ (.int .i64 ((m + 1 + 1 + 1 + 1 + 1 + 1 + (sumF Command.cnt x.Commands : Nat))))) G6 y6 (.slice B6 x.Commands.length d6) := TS_setn hT6_7 Hg6.out
    have U8 : Hid (Upd F w (World.setCell w7_ ⟨g, q * 9 + 7, none⟩ (.int .i64 ((m + 1 + 1 + 1 + 1 + 1 + 1 + (sumF Command.cnt x.Commands : Nat)))))) := Lib.hid (U7.out.trans (Upd.set _ _ _ hgF.out))
    generalize hgw : (World.setCell w7_ ⟨g, q * 9 + 7, none⟩ (.int .i64 ((m + 1 + 1 + 1 + 1 + 1 + 1 + (sumF Command.cnt x.Commands : Nat))))) = w8_ at foc8 hT6_8 U8 ⊢
    clear hgw cc ff gg foc7 hT6_7 U7
    obtain ⟨cc, ff, gg⟩ := Foc.cell foc8 8 (by decide)
    replace cc : World.cell? w8_ ⟨g, q * 9 + 8, none⟩ = some (.bool x.Yes) := cc
    replace ff : World.frozen? w8_ ⟨g, q * 9 + 8, none⟩ = false := ff
    go_wp2
    have foc9 : Foc kMessage 74 (World.setCell w8_ ⟨g, q * 9 + 8, none⟩ (.bool (((m + 1 + 1 + 1 + 1 + 1 + 1 + (sumF Command.cnt x.Commands : Nat)) + 1) % 3 == 0))) F (G6) g l.length c (done ++ l.drop q) q [.int .i64 (m), .int .i64 (m + 1), .int .i64 (m + 1 + 1), .int .i64 (m + 1 + 1 + 1), .int .i64 (m + 1 + 1 + 1 + 1), .int .i64 (m + 1 + 1 + 1 + 1 + 1), .slice B6 x.Commands.length d6, .int .i64 ((m + 1 + 1 + 1 + 1 + 1 + 1 + (sumF Command.cnt x.Commands : Nat))), .bool (((m + 1 + 1 + 1 + 1 + 1 + 1 + (sumF Command.cnt x.Commands : Nat)) + 1) % 3 == 0)] := Foc.set foc8 8 (by decide) (.bool (((m + 1 + 1 + 1 + 1 + 1 + 1 + (sumF Command.cnt x.Commands : Nat)) + 1) % 3 == 0))
    have hT6_9 : TS kCommand 76 (World.setCell w8_ ⟨g, q * 9 + 8, none⟩ (.bool (((m + 1 + 1 + 1 + 1 + 1 + 1 + (sumF Command.cnt x.Commands : Nat)) + 1) % 3 == 0))) G6 y6 (.slice B6 x.Commands.length d6) := TS_setn hT6_8 Hg6.out
    have U9 : Hid (Upd F w (World.setCell w8_ ⟨g, q * 9 + 8, none⟩ (.bool (((m + 1 + 1 + 1 + 1 + 1 + 1 + (sumF Command.cnt x.Commands : Nat)) + 1) % 3 == 0)))) := Lib.hid (U8.out.trans (Upd.set _ _ _ hgF.out))
    generalize hgw : (World.setCell w8_ ⟨g, q * 9 + 8, none⟩ (.bool (((m + 1 + 1 + 1 + 1 + 1 + 1 + (sumF Command.cnt x.Commands : Nat)) + 1) % 3 == 0))) = w9_ at foc9 hT6_9 U9 ⊢
    clear hgw cc ff gg foc8 hT6_8 U8
    have hcl := Foc.close foc9 (x' := (⟨(m), (m + 1), (m + 1 + 1), (m + 1 + 1 + 1), (m + 1 + 1 + 1 + 1), (m + 1 + 1 + 1 + 1 + 1), y6, ((m + 1 + 1 + 1 + 1 + 1 + 1 + (sumF Command.cnt x.Commands : Nat))), (((m + 1 + 1 + 1 + 1 + 1 + 1 + (sumF Command.cnt x.Commands : Nat)) + 1) % 3 == 0)⟩ : Message)) (Message.mkT _ _ hT6_9)
    rw [set_snoc HL.out HX.out] at hcl
    go_roundg (gk - 1)
    case rel => exact ⟨q + 1, (m + 1 + 1 + 1 + 1 + 1 + 1 + (sumF Command.cnt x.Commands : Nat)) + 1 + 1, done ++ [(⟨(m), (m + 1), (m + 1 + 1), (m + 1 + 1 + 1), (m + 1 + 1 + 1 + 1), (m + 1 + 1 + 1 + 1 + 1), y6, ((m + 1 + 1 + 1 + 1 + 1 + 1 + (sumF Command.cnt x.Commands : Nat))), (((m + 1 + 1 + 1 + 1 + 1 + 1 + (sumF Command.cnt x.Commands : Nat)) + 1) % 3 == 0)⟩ : Message)], by omega, by go_num, rfl, by omega, Lib.hid (by have := HL.out; simp; omega), Lib.hid (HM.out.snoc ⟨_, rfl, rfl, rfl, rfl, rfl, rfl, HM6.out, rfl, rfl, rfl⟩), Lib.hid (by have h := HCX.out; rw [Message.cnt_eq x] at h; push_cast at h; omega), Lib.hid hcl, U9⟩
    case measure => omega
set_option maxHeartbeats 4000000 in
theorem markQuorum_c (w : World) (x : Quorum) {v0 : Value} {F0 : List Nat} (g0 : TS kVoter 70 w F0 x.Voters v0) {v1 : Value} {F1 : List Nat} (g1 : TS kMessage 74 w F1 x.Net v1) (hF : ((F0 ++ (F1)) : List Nat).Nodup) (hs : x.sm) (k : Int) (h0 : 0 ≤ k) (h1 : k + x.cntV ≤ 1000000000000000) :
    Calls Try.prog 18 #[.agg #[v0, v1], .int .i64 k] w fun en w' => ∃ x' : Quorum, en = .returned (.int .i64 (k + x.cntV)) ∧ x'.mkV k (k + x.cntV) ∧ kQuorum.T w' (F0 ++ (F1)) x' [v0, v1] ∧ Upd (F0 ++ (F1)) w w' := by
  have HS := Lib.hid hs
  clear hs
  have hcv : k + ((sumF Voter.cnt x.Voters + sumF Message.cnt x.Net : Nat) : Int) ≤ 1000000000000000 := by unfold Quorum.cntV at h1; exact h1
  push_cast at hcv
  obtain ⟨B0, d0, rfl, lb0, _, _⟩ := TS_read g0
  obtain ⟨B1, d1, rfl, lb1, _, _⟩ := TS_read g1
  obtain ⟨nd0, ndr0, dj0, dk0⟩ := nd_split hF
  have Hn1 := Lib.hid ndr0
  have Hn0 := Lib.hid nd0
  have ds1_0 : Hid (∀ z ∈ F1, z ∉ F0) := Lib.hid (fun z hz => dj0 z (by simp [hz]))
  have ds0_1 : Hid (∀ z ∈ F0, z ∉ F1) := Lib.hid (fun z hz hh => dk0 z hz (by simp [hh]))
  clear hF nd0 ndr0 dj0 dk0
  have hBX := Box.new w #[.slice B0 x.Voters.length d0, .slice B1 x.Net.length d1] 32
  have hT0_0 := TS_below g0 (below_al w (.cells #[.slice B0 x.Voters.length d0, .slice B1 x.Net.length d1] 32))
  have hT1_0 := TS_below g1 (below_al w (.cells #[.slice B0 x.Voters.length d0, .slice B1 x.Net.length d1] 32))
  have U0 : Hid (Upd (F0 ++ (F1)) w (w.alloc (.cells #[.slice B0 x.Voters.length d0, .slice B1 x.Net.length d1] 32))) := Lib.hid (Upd.of_below (below_al _ _))
  have Hlt0 := Lib.hid (TS_lt g0)
  have Hlt1 := Lib.hid (TS_lt g1)
  go_enter Try.func18, Try.ntmps18
  go_upto_region 1 with fail
  clear hBX
  go_upto_region 2 with (go_at_call 44; refine (markVoterS_c _ F0 x.Voters _ _ hT0_0 Hn0.out HS.out.1 (by omega) (by omega)).mono ?_; rintro e w1_ ⟨y0, rfl, hL0, hM0, hTn0, hup⟩; have HM0 := Lib.hid hM0; have HL0 := Lib.hid hL0; clear hM0 hL0; have cq0 : w1_.cell? ⟨w.heap.size, 1, none⟩ = some (.slice B1 x.Net.length d1) := (upd_cell hup (fun hh => by have := Hlt0.out _ hh; omega) (by simp)); have hgs0 := World.block_lt_of_cell? w1_ _ cq0; have HUP0 := Lib.hid hup; clear hup)
  have hT0_1 : TS kVoter 70 w1_ F0 y0 (.slice B0 x.Voters.length d0) := hTn0
  have hT1_1 : TS kMessage 74 w1_ F1 x.Net (.slice B1 x.Net.length d1) := TS_upd hT1_0 HUP0.out ds1_0.out
  have U1 : Hid (Upd (F0 ++ (F1)) w w1_) := Lib.hid (U0.out.trans (HUP0.out.mono (fun z hz => by simp [hz])))
  go_wp2_with (go_at_call 45; refine (markMessageS_c _ F1 x.Net _ _ hT1_1 Hn1.out HS.out.2 (by omega) (by omega)).mono ?_; rintro e w2_ ⟨y1, rfl, hL1, hM1, hTn1, hup⟩; have HM1 := Lib.hid hM1; have HL1 := Lib.hid hL1; clear hM1 hL1; have HUP1 := Lib.hid hup; clear hup)
  have hT0_2 : TS kVoter 70 w2_ F0 y0 (.slice B0 x.Voters.length d0) := TS_upd hT0_1 HUP1.out ds0_1.out
  have hT1_2 : TS kMessage 74 w2_ F1 y1 (.slice B1 x.Net.length d1) := hTn1
  have U2 : Hid (Upd (F0 ++ (F1)) w w2_) := Lib.hid (U1.out.trans (HUP1.out.mono (fun z hz => by simp [hz])))
  go_ret
  have hE : k + (x.cntV : Int) = ((k + (sumF Voter.cnt x.Voters : Nat)) + (sumF Message.cnt x.Net : Nat)) := by unfold Quorum.cntV; push_cast; omega
  rw [hE]
  exact ⟨(⟨y0, y1⟩ : Quorum), rfl, ⟨_, _, HM0.out, HM1.out, rfl⟩, Quorum.mkT _ _ hT0_2 hT1_2, U2.out⟩
end Go.Proofs.Ytpnjgmgnhkhapaa.H
