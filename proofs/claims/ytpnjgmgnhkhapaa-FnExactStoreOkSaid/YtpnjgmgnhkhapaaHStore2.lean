/-
The reference's StoreOk answers storeOk. Conditions: the contract's own premises.
-/
import Derived.Test.YtpnjgmgnhkhapaaHStore1
import Derived.Test.YtpnjgmgnhkhapaaHLog2
import Derived.Test.YtpnjgmgnhkhapaaHQ3
namespace Go.Proofs.Ytpnjgmgnhkhapaa.H
open Go.RowKit
set_option linter.unusedVariables false
set_option linter.unusedSimpArgs false
set_option maxRecDepth 100000
theorem txA_eq (n : Nat) (used : Int) (t : Txn) : txA n used t = (txS used t && ascB n t.Parts (-1)) := by unfold txA txS; grind
set_option maxHeartbeats 8000000 in
theorem specStoreOk_c (w : World) (x : Store) {A0 A1 : Option Addr} {c0 c1 : Nat} (l0 : x.Logs.length ≤ c0) (g0 : Row kLog w A0 x.Logs) (l1 : x.Txns.length ≤ c1) (g1 : Row kTxn w A1 x.Txns) (hs : x.sm) (hw : x.wf) :
    Calls Try.prog 26 #[.agg #[.slice A0 x.Logs.length c0, .slice A1 x.Txns.length c1, .int .i64 x.Used]] w fun e w' => e = .returned (.bool (storeOk x)) ∧ Below w.heap.size w w' := by
  obtain ⟨⟨hs0, hs0'⟩, hs1, hs1'⟩ := hs
  have HS0 := Lib.hid hs0'
  have HS1 := Lib.hid hs1'
  have HW0 : Hid (∀ l ∈ x.Logs, l.wf) := Lib.hid (fun l hl => hw.1.2 l hl)
  clear hs0' hs1' hw
  have hu := Try.underlying90
  have hu2 := Try.underlying58
  have hu3 := Try.underlying107
  have hu4 := Try.underlying59
  have hu5 := Try.underlying41
  go_enter Try.func26, Try.ntmps26
  go_upto_region 1 with fail
  go_cut [24] (fun s wx => s = .bool !(sHdr x) ∧ Box wx w.heap.size #[.slice A0 x.Logs.length c0, .slice A1 x.Txns.length c1, .int .i64 x.Used] ∧ Below w.heap.size w wx)
  case first =>
    go_wp2_with (go_at_call 32; refine (l1In_c _ _ _ _).mono ?_; rintro e w' ⟨rfl, rfl⟩)
    all_goals (go_meet; exact ⟨by simp only [Value.bool.injEq]; grind [sHdr], Box.new _ _ _, below_al _ _⟩)
  obtain ⟨rfl, hz, hb⟩ := hcut
  have z0 := hz 0 _ rfl
  have hgz := hz.lt rfl
  have HZ := Lib.hid hz
  clear hz
  by_cases hh : sHdr x = true
  case neg =>
    replace hh := Bool.eq_false_iff.2 hh
    have HH := Lib.hid hh
    rw [hh]
    clear hh
    go_wp2
    go_ret
    exact ⟨ret_bool (by simp [storeOk, HH.out]), hb⟩
  have HH := Lib.hid hh
  rw [hh, show (!true) = false from rfl]
  have hn : 1 ≤ x.Logs.length ∧ x.Logs.length ≤ 12 ∧ x.Txns.length ≤ 20 ∧ 0 ≤ x.Used ∧ x.Used ≤ 1000000000 := by simp only [sHdr, inB, Bool.and_eq_true, decide_eq_true_eq] at hh; omega
  clear hh
  obtain ⟨hn0, hn1, hn2, hn3, hn4⟩ := hn
  have HA : Hid ((x.Logs.all logOk && txL x.Logs.length x.Used x.Txns []) = storeOk x) := Lib.hid (by have := HH.out; grind [storeOk])
  clear HH
  go_wp2
  go_loopg [3] x.Logs.length (fun g v3 wr => ∃ k : Nat, k + g = x.Logs.length ∧ v3 = .int .i64 k ∧ Hid (Box wr w.heap.size #[.slice A0 x.Logs.length c0, .slice A1 x.Txns.length c1, .int .i64 x.Used]) ∧ Below w.heap.size w wr ∧ Hid ((x.Logs.take k).all logOk = true))
  case atStart => exact ⟨0, by omega, rfl, HZ, hb, Lib.hid rfl⟩
  case round =>
    clear z0 HZ hb hgz
    obtain ⟨k, hk, rfl, HZ, hb, Ha⟩ := hrel
    have hgz := HZ.out.lt rfl
    have z0 := HZ.out 0 _ rfl
    by_cases hlt : k < x.Logs.length
    case pos =>
      obtain ⟨ad, l, A3, c3, rfl, hx, p0, p1, p2, p3, l3, g3⟩ := Log.at (Row_below g0 hb) k hlt
      have Hx := Lib.hid hx
      have HSl := Lib.hid (HS0.out l (List.mem_of_getElem? hx))
      have HWl := Lib.hid (HW0.out l (List.mem_of_getElem? hx))
      clear hx
      generalize hy : logOk l = y
      have Hy := Lib.hid hy
      clear hy
      go_wp2_with (go_at_call 50; refine (specLogOk_c _ l l3 g3 HSl.out HWl.out).mono ?_; rintro e w1 ⟨rfl, hb1⟩; rw [Hy.out])
      · go_ret
        exact ⟨ret_bool (by rw [← HA.out, all_fail Hx.out (by rw [Hy.out]; grind)]; rfl), below_tr hb hb1⟩
      · go_roundg (gk - 1)
        case rel => exact ⟨k + 1, by omega, by go_num, Lib.hid (HZ.out.later hb1), below_tr hb hb1, Lib.hid (all_step Ha.out Hx.out (by rw [Hy.out]; grind))⟩
        case measure => omega
    have HR : Hid (txL x.Logs.length x.Used x.Txns [] = storeOk x) := Lib.hid (by rw [← HA.out, all_full Ha.out (by omega)]; rfl)
    clear HA Ha
    generalize hT : txL x.Logs.length x.Used x.Txns [] = T at HR
    have HT := Lib.hid hT
    clear hT
    go_wp2
    go_loopg [4] x.Txns.length (fun g v4 wi => ∃ i : Nat, i + g = x.Txns.length ∧ v4 = .int .i64 i ∧ Hid (Box wi w.heap.size #[.slice A0 x.Logs.length c0, .slice A1 x.Txns.length c1, .int .i64 x.Used]) ∧ Below w.heap.size w wi ∧ Hid (txL x.Logs.length x.Used (x.Txns.drop i) (x.Txns.take i) = T))
    case atStart => exact ⟨0, by omega, rfl, HZ, hb, Lib.hid (by simpa using HT.out)⟩
    case round =>
      clear HZ hb hgz HT z0
      obtain ⟨i, hi, rfl, HZ, hb, HD⟩ := hrel
      have hgz := HZ.out.lt rfl
      have z1 := HZ.out 1 _ rfl
      by_cases hlt2 : i < x.Txns.length
      case neg =>
        have HE : Hid (true = T) := Lib.hid (by have h := HD.out; rw [List.drop_eq_nil_of_le (by omega)] at h; simpa [txL] using h)
        go_wp2
        go_ret
        exact ⟨ret_bool (by rw [← HR.out, ← HE.out]), hb⟩
      have G1 := Row_below g1 hb
      obtain ⟨ad, t, A4, c4, rfl, hx, p0, p1, p2, p3, p4, l4, g4⟩ := Txn.at G1 i hlt2
      have HX := Lib.hid (dropQ_cons hx)
      have HX2 := Lib.hid (take_snoc hx)
      obtain ⟨sn, sp⟩ := HS1.out t (List.mem_of_getElem? hx)
      clear hx
      have HD2 : Hid ((txS x.Used t && ascB x.Logs.length t.Parts (-1) && (x.Txns.take i).all (apartT t) && txL x.Logs.length x.Used (x.Txns.drop (i + 1)) (x.Txns.take (i + 1))) = T) := Lib.hid (by rw [← txA_eq, HX2.out, ← txL_cons, ← HX.out]; exact HD.out)
      clear HD HX HX2
      have z2 := HZ.out 2 _ rfl
      go_upto_region 12 with fail
      go_cut [50, 80] (fun s50 s wx => s = .bool !(txS x.Used t) ∧ Hid (Box wx w.heap.size #[.slice A0 x.Logs.length c0, .slice (some ad) x.Txns.length c1, .int .i64 x.Used]) ∧ Hid (Box wx wr.heap.size #[.string t.Name, .int .i64 t.Producer, .int .i64 t.Turn, .bool t.Open, .slice A4 t.Parts.length c4]) ∧ Below w.heap.size w wx ∧ Row (Ki.int .i64) wx A4 t.Parts)
      case first =>
        go_wp2_with (first
          | (go_at_call 63; refine (specNameOk_c _ _ sn).mono ?_; rintro e w' ⟨rfl, rfl⟩)
          | (go_at_call 32; refine (l1In_c _ _ _ _).mono ?_; rintro e w' ⟨rfl, rfl⟩))
        all_goals go_meet
        all_goals exact ⟨by simp only [Value.bool.injEq]; grind [txS], Lib.hid (HZ.out.later (below_al _ _)), Lib.hid (Box.new _ _ _), below_tr hb (below_al _ _), Row_below g4 (below_al _ _)⟩
      obtain ⟨rfl, HZ2, HX, Hb, G4⟩ := hcut
      generalize hgs : wr.heap.size = gs at HX ⊢
      clear hgs p0 p1 p2 p3 p4 g4 G1 z1 z2 HZ hb hgz
      generalize hA : txS x.Used t = va
      have HVA := Lib.hid hA
      clear hA
      have hgz := HZ2.out.lt rfl
      have hgt := HX.out.lt rfl
      cases va with
      | false =>
        have HE : Hid (false = T) := Lib.hid (by rw [← HD2.out, HVA.out]; rfl)
        go_wp2
        go_ret
        exact ⟨ret_bool (by rw [← HR.out, ← HE.out]), Hb⟩
      | true =>
        have HD3 : Hid ((ascB x.Logs.length t.Parts (-1) && (x.Txns.take i).all (apartT t) && txL x.Logs.length x.Used (x.Txns.drop (i + 1)) (x.Txns.take (i + 1))) = T) := Lib.hid (by rw [← HD2.out, HVA.out]; rfl)
        clear HD2 HVA
        rw [show (!true) = false from rfl]
        go_wp2
        go_loopg [6] i (fun g v6 wi => ∃ j : Nat, j + g = i ∧ v6 = .int .i64 j ∧ Hid (Box wi w.heap.size #[.slice A0 x.Logs.length c0, .slice (some ad) x.Txns.length c1, .int .i64 x.Used]) ∧ Hid (Box wi gs #[.string t.Name, .int .i64 t.Producer, .int .i64 t.Turn, .bool t.Open, .slice A4 t.Parts.length c4]) ∧ Below w.heap.size w wi ∧ Row (Ki.int .i64) wi A4 t.Parts ∧ Hid ((x.Txns.take j).all (apartT t) = true))
        case atStart => exact ⟨0, by omega, rfl, HZ2, HX, Hb, G4, Lib.hid rfl⟩
        case round =>
          clear HZ2 HX Hb hgz hgt G4
          obtain ⟨j, hj, rfl, HZ, HX, hb, G4, Ha⟩ := hrel
          have hgz := HZ.out.lt rfl
          have hgt := HX.out.lt rfl
          by_cases hlt3 : j < i
          case pos =>
            obtain ⟨bd, u, A5, c5, hbd, hy, r0, r1, r2, r3, r4, l5, g5⟩ := Txn.at (Row_below g1 hb) j (by omega)
            cases hbd
            have Hy := Lib.hid hy
            clear hy
            have HF : Hid (apartT t u = false → false = T) := Lib.hid (fun h => by rw [← HD3.out, all_fail (k := j) (by rw [List.getElem?_take, if_pos hlt3]; exact Hy.out) h]; simp)
            have y0 := HX.out 0 _ rfl
            have y1 := HX.out 1 _ rfl
            have z1 := HZ.out 1 _ rfl
            have hjl : (j : Int) < (x.Txns.length : Int) := by omega
            go_upto_region 17 with fail
            generalize hnm : (u.Name.toList == t.Name.toList) = nm
            have Hnm := Lib.hid hnm
            clear hnm
            have hnm2 : (u.Name.toList == t.Name.toList) = nm := Hnm.out
            cases nm with
            | true =>
              go_quiet (fail)
              go_wp2
              go_ret
              exact ⟨ret_bool (by rw [← HR.out, ← HF.out (by unfold apartT; rw [Hnm.out]; rfl)]), below_dn hb _⟩
            | false =>
              by_cases hpp : u.Producer = t.Producer
              · have HPP := Lib.hid hpp
                have hpp2 : (u.Producer == t.Producer) = true := by simpa using hpp
                clear hpp
                go_quiet (fail)
                go_wp2
                go_ret
                exact ⟨ret_bool (by rw [← HR.out, ← HF.out (by unfold apartT; simp [HPP.out])]), below_dn hb _⟩
              · have HPP := Lib.hid hpp
                have hpp2 : (u.Producer == t.Producer) = false := by simpa using hpp
                clear hpp
                go_quiet (fail)
                go_wp2
                go_roundg (gk - 1)
                case rel => exact ⟨j + 1, by omega, by go_num, Lib.hid (HZ.out.later (below_dn (Below.refl _ _) _)), Lib.hid (HX.out.later (below_dn (Below.refl _ _) _)), below_dn hb _, Row_below G4 (below_dn (Below.refl _ _) _), Lib.hid (all_step Ha.out Hy.out (by unfold apartT; rw [Hnm.out, hpp2]; rfl))⟩
                case measure => omega
          have HD4 : Hid ((ascB x.Logs.length t.Parts (-1) && txL x.Logs.length x.Used (x.Txns.drop (i + 1)) (x.Txns.take (i + 1))) = T) := Lib.hid (by have h := Ha.out; rw [show j = i by omega] at h; rw [← HD3.out, h]; simp)
          clear HD3 Ha
          generalize hU : ascB x.Logs.length t.Parts (-1) = U at HD4
          have HU := Lib.hid hU
          clear hU
          go_wp2
          go_loopg [7] t.Parts.length (fun g v7 wi => ∃ (q : Nat) (p : Int), q + g = t.Parts.length ∧ v7 = .int .i64 q ∧ Hid (∀ s, q = s + 1 → t.Parts[s]? = some p) ∧ Hid (q = 0 → p = -1) ∧ Hid (Box wi w.heap.size #[.slice A0 x.Logs.length c0, .slice (some ad) x.Txns.length c1, .int .i64 x.Used]) ∧ Hid (Box wi gs #[.string t.Name, .int .i64 t.Producer, .int .i64 t.Turn, .bool t.Open, .slice A4 t.Parts.length c4]) ∧ Below w.heap.size w wi ∧ Row (Ki.int .i64) wi A4 t.Parts ∧ Hid (ascB x.Logs.length (t.Parts.drop q) p = U))
          case atStart => exact ⟨0, -1, by omega, rfl, Lib.hid (by omega), Lib.hid (by omega), HZ, HX, hb, G4, HU⟩
          case round =>
            clear HZ HX hb G4 hgz hgt HU
            obtain ⟨q, p, hq, rfl, HP, HP0, HZ, HX, hb, G4, HD⟩ := hrel
            have hgz := HZ.out.lt rfl
            have hgt := HX.out.lt rfl
            have y4 := HX.out 4 _ rfl
            have z0 := HZ.out 0 _ rfl
            by_cases hlt4 : q < t.Parts.length
            case neg =>
              have HE : Hid (true = U) := Lib.hid (by have h := HD.out; rw [List.drop_eq_nil_of_le (by omega)] at h; simpa [ascB] using h)
              go_wp2
              go_roundg (x.Txns.length - i - 1)
              case rel => exact ⟨i + 1, by omega, by go_num, HZ, hb, Lib.hid (by rw [← HD4.out, ← HE.out]; rfl)⟩
              case measure => omega
            obtain ⟨bd, y, rfl, hy, r0⟩ := rowInt G4 q hlt4
            have HXx := Lib.hid (dropQ_cons hy)
            have Hy := Lib.hid hy
            clear hy
            have HD2 : Hid ((decide (0 ≤ y) && decide (y < x.Logs.length) && decide (p < y) && ascB x.Logs.length (t.Parts.drop (q + 1)) y) = U) := Lib.hid (by rw [← ascB_cons, ← HXx.out]; exact HD.out)
            clear HXx HD
            have HN : Hid (∀ s, q + 1 = s + 1 → t.Parts[s]? = some y) := Lib.hid (fun s hq => by rw [show s = q by omega]; exact Hy.out)
            generalize hin : inB y 0 ((x.Logs.length : Int) - 1) = bi
            have Hin := Lib.hid hin
            clear hin
            have W1 : IntKind.i64.wrap ((x.Logs.length : Int) - 1) = (x.Logs.length : Int) - 1 := IntWalk.i64_in _ (by omega)
            have HW1 := Lib.hid W1
            clear W1
            cases bi with
            | false =>
              have HF : Hid (false = T) := Lib.hid (by rw [← HD4.out, ← HD2.out]; have := Hin.out; grind [inB])
              go_upto_region 22 with fail
              have W1 := HW1.out
              go_quiet ((go_at_call 32; exact Calls.quiet_of_same (l1In_v _ _ _ _ false Hin.out)))
              clear W1
              go_wp2
              go_ret
              exact ⟨ret_bool (by rw [← HR.out, ← HF.out]), below_dn hb _⟩
            | true =>
              by_cases hk0 : q = 0
              · have HF : Hid (ascB x.Logs.length (t.Parts.drop (q + 1)) y = U) := Lib.hid (by rw [← HD2.out]; have := Hin.out; have := HP0.out hk0; grind [inB])
                have hd : decide ((0 : Int) < (q : Int)) = false := by simp; omega
                have hd2 : decide (0 < q) = false := by simp; omega
                have Hk0 := Lib.hid hk0
                clear hk0
                go_upto_region 22 with fail
                have W1 := HW1.out
                go_quiet ((go_at_call 32; exact Calls.quiet_of_same (l1In_v _ _ _ _ true Hin.out)))
                clear W1
                go_wp2
                go_roundg (gk - 1)
                case rel => exact ⟨q + 1, y, by omega, by go_num, HN, Lib.hid (by omega), Lib.hid (HZ.out.later (below_dn (Below.refl _ _) _)), Lib.hid (HX.out.later (below_dn (Below.refl _ _) _)), below_dn hb _, Row_below G4 (below_dn (Below.refl _ _) _), HF⟩
                case measure => omega
              · obtain ⟨ad', x', hA', hx', p1⟩ := rowInt G4 (q - 1) (by omega)
                cases hA'
                obtain rfl : x' = p := by rw [HP.out (q - 1) (by omega)] at hx'; exact (Option.some.inj hx').symm
                clear hx'
                have hk1 : decide ((0 : Int) < (q : Int)) = true := by simp; omega
                have hd2 : decide (0 < q) = true := by simp; omega
                have hk2 : IntKind.i64.wrap ((q : Int) - 1) = ((q - 1 : Nat) : Int) := by rw [IntWalk.i64_in _ (by omega)]; omega
                by_cases hpy : y ≤ x'
                · have HF : Hid (false = T) := Lib.hid (by rw [← HD4.out, ← HD2.out]; grind)
                  have hpy2 : decide (y ≤ x') = true := by simpa using hpy
                  go_upto_region 22 with fail
                  have W1 := HW1.out
                  go_quiet ((go_at_call 32; exact Calls.quiet_of_same (l1In_v _ _ _ _ true Hin.out)))
                  clear W1
                  go_wp2
                  go_ret
                  exact ⟨ret_bool (by rw [← HR.out, ← HF.out]), below_dn hb _⟩
                · have HF : Hid (ascB x.Logs.length (t.Parts.drop (q + 1)) y = U) := Lib.hid (by rw [← HD2.out]; have := Hin.out; grind [inB])
                  have hpy2 : decide (y ≤ x') = false := by simpa using hpy
                  go_upto_region 22 with fail
                  have W1 := HW1.out
                  go_quiet ((go_at_call 32; exact Calls.quiet_of_same (l1In_v _ _ _ _ true Hin.out)))
                  clear W1 hk2
                  go_wp2
                  go_roundg (gk - 1)
                  case rel => exact ⟨q + 1, y, by omega, by go_num, HN, Lib.hid (by omega), Lib.hid (HZ.out.later (below_dn (Below.refl _ _) _)), Lib.hid (HX.out.later (below_dn (Below.refl _ _) _)), below_dn hb _, Row_below G4 (below_dn (Below.refl _ _) _), HF⟩
                  case measure => omega
end Go.Proofs.Ytpnjgmgnhkhapaa.H
