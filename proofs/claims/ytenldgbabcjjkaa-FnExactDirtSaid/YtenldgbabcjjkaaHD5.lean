/-
The program's Dirt, from goes' contract. Conditions: each contract's own premises.
-/
import Derived.Test.YtenldgbabcjjkaaHD4
namespace Go.Proofs.Ytenldgbabcjjkaa.H
open Go.RowKit
set_option linter.unusedVariables false
set_option linter.unusedSimpArgs false
set_option maxRecDepth 100000
set_option maxHeartbeats 8000000 in
theorem implDirt_of (hGC : GoesC) (w : World) (x : Log) (tt now keep : Int) {A3 : Option Addr} {c3 : Nat} (l3 : x.Segments.length ≤ c3) (g3 : Row kSegment w A3 x.Segments) (hs : x.sm) :
    Calls Try.prog 35 #[.agg #[.int .i64 x.Start, .int .i64 x.Next, .int .i64 x.Roll, .slice A3 x.Segments.length c3], .int .i64 tt, .int .i64 now, .int .i64 keep] w fun e w' => e = .returned (.tuple #[.int .i64 (dirtF x tt now keep).1, .int .i64 (dirtF x tt now keep).2]) ∧ Below w.heap.size w w' := by
  have HGC := Lib.hid hGC
  have HS := Lib.hid hs
  have hlen := hs.1
  have HSM := Lib.hid (all_sm hs)
  have HRC := Lib.hid (all_recs hs)
  clear hs hGC
  generalize hD : dirtF x tt now keep = D
  have HDD := Lib.hid hD
  clear hD
  generalize hok : argsF x tt now keep = ok
  have HOK := Lib.hid hok
  clear hok
  cases ok with
  | false =>
    have HE : Hid (((0 : Int), (0 : Int)) = D) := Lib.hid (by rw [← HDD.out]; unfold dirtF; rw [HOK.out]; rfl)
    go_enter Try.func35, Try.ntmps35
    go_wp2_with (go_at_call 77; refine (compactable_c _ x _ _ _ l3 (Row_below g3 (below_al _ _)) HS.out).mono ?_; rintro e w' ⟨rfl, hb2⟩; rw [HOK.out])
    go_ret2
    exact ⟨by rw [← HE.out]; rfl, below_tr (below_al _ _) hb2⟩
  | true =>
  have hlo : logOk x = true ∧ (0 ≤ now ∧ now ≤ 1000000000000) ∧ (0 ≤ keep ∧ keep ≤ 1000000000000) := by
    have h := HOK.out
    unfold argsF inB at h
    simp only [Bool.and_eq_true, decide_eq_true_eq] at h
    exact ⟨h.1.1.1, h.1.2, h.2⟩
  have HN := Lib.hid hlo.2.1
  have HK := Lib.hid hlo.2.2
  have HA := Lib.hid (show (allB x).length ≤ 400 ∧ ∀ b ∈ allB x, fOk b from ⟨(logOk_all hlo.1).1, fun b hb => fOk_of ((logOk_all hlo.1).2 b hb)⟩)
  clear hlo
  have HE0 : Hid (((haveL tt (allB x) : Int), (goL tt (now - keep) (allB x) : Int)) = D) := Lib.hid (by rw [← HDD.out]; unfold dirtF; rw [HOK.out]; rfl)
  have hllA := HA.out.1
  generalize hL : allB x = L at HA hllA HE0 HRC HSM
  have HL := Lib.hid hL
  clear hL HDD
  have hu := Try.underlying117
  have hu2 := Try.underlying104
  go_enter Try.func35, Try.ntmps35
  go_upto_region 3 with (go_at_call 77; refine (compactable_c _ x _ _ _ l3 (Row_below g3 (below_al _ _)) HS.out).mono ?_; rintro e w1 ⟨rfl, hb1⟩; rw [HOK.out]; have X := (Box.new w _ _).later hb1; have z0 := X 0 _ rfl; have z1 := X 1 _ rfl; have z2 := X 2 _ rfl; have z3 := X 3 _ rfl; have hgz := X.lt rfl; have HX := Lib.hid X; clear X)
  go_upto_region 6 with (first
    | (go_at_call 78; refine (batches_c _ x l3 (Row_below (Row_below g3 (below_al _ _)) hb1) hlen (by rw [HL.out]; omega)).mono ?_; rw [HL.out]; rintro e w2 ⟨A, c, rfl, hc, hr, hb2⟩)
    | (go_at_call 79; refine (HGC.out _ L A c hc hr hllA HA.out.2 HSM.out _ _ _ HN.out HK.out).mono ?_; rintro e w3 ⟨B, d, rfl, hd, hrB, hb3⟩))
  have hb := below_tr (below_tr (below_tr (below_al _ _) hb1) hb2) hb3
  replace hr := Row_below hr hb3
  clear hb1 z0 z1 z2 z3 HX hgz hb2 hb3
  go_loopg [11, 12, 31] L.length (fun g v11 v12 v31 wr => ∃ (i m n : Nat), i + g = L.length ∧ v31 = .int .i64 i ∧ v11 = .int .i64 m ∧ v12 = .int .i64 n ∧ m ≤ i * 1048576 ∧ n ≤ i * 1048576 ∧ wr = w3 ∧ Hid (((m + haveL tt (L.drop i) : Nat) : Int) = D.1) ∧ Hid (((n + goL tt (now - keep) (L.drop i) : Nat) : Int) = D.2))
  case atStart => exact ⟨0, 0, 0, by omega, rfl, rfl, rfl, by omega, by omega, rfl, Lib.hid (by rw [← HE0.out]; simp), Lib.hid (by rw [← HE0.out]; simp)⟩
  case round =>
    obtain ⟨i, m, n, hi, rfl, rfl, rfl, hm, hn, rfl, HM, HN2⟩ := hrel
    by_cases hlt : i < L.length
    case neg =>
      have HE1 : Hid ((m : Int) = D.1) := Lib.hid (by rw [← HM.out, List.drop_eq_nil_of_le (show L.length ≤ i by omega)]; rfl)
      have HE2 : Hid ((n : Int) = D.2) := Lib.hid (by rw [← HN2.out, List.drop_eq_nil_of_le (show L.length ≤ i by omega)]; rfl)
      go_wp2
      go_ret2
      exact ⟨by rw [← HE1.out, ← HE2.out]; rfl, hb⟩
    have hxb : L[i]? = some L[i] := List.getElem?_eq_getElem hlt
    generalize L[i] = b at hxb
    have HXB := Lib.hid hxb
    obtain ⟨_, ⟨gb1, gb2⟩, ⟨gf1, gf2⟩, _, _⟩ := HA.out.2 b (List.mem_of_getElem? hxb)
    have hxl := HRC.out b (List.mem_of_getElem? hxb)
    have HH := Lib.hid (haveL_step (tt := tt) hxb)
    have HG := Lib.hid (goL_step (tt := tt) (cut := now - keep) hxb)
    obtain ⟨bd, A1, c1, rfl, r0, l1, g1⟩ := boolsAt hrB (matF_get tt (now - keep) L i b hxb)
    clear hxb
    have hrl := rowF_len tt (now - keep) b (kL tt (L.drop (i + 1))) b.Records 0
    rw [hrl] at r0 l1
    clear hrl
    obtain ⟨ad, A7, c7, rfl, s0, s1, s2, s3, s4, s5, s6, m8, n8⟩ := BatchAt hr HXB.out
    clear s1 s2 s3 s4 s5 s6
    have HM2 : Hid (((m + haveB tt b (b.Records.drop 0) 0 + haveL tt (L.drop (i + 1)) : Nat) : Int) = D.1) := Lib.hid (by rw [← HM.out, HH.out, List.drop_zero]; congr 1; omega)
    have HN3 : Hid (((n + goB tt (now - keep) b (kL tt (L.drop (i + 1))) (b.Records.drop 0) 0 + goL tt (now - keep) (L.drop (i + 1)) : Nat) : Int) = D.2) := Lib.hid (by rw [← HN2.out, HG.out, List.drop_zero]; congr 1; omega)
    clear HM HN2 HH HG
    go_upto_region 9 with fail
    go_loopg [11, 12, 38] b.Records.length (fun g v11 v12 v38 wi => ∃ (k m n : Nat), k + g = b.Records.length ∧ v38 = .int .i64 k ∧ v11 = .int .i64 m ∧ v12 = .int .i64 n ∧ m ≤ i * 1048576 + k ∧ n ≤ i * 1048576 + k ∧ wi = wr ∧ Hid (((m + haveB tt b (b.Records.drop k) k + haveL tt (L.drop (i + 1)) : Nat) : Int) = D.1) ∧ Hid (((n + goB tt (now - keep) b (kL tt (L.drop (i + 1))) (b.Records.drop k) k + goL tt (now - keep) (L.drop (i + 1)) : Nat) : Int) = D.2))
    case atStart => exact ⟨0, m, n, by omega, rfl, rfl, rfl, Nat.le_trans hm (Nat.le_add_right _ _), Nat.le_trans hn (Nat.le_add_right _ _), rfl, HM2, HN3⟩
    case round =>
      clear HM2 HN3 hm hn m n
      obtain ⟨k, m, n, hk, rfl, rfl, rfl, hm, hn, rfl, HM, HN2⟩ := hrel
      by_cases hlt2 : k < b.Records.length
      case neg =>
        have HE1 : Hid (((m + haveL tt (L.drop (i + 1)) : Nat) : Int) = D.1) := Lib.hid (by rw [← HM.out, List.drop_eq_nil_of_le (show b.Records.length ≤ k by omega)]; rfl)
        have HE2 : Hid (((n + goL tt (now - keep) (L.drop (i + 1)) : Nat) : Int) = D.2) := Lib.hid (by rw [← HN2.out, List.drop_eq_nil_of_le (show b.Records.length ≤ k by omega)]; rfl)
        go_wp2
        go_roundg (L.length - i - 1)
        case rel => exact ⟨i + 1, m, n, by omega, by go_num, rfl, rfl, by omega, by omega, rfl, HE1, HE2⟩
        case measure => omega
      have hyk : b.Records[k]? = some b.Records[k] := List.getElem?_eq_getElem hlt2
      generalize b.Records[k] = y at hyk
      have HHS := Lib.hid (haveB_step (tt := tt) (b := b) hyk)
      have HGS := Lib.hid (goB_step (tt := tt) (cut := now - keep) (b := b) (T := kL tt (L.drop (i + 1))) hyk)
      obtain ⟨yd, rfl, e0⟩ := boolAt g1 (rowF_get tt (now - keep) b (kL tt (L.drop (i + 1))) b.Records 0 k y hyk)
      rw [Nat.zero_add] at e0
      clear hyk
      generalize hgo : goesF tt (now - keep) b (kB tt b (b.Records.drop (k + 1)) (k + 1) ++ kL tt (L.drop (i + 1))) k y = go at HGS e0
      have HGO := Lib.hid hgo
      clear hgo
      by_cases hbt : b.Base + (k : Int) < tt
      · have HE1 : Hid (((m + 1 + haveB tt b (b.Records.drop (k + 1)) (k + 1) + haveL tt (L.drop (i + 1)) : Nat) : Int) = D.1) := Lib.hid (by rw [← HM.out, HHS.out, if_pos hbt]; congr 1; omega)
        cases go with
        | true =>
          have HE2 : Hid (((n + 1 + goB tt (now - keep) b (kL tt (L.drop (i + 1))) (b.Records.drop (k + 1)) (k + 1) + goL tt (now - keep) (L.drop (i + 1)) : Nat) : Int) = D.2) := Lib.hid (by rw [← HN2.out, HGS.out]; congr 1; simp; omega)
          go_wp2
          go_roundg (b.Records.length - k - 1)
          case rel => exact ⟨k + 1, m + 1, n + 1, by omega, by go_num, by go_num, by go_num, by omega, by omega, rfl, HE1, HE2⟩
          case measure => omega
        | false =>
          have HE2 : Hid (((n + goB tt (now - keep) b (kL tt (L.drop (i + 1))) (b.Records.drop (k + 1)) (k + 1) + goL tt (now - keep) (L.drop (i + 1)) : Nat) : Int) = D.2) := Lib.hid (by rw [← HN2.out, HGS.out]; congr 1; simp)
          go_wp2
          go_roundg (b.Records.length - k - 1)
          case rel => exact ⟨k + 1, m + 1, n, by omega, by go_num, by go_num, rfl, by omega, by omega, rfl, HE1, HE2⟩
          case measure => omega
      · have HE1 : Hid (((m + haveB tt b (b.Records.drop (k + 1)) (k + 1) + haveL tt (L.drop (i + 1)) : Nat) : Int) = D.1) := Lib.hid (by rw [← HM.out, HHS.out, if_neg hbt]; congr 1; omega)
        have hgf : go = false := by rw [← HGO.out]; simp [goesF, eligF, hbt]
        subst hgf
        have HE2 : Hid (((n + goB tt (now - keep) b (kL tt (L.drop (i + 1))) (b.Records.drop (k + 1)) (k + 1) + goL tt (now - keep) (L.drop (i + 1)) : Nat) : Int) = D.2) := Lib.hid (by rw [← HN2.out, HGS.out]; congr 1; simp)
        go_wp2
        go_roundg (b.Records.length - k - 1)
        case rel => exact ⟨k + 1, m, n, by omega, by go_num, rfl, rfl, by omega, by omega, rfl, HE1, HE2⟩
        case measure => omega
end Go.Proofs.Ytenldgbabcjjkaa.H
