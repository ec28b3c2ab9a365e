/-
The reference's Stable answers stable. Conditions: each contract's own premises.
-/
import Derived.Test.YtipemgjgimpmbaaHTx2
import Derived.Test.YtipemgjgimpmbaaHTx3
namespace Go.Proofs.Ytipemgjgimpmbaa.H
open Go.RowKit
set_option linter.unusedVariables false
set_option linter.unusedSimpArgs false
set_option maxRecDepth 100000
theorem least_step {os : List Gone} {k : Nat} {g : Gone} (h : os[k]? = some g) (n : Int) : leastOf (os.take (k + 1)) n = min (leastOf (os.take k) n) g.First := by
  unfold leastOf
  rw [List.take_add_one, h, List.foldl_append]
  rfl
theorem l5Least_c (w : World) (a b : Int) : Calls Try.prog 110 #[.int .i64 a, .int .i64 b] w fun e w' => e = .returned (.int .i64 (min a b)) ∧ w = w' := by
  go_enter Try.func110, Try.ntmps110
  by_cases h : a < b
  · go_wp2
    go_ret
    exact ⟨ret_int (by omega), rfl⟩
  · go_wp2
    go_ret
    exact ⟨ret_int (by omega), rfl⟩
theorem fOk_all {x : Log} (h : logOk x = true) : (allB x).length ≤ 400 ∧ ∀ b ∈ allB x, fOk b := ⟨(logOk_all h).1, fun b hb => fOk_of ((logOk_all h).2 b hb)⟩
set_option maxHeartbeats 4000000 in
theorem specStable_c (w : World) (x : Log) {A3 : Option Addr} {c3 : Nat} (l3 : x.Segments.length ≤ c3) (g3 : Row kSegment w A3 x.Segments) (hs : x.sm) (hw : x.wf) :
    Calls Try.prog 78 #[.agg #[.int .i64 x.Start, .int .i64 x.Next, .int .i64 x.Roll, .slice A3 x.Segments.length c3]] w fun e w' => e = .returned (.int .i64 (stable x)) ∧ Below w.heap.size w w' := by
  unfold stable
  have HS := Lib.hid hs
  have HW := Lib.hid hw
  have hlen := hs.1
  clear hs hw
  generalize hok : logOk x = ok
  have Hok := Lib.hid hok
  clear hok
  cases ok with
  | false =>
    go_enter Try.func78, Try.ntmps78
    go_wp2_with (go_at_call 42; refine (specLogOk_c _ x l3 (Row_below g3 (below_al _ _)) HS.out HW.out).mono ?_; rintro e w' ⟨rfl, hb2⟩; rw [Hok.out])
    go_ret
    exact ⟨rfl, below_tr (below_al _ _) hb2⟩
  | true =>
    have HA := Lib.hid (fOk_all Hok.out)
    have hllA := HA.out.1
    have hT := txF_len (allB x) (allB x).length
    rw [List.take_length] at hT
    generalize hL : allB x = L at HA hllA hT ⊢
    have HL := Lib.hid hL
    clear hL
    have hl1 : (txF L).1.length ≤ 400 := Nat.le_trans hT.1 hllA
    clear hT
    have hN : 0 ≤ x.Next ∧ x.Next ≤ 1000000000 := by
      have h := (logOk_chain Hok.out).2.2
      simp only [logHdr, inB, Bool.and_eq_true, decide_eq_true_eq] at h; omega
    obtain ⟨hN0, hN1⟩ := hN
    go_enter Try.func78, Try.ntmps78
    go_upto_region 3 with (go_at_call 42; refine (specLogOk_c _ x l3 (Row_below g3 (below_al _ _)) HS.out HW.out).mono ?_; rintro e w1 ⟨rfl, hb1⟩; rw [Hok.out]; have X := (Box.new w _ _).later hb1; have z0 := X 0 _ rfl; have z1 := X 1 _ rfl; have z2 := X 2 _ rfl; have z3 := X 3 _ rfl; have hgz := X.lt rfl; have HX := Lib.hid X; clear X)
    go_upto_region 6 with (first
      | (go_at_call 44; refine (l3All_c _ x l3 (Row_below (Row_below g3 (below_al _ _)) hb1) hlen (by rw [HL.out]; omega)).mono ?_; rw [HL.out]; rintro e w2 ⟨A, c, rfl, hc, hr, hb2⟩)
      | (go_at_call 43; refine (l8Open_c _ L hc hr hllA HA.out.2).mono ?_; rintro e w3 ⟨v1, v2, rfl, hK1, hK2, hb3⟩; obtain ⟨A1, c1, rfl, hc1, hr1⟩ := hK1.flatRead gone_flat; obtain ⟨A2, c2, rfl, hc2, _⟩ := hK2.flatRead gone_flat; replace z0 := later hb3 (later hb2 z0); replace z1 := later hb3 (later hb2 z1)))
    have hb := below_tr (below_tr (below_tr (below_al _ _) hb1) hb2) hb3
    clear hb1 hb2 hb3 HX z2 z3 hgz hK1 hK2
    go_loopg [5, 6] (txF L).1.length (fun g v5 v6 wr => ∃ k : Nat, k + g = (txF L).1.length ∧ v6 = .int .i64 k ∧ v5 = .int .i64 (leastOf ((txF L).1.take k) x.Next) ∧ wr = w3)
    case atStart => exact ⟨0, by omega, rfl, rfl, rfl⟩
    case round =>
      obtain ⟨k, hk, rfl, rfl, rfl⟩ := hrel
      by_cases hlt : k < (txF L).1.length
      case neg =>
        rw [List.take_of_length_le (by omega)]
        go_wp2
        go_ret
        exact ⟨rfl, hb⟩
      obtain ⟨ad, g, rfl, hgx, q0, q1, q2⟩ := Gone.at hr1 k hlt
      have HS2 := Lib.hid (least_step hgx x.Next)
      clear hgx
      go_wp2_with (go_at_call 110; refine (l5Least_c _ _ _).mono ?_; rintro e w' ⟨rfl, rfl⟩)
      go_roundg (gk - 1)
      case rel => exact ⟨k + 1, by omega, by go_num, by rw [HS2.out], rfl⟩
      case measure => omega
end Go.Proofs.Ytipemgjgimpmbaa.H
