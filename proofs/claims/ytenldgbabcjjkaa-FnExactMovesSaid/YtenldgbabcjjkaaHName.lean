/-
NameOk, both sides: nameOk. Conditions: each contract's own premises.
-/
import Derived.Test.YtenldgbabcjjkaaH0
import Derived.Test.YtenldgbabcjjkaaProg
namespace Go.Proofs.Ytenldgbabcjjkaa.H
open Go.RowKit
set_option linter.unusedVariables false
set_option linter.unusedSimpArgs false
set_option maxRecDepth 100000
def ltrI (n : Int) : Bool := decide (97 ≤ n) && decide (n ≤ 122) || decide (65 ≤ n) && decide (n ≤ 90)
def digI (n : Int) : Bool := decide (48 ≤ n) && decide (n ≤ 57)
def okI (c : UInt8) : Bool := ltrI c.toNat || digI c.toNat || (c.toNat : Int) == 95
def nameOk (s : ByteArray) : Bool := match s.data.toList with
  | [] => false
  | c :: r => decide (s.size ≤ 20) && ltrI c.toNat && (c :: r).all okI
theorem letter_c (n : Int) (w : World) : Calls Try.prog 83 #[.int .u8 n] w fun e w' => e = .returned (.bool (ltrI n)) ∧ w = w' := by
  go_enter Try.func83, Try.ntmps83
  go_wp2
  all_goals (go_ret; exact ⟨ret_bool (by grind [ltrI]), rfl⟩)
theorem digit_c (n : Int) (w : World) : Calls Try.prog 84 #[.int .u8 n] w fun e w' => e = .returned (.bool (digI n)) ∧ w = w' := by
  go_enter Try.func84, Try.ntmps84
  go_wp2
  all_goals (go_ret; exact ⟨ret_bool (by grind [digI]), rfl⟩)
theorem str_at (s : ByteArray) (k : Nat) (h : k < s.size) : s.data.toList[k]? = some s[k] := by
  rw [List.getElem?_eq_getElem (by simpa using h)]; rfl
theorem nameOk_yes {s : ByteArray} (h0 : 0 < s.size) (h : s.size ≤ 20) (hl : ltrI (s[0]'h0).toNat = true) : s.data.toList.all okI = nameOk s := by
  unfold nameOk
  have h1 := str_at s 0 h0
  cases hs : s.data.toList with
  | nil => rw [hs] at h1; cases h1
  | cons c r =>
    rw [hs] at h1
    simp only [List.getElem?_cons_zero, Option.some.injEq] at h1
    rw [h1]
    simp only [h, hl, decide_true, Bool.true_and]
theorem nameOk_no {s : ByteArray} (h : s.size = 0 ∨ 20 < s.size ∨ ∃ h0 : 0 < s.size, ltrI (s[0]'h0).toNat = false) : nameOk s = false := by
  unfold nameOk
  cases hs : s.data.toList with
  | nil => rfl
  | cons c r =>
    have hsz : s.size = r.length + 1 := by
      have : s.data.toList.length = r.length + 1 := by rw [hs]; rfl
      simpa using this
    rcases h with h | h | ⟨h0, h⟩
    · omega
    · have : decide (s.size ≤ 20) = false := by simp; omega
      simp [this]
    · have h1 := str_at s 0 h0
      rw [hs] at h1
      simp only [List.getElem?_cons_zero, Option.some.injEq] at h1
      rw [h1]
      simp [h]
set_option maxHeartbeats 2000000 in
theorem implNameOk_c (s : ByteArray) (w : World) (hs : s.size ≤ 1048576) : Calls Try.prog 42 #[.string s] w fun e w' => e = .returned (.bool (nameOk s)) ∧ w = w' := by
  by_cases h0 : 0 < s.size
  case neg =>
    have HN := Lib.hid (nameOk_no (s := s) (.inl (by omega)))
    have h1 : (s.size : Int) < 1 := by omega
    go_enter Try.func42, Try.ntmps42
    go_wp2
    go_ret
    exact ⟨ret_bool HN.out.symm, rfl⟩
  by_cases h20 : s.size ≤ 20
  case neg =>
    have HN := Lib.hid (nameOk_no (s := s) (.inr (.inl (by omega))))
    go_enter Try.func42, Try.ntmps42
    go_wp2
    go_ret
    exact ⟨ret_bool HN.out.symm, rfl⟩
  generalize hl : ltrI (s[0]'h0).toNat = bl
  have HL := Lib.hid hl
  clear hl
  cases bl with
  | false =>
    have HN := Lib.hid (nameOk_no (s := s) (.inr (.inr ⟨h0, HL.out⟩)))
    go_enter Try.func42, Try.ntmps42
    go_wp2_with (go_at_call 83; refine (letter_c _ _).mono ?_; rintro e w' ⟨rfl, rfl⟩; rw [HL.out])
    go_ret
    exact ⟨ret_bool HN.out.symm, rfl⟩
  | true =>
    have HN := Lib.hid (nameOk_yes h0 h20 HL.out)
    go_enter Try.func42, Try.ntmps42
    go_wp2_with (go_at_call 83; refine (letter_c _ _).mono ?_; rintro e w' ⟨rfl, rfl⟩; rw [HL.out])
    go_loopg [3] s.size (fun g v3 wr => ∃ k : Nat, k + g = s.size ∧ v3 = .int .i64 k ∧ wr = w ∧ Hid ((s.data.toList.take k).all okI = true))
    case atStart => exact ⟨0, by omega, rfl, rfl, Lib.hid rfl⟩
    case round =>
      obtain ⟨k, hk, rfl, rfl, Ha⟩ := hrel
      by_cases hlt : k < s.size
      · have Hx := Lib.hid (str_at s k hlt)
        generalize hll : ltrI (s[k]).toNat = b1
        generalize hdd : digI (s[k]).toNat = b2
        have HLL := Lib.hid hll
        have HDD := Lib.hid hdd
        clear hll hdd
        go_wp2_with (first
          | (go_at_call 83; refine (letter_c _ _).mono ?_; rintro e w' ⟨rfl, rfl⟩; rw [HLL.out])
          | (go_at_call 84; refine (digit_c _ _).mono ?_; rintro e w' ⟨rfl, rfl⟩; rw [HDD.out]))
        all_goals first
          | (go_ret; exact ⟨ret_bool (by rw [← HN.out]; exact (all_fail Hx.out (by unfold okI; rw [HLL.out, HDD.out]; grind)).symm), rfl⟩)
          | (go_roundg (gk - 1); (case rel => exact ⟨k + 1, by omega, by go_num, rfl, Lib.hid (all_step Ha.out Hx.out (by unfold okI; rw [HLL.out, HDD.out]; grind))⟩); (case measure => omega))
      · go_wp2
        go_ret
        exact ⟨ret_bool (by rw [← HN.out]; exact (all_full Ha.out (by simp; omega)).symm), rfl⟩
set_option maxHeartbeats 2000000 in
theorem specNameOk_c (s : ByteArray) (w : World) (hs : s.size ≤ 1048576) : Calls Try.prog 37 #[.string s] w fun e w' => e = .returned (.bool (nameOk s)) ∧ w = w' := by
  by_cases h0 : 0 < s.size
  case neg =>
    have HN := Lib.hid (nameOk_no (s := s) (.inl (by omega)))
    have h1 : (s.size : Int) < 1 := by omega
    go_enter Try.func37, Try.ntmps37
    go_wp2
    go_ret
    exact ⟨ret_bool HN.out.symm, rfl⟩
  by_cases h20 : s.size ≤ 20
  case neg =>
    have HN := Lib.hid (nameOk_no (s := s) (.inr (.inl (by omega))))
    go_enter Try.func37, Try.ntmps37
    go_wp2
    go_ret
    exact ⟨ret_bool HN.out.symm, rfl⟩
  go_enter Try.func37, Try.ntmps37
  go_wp2
  go_loopg [3] s.size (fun g v3 wr => ∃ k : Nat, k + g = s.size ∧ v3 = .int .i64 k ∧ wr = w ∧ Hid (0 < k → ltrI (s[0]'h0).toNat = true) ∧ Hid ((s.data.toList.take k).all okI = true))
  case atStart => exact ⟨0, by omega, rfl, rfl, Lib.hid (by omega), Lib.hid rfl⟩
  case round =>
    obtain ⟨k, hk, rfl, rfl, Hl, Ha⟩ := hrel
    by_cases hlt : k < s.size
    · have Hx := Lib.hid (str_at s k hlt)
      by_cases hk0 : k = 0
      · subst hk0
        go_wp2
        all_goals first
          | (go_ret; exact ⟨ret_bool (by rw [nameOk_no (s := s) (.inr (.inr ⟨h0, by unfold ltrI; grind⟩))]), rfl⟩)
          | (go_roundg (gk - 1); (case rel => exact ⟨1, by omega, by go_num, rfl, Lib.hid (fun _ => by unfold ltrI; grind), Lib.hid (all_step Ha.out Hx.out (by unfold okI ltrI digI; grind))⟩); (case measure => omega))
      · have HN := Lib.hid (nameOk_yes h0 h20 (Hl.out (by omega)))
        have hk1 : ((k : Int) == 0) = false := beq_eq_false_iff_ne.2 (by omega)
        have HK := Lib.hid hk0
        clear hk0
        go_wp2
        all_goals first
          | (go_ret; exact ⟨ret_bool (by rw [← HN.out]; exact (all_fail Hx.out (by unfold okI ltrI digI; grind)).symm), rfl⟩)
          | (go_roundg (gk - 1); (case rel => exact ⟨k + 1, by omega, by go_num, rfl, Lib.hid (fun _ => Hl.out (by have := HK.out; omega)), Lib.hid (all_step Ha.out Hx.out (by unfold okI ltrI digI; grind))⟩); (case measure => omega))
    · have HN := Lib.hid (nameOk_yes h0 h20 (Hl.out (by omega)))
      go_wp2
      go_ret
      exact ⟨ret_bool (by rw [← HN.out]; exact (all_full Ha.out (by simp; omega)).symm), rfl⟩
end Go.Proofs.Ytenldgbabcjjkaa.H
