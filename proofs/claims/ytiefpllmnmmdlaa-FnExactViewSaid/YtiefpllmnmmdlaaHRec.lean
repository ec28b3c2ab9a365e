/-
RecordOk, the program's and the reference's: both answer recOk. Conditions: each contract's own premises.
-/
import Derived.Test.YtiefpllmnmmdlaaHTypes
import Derived.Test.YtiefpllmnmmdlaaProg
namespace Go.Proofs.Ytiefpllmnmmdlaa.H
open Go.RowKit
set_option linter.unusedVariables false
set_option linter.unusedSimpArgs false
set_option maxRecDepth 100000
def inB (x lo hi : Int) : Bool := decide (lo ≤ x ∧ x ≤ hi)
theorem timeOk_c (t : Int) (w : World) : Calls Try.prog 40 #[.int .i64 t] w fun e w' => e = .returned (.bool (inB t 0 1000000000000)) ∧ w = w' := by
  go_enter Try.func40, Try.ntmps40
  go_wp2
  all_goals (go_ret; exact ⟨ret_bool (by simp [inB]; omega), rfl⟩)
theorem textOk_c (s : ByteArray) (w : World) (hs : s.size ≤ 1048576) : Calls Try.prog 97 #[.string s] w fun e w' => e = .returned (.bool (decide (s.size ≤ 100))) ∧ w = w' := by
  go_enter Try.func97, Try.ntmps97
  go_wp2
  all_goals (go_ret; exact ⟨ret_bool (by simp; omega), rfl⟩)
theorem l1In_c (x lo hi : Int) (w : World) : Calls Try.prog 37 #[.int .i64 x, .int .i64 lo, .int .i64 hi] w fun e w' => e = .returned (.bool (inB x lo hi)) ∧ w = w' := by
  go_enter Try.func37, Try.ntmps37
  go_wp2
  all_goals (go_ret; exact ⟨ret_bool (by simp [inB]; omega), rfl⟩)
def headOk (h : Head) : Bool := !h.Key.toList.isEmpty && decide ((h.Key.size : Int) ≤ 100) && decide ((h.Value.size : Int) ≤ 100)
def recOk (r : Record) : Bool := inB r.Time 0 1000000000000 && (r.Keyed || r.Key.toList.isEmpty) && (!r.Gone || r.Value.toList.isEmpty) && decide ((r.Key.size : Int) ≤ 100) && decide ((r.Value.size : Int) ≤ 100) && decide ((r.Heads.length : Int) ≤ 3) && r.Heads.all headOk
set_option maxHeartbeats 2000000 in
theorem specRecordOk_c (w : World) (x : Record) {A5 : Option Addr} {c5 : Nat} (l5 : x.Heads.length ≤ c5) (g5 : Row kHead w A5 x.Heads) (hs : x.sm) :
    Calls Try.prog 62 #[.agg #[.int .i64 x.Time, .bool x.Keyed, .string x.Key, .bool x.Gone, .string x.Value, .slice A5 x.Heads.length c5]] w fun e w' => e = .returned (.bool (recOk x)) ∧ Below w.heap.size w w' := by
  obtain ⟨s2, s4, s5⟩ := hs
  have hl := s5.1
  have S5 := Lib.hid s5.2
  clear s5
  have hu := Try.underlying127
  have hu2 := Try.underlying51
  go_enter Try.func62, Try.ntmps62
  go_upto_region 3 with (go_at_call 37; refine (l1In_c _ _ _ _).mono ?_; rintro e w' ⟨rfl, rfl⟩)
  all_goals first
    | (go_ret; exact ⟨ret_bool (by grind [recOk, List.isEmpty_iff]), below_al _ _⟩)
    | skip
  go_cut [0, 43] (fun s0 s wx => s = .bool !((x.Keyed || x.Key.toList.isEmpty) && (!x.Gone || x.Value.toList.isEmpty)) ∧ wx.cell? ⟨w.heap.size, 5, none⟩ = some (.slice A5 x.Heads.length c5) ∧ Below w.heap.size w wx)
  case first =>
    go_wp2
    all_goals (go_meet; exact ⟨by grind [List.isEmpty_iff], by simp, below_al _ _⟩)
  obtain ⟨rfl, hc, hb⟩ := hcut
  have HA : Hid ((x.Keyed || x.Key.toList.isEmpty) = true → (!x.Gone || x.Value.toList.isEmpty) = true → x.Heads.all headOk = recOk x) := Lib.hid (by grind [recOk])
  by_cases hg : ((x.Keyed || x.Key.toList.isEmpty) && (!x.Gone || x.Value.toList.isEmpty)) = true
  case neg =>
    replace hg := Bool.eq_false_iff.2 hg
    have HG := Lib.hid hg
    rw [hg]
    clear hg
    go_wp2
    go_ret
    exact ⟨ret_bool (by have := HG.out; grind [recOk]), hb⟩
  have HG := Lib.hid (HA.out (by grind) (by grind))
  rw [hg]
  clear hg HA
  go_wp2
  go_loopg [3] x.Heads.length (fun g i wr => ∃ k : Nat, k + g = x.Heads.length ∧ i = .int .i64 k ∧ wr.cell? ⟨w.heap.size, 5, none⟩ = some (.slice A5 x.Heads.length c5) ∧ Below w.heap.size w wr ∧ (x.Heads.take k).all headOk = true)
  case atStart => exact ⟨0, by omega, rfl, hc, hb, rfl⟩
  case round =>
    clear hc hb
    obtain ⟨k, hk, rfl, hc, hb, ha⟩ := hrel
    have Ha := Lib.hid ha
    clear ha
    by_cases hlt : k < x.Heads.length
    · obtain ⟨ad, h, rfl, hx, p0, p1⟩ := Head.at (Row_below g5 hb) k hlt
      have Hx := Lib.hid hx
      obtain ⟨q0, q1⟩ := S5.out h (List.mem_of_getElem? hx)
      clear hx
      have Hb := below_tr hb (below_al wr (.cells #[.string h.Key, .string h.Value] 127))
      go_wp2
      all_goals first
        | (go_ret; exact ⟨ret_bool (by rw [← HG.out]; exact (all_fail Hx.out (by grind [headOk, List.isEmpty_iff])).symm), Hb⟩)
        | (go_roundg (gk - 1); (case rel => exact ⟨k + 1, by omega, by go_num, later (below_al _ _) hc, Hb, all_step Ha.out Hx.out (by grind [headOk, List.isEmpty_iff])⟩); (case measure => omega))
    · go_wp2
      go_ret
      exact ⟨ret_bool (by rw [← HG.out]; exact (all_full Ha.out (by omega)).symm), hb⟩
set_option maxHeartbeats 2000000 in
theorem implRecordOk_c (w : World) (x : Record) {A5 : Option Addr} {c5 : Nat} (l5 : x.Heads.length ≤ c5) (g5 : Row kHead w A5 x.Heads) (hs : x.sm) :
    Calls Try.prog 88 #[.agg #[.int .i64 x.Time, .bool x.Keyed, .string x.Key, .bool x.Gone, .string x.Value, .slice A5 x.Heads.length c5]] w fun e w' => e = .returned (.bool (recOk x)) ∧ Below w.heap.size w w' := by
  obtain ⟨s2, s4, s5⟩ := hs
  have hl := s5.1
  have S5 := Lib.hid s5.2
  clear s5
  have hu := Try.underlying127
  have hu2 := Try.underlying51
  go_enter Try.func88, Try.ntmps88
  go_upto_region 1 with fail
  go_cut [0, 45] (fun s0 s wx => s = .bool !(inB x.Time 0 1000000000000 && (x.Keyed || x.Key.toList.isEmpty) && (!x.Gone || x.Value.toList.isEmpty) && decide ((x.Key.size : Int) ≤ 100) && decide ((x.Value.size : Int) ≤ 100) && decide ((x.Heads.length : Int) ≤ 3)) ∧ wx.cell? ⟨w.heap.size, 5, none⟩ = some (.slice A5 x.Heads.length c5) ∧ Below w.heap.size w wx)
  case first =>
    go_wp2_with (first | (go_at_call 40; refine (timeOk_c _ _).mono ?_; rintro e w' ⟨rfl, rfl⟩) | (go_at_call 97; refine (textOk_c _ _ (by assumption)).mono ?_; rintro e w' ⟨rfl, rfl⟩))
    all_goals (go_meet; exact ⟨by simp only [Value.bool.injEq]; grind [List.isEmpty_iff], by simp, below_al _ _⟩)
  obtain ⟨rfl, hc, hb⟩ := hcut
  generalize hq : (inB x.Time 0 1000000000000 && (x.Keyed || x.Key.toList.isEmpty) && (!x.Gone || x.Value.toList.isEmpty) && decide ((x.Key.size : Int) ≤ 100) && decide ((x.Value.size : Int) ≤ 100) && decide ((x.Heads.length : Int) ≤ 3)) = q
  have HQ := Lib.hid hq
  clear hq
  cases q with
  | false =>
    go_wp2
    go_ret
    exact ⟨ret_bool (by have := HQ.out; grind [recOk]), hb⟩
  | true =>
    have HG : Hid (x.Heads.all headOk = recOk x) := Lib.hid (by have := HQ.out; grind [recOk])
    clear HQ
    go_wp2
    go_loopg [49] x.Heads.length (fun g i wr => ∃ k : Nat, k + g = x.Heads.length ∧ i = .int .i64 k ∧ Below w.heap.size w wr ∧ (x.Heads.take k).all headOk = true)
    case atStart => exact ⟨0, by omega, rfl, hb, rfl⟩
    case round =>
      clear hc hb
      obtain ⟨k, hk, rfl, hb, ha⟩ := hrel
      have Ha := Lib.hid ha
      clear ha
      by_cases hlt : k < x.Heads.length
      · obtain ⟨ad, h, rfl, hx, p0, p1⟩ := Head.at (Row_below g5 hb) k hlt
        have Hx := Lib.hid hx
        obtain ⟨q0, q1⟩ := S5.out h (List.mem_of_getElem? hx)
        clear hx
        have Hb := below_tr hb (below_al wr (.cells #[.string h.Key, .string h.Value] 127))
        go_wp2_with (go_at_call 97; refine (textOk_c _ _ (by assumption)).mono ?_; rintro e w' ⟨rfl, rfl⟩)
        all_goals first
          | (go_ret; exact ⟨ret_bool (by rw [← HG.out]; exact (all_fail Hx.out (by grind [headOk, List.isEmpty_iff])).symm), Hb⟩)
          | (go_roundg (gk - 1); (case rel => exact ⟨k + 1, by omega, by go_num, Hb, all_step Ha.out Hx.out (by grind [headOk, List.isEmpty_iff])⟩); (case measure => omega))
      · go_wp2
        go_ret
        exact ⟨ret_bool (by rw [← HG.out]; exact (all_full Ha.out (by omega)).symm), hb⟩
end Go.Proofs.Ytiefpllmnmmdlaa.H
