/-
What QuorumOk is made of, on both sides: ascending, numbersOk, l6Commands, l6Numbers. Conditions: each contract's own premises.
-/
import Derived.Test.YtpnjgmgnhkhapaaHRec
import Derived.Test.YtpnjgmgnhkhapaaHSmall
namespace Go.Proofs.Ytpnjgmgnhkhapaa.H
open Go.RowKit
set_option linter.unusedVariables false
set_option linter.unusedSimpArgs false
set_option maxRecDepth 100000
theorem dropQ_cons {α : Type} {l : List α} {k : Nat} {x : α} (h : l[k]? = some x) : l.drop k = x :: l.drop (k + 1) := by
  obtain ⟨hk, rfl⟩ := List.getElem?_eq_some_iff.1 h
  exact List.drop_eq_getElem_cons hk
theorem rowInt {w : World} {A : Option Addr} {xs : List Int} (h : Row (Ki.int .i64) w A xs) (i : Nat) (hi : i < xs.length) : ∃ ad x, A = some ad ∧ xs[i]? = some x ∧ w.cell? (ad.add i) = some (.int .i64 x) := by
  obtain ⟨ad, x, cs, e, hx, hK, hc⟩ := Row_get h i hi
  have hK' : cs = [.int .i64 x] := hK
  subst hK'
  refine ⟨ad, x, e, hx, ?_⟩
  have h2 : w.cell? (ad.add (i * 1 + 0)) = some (.int .i64 x) := hc 0 _ rfl
  simpa using h2
def ascB (n : Int) : List Int → Int → Bool
  | [], _ => true
  | x :: r, p => decide (0 ≤ x) && decide (x < n) && decide (p < x) && ascB n r x
theorem ascB_cons (n x : Int) (r : List Int) (p : Int) : ascB n (x :: r) p = (decide (0 ≤ x) && decide (x < n) && decide (p < x) && ascB n r x) := by rw [ascB]
set_option maxHeartbeats 2000000 in
theorem ascending_c (w : World) (l : List Int) (n : Int) {A : Option Addr} {c : Nat} (hl : l.length ≤ c) (hg : Row (Ki.int .i64) w A l) (hs : l.length ≤ 1048576) :
    Calls Try.prog 39 #[.slice A l.length c, .int .i64 n] w fun e w' => e = .returned (.bool (ascB n l (-1))) ∧ Below w.heap.size w w' := by
  generalize hR : ascB n l (-1) = R
  have HR := Lib.hid hR
  clear hR
  have hu2 := Try.underlying41
  go_enter Try.func39, Try.ntmps39
  go_wp2
  go_loopg [9] l.length (fun g v9 wr => ∃ (k : Nat) (p : Int), k + g = l.length ∧ v9 = .int .i64 k ∧ (∀ q, k = q + 1 → l[q]? = some p) ∧ (k = 0 → p = -1) ∧ Below w.heap.size w wr ∧ Hid (ascB n (l.drop k) p = R))
  case atStart => exact ⟨0, -1, by omega, rfl, by omega, by omega, Below.refl _ _, HR⟩
  case round =>
    clear HR
    obtain ⟨k, p, hk, rfl, hp, hp0, hb, HD⟩ := hrel
    have HP := Lib.hid hp
    have HP0 := Lib.hid hp0
    clear hp hp0
    by_cases hlt : k < l.length
    case neg =>
      have HE : Hid (true = R) := Lib.hid (by have h := HD.out; rw [List.drop_eq_nil_of_le (by omega)] at h; simpa [ascB] using h)
      go_wp2
      go_ret
      exact ⟨by rw [← HE.out]; rfl, hb⟩
    have G := Row_below hg hb
    obtain ⟨ad, x, rfl, hx, p0⟩ := rowInt G k hlt
    have HX := Lib.hid (dropQ_cons hx)
    have Hx := Lib.hid hx
    clear hx
    have HD2 : Hid ((decide (0 ≤ x) && decide (x < n) && decide (p < x) && ascB n (l.drop (k + 1)) x) = R) := Lib.hid (by rw [← ascB_cons, ← HX.out]; exact HD.out)
    clear HX HD
    have HN : ∀ q, k + 1 = q + 1 → l[q]? = some x := fun q hq => by obtain rfl : q = k := by omega
                                                                    exact Hx.out
    have HN' := Lib.hid HN
    clear HN
    by_cases hk0 : k = 0
    · have hp1 : p = -1 := HP0.out hk0
      have HE := Lib.hid hp1
      clear hp1
      have hk1 : ¬ (0 < (k : Int)) := by omega
      have HK := Lib.hid hk0
      clear hk0
      go_wp2
      all_goals first
        | (go_ret; exact ⟨ret_bool (by rw [← HD2.out]; have := HE.out; grind), hb⟩)
        | (go_roundg (gk - 1); (case rel => exact ⟨k + 1, x, by omega, by go_num, HN'.out, by omega, hb, Lib.hid (by rw [← HD2.out]; have := HE.out; grind)⟩); (case measure => omega))
    · obtain ⟨ad', x', hA, hx', p1⟩ := rowInt G (k - 1) (by omega)
      cases hA
      obtain rfl : x' = p := by rw [HP.out (k - 1) (by omega)] at hx'; exact (Option.some.inj hx').symm
      clear hx'
      have hk1 : 0 < (k : Int) := by omega
      have hk2 : ((k : Int) - 1) = ((k - 1 : Nat) : Int) := by omega
      go_wp2
      all_goals first
        | (go_ret; exact ⟨ret_bool (by rw [← HD2.out]; grind), hb⟩)
        | (go_roundg (gk - 1); (case rel => exact ⟨k + 1, x, by omega, by go_num, HN'.out, by omega, hb, Lib.hid (by rw [← HD2.out]; grind)⟩); (case measure => omega))
def numsOk (n : Nat) (v : Voter) (l : List Int) : Bool := if v.Role = 2 then decide (l.length = n) && l.all (fun x => inB x 0 v.Log.length) else decide (l.length = 0)
set_option maxHeartbeats 2000000 in
theorem numbersOk_c (w : World) (l : List Int) (v : Voter) (n : Nat) {A : Option Addr} {c : Nat} (hl : l.length ≤ c) (hg : Row (Ki.int .i64) w A l) (hs : l.length ≤ 1048576) {A3 A4 A5 A6 : Option Addr} {c3 c4 c5 c6 : Nat} :
    Calls Try.prog 40 #[.slice A l.length c, .agg #[.int .i64 v.Term, .int .i64 v.Vote, .int .i64 v.Role, .slice A3 v.Votes.length c3, .slice A4 v.Log.length c4, .slice A5 v.Next.length c5, .slice A6 v.Match.length c6, .int .i64 v.Sealed], .int .i64 n] w fun e w' => e = .returned (.bool (numsOk n v l)) ∧ Below w.heap.size w w' := by
  have hu2 := Try.underlying41
  by_cases hr : v.Role = 2
  case neg =>
    have HR := Lib.hid hr
    clear hr
    have hR : (v.Role != 2) = true := by simpa using HR.out
    go_enter Try.func40, Try.ntmps40
    go_wp2
    go_ret
    exact ⟨ret_bool (by have := HR.out; unfold numsOk; grind), below_al _ _⟩
  have HR := Lib.hid hr
  clear hr
  have hR : (v.Role != 2) = false := by simpa using HR.out
  by_cases hn : l.length = n
  case neg =>
    have hN : ((l.length : Int) != (n : Int)) = true := by simp; omega
    have HN := Lib.hid hn
    clear hn
    go_enter Try.func40, Try.ntmps40
    go_wp2
    go_ret
    exact ⟨ret_bool (by have := HR.out; have := HN.out; unfold numsOk; grind), below_al _ _⟩
  subst hn
  have HA : Hid (l.all (fun x => inB x 0 v.Log.length) = numsOk l.length v l) := Lib.hid (by have := HR.out; unfold numsOk; grind)
  go_enter Try.func40, Try.ntmps40
  go_wp2
  go_loopg [21] l.length (fun g v21 wr => ∃ k : Nat, k + g = l.length ∧ v21 = .int .i64 k ∧ wr.cell? ⟨w.heap.size, 4, none⟩ = some (.slice A4 v.Log.length c4) ∧ Below w.heap.size w wr ∧ (l.take k).all (fun x => inB x 0 v.Log.length) = true)
  case atStart => exact ⟨0, by omega, rfl, by simp, below_al _ _, rfl⟩
  case round =>
    obtain ⟨k, hk, rfl, z4, hb, ha⟩ := hrel
    have Ha := Lib.hid ha
    clear ha
    have hgz : w.heap.size < wr.heap.size := World.block_lt_of_cell? wr _ z4
    by_cases hlt : k < l.length
    · obtain ⟨ad, x, rfl, hx, p0⟩ := rowInt (Row_below hg hb) k hlt
      have Hx := Lib.hid hx
      clear hx
      generalize hin : inB x 0 v.Log.length = bi
      have Hin := Lib.hid hin
      clear hin
      go_wp2_with (go_at_call 37; refine (within_c _ _ _ _).mono ?_; rintro e w' ⟨rfl, rfl⟩; rw [Hin.out])
      · go_ret
        exact ⟨ret_bool (by rw [← HA.out]; exact (all_fail Hx.out (by rw [Hin.out]; grind)).symm), hb⟩
      · go_roundg (gk - 1)
        case rel => exact ⟨k + 1, by omega, by go_num, z4, hb, all_step Ha.out Hx.out (by rw [Hin.out]; grind)⟩
        case measure => omega
    · go_wp2
      go_ret
      exact ⟨ret_bool (by rw [← HA.out]; exact (all_full Ha.out (by omega)).symm), hb⟩
set_option maxHeartbeats 2000000 in
theorem l6Numbers_c (w : World) (l : List Int) (n top : Int) {A : Option Addr} {c : Nat} (hl : l.length ≤ c) (hg : Row (Ki.int .i64) w A l) (hs : l.length ≤ 1048576) :
    Calls Try.prog 34 #[.slice A l.length c, .int .i64 n, .int .i64 top] w fun e w' => e = .returned (.bool (decide ((l.length : Int) = n) && l.all (fun x => inB x 0 top))) ∧ Below w.heap.size w w' := by
  have hu2 := Try.underlying41
  by_cases hn : (l.length : Int) = n
  case neg =>
    go_enter Try.func34, Try.ntmps34
    go_wp2
    go_ret
    exact ⟨ret_bool (by simp [hn]), Below.refl _ _⟩
  subst hn
  have HA : Hid (l.all (fun x => inB x 0 top) = (decide ((l.length : Int) = l.length) && l.all (fun x => inB x 0 top))) := Lib.hid (by simp)
  go_enter Try.func34, Try.ntmps34
  go_wp2
  go_loopg [7] l.length (fun g v7 wr => ∃ k : Nat, k + g = l.length ∧ v7 = .int .i64 k ∧ Below w.heap.size w wr ∧ (l.take k).all (fun x => inB x 0 top) = true)
  case atStart => exact ⟨0, by omega, rfl, Below.refl _ _, rfl⟩
  case round =>
    obtain ⟨k, hk, rfl, hb, ha⟩ := hrel
    have Ha := Lib.hid ha
    clear ha
    by_cases hlt : k < l.length
    · obtain ⟨ad, x, rfl, hx, p0⟩ := rowInt (Row_below hg hb) k hlt
      have Hx := Lib.hid hx
      clear hx
      generalize hin : inB x 0 top = bi
      have Hin := Lib.hid hin
      clear hin
      go_wp2_with (go_at_call 32; refine (l1In_c _ _ _ _).mono ?_; rintro e w' ⟨rfl, rfl⟩; rw [Hin.out])
      · go_ret
        exact ⟨ret_bool (by rw [← HA.out]; exact (all_fail Hx.out (by rw [Hin.out]; grind)).symm), hb⟩
      · go_roundg (gk - 1)
        case rel => exact ⟨k + 1, by omega, by go_num, hb, all_step Ha.out Hx.out (by rw [Hin.out]; grind)⟩
        case measure => omega
    · go_wp2
      go_ret
      exact ⟨ret_bool (by rw [← HA.out]; exact (all_full Ha.out (by omega)).symm), hb⟩
def cmdsOk (hi : Int) : List Command → Int → Bool
  | [], _ => true
  | c :: r, low => inB c.Term low hi && decide (c.Text.size ≤ 100) && cmdsOk hi r c.Term
theorem cmdsOk_cons (hi : Int) (c : Command) (r : List Command) (low : Int) : cmdsOk hi (c :: r) low = (inB c.Term low hi && decide (c.Text.size ≤ 100) && cmdsOk hi r c.Term) := by rw [cmdsOk]
set_option maxHeartbeats 2000000 in
theorem l6Commands_c (w : World) (l : List Command) (low hi : Int) {A : Option Addr} {c : Nat} (hl : l.length ≤ c) (hg : Row kCommand w A l) (hs : l.length ≤ 1048576 ∧ ∀ y ∈ l, y.sm) :
    Calls Try.prog 33 #[.slice A l.length c, .int .i64 low, .int .i64 hi] w fun e w' => e = .returned (.bool (decide (l.length ≤ 200) && cmdsOk hi l low)) ∧ Below w.heap.size w w' := by
  obtain ⟨hs1, hs2⟩ := hs
  have HS := Lib.hid hs2
  clear hs2
  have hu := Try.underlying76
  have hu2 := Try.underlying68
  by_cases hn : l.length ≤ 200
  case neg =>
    go_enter Try.func33, Try.ntmps33
    go_wp2
    go_ret
    exact ⟨ret_bool (by simp [hn]), Below.refl _ _⟩
  generalize hR : (decide (l.length ≤ 200) && cmdsOk hi l low) = R
  have HR : Hid (cmdsOk hi l low = R) := Lib.hid (by rw [← hR]; simp [hn])
  clear hR
  go_enter Try.func33, Try.ntmps33
  go_wp2
  go_loopg [1, 7] l.length (fun g v1 v7 wr => ∃ (k : Nat) (p : Int), k + g = l.length ∧ v7 = .int .i64 k ∧ v1 = .int .i64 p ∧ Below w.heap.size w wr ∧ Hid (cmdsOk hi (l.drop k) p = R))
  case atStart => exact ⟨0, low, by omega, rfl, rfl, Below.refl _ _, HR⟩
  case round =>
    clear HR
    obtain ⟨k, p, hk, rfl, rfl, hb, HD⟩ := hrel
    by_cases hlt : k < l.length
    case neg =>
      have HE : Hid (true = R) := Lib.hid (by have h := HD.out; rw [List.drop_eq_nil_of_le (by omega)] at h; simpa [cmdsOk] using h)
      go_wp2
      go_ret
      exact ⟨by rw [← HE.out]; rfl, hb⟩
    obtain ⟨ad, x, rfl, hx, p0, p1⟩ := Command.at (Row_below hg hb) k hlt
    have HX := Lib.hid (dropQ_cons hx)
    have q1 : x.Text.size ≤ 1048576 := HS.out x (List.mem_of_getElem? hx)
    clear hx
    have HD2 : Hid ((inB x.Term p hi && decide (x.Text.size ≤ 100) && cmdsOk hi (l.drop (k + 1)) x.Term) = R) := Lib.hid (by rw [← cmdsOk_cons, ← HX.out]; exact HD.out)
    clear HX HD
    generalize hin : inB x.Term p hi = bi at HD2
    have Hin := Lib.hid hin
    clear hin
    go_wp2_with (go_at_call 32; refine (l1In_c _ _ _ _).mono ?_; rintro e w' ⟨rfl, rfl⟩; rw [Hin.out])
    all_goals first
      | (go_ret; exact ⟨ret_bool (by rw [← HD2.out]; grind), hb⟩)
      | (go_roundg (gk - 1); (case rel => exact ⟨k + 1, x.Term, by omega, by go_num, rfl, hb, Lib.hid (by rw [← HD2.out]; grind)⟩); (case measure => omega))
end Go.Proofs.Ytpnjgmgnhkhapaa.H
