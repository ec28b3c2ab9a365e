/-
LeaderOf, both sides: leaderOf. Conditions: each contract's own premises.
-/
import Derived.Test.YtpnjgmgnhkhapaaHQ3
namespace Go.Proofs.Ytpnjgmgnhkhapaa.H
open Go.RowKit
set_option linter.unusedVariables false
set_option linter.unusedSimpArgs false
set_option maxRecDepth 100000
/-- The best of what is left: at place i; b: the best so far and its Term. -/
def leadB : List Voter → Nat → Option (Nat × Int) → Option (Nat × Int)
  | [], _, b => b
  | v :: r, i, b => leadB r (i + 1) (match b with
    | none => if v.Role = 2 then some (i, v.Term) else none
    | some (j, t) => if v.Role = 2 ∧ t < v.Term then some (i, v.Term) else some (j, t))
def atOf : Option (Nat × Int) → Int
  | none => -1
  | some (i, _) => i
def leaderOf (q : Quorum) : Int := if quorumOk q then atOf (leadB q.Voters 0 none) else -1
theorem leadB_cons (v : Voter) (r : List Voter) (i : Nat) (b : Option (Nat × Int)) : leadB (v :: r) i b = leadB r (i + 1) (match b with
    | none => if v.Role = 2 then some (i, v.Term) else none
    | some (j, t) => if v.Role = 2 ∧ t < v.Term then some (i, v.Term) else some (j, t)) := by simp only [leadB]
theorem leadB_none {v : Voter} {r : List Voter} {i : Nat} (h : v.Role ≠ 2) (b : Option (Nat × Int)) : leadB (v :: r) i b = leadB r (i + 1) b := by
  cases b with
  | none => simp [leadB_cons, h]
  | some q => obtain ⟨j, t⟩ := q; simp [leadB_cons, h]
theorem leadB_first {v : Voter} {r : List Voter} {i : Nat} (h : v.Role = 2) : leadB (v :: r) i none = leadB r (i + 1) (some (i, v.Term)) := by
  rw [leadB_cons]; simp [h]
theorem leadB_more {v : Voter} {r : List Voter} {i j : Nat} {t : Int} (h : v.Role = 2) (ht : t < v.Term) : leadB (v :: r) i (some (j, t)) = leadB r (i + 1) (some (i, v.Term)) := by
  rw [leadB_cons]; simp [h, ht]
theorem leadB_keep {v : Voter} {r : List Voter} {i j : Nat} {t : Int} (ht : ¬ t < v.Term) : leadB (v :: r) i (some (j, t)) = leadB r (i + 1) (some (j, t)) := by
  rw [leadB_cons]; simp [ht]
set_option maxHeartbeats 4000000 in
theorem implLeaderOf_c (w : World) (x : Quorum) {A0 A1 : Option Addr} {c0 c1 : Nat} (l0 : x.Voters.length ≤ c0) (g0 : Row kVoter w A0 x.Voters) (l1 : x.Net.length ≤ c1) (g1 : Row kMessage w A1 x.Net) (hs : x.sm) :
    Calls Try.prog 15 #[.agg #[.slice A0 x.Voters.length c0, .slice A1 x.Net.length c1]] w fun e w' => e = .returned (.int .i64 (leaderOf x)) ∧ Below w.heap.size w w' := by
  have HS := Lib.hid hs
  have hs0 := hs.1.1
  clear hs
  have hu := Try.underlying70
  have hu2 := Try.underlying29
  generalize hq : quorumOk x = qo
  have HQ := Lib.hid hq
  clear hq
  go_enter Try.func15, Try.ntmps15
  cases qo with
  | false =>
    go_wp2_with (go_at_call 12; refine (implQuorumOk_c _ x l0 (Row_below g0 (below_al _ _)) l1 (Row_below g1 (below_al _ _)) HS.out).mono ?_; rintro e w1 ⟨rfl, hb1⟩; rw [HQ.out])
    go_ret
    exact ⟨ret_int (by simp [leaderOf, HQ.out]), below_tr (below_al _ _) hb1⟩
  | true =>
    generalize hT : leadB x.Voters 0 none = T
    have HR : Hid (leaderOf x = atOf T) := Lib.hid (by simp [leaderOf, HQ.out, hT])
    have HT := Lib.hid hT
    clear hT
    go_upto_region 4 with (go_at_call 12; refine (implQuorumOk_c _ x l0 (Row_below g0 (below_al _ _)) l1 (Row_below g1 (below_al _ _)) HS.out).mono ?_; rintro e w1 ⟨rfl, hb1⟩; rw [HQ.out]; have X1 := (Box.new w _ _).later hb1; have z0 := X1 0 _ rfl; have hgz := X1.lt rfl; have HX1 := Lib.hid X1; clear X1)
    have hb := below_tr (below_al w (.cells #[.slice A0 x.Voters.length c0, .slice A1 x.Net.length c1] 32)) hb1
    clear hb1
    go_wp2
    go_loopg [3, 12] x.Voters.length (fun g v3 v12 wr => ∃ (k : Nat) (b : Option (Nat × Int)), k + g = x.Voters.length ∧ v12 = .int .i64 k ∧ v3 = .int .i64 (atOf b) ∧ wr.cell? ⟨w.heap.size, 0, none⟩ = some (.slice A0 x.Voters.length c0) ∧ Below w.heap.size w wr ∧ Hid (∀ i t, b = some (i, t) → ∃ v, x.Voters[i]? = some v ∧ v.Term = t) ∧ Hid (leadB (x.Voters.drop k) k b = T))
    case atStart => exact ⟨0, none, by omega, rfl, rfl, z0, hb, Lib.hid (by simp), HT⟩
    case round =>
      clear z0 hb hgz HT HX1
      obtain ⟨k, b, hk, rfl, rfl, z0, hb, HB, HD⟩ := hrel
      have hgz : w.heap.size < wr.heap.size := World.block_lt_of_cell? wr _ z0
      by_cases hlt : k < x.Voters.length
      case neg =>
        have HE : Hid (b = T) := Lib.hid (by have h := HD.out; rw [List.drop_eq_nil_of_le (by omega)] at h; simpa [leadB] using h)
        go_wp2
        go_ret
        exact ⟨ret_int (by rw [HR.out, HE.out]), hb⟩
      have G := Row_below g0 hb
      obtain ⟨ad, v, A3, c3, A4, c4, A5, c5, A6, c6, rfl, hx, p0, p1, p2, p3, p4, p5, p6, p7, l3, g3, l4, g4, l5, g5, l6, g6⟩ := Voter.at G k hlt
      have HX := Lib.hid (dropQ_cons hx)
      have Hx := Lib.hid hx
      clear hx
      have HD2 : Hid (leadB (v :: x.Voters.drop (k + 1)) k b = T) := Lib.hid (by rw [← HX.out]; exact HD.out)
      clear HD HX
      have Hb := below_tr hb (below_al wr (.cells #[.int .i64 v.Term, .int .i64 v.Vote, .int .i64 v.Role, .slice A3 v.Votes.length c3, .slice A4 v.Log.length c4, .slice A5 v.Next.length c5, .slice A6 v.Match.length c6, .int .i64 v.Sealed] 70))
      have z0' := later (below_al wr (.cells #[.int .i64 v.Term, .int .i64 v.Vote, .int .i64 v.Role, .slice A3 v.Votes.length c3, .slice A4 v.Log.length c4, .slice A5 v.Next.length c5, .slice A6 v.Match.length c6, .int .i64 v.Sealed] 70)) z0
      have HZ := Lib.hid z0'
      clear z0'
      by_cases hr : v.Role = 2
      case neg =>
        have HF : Hid (leadB (x.Voters.drop (k + 1)) (k + 1) b = T) := Lib.hid (by rw [← HD2.out, leadB_none hr])
        have hr2 : (v.Role == 2) = false := by simpa using hr
        go_upto_region 7 with fail
        go_quiet (fail)
        go_wp2
        go_roundg (gk - 1)
        case rel => exact ⟨k + 1, b, by omega, by go_num, rfl, later (below_dn (Below.refl _ _) _) HZ.out, below_dn Hb _, HB, HF⟩
        case measure => omega
      have hr2 : (v.Role == 2) = true := by simpa using hr
      cases b with
      | none =>
        have HF : Hid (leadB (x.Voters.drop (k + 1)) (k + 1) (some (k, v.Term)) = T) := Lib.hid (by rw [← HD2.out, leadB_first hr])
        clear hr
        go_upto_region 7 with fail
        unfold atOf
        go_quiet (fail)
        go_wp2
        go_roundg (gk - 1)
        case rel => exact ⟨k + 1, some (k, v.Term), by omega, by go_num, rfl, later (below_dn (Below.refl _ _) _) HZ.out, below_dn Hb _, Lib.hid (by rintro i t h; cases h; exact ⟨v, Hx.out, rfl⟩), HF⟩
        case measure => omega
      | some q =>
        obtain ⟨i, t⟩ := q
        obtain ⟨u, hu1, hu2'⟩ := HB.out i t rfl
        have hil : i < x.Voters.length := (List.getElem?_eq_some_iff.1 hu1).1
        obtain ⟨ad', u', A3', c3', A4', c4', A5', c5', A6', c6', hA', hx', o0, _⟩ := Voter.at G i hil
        cases hA'
        obtain rfl : u' = u := by rw [hu1] at hx'; exact (Option.some.inj hx').symm
        subst hu2'
        clear hx' hu1
        have o0' := later (below_al wr (.cells #[.int .i64 v.Term, .int .i64 v.Vote, .int .i64 v.Role, .slice A3 v.Votes.length c3, .slice A4 v.Log.length c4, .slice A5 v.Next.length c5, .slice A6 v.Match.length c6, .int .i64 v.Sealed] 70)) o0
        have hd : decide ((i : Int) < 0) = false := by simp <;> omega
        by_cases ht : u'.Term < v.Term
        · have HF : Hid (leadB (x.Voters.drop (k + 1)) (k + 1) (some (k, v.Term)) = T) := Lib.hid (by rw [← HD2.out, leadB_more hr ht])
          have ht2 : decide (u'.Term < v.Term) = true := by simpa using ht
          clear hr
          go_upto_region 7 with fail
          unfold atOf
          go_quiet (fail)
          go_wp2
          go_roundg (gk - 1)
          case rel => exact ⟨k + 1, some (k, v.Term), by omega, by go_num, rfl, later (below_dn (Below.refl _ _) _) HZ.out, below_dn Hb _, Lib.hid (by rintro i t h; cases h; exact ⟨v, Hx.out, rfl⟩), HF⟩
          case measure => omega
        · have HF : Hid (leadB (x.Voters.drop (k + 1)) (k + 1) (some (i, u'.Term)) = T) := Lib.hid (by rw [← HD2.out, leadB_keep ht])
          have ht2 : decide (u'.Term < v.Term) = false := by simpa using ht
          clear hr
          go_upto_region 7 with fail
          unfold atOf
          go_quiet (fail)
          go_wp2
          go_roundg (gk - 1)
          case rel => exact ⟨k + 1, some (i, u'.Term), by omega, by go_num, rfl, later (below_dn (Below.refl _ _) _) HZ.out, below_dn Hb _, HB, HF⟩
          case measure => omega
set_option maxHeartbeats 4000000 in
theorem specLeaderOf_c (w : World) (x : Quorum) {A0 A1 : Option Addr} {c0 c1 : Nat} (l0 : x.Voters.length ≤ c0) (g0 : Row kVoter w A0 x.Voters) (l1 : x.Net.length ≤ c1) (g1 : Row kMessage w A1 x.Net) (hs : x.sm) :
    Calls Try.prog 14 #[.agg #[.slice A0 x.Voters.length c0, .slice A1 x.Net.length c1]] w fun e w' => e = .returned (.int .i64 (leaderOf x)) ∧ Below w.heap.size w w' := by
  have HS := Lib.hid hs
  have hs0 := hs.1.1
  clear hs
  have hu := Try.underlying70
  have hu2 := Try.underlying29
  generalize hq : quorumOk x = qo
  have HQ := Lib.hid hq
  clear hq
  go_enter Try.func14, Try.ntmps14
  cases qo with
  | false =>
    go_wp2_with (go_at_call 10; refine (specQuorumOk_c _ x l0 (Row_below g0 (below_al _ _)) l1 (Row_below g1 (below_al _ _)) HS.out).mono ?_; rintro e w1 ⟨rfl, hb1⟩; rw [HQ.out])
    go_ret
    exact ⟨ret_int (by simp [leaderOf, HQ.out]), below_tr (below_al _ _) hb1⟩
  | true =>
    generalize hT : leadB x.Voters 0 none = T
    have HR : Hid (leaderOf x = atOf T) := Lib.hid (by simp [leaderOf, HQ.out, hT])
    have HT := Lib.hid hT
    clear hT
    go_upto_region 4 with (go_at_call 10; refine (specQuorumOk_c _ x l0 (Row_below g0 (below_al _ _)) l1 (Row_below g1 (below_al _ _)) HS.out).mono ?_; rintro e w1 ⟨rfl, hb1⟩; rw [HQ.out]; have X1 := (Box.new w _ _).later hb1; have z0 := X1 0 _ rfl; have hgz := X1.lt rfl; have HX1 := Lib.hid X1; clear X1)
    have hb := below_tr (below_al w (.cells #[.slice A0 x.Voters.length c0, .slice A1 x.Net.length c1] 32)) hb1
    clear hb1
    go_wp2
    go_loopg [3, 4] x.Voters.length (fun g v3 v4 wr => ∃ (k : Nat) (b : Option (Nat × Int)), k + g = x.Voters.length ∧ v4 = .int .i64 k ∧ v3 = .int .i64 (atOf b) ∧ wr.cell? ⟨w.heap.size, 0, none⟩ = some (.slice A0 x.Voters.length c0) ∧ Below w.heap.size w wr ∧ Hid (∀ i t, b = some (i, t) → ∃ v, x.Voters[i]? = some v ∧ v.Term = t) ∧ Hid (leadB (x.Voters.drop k) k b = T))
    case atStart => exact ⟨0, none, by omega, rfl, rfl, z0, hb, Lib.hid (by simp), HT⟩
    case round =>
      clear z0 hb hgz HT HX1
      obtain ⟨k, b, hk, rfl, rfl, z0, hb, HB, HD⟩ := hrel
      have hgz : w.heap.size < wr.heap.size := World.block_lt_of_cell? wr _ z0
      by_cases hlt : k < x.Voters.length
      case neg =>
        have HE : Hid (b = T) := Lib.hid (by have h := HD.out; rw [List.drop_eq_nil_of_le (by omega)] at h; simpa [leadB] using h)
        go_wp2
        go_ret
        exact ⟨ret_int (by rw [HR.out, HE.out]), hb⟩
      have G := Row_below g0 hb
      obtain ⟨ad, v, A3, c3, A4, c4, A5, c5, A6, c6, rfl, hx, p0, p1, p2, p3, p4, p5, p6, p7, l3, g3, l4, g4, l5, g5, l6, g6⟩ := Voter.at G k hlt
      have HX := Lib.hid (dropQ_cons hx)
      have Hx := Lib.hid hx
      clear hx
      have HD2 : Hid (leadB (v :: x.Voters.drop (k + 1)) k b = T) := Lib.hid (by rw [← HX.out]; exact HD.out)
      clear HD HX
      by_cases hr : v.Role = 2
      case neg =>
        have HF : Hid (leadB (x.Voters.drop (k + 1)) (k + 1) b = T) := Lib.hid (by rw [← HD2.out, leadB_none hr])
        have hr2 : (v.Role == 2) = false := by simpa using hr
        go_upto_region 7 with fail
        go_quiet (fail)
        go_wp2
        go_roundg (gk - 1)
        case rel => exact ⟨k + 1, b, by omega, by go_num, rfl, later (below_dn (Below.refl _ _) _) z0, below_dn hb _, HB, HF⟩
        case measure => omega
      have hr2 : (v.Role == 2) = true := by simpa using hr
      cases b with
      | none =>
        have HF : Hid (leadB (x.Voters.drop (k + 1)) (k + 1) (some (k, v.Term)) = T) := Lib.hid (by rw [← HD2.out, leadB_first hr])
        clear hr
        go_upto_region 7 with fail
        unfold atOf
        go_quiet (fail)
        go_wp2
        go_roundg (gk - 1)
        case rel => exact ⟨k + 1, some (k, v.Term), by omega, by go_num, rfl, later (below_dn (Below.refl _ _) _) z0, below_dn hb _, Lib.hid (by rintro i t h; cases h; exact ⟨v, Hx.out, rfl⟩), HF⟩
        case measure => omega
      | some q =>
        obtain ⟨i, t⟩ := q
        obtain ⟨u, hu1, hu2'⟩ := HB.out i t rfl
        have hil : i < x.Voters.length := (List.getElem?_eq_some_iff.1 hu1).1
        obtain ⟨ad', u', A3', c3', A4', c4', A5', c5', A6', c6', hA', hx', o0, _⟩ := Voter.at G i hil
        cases hA'
        obtain rfl : u' = u := by rw [hu1] at hx'; exact (Option.some.inj hx').symm
        subst hu2'
        clear hx' hu1
        have hd : decide ((i : Int) < 0) = false := by simp <;> omega
        by_cases ht : u'.Term < v.Term
        · have HF : Hid (leadB (x.Voters.drop (k + 1)) (k + 1) (some (k, v.Term)) = T) := Lib.hid (by rw [← HD2.out, leadB_more hr ht])
          have ht2 : decide (u'.Term < v.Term) = true := by simpa using ht
          clear hr
          go_upto_region 7 with fail
          unfold atOf
          go_quiet (fail)
          go_wp2
          go_roundg (gk - 1)
          case rel => exact ⟨k + 1, some (k, v.Term), by omega, by go_num, rfl, later (below_dn (Below.refl _ _) _) z0, below_dn hb _, Lib.hid (by rintro i t h; cases h; exact ⟨v, Hx.out, rfl⟩), HF⟩
          case measure => omega
        · have HF : Hid (leadB (x.Voters.drop (k + 1)) (k + 1) (some (i, u'.Term)) = T) := Lib.hid (by rw [← HD2.out, leadB_keep ht])
          have ht2 : decide (u'.Term < v.Term) = false := by simpa using ht
          clear hr
          go_upto_region 7 with fail
          unfold atOf
          go_quiet (fail)
          go_wp2
          go_roundg (gk - 1)
          case rel => exact ⟨k + 1, some (i, u'.Term), by omega, by go_num, rfl, later (below_dn (Below.refl _ _) _) z0, below_dn hb _, HB, HF⟩
          case measure => omega
end Go.Proofs.Ytpnjgmgnhkhapaa.H
