/-
The program's QuorumOk answers quorumOk. Conditions: the contract's own premises.
-/
import Derived.Test.YtpnjgmgnhkhapaaHQ1
namespace Go.Proofs.Ytpnjgmgnhkhapaa.H
open Go.RowKit
set_option linter.unusedVariables false
set_option linter.unusedSimpArgs false
set_option maxRecDepth 100000
def vA (n : Nat) (v : Voter) : Bool := inB v.Term 0 1000000000000 && inB v.Vote (-1) ((n : Int) - 1) && inB v.Role 0 2 && ascB n v.Votes (-1) && decide (v.Log.length ≤ 200) && inB v.Sealed 0 v.Log.length && numsOk n v v.Next && numsOk n v v.Match
def voterOk (n : Nat) (v : Voter) : Bool := vA n v && cmdsOk v.Term v.Log 0
def txtOk (c : Command) : Bool := decide (c.Text.size ≤ 100)
def msgOk (m : Message) : Bool := decide (m.Commands.length ≤ 200) && m.Commands.all txtOk
def qHdr (q : Quorum) : Bool := inB q.Voters.length 1 5 && decide (q.Net.length ≤ 400)
def quorumOk (q : Quorum) : Bool := qHdr q && q.Voters.all (voterOk q.Voters.length) && q.Net.all msgOk
set_option maxHeartbeats 8000000 in
theorem implQuorumOk_c (w : World) (x : Quorum) {A0 A1 : Option Addr} {c0 c1 : Nat} (l0 : x.Voters.length ≤ c0) (g0 : Row kVoter w A0 x.Voters) (l1 : x.Net.length ≤ c1) (g1 : Row kMessage w A1 x.Net) (hs : x.sm) :
    Calls Try.prog 12 #[.agg #[.slice A0 x.Voters.length c0, .slice A1 x.Net.length c1]] w fun e w' => e = .returned (.bool (quorumOk x)) ∧ Below w.heap.size w w' := by
  obtain ⟨⟨hs0, hs0'⟩, hs1, hs1'⟩ := hs
  have HS0 := Lib.hid hs0'
  have HS1 := Lib.hid hs1'
  clear hs0' hs1'
  have hu := Try.underlying70
  have hu2 := Try.underlying29
  have hu3 := Try.underlying74
  have hu4 := Try.underlying30
  have hu5 := Try.underlying76
  have hu6 := Try.underlying68
  go_enter Try.func12, Try.ntmps12
  go_upto_region 2 with fail
  go_cut [24] (fun s wx => s = .bool !(qHdr x) ∧ Box wx w.heap.size #[.slice A0 x.Voters.length c0, .slice A1 x.Net.length c1] ∧ Below w.heap.size w wx)
  case first =>
    go_wp2_with (go_at_call 37; refine (within_c _ _ _ _).mono ?_; rintro e w' ⟨rfl, rfl⟩)
    all_goals (go_meet; exact ⟨by simp only [Value.bool.injEq]; grind [qHdr, inB], Box.new _ _ _, below_al _ _⟩)
  obtain ⟨rfl, hz, hb⟩ := hcut
  have z0 := hz 0 _ rfl
  have z1 := hz 1 _ rfl
  have hgz := hz.lt rfl
  clear hz
  by_cases hh : qHdr x = true
  case neg =>
    replace hh := Bool.eq_false_iff.2 hh
    have HH := Lib.hid hh
    rw [hh]
    clear hh
    go_wp2
    go_ret
    exact ⟨ret_bool (by simp [quorumOk, HH.out]), hb⟩
  have HH := Lib.hid hh
  rw [hh]
  have hn : 1 ≤ x.Voters.length ∧ x.Voters.length ≤ 5 ∧ x.Net.length ≤ 400 := by simp only [qHdr, inB, Bool.and_eq_true, decide_eq_true_eq] at hh; omega
  clear hh
  obtain ⟨hn0, hn1, hn2⟩ := hn
  have HA : Hid ((x.Voters.all (voterOk x.Voters.length) && x.Net.all msgOk) = quorumOk x) := Lib.hid (by have := HH.out; grind [quorumOk])
  clear HH
  go_wp2
  go_loopg [28] x.Voters.length (fun g v28 wr => ∃ k : Nat, k + g = x.Voters.length ∧ v28 = .int .i64 k ∧ wr.cell? ⟨w.heap.size, 1, none⟩ = some (.slice A1 x.Net.length c1) ∧ Below w.heap.size w wr ∧ (x.Voters.take k).all (voterOk x.Voters.length) = true)
  case atStart => exact ⟨0, by omega, rfl, z1, hb, rfl⟩
  case round =>
    clear z0 z1 hb hgz
    obtain ⟨k, hk, rfl, z1, hb, ha⟩ := hrel
    have Ha := Lib.hid ha
    clear ha
    have hgz : w.heap.size < wr.heap.size := World.block_lt_of_cell? wr _ z1
    by_cases hlt : k < x.Voters.length
    case pos =>
      obtain ⟨ad, v, A3, c3, A4, c4, A5, c5, A6, c6, rfl, hx, p0, p1, p2, p3, p4, p5, p6, p7, l3, g3, l4, g4, l5, g5, l6, g6⟩ := Voter.at (Row_below g0 hb) k hlt
      have Hx := Lib.hid hx
      obtain ⟨s3, ⟨s4, s4'⟩, s5, s6⟩ := HS0.out v (List.mem_of_getElem? hx)
      have HS4 := Lib.hid s4'
      clear hx s4'
      go_upto_region 7 with fail
      go_cut [87] (fun s wx => s = .bool !(vA x.Voters.length v) ∧ wx.cell? ⟨w.heap.size, 1, none⟩ = some (.slice A1 x.Net.length c1) ∧ Box wx wr.heap.size #[.int .i64 v.Term, .int .i64 v.Vote, .int .i64 v.Role, .slice A3 v.Votes.length c3, .slice A4 v.Log.length c4, .slice A5 v.Next.length c5, .slice A6 v.Match.length c6, .int .i64 v.Sealed] ∧ Below w.heap.size w wx ∧ Row kCommand wx A4 v.Log)
      case first =>
        go_wp2_with (first
          | (go_at_call 38; refine (timeOk_c _ _).mono ?_; rintro e w' ⟨rfl, rfl⟩)
          | (go_at_call 37; refine (within_c _ _ _ _).mono ?_; rintro e w' ⟨rfl, rfl⟩)
          | (go_at_call 39; refine (ascending_c _ v.Votes _ l3 (Row_below g3 (below_al _ _)) s3).mono ?_; rintro e w1 ⟨rfl, hb1⟩; have X1 := (Box.new wr _ _).later hb1; have a0 := X1 0 _ rfl; have a1 := X1 1 _ rfl; have a2 := X1 2 _ rfl; have a3 := X1 3 _ rfl; have a4 := X1 4 _ rfl; have a5 := X1 5 _ rfl; have a6 := X1 6 _ rfl; have a7 := X1 7 _ rfl; have ag := X1.lt rfl; have HX1 := Lib.hid X1; clear X1)
          | (go_at_call 40; ((with_reducible refine (numbersOk_c _ v.Next v _ l5 (Row_below g5 (below_tr (below_al _ _) hb1)) s5).mono ?_); rintro e w2 ⟨rfl, hb2⟩; have X2 := HX1.out.later hb2; have b0 := X2 0 _ rfl; have b1 := X2 1 _ rfl; have b2 := X2 2 _ rfl; have b3 := X2 3 _ rfl; have b4 := X2 4 _ rfl; have b5 := X2 5 _ rfl; have b6 := X2 6 _ rfl; have b7 := X2 7 _ rfl; have bg := X2.lt rfl; have HX2 := Lib.hid X2; clear X2))
          | (go_at_call 40; ((with_reducible refine (numbersOk_c _ v.Match v _ l6 (Row_below g6 (below_tr (below_tr (below_al _ _) hb1) hb2)) s6).mono ?_); rintro e w3 ⟨rfl, hb3⟩)))
        all_goals go_meet
        all_goals first
          | exact ⟨by simp only [Value.bool.injEq]; grind [vA], later (below_tr (below_tr (below_tr (below_al _ _) hb1) hb2) hb3) z1, HX2.out.later hb3, below_tr hb (below_tr (below_tr (below_tr (below_al _ _) hb1) hb2) hb3), Row_below g4 (below_tr (below_tr (below_tr (below_al _ _) hb1) hb2) hb3)⟩
          | exact ⟨by simp only [Value.bool.injEq]; grind [vA], later (below_tr (below_tr (below_al _ _) hb1) hb2) z1, HX2.out, below_tr hb (below_tr (below_tr (below_al _ _) hb1) hb2), Row_below g4 (below_tr (below_tr (below_al _ _) hb1) hb2)⟩
          | exact ⟨by simp only [Value.bool.injEq]; grind [vA], later (below_tr (below_al _ _) hb1) z1, HX1.out, below_tr hb (below_tr (below_al _ _) hb1), Row_below g4 (below_tr (below_al _ _) hb1)⟩
          | exact ⟨by simp only [Value.bool.injEq]; grind [vA], later (below_al _ _) z1, Box.new _ _ _, below_tr hb (below_al _ _), Row_below g4 (below_al _ _)⟩
      obtain ⟨rfl, y1, hX, Hb, G4⟩ := hcut
      have t0 := hX 0 _ rfl
      have t4 := hX 4 _ rfl
      have tg := hX.lt rfl
      have hgw : w.heap.size < wc.heap.size := World.block_lt_of_cell? wc _ y1
      clear hX
      generalize hA : vA x.Voters.length v = va
      have HVA := Lib.hid hA
      clear hA
      cases va with
      | false =>
        go_wp2
        go_ret
        exact ⟨ret_bool (by rw [← HA.out, all_fail Hx.out (by unfold voterOk; rw [HVA.out]; rfl)]; rfl), Hb⟩
      | true =>
        have hl4 : v.Log.length ≤ 200 := by have h := HVA.out; simp only [vA, Bool.and_eq_true, decide_eq_true_eq] at h; omega
        generalize hT : cmdsOk v.Term v.Log 0 = T
        have HT := Lib.hid hT
        clear hT
        generalize hgs : wr.heap.size = gs at t0 t4 tg ⊢
        clear hgs
        go_wp2
        go_loopg [6, 91] v.Log.length (fun g v6 v91 wi => ∃ (j : Nat) (p : Int), j + g = v.Log.length ∧ v91 = .int .i64 j ∧ v6 = .int .i64 p ∧ wi.cell? ⟨w.heap.size, 1, none⟩ = some (.slice A1 x.Net.length c1) ∧ wi.cell? ⟨gs, 0, none⟩ = some (.int .i64 v.Term) ∧ Below w.heap.size w wi ∧ Row kCommand wi A4 v.Log ∧ Hid (cmdsOk v.Term (v.Log.drop j) p = T))
        case atStart => exact ⟨0, 0, by omega, rfl, rfl, y1, t0, Hb, G4, HT⟩
        case round =>
          have HTT : Hid (cmdsOk v.Term v.Log 0 = T) := HT
          clear y1 t0 t4 tg Hb G4 HT p0 p1 p2 p3 p4 p5 p6 p7 g3 g4 g5 g6 z1 hb hgz hgw
          obtain ⟨j, p, hj, rfl, rfl, z1, t0, hb, G4, HD⟩ := hrel
          have hgz : w.heap.size < wr.heap.size := World.block_lt_of_cell? wr _ z1
          have hgt : gs < wr.heap.size := World.block_lt_of_cell? wr _ t0
          by_cases hlt2 : j < v.Log.length
          case neg =>
            have HE : Hid (true = T) := Lib.hid (by have h := HD.out; rw [List.drop_eq_nil_of_le (by omega)] at h; simpa [cmdsOk] using h)
            go_wp2
            go_roundg (x.Voters.length - k - 1)
            case rel => exact ⟨k + 1, by omega, by go_num, z1, hb, all_step Ha.out Hx.out (by unfold voterOk; rw [HVA.out, HTT.out, ← HE.out]; rfl)⟩
            case measure => omega
          obtain ⟨bd, y, rfl, hy, r0, r1⟩ := Command.at G4 j hlt2
          have HX := Lib.hid (dropQ_cons hy)
          have q1 : y.Text.size ≤ 1048576 := HS4.out y (List.mem_of_getElem? hy)
          clear hy
          have HD2 : Hid ((inB y.Term p v.Term && decide (y.Text.size ≤ 100) && cmdsOk v.Term (v.Log.drop (j + 1)) y.Term) = T) := Lib.hid (by rw [← cmdsOk_cons, ← HX.out]; exact HD.out)
          clear HX HD
          have Hb2 := below_tr hb (below_al wr (.cells #[.int .i64 y.Term, .string y.Text] 76))
          go_wp2_with (go_at_call 41; refine (textOk_c _ _ (by assumption)).mono ?_; rintro e w' ⟨rfl, rfl⟩)
          all_goals first
            | (go_ret; exact ⟨ret_bool (by rw [← HA.out, all_fail Hx.out (by unfold voterOk; rw [HVA.out, HTT.out, ← HD2.out]; grind [inB])]; rfl), Hb2⟩)
            | (go_roundg (gk - 1); (case rel => exact ⟨j + 1, y.Term, by omega, by go_num, rfl, later (below_al _ _) z1, later (below_al _ _) t0, Hb2, Row_below G4 (below_al _ _), Lib.hid (by rw [← HD2.out]; grind [inB])⟩); (case measure => omega))
    have HN : Hid (x.Net.all msgOk = quorumOk x) := Lib.hid (by rw [← HA.out, all_full Ha.out (by omega)]; rfl)
    clear HA Ha
    have hkk : k = x.Voters.length := by omega
    have Hkk := Lib.hid hkk
    clear hkk
    go_wp2
    go_loopg [119] x.Net.length (fun g v119 wi => ∃ j : Nat, j + g = x.Net.length ∧ v119 = .int .i64 j ∧ Below w.heap.size w wi ∧ (x.Net.take j).all msgOk = true)
    case atStart => exact ⟨0, by omega, rfl, hb, rfl⟩
    case round =>
      clear z1 hb hgz
      obtain ⟨j, hj, rfl, hb, ha⟩ := hrel
      have Ha := Lib.hid ha
      clear ha
      by_cases hlt2 : j < x.Net.length
      case neg =>
        go_wp2
        go_ret
        exact ⟨ret_bool (by rw [← HN.out]; exact (all_full Ha.out (by omega)).symm), hb⟩
      obtain ⟨ad, v, A6, c6, rfl, hx, p0, p1, p2, p3, p4, p5, p6, p7, p8, l6, g6⟩ := Message.at (Row_below g1 hb) j hlt2
      have Hx := Lib.hid hx
      obtain ⟨s6, s6'⟩ := HS1.out v (List.mem_of_getElem? hx)
      have HS6 := Lib.hid s6'
      clear hx s6'
      have Hb2 := below_tr hb (below_al wr (.cells #[.int .i64 v.Kind, .int .i64 v.From, .int .i64 v.To, .int .i64 v.Term, .int .i64 v.At, .int .i64 v.AtTerm, .slice A6 v.Commands.length c6, .int .i64 v.Sealed, .bool v.Yes] 74))
      by_cases h200 : v.Commands.length ≤ 200
      case neg =>
        have H200 := Lib.hid h200
        clear h200
        have h201 : (200 : Int) < (v.Commands.length : Int) := by have := H200.out; omega
        go_wp2
        go_ret
        exact ⟨ret_bool (by rw [← HN.out, all_fail Hx.out (by unfold msgOk; have := H200.out; grind)]), Hb2⟩
      have G6 := Row_below g6 (below_al wr (.cells #[.int .i64 v.Kind, .int .i64 v.From, .int .i64 v.To, .int .i64 v.Term, .int .i64 v.At, .int .i64 v.AtTerm, .slice A6 v.Commands.length c6, .int .i64 v.Sealed, .bool v.Yes] 74))
      go_wp2
      go_loopg [130] v.Commands.length (fun g v130 wi => ∃ i : Nat, i + g = v.Commands.length ∧ v130 = .int .i64 i ∧ Below w.heap.size w wi ∧ Row kCommand wi A6 v.Commands ∧ (v.Commands.take i).all txtOk = true)
      case atStart => exact ⟨0, by omega, rfl, Hb2, G6, rfl⟩
      case round =>
        clear Hb2 G6 p0 p1 p2 p3 p4 p5 p6 p7 p8 g6 hb
        obtain ⟨i, hi, rfl, hb, G6, ha⟩ := hrel
        have Ha2 := Lib.hid ha
        clear ha
        by_cases hlt3 : i < v.Commands.length
        case neg =>
          go_wp2
          go_roundg (x.Net.length - j - 1)
          case rel => exact ⟨j + 1, by omega, by go_num, hb, all_step Ha.out Hx.out (by unfold msgOk; rw [all_full Ha2.out (by omega)]; simp [h200])⟩
          case measure => omega
        obtain ⟨bd, y, rfl, hy, r0, r1⟩ := Command.at G6 i hlt3
        have Hy := Lib.hid hy
        have q1 : y.Text.size ≤ 1048576 := HS6.out y (List.mem_of_getElem? hy)
        clear hy
        have Hb2 := below_tr hb (below_al wr (.cells #[.int .i64 y.Term, .string y.Text] 76))
        go_wp2_with (go_at_call 41; refine (textOk_c _ _ (by assumption)).mono ?_; rintro e w' ⟨rfl, rfl⟩)
        all_goals first
          | (go_ret; exact ⟨ret_bool (by rw [← HN.out, all_fail Hx.out (by unfold msgOk; rw [all_fail Hy.out (by unfold txtOk; grind)]; simp)]), Hb2⟩)
          | (go_roundg (gk - 1); (case rel => exact ⟨i + 1, by omega, by go_num, Hb2, Row_below G6 (below_al _ _), all_step Ha2.out Hy.out (by unfold txtOk; grind)⟩); (case measure => omega))
end Go.Proofs.Ytpnjgmgnhkhapaa.H
