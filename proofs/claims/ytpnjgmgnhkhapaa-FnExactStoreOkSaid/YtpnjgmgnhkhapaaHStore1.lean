/-
The program's StoreOk answers storeOk. Conditions: the contract's own premises.
-/
import Derived.Test.YtpnjgmgnhkhapaaHQ1
import Derived.Test.YtpnjgmgnhkhapaaHName
import Derived.Test.YtpnjgmgnhkhapaaHLog1
namespace Go.Proofs.Ytpnjgmgnhkhapaa.H
open Go.RowKit
set_option linter.unusedVariables false
set_option linter.unusedSimpArgs false
set_option maxRecDepth 100000
def sHdr (s : Store) : Bool := inB s.Logs.length 1 12 && decide (s.Txns.length ≤ 20) && inB s.Used 0 1000000000
def txS (used : Int) (t : Txn) : Bool := nameOk t.Name && inB t.Producer 0 (used - 1) && inB t.Turn 0 1000 && !(!t.Open && decide (0 < t.Parts.length))
def txA (n : Nat) (used : Int) (t : Txn) : Bool := nameOk t.Name && inB t.Producer 0 (used - 1) && inB t.Turn 0 1000 && ascB n t.Parts (-1) && !(!t.Open && decide (0 < t.Parts.length))
def apartT (t u : Txn) : Bool := !(u.Name.toList == t.Name.toList || u.Producer == t.Producer)
def txL (n : Nat) (used : Int) : List Txn → List Txn → Bool
  | [], _ => true
  | t :: r, pre => txA n used t && pre.all (apartT t) && txL n used r (pre ++ [t])
theorem txL_cons (n : Nat) (used : Int) (t : Txn) (r pre : List Txn) : txL n used (t :: r) pre = (txA n used t && pre.all (apartT t) && txL n used r (pre ++ [t])) := by rw [txL]
def storeOk (s : Store) : Bool := sHdr s && s.Logs.all logOk && txL s.Logs.length s.Used s.Txns []
set_option maxHeartbeats 8000000 in
theorem implStoreOk_c (w : World) (x : Store) {A0 A1 : Option Addr} {c0 c1 : Nat} (l0 : x.Logs.length ≤ c0) (g0 : Row kLog w A0 x.Logs) (l1 : x.Txns.length ≤ c1) (g1 : Row kTxn w A1 x.Txns) (hs : x.sm) :
    Calls Try.prog 28 #[.agg #[.slice A0 x.Logs.length c0, .slice A1 x.Txns.length c1, .int .i64 x.Used]] w fun e w' => e = .returned (.bool (storeOk x)) ∧ Below w.heap.size w w' := by
  obtain ⟨⟨hs0, hs0'⟩, hs1, hs1'⟩ := hs
  have HS0 := Lib.hid hs0'
  have HS1 := Lib.hid hs1'
  clear hs0' hs1'
  have hu := Try.underlying90
  have hu2 := Try.underlying58
  have hu3 := Try.underlying107
  have hu4 := Try.underlying59
  go_enter Try.func28, Try.ntmps28
  go_upto_region 1 with fail
  go_cut [25] (fun s wx => s = .bool !(sHdr x) ∧ Box wx w.heap.size #[.slice A0 x.Logs.length c0, .slice A1 x.Txns.length c1, .int .i64 x.Used] ∧ Below w.heap.size w wx)
  case first =>
    go_wp2_with (first | (go_at_call 37; refine (within_c _ _ _ _).mono ?_; rintro e w' ⟨rfl, rfl⟩) | (go_at_call 56; refine (offsetOk_c _ _).mono ?_; rintro e w' ⟨rfl, rfl⟩))
    all_goals (go_meet; exact ⟨by simp only [Value.bool.injEq]; grind [sHdr], Box.new _ _ _, below_al _ _⟩)
  obtain ⟨rfl, hz, hb⟩ := hcut
  have z0 := hz 0 _ rfl
  have hgz := hz.lt rfl
  have HZ := Lib.hid hz
  clear hz
  by_cases hh : sHdr x = true
  case neg =>
    replace hh := Bool.eq_false_iff.2 hh
    have HH := Lib.hid hh
    rw [hh]
    clear hh
    go_wp2
    go_ret
    exact ⟨ret_bool (by simp [storeOk, HH.out]), hb⟩
  have HH := Lib.hid hh
  rw [hh, show (!true) = false from rfl]
  have hn : 1 ≤ x.Logs.length ∧ x.Logs.length ≤ 12 ∧ x.Txns.length ≤ 20 ∧ 0 ≤ x.Used ∧ x.Used ≤ 1000000000 := by simp only [sHdr, inB, Bool.and_eq_true, decide_eq_true_eq] at hh; omega
  clear hh
  obtain ⟨hn0, hn1, hn2, hn3, hn4⟩ := hn
  have HA : Hid ((x.Logs.all logOk && txL x.Logs.length x.Used x.Txns []) = storeOk x) := Lib.hid (by have := HH.out; grind [storeOk])
  clear HH
  go_wp2
  go_loopg [29] x.Logs.length (fun g v29 wr => ∃ k : Nat, k + g = x.Logs.length ∧ v29 = .int .i64 k ∧ Hid (Box wr w.heap.size #[.slice A0 x.Logs.length c0, .slice A1 x.Txns.length c1, .int .i64 x.Used]) ∧ Below w.heap.size w wr ∧ Hid ((x.Logs.take k).all logOk = true))
  case atStart => exact ⟨0, by omega, rfl, HZ, hb, Lib.hid rfl⟩
  case round =>
    clear z0 HZ hb hgz
    obtain ⟨k, hk, rfl, HZ, hb, Ha⟩ := hrel
    have hgz := HZ.out.lt rfl
    by_cases hlt : k < x.Logs.length
    case pos =>
      obtain ⟨ad, l, A3, c3, rfl, hx, p0, p1, p2, p3, l3, g3⟩ := Log.at (Row_below g0 hb) k hlt
      have Hx := Lib.hid hx
      have HSl := Lib.hid (HS0.out l (List.mem_of_getElem? hx))
      clear hx
      have Hb := below_tr hb (below_al wr (.cells #[.int .i64 l.Start, .int .i64 l.Next, .int .i64 l.Roll, .slice A3 l.Segments.length c3] 90))
      generalize hy : logOk l = y
      have Hy := Lib.hid hy
      clear hy
      go_wp2_with (go_at_call 55; refine (implLogOk_c _ l l3 (Row_below g3 (below_al _ _)) HSl.out).mono ?_; rintro e w1 ⟨rfl, hb1⟩; rw [Hy.out])
      · go_ret
        exact ⟨ret_bool (by rw [← HA.out, all_fail Hx.out (by rw [Hy.out]; grind)]; rfl), below_tr Hb hb1⟩
      · go_roundg (gk - 1)
        case rel => exact ⟨k + 1, by omega, by go_num, Lib.hid (HZ.out.later (below_tr (below_al _ _) hb1)), below_tr Hb hb1, Lib.hid (all_step Ha.out Hx.out (by rw [Hy.out]; grind))⟩
        case measure => omega
    have HR : Hid (txL x.Logs.length x.Used x.Txns [] = storeOk x) := Lib.hid (by rw [← HA.out, all_full Ha.out (by omega)]; rfl)
    clear HA Ha
    generalize hT : txL x.Logs.length x.Used x.Txns [] = T at HR
    have HT := Lib.hid hT
    clear hT
    have z1 := HZ.out 1 _ rfl
    go_wp2
    go_loopg [40] x.Txns.length (fun g v40 wi => ∃ i : Nat, i + g = x.Txns.length ∧ v40 = .int .i64 i ∧ Hid (Box wi w.heap.size #[.slice A0 x.Logs.length c0, .slice A1 x.Txns.length c1, .int .i64 x.Used]) ∧ Below w.heap.size w wi ∧ Hid (txL x.Logs.length x.Used (x.Txns.drop i) (x.Txns.take i) = T))
    case atStart => exact ⟨0, by omega, rfl, HZ, hb, Lib.hid (by simpa using HT.out)⟩
    case round =>
      clear HZ hb hgz HT z1
      obtain ⟨i, hi, rfl, HZ, hb, HD⟩ := hrel
      have hgz := HZ.out.lt rfl
      by_cases hlt2 : i < x.Txns.length
      case neg =>
        have HE : Hid (true = T) := Lib.hid (by have h := HD.out; rw [List.drop_eq_nil_of_le (by omega)] at h; simpa [txL] using h)
        go_wp2
        go_ret
        exact ⟨ret_bool (by rw [← HR.out, ← HE.out]), hb⟩
      have G1 := Row_below g1 hb
      obtain ⟨ad, t, A4, c4, rfl, hx, p0, p1, p2, p3, p4, l4, g4⟩ := Txn.at G1 i hlt2
      have HX := Lib.hid (dropQ_cons hx)
      have HX2 := Lib.hid (take_snoc hx)
      obtain ⟨sn, sp⟩ := HS1.out t (List.mem_of_getElem? hx)
      clear hx
      have HD2 : Hid ((txA x.Logs.length x.Used t && (x.Txns.take i).all (apartT t) && txL x.Logs.length x.Used (x.Txns.drop (i + 1)) (x.Txns.take (i + 1))) = T) := Lib.hid (by rw [HX2.out, ← txL_cons, ← HX.out]; exact HD.out)
      clear HD HX HX2
      have z2 := HZ.out 2 _ rfl
      have z0 := HZ.out 0 _ rfl
      go_upto_region 12 with fail
      go_cut [44, 83] (fun s44 s wx => s = .bool !(txA x.Logs.length x.Used t) ∧ Hid (Box wx w.heap.size #[.slice A0 x.Logs.length c0, .slice (some ad) x.Txns.length c1, .int .i64 x.Used]) ∧ Hid (Box wx wr.heap.size #[.string t.Name, .int .i64 t.Producer, .int .i64 t.Turn, .bool t.Open, .slice A4 t.Parts.length c4]) ∧ Below w.heap.size w wx)
      case first =>
        go_wp2_with (first
          | (go_at_call 66; refine (implNameOk_c _ _ sn).mono ?_; rintro e w' ⟨rfl, rfl⟩)
          | (go_at_call 37; refine (within_c _ _ _ _).mono ?_; rintro e w' ⟨rfl, rfl⟩)
          | (go_at_call 39; refine (ascending_c _ t.Parts _ l4 (Row_below g4 (below_al _ _)) sp).mono ?_; rintro e w1 ⟨rfl, hb1⟩; have X1 := (Box.new wr _ _).later hb1; have a3 := X1 3 _ rfl; have a4 := X1 4 _ rfl; have ag := X1.lt rfl; have HX1 := Lib.hid X1; clear X1))
        all_goals go_meet
        all_goals first
          | exact ⟨by simp only [Value.bool.injEq]; grind [txA], Lib.hid (HZ.out.later (below_tr (below_al _ _) hb1)), Lib.hid HX1.out, below_tr hb (below_tr (below_al _ _) hb1)⟩
          | exact ⟨by simp only [Value.bool.injEq]; grind [txA], Lib.hid (HZ.out.later (below_al _ _)), Lib.hid (Box.new _ _ _), below_tr hb (below_al _ _)⟩
      obtain ⟨rfl, HZ2, HX, Hb⟩ := hcut
      generalize hgs : wr.heap.size = gs at HX ⊢
      clear hgs p0 p1 p2 p3 p4 g4 G1 z0 z2 HZ hb hgz
      generalize hA : txA x.Logs.length x.Used t = va
      have HVA := Lib.hid hA
      clear hA
      have hgz := HZ2.out.lt rfl
      have hgt := HX.out.lt rfl
      have z1 := HZ2.out 1 _ rfl
      cases va with
      | false =>
        have HE : Hid (false = T) := Lib.hid (by rw [← HD2.out, HVA.out]; rfl)
        go_wp2
        go_ret
        exact ⟨ret_bool (by rw [← HR.out, ← HE.out]), Hb⟩
      | true =>
        have HD3 : Hid (((x.Txns.take i).all (apartT t) && txL x.Logs.length x.Used (x.Txns.drop (i + 1)) (x.Txns.take (i + 1))) = T) := Lib.hid (by rw [← HD2.out, HVA.out]; rfl)
        clear HD2 HVA
        have hic : (i : Int) ≤ (c1 : Int) := by omega
        go_wp2
        go_loopg [89] i (fun g v89 wi => ∃ j : Nat, j + g = i ∧ v89 = .int .i64 j ∧ Hid (Box wi w.heap.size #[.slice A0 x.Logs.length c0, .slice (some ad) x.Txns.length c1, .int .i64 x.Used]) ∧ Hid (Box wi gs #[.string t.Name, .int .i64 t.Producer, .int .i64 t.Turn, .bool t.Open, .slice A4 t.Parts.length c4]) ∧ Below w.heap.size w wi ∧ Hid ((x.Txns.take j).all (apartT t) = true))
        case atStart => exact ⟨0, by omega, rfl, HZ2, HX, Hb, Lib.hid rfl⟩
        case round =>
          clear HZ2 HX Hb z1 hgz hgt
          obtain ⟨j, hj, rfl, HZ, HX, hb, Ha⟩ := hrel
          have hgz := HZ.out.lt rfl
          have hgt := HX.out.lt rfl
          by_cases hlt3 : j < i
          case neg =>
            have HE : Hid (txL x.Logs.length x.Used (x.Txns.drop (i + 1)) (x.Txns.take (i + 1)) = T) := Lib.hid (by rw [← HD3.out, show i = j by omega, Ha.out]; rfl)
            go_wp2
            go_roundg (x.Txns.length - i - 1)
            case rel => exact ⟨i + 1, by omega, by go_num, HZ, hb, HE⟩
            case measure => omega
          obtain ⟨bd, u, A5, c5, hbd, hy, r0, r1, r2, r3, r4, l5, g5⟩ := Txn.at (Row_below g1 hb) j (by omega)
          cases hbd
          have Hy := Lib.hid hy
          have sn2 := (HS1.out u (List.mem_of_getElem? hy)).1
          clear hy
          have hil : ((j : Int)) < (i : Int) := by omega
          have HF : Hid (apartT t u = false → false = T) := Lib.hid (fun h => by rw [← HD3.out, all_fail (k := j) (by rw [List.getElem?_take, if_pos hlt3]; exact Hy.out) h]; rfl)
          have Hb := below_tr hb (below_al wr (.cells #[.string u.Name, .int .i64 u.Producer, .int .i64 u.Turn, .bool u.Open, .slice A5 u.Parts.length c5] 107))
          have y0 := HX.out 0 _ rfl
          have y1 := HX.out 1 _ rfl
          go_wp2
          all_goals first
            | (go_ret; exact ⟨ret_bool (by rw [← HR.out, ← HF.out (by unfold apartT; grind)]), Hb⟩)
            | (go_roundg (gk - 1); (case rel => exact ⟨j + 1, by omega, by go_num, Lib.hid (HZ.out.later (below_al _ _)), Lib.hid (HX.out.later (below_al _ _)), Hb, Lib.hid (all_step Ha.out Hy.out (by unfold apartT; grind))⟩); (case measure => omega))
end Go.Proofs.Ytpnjgmgnhkhapaa.H
