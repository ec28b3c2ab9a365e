/-
The program's PartOk answers partOk. Conditions: the contract's own premises.
-/
import Derived.Test.YtpnjgmgnhkhapaaHHas
import Derived.Test.YtpnjgmgnhkhapaaHLog1
import Derived.Test.YtpnjgmgnhkhapaaHLog2
namespace Go.Proofs.Ytpnjgmgnhkhapaa.H
open Go.RowKit
set_option linter.unusedVariables false
set_option linter.unusedSimpArgs false
set_option maxRecDepth 100000
def pHdr (p : Part) : Bool := inB p.Replicas.length 1 5 && inB p.Leader (-1) ((p.Replicas.length : Int) - 1) && inB p.Epoch 0 1000000 && decide (p.Insync.length ≠ 0) && ascB p.Replicas.length p.Insync (-1) && decide (p.Known.length = p.Replicas.length) && inB p.Least 1 5
def repA (r : Replica) (kn : Int) : Bool := logOk r.Log && inB r.Mark r.Log.Start r.Log.Next && inB kn 0 1000000000
def epOk (E : Int) (b : Batch) : Bool := decide (b.Epoch ≤ E)
def repOk (E : Int) (q : Replica × Int) : Bool := repA q.1 q.2 && (allB q.1.Log).all (epOk E)
def leadOk (p : Part) : Bool := p.Leader == -1 || (match p.Replicas[p.Leader.toNat]? with | some r => r.Up && p.Insync.contains p.Leader | none => false)
def partOk (p : Part) : Bool := pHdr p && (p.Replicas.zip p.Known).all (repOk p.Epoch) && leadOk p
theorem zip_at {α β : Type} {l : List α} {m : List β} {k : Nat} {x : α} {y : β} (h : l[k]? = some x) (h2 : m[k]? = some y) : (l.zip m)[k]? = some (x, y) := by
  rw [List.getElem?_zip_eq_some]; exact ⟨h, h2⟩
set_option maxHeartbeats 8000000 in
theorem implPartOk_c (w : World) (x : Part) {A0 A3 A4 : Option Addr} {c0 c3 c4 : Nat} (l0 : x.Replicas.length ≤ c0) (g0 : Row kReplica w A0 x.Replicas) (l3 : x.Insync.length ≤ c3) (g3 : Row (Ki.int .i64) w A3 x.Insync) (l4 : x.Known.length ≤ c4) (g4 : Row (Ki.int .i64) w A4 x.Known) (hs : x.sm) :
    Calls Try.prog 23 #[.agg #[.slice A0 x.Replicas.length c0, .int .i64 x.Leader, .int .i64 x.Epoch, .slice A3 x.Insync.length c3, .slice A4 x.Known.length c4, .int .i64 x.Least]] w fun e w' => e = .returned (.bool (partOk x)) ∧ Below w.heap.size w w' := by
  obtain ⟨⟨hs0, hs0'⟩, hs3, hs4⟩ := hs
  have HS0 := Lib.hid hs0'
  clear hs0'
  have hu := Try.underlying92
  have hu2 := Try.underlying46
  have hu3 := Try.underlying101
  have hu4 := Try.underlying97
  have hu5 := Try.underlying41
  go_enter Try.func23, Try.ntmps23
  go_upto_region 2 with fail
  go_cut [53] (fun s wx => s = .bool !(pHdr x) ∧ Box wx w.heap.size #[.slice A0 x.Replicas.length c0, .int .i64 x.Leader, .int .i64 x.Epoch, .slice A3 x.Insync.length c3, .slice A4 x.Known.length c4, .int .i64 x.Least] ∧ Below w.heap.size w wx)
  case first =>
    generalize hbI : decide (x.Insync.length = 0) = bI
    generalize hbK : decide (x.Known.length = x.Replicas.length) = bK
    have hI2 : ((x.Insync.length : Int) == 0) = bI := by rw [← hbI, Bool.eq_iff_iff]; simp
    have hK2 : ((x.Known.length : Int) != (x.Replicas.length : Int)) = !bK := by rw [← hbK, Bool.eq_iff_iff]; simp <;> omega
    have HbI := Lib.hid hbI
    have HbK := Lib.hid hbK
    clear hbI hbK
    go_wp2_with (first
      | (go_at_call 37; refine (within_c _ _ _ _).mono ?_; rintro e w' ⟨rfl, rfl⟩)
      | (go_at_call 39; refine (ascending_c _ x.Insync _ l3 (Row_below g3 (below_al _ _)) hs3).mono ?_; rintro e w1 ⟨rfl, hb1⟩; have X1 := (Box.new w _ _).later hb1; have a4 := X1 4 _ rfl; have a5 := X1 5 _ rfl; have ag := X1.lt rfl; have HX1 := Lib.hid X1; clear X1))
    all_goals go_meet
    all_goals first
      | exact ⟨by simp only [Value.bool.injEq]; have := HbI.out; have := HbK.out; grind [pHdr], HX1.out, below_tr (below_al _ _) hb1⟩
      | exact ⟨by simp only [Value.bool.injEq]; have := HbI.out; have := HbK.out; grind [pHdr], Box.new _ _ _, below_al _ _⟩
  obtain ⟨rfl, hz, hb⟩ := hcut
  have z0 := hz 0 _ rfl
  have hgz := hz.lt rfl
  have HZ := Lib.hid hz
  clear hz
  by_cases hh : pHdr x = true
  case neg =>
    replace hh := Bool.eq_false_iff.2 hh
    have HH := Lib.hid hh
    rw [hh]
    clear hh
    go_wp2
    go_ret
    exact ⟨ret_bool (by simp [partOk, HH.out]), hb⟩
  have HH := Lib.hid hh
  rw [hh]
  have hn : 1 ≤ x.Replicas.length ∧ x.Replicas.length ≤ 5 ∧ x.Known.length = x.Replicas.length ∧ -1 ≤ x.Leader ∧ x.Leader ≤ (x.Replicas.length : Int) - 1 := by simp only [pHdr, inB, Bool.and_eq_true, decide_eq_true_eq] at hh; omega
  clear hh
  obtain ⟨hn0, hn1, hkn, hld0, hld1⟩ := hn
  have HKN := Lib.hid hkn
  clear hkn
  have HA : Hid (((x.Replicas.zip x.Known).all (repOk x.Epoch) && leadOk x) = partOk x) := Lib.hid (by have := HH.out; grind [partOk])
  clear HH
  go_wp2
  go_loopg [57] x.Replicas.length (fun g v57 wr => ∃ k : Nat, k + g = x.Replicas.length ∧ v57 = .int .i64 k ∧ Hid (Box wr w.heap.size #[.slice A0 x.Replicas.length c0, .int .i64 x.Leader, .int .i64 x.Epoch, .slice A3 x.Insync.length c3, .slice A4 x.Known.length c4, .int .i64 x.Least]) ∧ Below w.heap.size w wr ∧ Hid (((x.Replicas.zip x.Known).take k).all (repOk x.Epoch) = true))
  case atStart => exact ⟨0, by omega, rfl, HZ, hb, Lib.hid rfl⟩
  case round =>
    clear z0 HZ hb hgz
    obtain ⟨k, hk, rfl, HZ, hb, Ha⟩ := hrel
    have hgz := HZ.out.lt rfl
    by_cases hlt : k < x.Replicas.length
    case pos =>
      obtain ⟨ad, r, A6, c6, rfl, hx, p0, p1, p2, p3, p4, p5, l6, g6⟩ := Replica.at (Row_below g0 hb) k hlt
      obtain ⟨ak, kn, rfl, hxk, pk⟩ := rowInt (Row_below g4 hb) k (by have := HKN.out; omega)
      have Hx := Lib.hid (zip_at hx hxk)
      have HSr := Lib.hid (HS0.out r (List.mem_of_getElem? hx))
      clear hx hxk
      have z4 := HZ.out 4 _ rfl
      go_upto_region 7 with fail
      have hkn2 : (k : Int) < (x.Known.length : Int) := by have := HKN.out; omega
      go_cut [86] (fun s wx => s = .bool !(repA r kn) ∧ Hid (Box wx w.heap.size #[.slice (some ad) x.Replicas.length c0, .int .i64 x.Leader, .int .i64 x.Epoch, .slice A3 x.Insync.length c3, .slice (some ak) x.Known.length c4, .int .i64 x.Least]) ∧ Box wx wr.heap.size #[.int .i64 r.Log.Start, .int .i64 r.Log.Next, .int .i64 r.Log.Roll, .slice A6 r.Log.Segments.length c6, .int .i64 r.Mark, .bool r.Up] ∧ Below w.heap.size w wx ∧ Row kSegment wx A6 r.Log.Segments)
      case first =>
        go_wp2_with (first
          | (go_at_call 37; refine (within_c _ _ _ _).mono ?_; rintro e w' ⟨rfl, rfl⟩)
          | (go_at_call 56; refine (offsetOk_c _ _).mono ?_; rintro e w' ⟨rfl, rfl⟩)
          | (go_at_call 55; refine (implLogOk_c _ r.Log l6 (Row_below g6 (below_al _ _)) HSr.out).mono ?_; rintro e w1 ⟨rfl, hb1⟩; have X1 := (Box.new wr _ _).later hb1; have a0 := X1 0 _ rfl; have a1 := X1 1 _ rfl; have a4 := X1 4 _ rfl; have ag := X1.lt rfl; have HX1 := Lib.hid X1; clear X1; have y4 := later (below_tr (below_al _ _) hb1) z4; have yk := later (below_tr (below_al _ _) hb1) pk; have hgw := World.block_lt_of_cell? w1 _ y4))
        all_goals go_meet
        all_goals exact ⟨by simp only [Value.bool.injEq]; grind [repA], Lib.hid (HZ.out.later (below_tr (below_al _ _) hb1)), HX1.out, below_tr hb (below_tr (below_al _ _) hb1), Row_below g6 (below_tr (below_al _ _) hb1)⟩
      obtain ⟨rfl, HZ2, hX, Hb, G6⟩ := hcut
      clear p0 p1 p2 p3 p4 p5 g6 pk z4 HZ hb hgz
      have t0 := hX 0 _ rfl
      have t1 := hX 1 _ rfl
      have t2 := hX 2 _ rfl
      have t3 := hX 3 _ rfl
      have tg := hX.lt rfl
      have hgw := HZ2.out.lt rfl
      clear hX
      generalize hA : repA r kn = va
      have HVA := Lib.hid hA
      clear hA
      cases va with
      | false =>
        go_wp2
        go_ret
        exact ⟨ret_bool (by rw [← HA.out, all_fail Hx.out (by unfold repOk; rw [HVA.out]; rfl)]; rfl), Hb⟩
      | true =>
        have hlo : logOk r.Log = true := by have h := HVA.out; simp only [repA, Bool.and_eq_true] at h; exact h.1.1
        have hab := (logOk_all hlo).1
        clear hlo
        have hsr := HSr.out.1
        generalize hbs : allB r.Log = bs at hab
        have HBS := Lib.hid hbs
        clear hbs
        generalize hgs : wr.heap.size = gs at t0 t1 t2 t3 tg ⊢
        clear hgs
        go_upto_region 10 with (go_at_call 57; refine (batches_c _ r.Log l6 G6 hsr (by rw [HBS.out]; omega)).mono ?_; rintro e w1 ⟨A, c, rfl, hc, hr, hb1⟩; rw [HBS.out] at hc hr ⊢)
        have HZ3 := Lib.hid (HZ2.out.later hb1)
        have Hb3 := below_tr Hb hb1
        clear t0 t1 t2 t3 tg HZ2 Hb G6 hb1 hgw
        go_loopg [91] bs.length (fun g v91 wi => ∃ j : Nat, j + g = bs.length ∧ v91 = .int .i64 j ∧ Hid (Box wi w.heap.size #[.slice (some ad) x.Replicas.length c0, .int .i64 x.Leader, .int .i64 x.Epoch, .slice A3 x.Insync.length c3, .slice (some ak) x.Known.length c4, .int .i64 x.Least]) ∧ Below w.heap.size w wi ∧ Row kBatch wi A bs ∧ Hid ((bs.take j).all (epOk x.Epoch) = true))
        case atStart => exact ⟨0, by omega, rfl, HZ3, Hb3, hr, Lib.hid rfl⟩
        case round =>
          clear HZ3 Hb3 hr
          obtain ⟨j, hj, rfl, HZ, hb, G, Ha2⟩ := hrel
          have hgz := HZ.out.lt rfl
          by_cases hlt2 : j < bs.length
          case neg =>
            go_wp2
            go_roundg (x.Replicas.length - k - 1)
            case rel => exact ⟨k + 1, by omega, by go_num, HZ, hb, Lib.hid (all_step Ha.out Hx.out (by unfold repOk; rw [HVA.out, HBS.out, all_full Ha2.out (by omega)]; rfl))⟩
            case measure => omega
          obtain ⟨bd, b, A7, c7, rfl, hbx, r0, r1, r2, r3, r4, r5, r6, l7, g7⟩ := Batch.at G j hlt2
          have HX := Lib.hid hbx
          clear hbx
          have z2 := HZ.out 2 _ rfl
          have Hb := below_tr hb (below_al wr (.cells #[.int .i64 b.Base, .int .i64 b.Epoch, .int .i64 b.Producer, .int .i64 b.Turn, .int .i64 b.Seq, .int .i64 b.Flags, .slice A7 b.Records.length c7] 101))
          go_wp2
          all_goals first
            | (go_ret; exact ⟨ret_bool (by rw [← HA.out, all_fail Hx.out (by unfold repOk; rw [HBS.out, all_fail HX.out (by unfold epOk; grind)]; simp)]; rfl), Hb⟩)
            | (go_roundg (gk - 1); (case rel => exact ⟨j + 1, by omega, by go_num, Lib.hid (HZ.out.later (below_al _ _)), Hb, Row_below G (below_al _ _), Lib.hid (all_step Ha2.out HX.out (by unfold epOk; grind))⟩); (case measure => omega))
    have HR : Hid (leadOk x = partOk x) := Lib.hid (by rw [← HA.out, all_full Ha.out (by rw [List.length_zip]; omega)]; rfl)
    clear HA Ha
    have Hlt := Lib.hid hlt
    clear hlt hk
    have z0 := HZ.out 0 _ rfl
    have z1 := HZ.out 1 _ rfl
    have z3 := HZ.out 3 _ rfl
    by_cases hL : x.Leader = -1
    · have HL := Lib.hid hL
      have hL2 : (x.Leader == -1) = true := by simpa using hL
      clear hL
      go_wp2
      go_ret
      exact ⟨ret_bool (by rw [← HR.out]; simp [leadOk, HL.out]), hb⟩
    · have hL2 : (x.Leader == -1) = false := by simpa using hL
      have hl0 : 0 ≤ x.Leader := by omega
      have hl1 : x.Leader < (x.Replicas.length : Int) := by omega
      have HL := Lib.hid hL
      clear hL
      obtain ⟨ad, r, A6, c6, rfl, hx, p0, p1, p2, p3, p4, p5, l6, g6⟩ := Replica.at (Row_below g0 hb) x.Leader.toNat (by omega)
      have Hx := Lib.hid hx
      clear hx
      go_wp2_with (go_at_call 58; refine (contains_c _ x.Insync _ l3 (Row_below g3 hb) hs3).mono ?_; rintro e w1 ⟨rfl, hb1⟩)
      all_goals go_ret
      all_goals first
        | exact ⟨ret_bool (by rw [← HR.out]; unfold leadOk; rw [Hx.out]; grind), below_tr hb hb1⟩
        | exact ⟨ret_bool (by rw [← HR.out]; unfold leadOk; rw [Hx.out]; grind), hb⟩
end Go.Proofs.Ytpnjgmgnhkhapaa.H
