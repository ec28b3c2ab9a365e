/-
The program's LogOk answers logOk. Conditions: the contract's own premises.
-/
import Derived.Test.YtiefpllmnmmdlaaHBatch2
import Derived.Test.YtiefpllmnmmdlaaHLogDef
import Derived.Deep.RegionHeld3
namespace Go.Proofs.Ytiefpllmnmmdlaa.H
open Go.RowKit
set_option linter.unusedVariables false
set_option linter.unusedSimpArgs false
set_option maxRecDepth 100000
theorem offsetOk_v (n : Int) (w : World) (b : Bool) (h : inB n 0 1000000000 = b) : Calls Try.prog 48 #[.int .i64 n] w fun e w' => e = .returned (.bool b) ∧ w' = w := by
  subst h
  exact (offsetOk_c n w).mono fun _ _ ⟨h1, h2⟩ => ⟨h1, h2.symm⟩
theorem drop_cons {α : Type} {l : List α} {k : Nat} {x : α} (h : l[k]? = some x) : l.drop k = x :: l.drop (k + 1) := by
  obtain ⟨hk, rfl⟩ := List.getElem?_eq_some_iff.1 h
  exact List.drop_eq_getElem_cons hk
theorem iS_none {next l e : Int} {fst : Bool} {s : Segment} {r : List Segment} {m : Nat} (h : (decide (400 < ((m + s.Batches.length : Nat) : Int)) || (!fst && decide (s.Base ≤ l))) = true) : iS next fst (s :: r) l e m = none := by simp only [iS, h, if_true]
theorem iS_nil {next l e : Int} {fst : Bool} {s : Segment} {r : List Segment} {m : Nat} (h : (decide (400 < ((m + s.Batches.length : Nat) : Int)) || (!fst && decide (s.Base ≤ l))) = false) (hb : s.Batches = []) :
    iS next fst (s :: r) l e m = if decide (r.length ≠ 0) || !inB s.Base 0 1000000000 || decide (next < s.Base) then none else iS next false r l e (m + s.Batches.length) := by
  simp only [iS, h, Bool.false_eq_true, if_false]; rw [hb]
theorem iS_cons {next l e : Int} {fst : Bool} {s : Segment} {r : List Segment} {m : Nat} {b : Batch} {bs : List Batch} (h : (decide (400 < ((m + s.Batches.length : Nat) : Int)) || (!fst && decide (s.Base ≤ l))) = false) (hb : s.Batches = b :: bs) :
    iS next fst (s :: r) l e m = if !inB s.Base 0 1000000000 || decide (b.Base < s.Base) then none else (iB s.Batches l e).bind fun q => iS next false r q.1 q.2 (m + s.Batches.length) := by
  simp only [iS, h, Bool.false_eq_true, if_false]; rw [hb]
theorem iB_cons {b : Batch} {r : List Batch} {l e : Int} : iB (b :: r) l e = if batchOk b && decide (l < b.Base) && decide (e ≤ b.Epoch) then iB r (lastB b) b.Epoch else none := by simp only [iB]
set_option maxHeartbeats 8000000 in
theorem implLogOk_c (w : World) (x : Log) {A3 : Option Addr} {c3 : Nat} (l3 : x.Segments.length ≤ c3) (g3 : Row kSegment w A3 x.Segments) (hs : x.sm) :
    Calls Try.prog 31 #[.agg #[.int .i64 x.Start, .int .i64 x.Next, .int .i64 x.Roll, .slice A3 x.Segments.length c3]] w fun e w' => e = .returned (.bool (logOk x)) ∧ Below w.heap.size w w' := by
  have hl := hs.1
  have HS := Lib.hid hs.2
  clear hs
  have hu := Try.underlying45
  have hu2 := Try.underlying26
  have hu3 := Try.underlying48
  have hu4 := Try.underlying42
  go_enter Try.func31, Try.ntmps31
  go_upto_region 1 with fail
  go_cut [0, 38] (fun s0 s wx => s = .bool !(logHdr x) ∧ Box wx w.heap.size #[.int .i64 x.Start, .int .i64 x.Next, .int .i64 x.Roll, .slice A3 x.Segments.length c3] ∧ Below w.heap.size w wx)
  case first =>
    go_wp2_with (first | (go_at_call 48; refine (offsetOk_c _ _).mono ?_; rintro e w' ⟨rfl, rfl⟩) | (go_at_call 47; refine (within_c _ _ _ _).mono ?_; rintro e w' ⟨rfl, rfl⟩))
    all_goals (go_meet; exact ⟨by simp only [Value.bool.injEq]; grind [logHdr, inB], Box.new _ _ _, below_al _ _⟩)
  obtain ⟨rfl, hz, hb⟩ := hcut
  have z1 := hz 1 _ rfl
  have z3 := hz 3 _ rfl
  clear hz
  by_cases hh : logHdr x = true
  case neg =>
    replace hh := Bool.eq_false_iff.2 hh
    have HH := Lib.hid hh
    rw [hh]
    clear hh
    go_wp2
    go_ret
    exact ⟨ret_bool (by simp [logOk, HH.out]), hb⟩
  have HH := Lib.hid hh
  rw [hh]
  have hn : x.Segments.length ≤ 60 ∧ 0 ≤ x.Next ∧ x.Next ≤ 1000000000 := by simp only [logHdr, inB, Bool.and_eq_true, decide_eq_true_eq] at hh; omega
  clear hh
  obtain ⟨hn, hx0, hx1⟩ := hn
  have HR : Hid (∀ b, (match iS x.Next true x.Segments (-1) 0 0 with | some q => decide (q < x.Next) | none => false) = b → b = logOk x) := Lib.hid (fun b h => by rw [← h]; simp only [logOk, HH.out, Bool.true_and]; rfl)
  clear HH
  generalize hT : iS x.Next true x.Segments (-1) 0 0 = T at HR
  have HT := Lib.hid hT
  clear hT
  go_wp2
  go_loopg [3, 4, 5, 42] x.Segments.length (fun g v3 v4 v5 v42 wr => ∃ (k m : Nat) (l e : Int), k + g = x.Segments.length ∧ v42 = .int .i64 k ∧ v3 = .int .i64 l ∧ v4 = .int .i64 e ∧ v5 = .int .i64 m ∧ m ≤ 400 ∧ -1 ≤ l ∧ l ≤ 1000000000 ∧ wr.cell? ⟨w.heap.size, 1, none⟩ = some (.int .i64 x.Next) ∧ wr.cell? ⟨w.heap.size, 3, none⟩ = some (.slice A3 x.Segments.length c3) ∧ Below w.heap.size w wr ∧ Hid (iS x.Next (decide (k = 0)) (x.Segments.drop k) l e m = T))
  case atStart => exact ⟨0, 0, -1, 0, by omega, rfl, rfl, rfl, rfl, by omega, by omega, by omega, z1, z3, hb, Lib.hid (by simpa using HT.out)⟩
  case round =>
    clear z1 z3 hb HT
    obtain ⟨k, m, l, e, hk, rfl, rfl, rfl, rfl, hm, hl0, hl1, z1, z3, hb, HD⟩ := hrel
    have hgz : w.heap.size < wr.heap.size := World.block_lt_of_cell? wr _ z1
    by_cases hlt : k < x.Segments.length
    case neg =>
      go_wp2
      go_ret
      refine ⟨ret_bool (HR.out _ ?_), hb⟩
      have h := HD.out
      rw [List.drop_eq_nil_of_le (by omega)] at h
      rw [← h]
      simp [iS]
    obtain ⟨ad, s, A1, c1, rfl, hx, p0, p1, l1, g1⟩ := Segment.at (Row_below g3 hb) k hlt
    have HX := Lib.hid (drop_cons hx)
    have hsm := HS.out s (List.mem_of_getElem? hx)
    clear hx
    have hsl := hsm.1
    have HSS := Lib.hid hsm.2
    clear hsm
    have HD2 : Hid (iS x.Next (decide (k = 0)) (s :: x.Segments.drop (k + 1)) l e m = T) := Lib.hid (by rw [← HX.out]; exact HD.out)
    clear HD HX
    have Hb := below_tr hb (below_al wr (.cells #[.int .i64 s.Base, .slice A1 s.Batches.length c1] 45))
    have y1 := later (below_al wr (.cells #[.int .i64 s.Base, .slice A1 s.Batches.length c1] 45)) z1
    have y3 := later (below_al wr (.cells #[.int .i64 s.Base, .slice A1 s.Batches.length c1] 45)) z3
    have G1 := Row_below g1 (below_al wr (.cells #[.int .i64 s.Base, .slice A1 s.Batches.length c1] 45))
    go_upto_region 8 with fail
    go_cut [63] (fun v wx => v = .bool (decide (400 < ((m + s.Batches.length : Nat) : Int)) || (!decide (k = 0) && decide (s.Base ≤ l))) ∧ wx = wr.alloc (.cells #[.int .i64 s.Base, .slice A1 s.Batches.length c1] 45))
    case first =>
      go_wp2
      all_goals (go_meet; exact ⟨by simp only [Value.bool.injEq]; grind, rfl⟩)
    obtain ⟨rfl, rfl⟩ := hcut
    generalize hC : (decide (400 < ((m + s.Batches.length : Nat) : Int)) || (!decide (k = 0) && decide (s.Base ≤ l))) = C
    have HC := Lib.hid hC
    clear hC
    cases C with
    | true =>
      go_wp2
      go_ret
      refine ⟨ret_bool (HR.out _ ?_), Hb⟩
      rw [← HD2.out, iS_none HC.out]
    | false =>
      have hm2 : m + s.Batches.length ≤ 400 := by have := HC.out; grind
      by_cases hbs : s.Batches = []
      case pos =>
        have HN := Lib.hid (iS_nil (next := x.Next) (r := x.Segments.drop (k + 1)) (e := e) HC.out hbs)
        have t0 : ((s.Batches.length : Int) == 0) = true := by simp [hbs]
        have T1 : Hid (s.Batches.length = 0) := Lib.hid (by simp [hbs])
        clear hbs HC
        have HD3 := Lib.hid (HN.out.symm.trans HD2.out)
        clear HN HD2
        rw [T1.out] at y1 y3 Hb ⊢
        have HD5 : Hid ((if (decide ((x.Segments.drop (k + 1)).length ≠ 0) || !inB s.Base 0 1000000000 || decide (x.Next < s.Base)) = true then none else iS x.Next false (x.Segments.drop (k + 1)) l e m) = T) := Lib.hid (by have := HD3.out; rwa [T1.out, Nat.add_zero] at this)
        clear HD3
        go_wp2_with (go_at_call 48; refine (offsetOk_c _ _).mono ?_; rintro e w' ⟨rfl, rfl⟩)
        all_goals first
          | (go_ret; refine ⟨ret_bool (HR.out _ ?_), Hb⟩; rw [← HD5.out]; rw [if_pos (by simp only [List.length_drop]; grind)])
          | (go_roundg (gk - 1); (case rel => exact ⟨k + 1, m, l, e, by omega, by go_num, rfl, rfl, by go_num, by omega, by omega, by omega, y1, y3, Hb, Lib.hid (by rw [← HD5.out]; rw [if_neg (by simp only [List.length_drop]; grind)]; simp)⟩); (case measure => omega))
      case neg =>
        obtain ⟨b0, bs, hbs⟩ := List.exists_cons_of_ne_nil hbs
        have HN := Lib.hid (iS_cons (next := x.Next) (r := x.Segments.drop (k + 1)) (e := e) HC.out hbs)
        have h0 : s.Batches[0]? = some b0 := by simp [hbs]
        have t1 : 0 < s.Batches.length := by simp [hbs]
        have t0 : ((s.Batches.length : Int) == 0) = false := by simp [hbs]; omega
        have t2 : (0 : Int) < (s.Batches.length : Int) := by omega
        clear hbs HC
        have HD3 := Lib.hid (HN.out.symm.trans HD2.out)
        clear HN HD2
        obtain ⟨bd, b', A6, c6, rfl, hb0, r0, r1, r2, r3, r4, r5, r6, l6, g6⟩ := Batch.at G1 0 t1
        obtain rfl : b' = b0 := by rw [h0] at hb0; exact (Option.some.inj hb0).symm
        clear h0 hb0 r1 r2 r3 r4 r5 r6 l6 g6 c6 A6
        simp [Addr.add] at r0
        generalize hin : inB s.Base 0 1000000000 = bi
        have Hin := Lib.hid hin
        clear hin
        go_upto_region 13 with fail
        cases bi with
        | false =>
          go_quiet ((go_at_call 48; exact Calls.quiet_of_same (offsetOk_v _ _ false Hin.out)))
          go_wp2
          go_ret
          exact ⟨ret_bool (HR.out _ (by rw [← HD3.out, if_pos (by simp [Hin.out])])), below_dn Hb _⟩
        | true =>
          go_quiet ((go_at_call 48; exact Calls.quiet_of_same (offsetOk_v _ _ true Hin.out)))
          by_cases hlo : b'.Base < s.Base
          · go_wp2
            go_ret
            exact ⟨ret_bool (HR.out _ (by rw [← HD3.out, if_pos (by simp [hlo])])), below_dn Hb _⟩
          have HD4 : Hid ((iB s.Batches l e).bind (fun q => iS x.Next false (x.Segments.drop (k + 1)) q.1 q.2 (m + s.Batches.length)) = T) := Lib.hid (by rw [← HD3.out, if_neg (by simp [Hin.out, hlo])])
          clear HD3
          have G2 : Row kBatch ((wr.alloc (.cells #[.int .i64 s.Base, .slice (some bd) s.Batches.length c1] 45)).drewN nq) (some bd) s.Batches := Row_below G1 (below_dn (Below.refl _ _) _)
          have Hb2 := below_dn Hb nq
          have Y1 : ((wr.alloc (.cells #[.int .i64 s.Base, .slice (some bd) s.Batches.length c1] 45)).drewN nq).cell? ⟨w.heap.size, 1, none⟩ = some (.int .i64 x.Next) := y1
          have Y3 : ((wr.alloc (.cells #[.int .i64 s.Base, .slice (some bd) s.Batches.length c1] 45)).drewN nq).cell? ⟨w.heap.size, 3, none⟩ = some (.slice (some ad) x.Segments.length c3) := y3
          have hg : gk = x.Segments.length - k := by omega
          go_wp2
          go_loopg [3, 4, 104] s.Batches.length (fun g v3 v4 v104 wi => ∃ (j : Nat) (l' e' : Int), j + g = s.Batches.length ∧ v104 = .int .i64 j ∧ v3 = .int .i64 l' ∧ v4 = .int .i64 e' ∧ -1 ≤ l' ∧ l' ≤ 1000000000 ∧ wi.cell? ⟨w.heap.size, 1, none⟩ = some (.int .i64 x.Next) ∧ wi.cell? ⟨w.heap.size, 3, none⟩ = some (.slice (some ad) x.Segments.length c3) ∧ Below w.heap.size w wi ∧ Row kBatch wi (some bd) s.Batches ∧ Hid ((iB (s.Batches.drop j) l' e').bind (fun q => iS x.Next false (x.Segments.drop (k + 1)) q.1 q.2 (m + s.Batches.length)) = T))
          case atStart => exact ⟨0, l, e, by omega, rfl, rfl, rfl, hl0, hl1, Y1, Y3, Hb2, G2, HD4⟩
          case round =>
            clear Y1 Y3 Hb2 G2 HD4 y1 y3 Hb G1 p0 p1 r0 g1 z1 z3 hb hgz Hin hlo t0 t2 hl0 hl1
            obtain ⟨j, l', e', hj, rfl, rfl, rfl, hl0, hl1, z1, z3, hb, G1, HD⟩ := hrel
            by_cases hlt2 : j < s.Batches.length
            case neg =>
              go_wp2
              go_roundg (x.Segments.length - k - 1)
              case rel => exact ⟨k + 1, m + s.Batches.length, l', e', by omega, by go_num, rfl, rfl, by go_num, by omega, by omega, by omega, z1, z3, hb, Lib.hid (by have h := HD.out; rw [List.drop_eq_nil_of_le (by omega)] at h; simpa [iB] using h)⟩
              case measure => omega
            obtain ⟨bd', b, A6, c6, hbd, hbx, r0, r1, r2, r3, r4, r5, r6, l6, g6⟩ := Batch.at G1 j hlt2
            cases hbd
            have HX := Lib.hid (drop_cons hbx)
            have HSb := Lib.hid (HSS.out b (List.mem_of_getElem? hbx))
            have hbl := (HSS.out b (List.mem_of_getElem? hbx)).1
            clear hbx
            have HD2 : Hid ((if batchOk b && decide (l' < b.Base) && decide (e' ≤ b.Epoch) then iB (s.Batches.drop (j + 1)) (lastB b) b.Epoch else none).bind (fun q => iS x.Next false (x.Segments.drop (k + 1)) q.1 q.2 (m + s.Batches.length)) = T) := Lib.hid (by rw [← iB_cons, ← HX.out]; exact HD.out)
            clear HD HX
            have hgz : w.heap.size < wr.heap.size := World.block_lt_of_cell? wr _ z1
            generalize hok : batchOk b = ok at HD2
            have Hok := Lib.hid hok
            clear hok
            by_cases hc : (ok && decide (l' < b.Base) && decide (e' ≤ b.Epoch)) = true
            case neg =>
              have HF : Hid (none = T) := Lib.hid (by rw [← HD2.out, if_neg hc]; rfl)
              have hc' : ok = false ∨ b.Base ≤ l' ∨ b.Epoch < e' := by cases ok <;> simp at hc ⊢; omega
              clear hc HD2
              rcases hc' with hc | hc | hc
              all_goals
                (try subst hc)
                go_wp2_with (go_at_call 49; refine (implBatchOk_c _ b l6 (Row_below g6 (below_al _ _)) HSb.out).mono ?_; rintro e w' ⟨rfl, hb2⟩; rw [Hok.out]; have X := (Box.new wr _ _).later hb2; have q0 := X 0 _ rfl; have q1 := X 1 _ rfl)
              all_goals (go_ret; exact ⟨ret_bool (HR.out _ (by rw [← HF.out])), below_tr (below_tr hb (below_al _ _)) hb2⟩)
            have HD3 : Hid ((iB (s.Batches.drop (j + 1)) (lastB b) b.Epoch).bind (fun q => iS x.Next false (x.Segments.drop (k + 1)) q.1 q.2 (m + s.Batches.length)) = T) := Lib.hid (by rw [← HD2.out, if_pos hc])
            clear HD2
            obtain ⟨⟨rfl, hc1⟩, hc2⟩ : (ok = true ∧ l' < b.Base) ∧ e' ≤ b.Epoch := by simpa using hc
            clear hc
            obtain ⟨hv0, hv1, hv2, hv3, hv4⟩ := lastB_ge Hok.out
            unfold lastB at hv0 hv1
            go_upto_region 20 with (go_at_call 49; refine (implBatchOk_c _ b l6 (Row_below g6 (below_al _ _)) HSb.out).mono ?_; rintro e w' ⟨rfl, hb2⟩; rw [Hok.out]; have X := (Box.new wr _ _).later hb2; have q0 := X 0 _ rfl; have q1 := X 1 _ rfl; have q2 := X 2 _ rfl; have q3 := X 3 _ rfl; have q4 := X 4 _ rfl; have q5 := X 5 _ rfl; have q6 := X 6 _ rfl)
            have hn1 := hbl
            have HBX := Lib.hid X
            clear X
            have hbw : Below w.heap.size w w' := below_tr (below_tr hb (below_al _ _)) hb2
            have u1 := later hb2 (later (below_al _ _) z1)
            have u3 := later hb2 (later (below_al _ _) z3)
            have G3 := Row_below (Row_below G1 (below_al _ _)) hb2
            go_region_held3 (fun W => W.cell? ⟨wr.heap.size, 0, none⟩ = some (.int .i64 b.Base) ∧ W.cell? ⟨wr.heap.size, 1, none⟩ = some (.int .i64 b.Epoch) ∧ W.cell? ⟨wr.heap.size, 2, none⟩ = some (.int .i64 b.Producer) ∧ W.cell? ⟨wr.heap.size, 3, none⟩ = some (.int .i64 b.Turn) ∧ W.cell? ⟨wr.heap.size, 4, none⟩ = some (.int .i64 b.Seq) ∧ W.cell? ⟨wr.heap.size, 5, none⟩ = some (.int .i64 b.Flags) ∧ W.cell? ⟨wr.heap.size, 6, none⟩ = some (.slice A6 b.Records.length c6))
              (first | exact ⟨q0, q1, q2, q3, q4, q5, q6⟩ | exact ⟨later hb3 q0, later hb3 q1, later hb3 q2, later hb3 q3, later hb3 q4, later hb3 q5, later hb3 q6⟩)
              (first | (go_at_call 50; refine (lastOf_c _ b l6 hv2 hv3 hbl).mono ?_; rintro e w3 ⟨rfl, hb3'⟩; have hb3 : Below w'.heap.size w' w3 := below_tr (Below.refl _ _).drew hb3'))
            all_goals
              go_wp2
              go_roundg (gk - 1)
              case rel => exact ⟨j + 1, b.Base + b.Records.length - 1, b.Epoch, by omega, by go_num, rfl, rfl, by omega, by omega, later hb3 u1, later hb3 u3, below_tr hbw hb3, Row_below G3 hb3, HD3⟩
              case measure => omega
end Go.Proofs.Ytiefpllmnmmdlaa.H
