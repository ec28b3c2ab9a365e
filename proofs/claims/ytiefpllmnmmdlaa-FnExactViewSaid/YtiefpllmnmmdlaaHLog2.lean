/-
The reference's LastOffset and LogOk answer as the program's. Conditions: each contract's own premises.
-/
import Derived.Test.YtiefpllmnmmdlaaHBatch2
import Derived.Test.YtiefpllmnmmdlaaHLogDef
namespace Go.Proofs.Ytiefpllmnmmdlaa.H
open Go.RowKit
set_option linter.unusedVariables false
set_option linter.unusedSimpArgs false
set_option maxRecDepth 100000
theorem dropS_cons {α : Type} {l : List α} {k : Nat} {x : α} (h : l[k]? = some x) : l.drop k = x :: l.drop (k + 1) := by
  obtain ⟨hk, rfl⟩ := List.getElem?_eq_some_iff.1 h
  exact List.drop_eq_getElem_cons hk
theorem sB_cons {sb : Int} {b : Batch} {r : List Batch} {l e : Int} {m : Nat} : sB sb (b :: r) l e m = if batchOk b && decide (l < b.Base) && decide (sb ≤ b.Base) && decide (e ≤ b.Epoch) then sB sb r (lastB b) b.Epoch (m + 1) else none := by simp only [sB]
theorem sS_cons {s : Segment} {r : List Segment} {l e : Int} {m : Nat} : sS (s :: r) l e m = if decide (l < s.Base) && decide (0 ≤ s.Base) && (decide (s.Batches.length ≠ 0) || decide (r.length = 0)) then (sB s.Base s.Batches l e m).bind fun q => sS r (if q.1 < s.Base - 1 then s.Base - 1 else q.1) q.2.1 q.2.2 else none := by simp only [sS]
theorem specLastOffset_c (w : World) (x : Batch) {A6 : Option Addr} {c6 : Nat} (l6 : x.Records.length ≤ c6) (g6 : Row kRecord w A6 x.Records) (hs : x.sm) :
    Calls Try.prog 46 #[.agg #[.int .i64 x.Base, .int .i64 x.Epoch, .int .i64 x.Producer, .int .i64 x.Turn, .int .i64 x.Seq, .int .i64 x.Flags, .slice A6 x.Records.length c6]] w fun e w' => e = .returned (.int .i64 (if batchOk x then lastB x else -1)) ∧ Below w.heap.size w w' := by
  generalize hok : batchOk x = ok
  have Hok := Lib.hid hok
  clear hok
  have hl := hs.1
  have HS := Lib.hid hs
  clear hs
  cases ok with
  | false =>
    go_enter Try.func46, Try.ntmps46
    go_wp2_with (go_at_call 45; refine (specBatchOk_c _ x l6 (Row_below g6 (below_al _ _)) HS.out).mono ?_; rintro e w' ⟨rfl, hb2⟩; rw [Hok.out])
    go_ret
    exact ⟨rfl, below_tr (below_al _ _) hb2⟩
  | true =>
    obtain ⟨hv0, hv1, hv2, hv3, hv4⟩ := lastB_ge Hok.out
    unfold lastB at hv0 hv1
    go_enter Try.func46, Try.ntmps46
    go_wp2_with (go_at_call 45; refine (specBatchOk_c _ x l6 (Row_below g6 (below_al _ _)) HS.out).mono ?_; rintro e w' ⟨rfl, hb2⟩; rw [Hok.out]; have X := (Box.new w _ _).later hb2; have q0 := X 0 _ rfl; have q6 := X 6 _ rfl; have X' := Lib.hid X; clear X)
    go_ret
    exact ⟨rfl, below_tr (below_al _ _) hb2⟩
set_option maxHeartbeats 8000000 in
theorem specLogOk_c (w : World) (x : Log) {A3 : Option Addr} {c3 : Nat} (l3 : x.Segments.length ≤ c3) (g3 : Row kSegment w A3 x.Segments) (hs : x.sm) (hw : x.wf) :
    Calls Try.prog 30 #[.agg #[.int .i64 x.Start, .int .i64 x.Next, .int .i64 x.Roll, .slice A3 x.Segments.length c3]] w fun e w' => e = .returned (.bool (logOk x)) ∧ Below w.heap.size w w' := by
  have hl := hs.1
  have HS := Lib.hid hs.2
  clear hs
  have HW : Hid (∀ s ∈ x.Segments, s.Base ≤ 9223372036854775807) := Lib.hid (fun s hm => by
    obtain ⟨_, _, _, hq⟩ := hw
    have := (hq.2 s hm).1
    simp [wfInt, Lit.wf, IntKind.min, IntKind.max, IntKind.bits, IntKind.signed] at this
    omega)
  clear hw
  have hu := Try.underlying45
  have hu2 := Try.underlying26
  have hu3 := Try.underlying48
  have hu4 := Try.underlying42
  go_enter Try.func30, Try.ntmps30
  go_upto_region 1 with fail
  go_cut [0, 33] (fun s0 s wx => s = .bool !(logHdr x) ∧ Box wx w.heap.size #[.int .i64 x.Start, .int .i64 x.Next, .int .i64 x.Roll, .slice A3 x.Segments.length c3] ∧ Below w.heap.size w wx)
  case first =>
    go_wp2_with (go_at_call 37; refine (l1In_c _ _ _ _).mono ?_; rintro e w' ⟨rfl, rfl⟩)
    all_goals (go_meet; exact ⟨by simp only [Value.bool.injEq]; grind [logHdr, inB], Box.new _ _ _, below_al _ _⟩)
  obtain ⟨rfl, hz, hb⟩ := hcut
  have z1 := hz 1 _ rfl
  have z3 := hz 3 _ rfl
  clear hz
  by_cases hh : logHdr x = true
  case neg =>
    replace hh := Bool.eq_false_iff.2 hh
    have HH := Lib.hid hh
    rw [hh]
    clear hh
    go_wp2
    go_ret
    exact ⟨ret_bool (by simp [logOk, HH.out]), hb⟩
  have HH := Lib.hid hh
  rw [hh]
  have hn : x.Segments.length ≤ 60 ∧ 0 ≤ x.Next ∧ x.Next ≤ 1000000000 := by simp only [logHdr, inB, Bool.and_eq_true, decide_eq_true_eq] at hh; omega
  clear hh
  obtain ⟨hn, hx0, hx1⟩ := hn
  have HR : Hid (∀ b, logEnd x (sS x.Segments (-1) 0 0) = b → b = logOk x) := Lib.hid (fun b h => by rw [← h, ← logOk_eq]; simp only [logOkS, HH.out, Bool.true_and])
  clear HH
  generalize hT : sS x.Segments (-1) 0 0 = T at HR
  have HT := Lib.hid hT
  clear hT
  go_wp2
  go_loopg [3, 4, 5, 6] x.Segments.length (fun g v3 v4 v5 v6 wr => ∃ (k m : Nat) (l e : Int), k + g = x.Segments.length ∧ v6 = .int .i64 k ∧ v3 = .int .i64 l ∧ v4 = .int .i64 e ∧ v5 = .int .i64 m ∧ m ≤ 1048576 * k ∧ -1 ≤ l ∧ wr.cell? ⟨w.heap.size, 1, none⟩ = some (.int .i64 x.Next) ∧ wr.cell? ⟨w.heap.size, 3, none⟩ = some (.slice A3 x.Segments.length c3) ∧ Below w.heap.size w wr ∧ Hid (sS (x.Segments.drop k) l e m = T))
  case atStart => exact ⟨0, 0, -1, 0, by omega, rfl, rfl, rfl, rfl, by omega, by omega, z1, z3, hb, HT⟩
  case round =>
    clear z1 z3 hb HT
    obtain ⟨k, m, l, e, hk, rfl, rfl, rfl, rfl, hm, hl0, z1, z3, hb, HD⟩ := hrel
    have hgz : w.heap.size < wr.heap.size := World.block_lt_of_cell? wr _ z1
    by_cases hlt : k < x.Segments.length
    case neg =>
      have HE : Hid (some (l, e, m) = T) := Lib.hid (by have h := HD.out; rw [List.drop_eq_nil_of_le (by omega)] at h; simpa [sS] using h)
      go_wp2
      all_goals (go_ret; exact ⟨ret_bool (HR.out _ (by rw [← HE.out]; grind [logEnd])), hb⟩)
    obtain ⟨ad, s, A1, c1, rfl, hx, p0, p1, l1, g1⟩ := Segment.at (Row_below g3 hb) k hlt
    have HX := Lib.hid (dropS_cons hx)
    have hsm := HS.out s (List.mem_of_getElem? hx)
    have hsb := HW.out s (List.mem_of_getElem? hx)
    clear hx
    have hsl := hsm.1
    have HSS := Lib.hid hsm.2
    clear hsm
    have HD2 : Hid (sS (s :: x.Segments.drop (k + 1)) l e m = T) := Lib.hid (by rw [← HX.out]; exact HD.out)
    clear HD HX
    go_upto_region 10 with fail
    go_cut [68] (fun v wx => v = .bool !(decide (l < s.Base) && decide (0 ≤ s.Base) && (decide (s.Batches.length ≠ 0) || decide ((x.Segments.drop (k + 1)).length = 0))) ∧ wx.cell? ⟨w.heap.size, 1, none⟩ = some (.int .i64 x.Next) ∧ wx.cell? ⟨w.heap.size, 3, none⟩ = some (.slice (some ad) x.Segments.length c3) ∧ Below w.heap.size w wx ∧ wx.cell? ⟨wr.heap.size, 0, none⟩ = some (.int .i64 s.Base) ∧ wx.cell? ⟨wr.heap.size, 1, none⟩ = some (.slice A1 s.Batches.length c1) ∧ Row kBatch wx A1 s.Batches)
    case first =>
      go_wp2
      all_goals (go_meet; refine ⟨by simp only [Value.bool.injEq, List.length_drop]; grind, later (below_al _ _) z1, later (below_al _ _) z3, below_tr hb (below_al _ _), ?_, ?_, Row_below g1 (below_al _ _)⟩ <;> simp [*])
    obtain ⟨rfl, y1, y3, Hb, t0, t1, G1⟩ := hcut
    generalize hC : (decide (l < s.Base) && decide (0 ≤ s.Base) && (decide (s.Batches.length ≠ 0) || decide ((x.Segments.drop (k + 1)).length = 0))) = C
    have HC := Lib.hid hC
    clear hC
    cases C with
    | false =>
      have HF : Hid (none = T) := Lib.hid (by rw [← HD2.out, sS_cons, HC.out]; rfl)
      go_wp2
      go_ret
      exact ⟨ret_bool (HR.out _ (by rw [← HF.out]; rfl)), Hb⟩
    | true =>
      have HD3 : Hid ((sB s.Base s.Batches l e m).bind (fun q => sS (x.Segments.drop (k + 1)) (if q.1 < s.Base - 1 then s.Base - 1 else q.1) q.2.1 q.2.2) = T) := Lib.hid (by rw [← HD2.out, sS_cons, HC.out]; rfl)
      have hs0 : 0 ≤ s.Base := by have := HC.out; grind
      clear HD2 HC
      generalize hgs : wr.heap.size = gs at t0 t1 hgz ⊢
      clear hgs
      go_wp2
      go_loopg [3, 4, 5, 8] s.Batches.length (fun g v3 v4 v5 v8 wi => ∃ (j m' : Nat) (l' e' : Int), j + g = s.Batches.length ∧ v8 = .int .i64 j ∧ v3 = .int .i64 l' ∧ v4 = .int .i64 e' ∧ v5 = .int .i64 m' ∧ m' = m + j ∧ -1 ≤ l' ∧ wi.cell? ⟨w.heap.size, 1, none⟩ = some (.int .i64 x.Next) ∧ wi.cell? ⟨w.heap.size, 3, none⟩ = some (.slice (some ad) x.Segments.length c3) ∧ Below w.heap.size w wi ∧ wi.cell? ⟨gs, 0, none⟩ = some (.int .i64 s.Base) ∧ wi.cell? ⟨gs, 1, none⟩ = some (.slice A1 s.Batches.length c1) ∧ Row kBatch wi A1 s.Batches ∧ Hid ((sB s.Base (s.Batches.drop j) l' e' m').bind (fun q => sS (x.Segments.drop (k + 1)) (if q.1 < s.Base - 1 then s.Base - 1 else q.1) q.2.1 q.2.2) = T))
      case atStart => exact ⟨0, m, l, e, by omega, rfl, rfl, rfl, rfl, by omega, hl0, y1, y3, Hb, t0, t1, G1, HD3⟩
      case round =>
        clear y1 y3 Hb t0 t1 G1 HD3 p0 p1 g1 z1 z3 hb hgz hl0
        obtain ⟨j, m', l', e', hj, rfl, rfl, rfl, rfl, hm', hl0, z1, z3, hb, t0, t1, G1, HD⟩ := hrel
        have hgz : w.heap.size < wr.heap.size := World.block_lt_of_cell? wr _ z1
        have hgt : gs < wr.heap.size := World.block_lt_of_cell? wr _ t0
        have Hm' := Lib.hid hm'
        have hm2 : m' ≤ 1048576 * k + j := by omega
        clear hm'
        by_cases hlt2 : j < s.Batches.length
        case neg =>
          have HE : Hid (sS (x.Segments.drop (k + 1)) (if l' < s.Base - 1 then s.Base - 1 else l') e' m' = T) := Lib.hid (by have h := HD.out; rw [List.drop_eq_nil_of_le (by omega)] at h; simpa [sB] using h)
          by_cases hlb : l' < s.Base - 1
          · rw [if_pos hlb] at HE
            go_wp2
            go_roundg (x.Segments.length - k - 1)
            case rel => exact ⟨k + 1, m', s.Base - 1, e', by omega, by go_num, rfl, rfl, by go_num, by omega, by omega, z1, z3, hb, HE⟩
            case measure => omega
          · rw [if_neg hlb] at HE
            go_wp2
            go_roundg (x.Segments.length - k - 1)
            case rel => exact ⟨k + 1, m', l', e', by omega, by go_num, rfl, rfl, by go_num, by omega, by omega, z1, z3, hb, HE⟩
            case measure => omega
        obtain ⟨bd, b, A6, c6, rfl, hbx, r0, r1, r2, r3, r4, r5, r6, l6, g6⟩ := Batch.at G1 j hlt2
        have HX := Lib.hid (dropS_cons hbx)
        have HSb := Lib.hid (HSS.out b (List.mem_of_getElem? hbx))
        have hbl := (HSS.out b (List.mem_of_getElem? hbx)).1
        clear hbx
        have HD2 : Hid ((if batchOk b && decide (l' < b.Base) && decide (s.Base ≤ b.Base) && decide (e' ≤ b.Epoch) then sB s.Base (s.Batches.drop (j + 1)) (lastB b) b.Epoch (m' + 1) else none).bind (fun q => sS (x.Segments.drop (k + 1)) (if q.1 < s.Base - 1 then s.Base - 1 else q.1) q.2.1 q.2.2) = T) := Lib.hid (by rw [← sB_cons, ← HX.out]; exact HD.out)
        clear HD HX
        generalize hok : batchOk b = ok at HD2
        have Hok := Lib.hid hok
        clear hok
        by_cases hc : (ok && decide (l' < b.Base) && decide (s.Base ≤ b.Base) && decide (e' ≤ b.Epoch)) = true
        case neg =>
          have HF : Hid (none = T) := Lib.hid (by rw [← HD2.out, if_neg hc]; rfl)
          have hc' : ok = false ∨ b.Base ≤ l' ∨ b.Base < s.Base ∨ b.Epoch < e' := by cases ok <;> simp at hc ⊢; omega
          clear hc HD2
          rcases hc' with hc | hc | hc | hc
          all_goals
            (try subst hc)
            go_wp2_with (go_at_call 45; refine (specBatchOk_c _ b l6 (Row_below g6 (below_al _ _)) HSb.out).mono ?_; rintro e w' ⟨rfl, hb2⟩; rw [Hok.out]; have X := (Box.new wr _ _).later hb2; have q0 := X 0 _ rfl; have q1 := X 1 _ rfl; have t0' := later hb2 (later (below_al _ _) t0))
          all_goals (go_ret; exact ⟨ret_bool (HR.out _ (by rw [← HF.out]; rfl)), below_tr (below_tr hb (below_al _ _)) hb2⟩)
        have HD3 : Hid ((sB s.Base (s.Batches.drop (j + 1)) (lastB b) b.Epoch (m' + 1)).bind (fun q => sS (x.Segments.drop (k + 1)) (if q.1 < s.Base - 1 then s.Base - 1 else q.1) q.2.1 q.2.2) = T) := Lib.hid (by rw [← HD2.out, if_pos hc])
        clear HD2
        obtain ⟨⟨⟨rfl, hc1⟩, hc3⟩, hc2⟩ : ((ok = true ∧ l' < b.Base) ∧ s.Base ≤ b.Base) ∧ e' ≤ b.Epoch := by simpa using hc
        clear hc
        obtain ⟨hv0, hv1, hv2, hv3, hv4⟩ := lastB_ge Hok.out
        go_upto_region 18 with (go_at_call 45; refine (specBatchOk_c _ b l6 (Row_below g6 (below_al _ _)) HSb.out).mono ?_; rintro e w' ⟨rfl, hb2⟩; rw [Hok.out]; have X := (Box.new wr _ _).later hb2; have q0 := X 0 _ rfl; have q1 := X 1 _ rfl; have q2 := X 2 _ rfl; have q3 := X 3 _ rfl; have q4 := X 4 _ rfl; have q5 := X 5 _ rfl; have q6 := X 6 _ rfl; have t0' := later hb2 (later (below_al _ _) t0))
        have G6 := Row_below (Row_below g6 (below_al _ _)) hb2
        go_wp2_with (go_at_call 46; refine (specLastOffset_c _ b l6 G6 HSb.out).mono ?_; rintro e w3 ⟨rfl, hb3⟩; rw [if_pos Hok.out]; have q1' := later hb3 q1)
        go_roundg (gk - 1)
        case rel => exact ⟨j + 1, m' + 1, lastB b, b.Epoch, by omega, by go_num, rfl, rfl, by go_num, by have := Hm'.out; omega, by omega, later hb3 (later hb2 (later (below_al _ _) z1)), later hb3 (later hb2 (later (below_al _ _) z3)), below_tr (below_tr (below_tr hb (below_al _ _)) hb2) hb3, later hb3 t0', later hb3 (later hb2 (later (below_al _ _) t1)), Row_below (Row_below (Row_below G1 (below_al _ _)) hb2) hb3, HD3⟩
        case measure => omega
end Go.Proofs.Ytiefpllmnmmdlaa.H
