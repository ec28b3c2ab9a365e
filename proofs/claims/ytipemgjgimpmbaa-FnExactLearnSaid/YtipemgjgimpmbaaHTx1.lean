/-
The program's transactions: a map of what is open and a row of what was given up, both the call's own. Conditions: each contract's own premises.
-/
import Derived.Test.YtipemgjgimpmbaaHTxDef
import Derived.Test.YtipemgjgimpmbaaHOwn
import Derived.Maps.OwnSet
namespace Go.Proofs.Ytipemgjgimpmbaa.H
open Go.RowKit Go.Maps
set_option linter.unusedVariables false
set_option linter.unusedSimpArgs false
set_option maxRecDepth 100000
theorem info_gone : (Try.prog.info? 78).map (fun i => (i.zero, i.size, i.bytes)) = some (some (.agg #[.int .i64 0, .int .i64 0, .int .i64 0]), 3, 24) := by kernel_rfl
theorem law_int : Keyed Try.prog 3 := int_keyed Try.underlying3
theorem zero_int (w : World) : (zeroValue 3).run Try.prog w = .ok (.int .i64 0) w := by kernel_rfl
theorem app_gone {w : World} {B : Nat} {ops : Array Oper} {rest : List Oper} {o : Oper} {a : Act} {Q : Exit → Act → World → Prop} (hgd : o.guard = none) (s x : Operand) (t : TypeId)
    (ho : o.op = .call { callee := .builtin .append, args := #[s, x], argTypes := #[t, t] }) (ht : t = 26)
    {xs : List Gone} (y : Gone) {v : Value} (hs : a.eval s = v) (hO : OwnR kGone 78 B w xs v) (g : Nat) (c : Nat) (hx : a.eval x = .slice (some ⟨g, 0, none⟩) 1 c)
    (hc : Box w g #[.int .i64 y.Producer, .int .i64 y.First, .int .i64 y.Last]) (hBw : B ≤ w.heap.size) (hn : xs.length ≤ 1000000)
    (h : ∀ v' w', OwnR kGone 78 B w' (xs ++ [y]) v' → w.grownBy w' v.ownBlock → wpList Try.prog ops Q rest (a.put o.dst v') w') : wpList Try.prog ops Q (o :: rest) a w := by
  subst ht
  obtain ⟨i0, hi, hz0, hz1, hz2⟩ := info_parts info_gone
  obtain ⟨F, h1, h2, h3, hEx⟩ := hO
  refine app_OwnR (d := kGone) (B := B) (F := F) (Fx := []) hgd s x _ ho 78 i0 _ 24 Try.underlying26 hi hz0 hz1 hz2 rfl (by decide) hs h1 hEx ⟨g, 0, none⟩ c hx (Gone.mkT w y) (fun j u hj => ?_) (by simpa using h2) (by simpa using h3) hBw (by omega) (by omega) (fun v' w' hO' hgr => h v' w' hO' hgr)
  have hcj := hc j u (by simpa using hj)
  by_cases e0 : j = 0
  · subst e0; exact hcj
  · simpa [Addr.add, e0] using hcj
theorem ownsMap_move {H : Type} {w w' : World} {P : Program} {k : TypeId} {R : Value → Option (DataW H × List MemPlace)} {b n : Nat} {D : DataW H} (h : w.ownsMap P k R b n D) (hm : w'.heap[b]? = w.heap[b]?) : w'.ownsMap P k R b n D := by
  obtain ⟨es, clock, hb, r⟩ := h
  exact ⟨es, clock, hm.trans hb, r⟩
theorem ownsMap_lt {H : Type} {w : World} {P : Program} {k : TypeId} {R : Value → Option (DataW H × List MemPlace)} {b n : Nat} {D : DataW H} (h : w.ownsMap P k R b n D) : b < w.heap.size := by
  obtain ⟨es, clock, hb, r⟩ := h
  exact (Array.getElem?_eq_some_iff.1 hb).1
theorem ownsMap_below {H : Type} {w w' : World} {P : Program} {k : TypeId} {R : Value → Option (DataW H × List MemPlace)} {b n : Nat} {D : DataW H} (h : w.ownsMap P k R b n D) (hb : Below w.heap.size w w') : w'.ownsMap P k R b n D :=
  ownsMap_move h (hb.block b (ownsMap_lt h))
theorem Kp.refl (w : World) : Kp w w := fun _ _ h => h
theorem Kp.below {w w1 w2 : World} (h : Kp w w1) (hb : Below w1.heap.size w1 w2) : Kp w w2 := fun p u hp => later hb (h p u hp)
/-- A map has no cells: what a turn of it leaves has the cells there were. -/
theorem Kp.grown {w w1 w2 : World} {b : Nat} {H : Type} {P : Program} {k : TypeId} {R : Value → Option (DataW H × List MemPlace)} {n : Nat} {D : DataW H} (h : Kp w w1) (hm : w1.ownsMap P k R b n D) (hg : w1.grownBy w2 (some b)) : Kp w w2 := fun p u hp => by
  obtain ⟨es, clock, hb, _⟩ := hm
  have h1 := h p u hp
  exact hg.cell h1 (fun e => by
    injection e with e
    subst e
    simp [World.cell?, hb] at h1)
/-- The append to a row of the call's own. -/
theorem Kp.own {w w1 w2 : World} {v : Value} (h : Kp w w1) (hv : ∀ k, v.ownBlock = some k → w.heap.size ≤ k) (hg : w1.grownBy w2 v.ownBlock) : Kp w w2 := fun p u hp => by
  have h1 := h p u hp
  exact hg.cell h1 (fun e => by
    have h2 := World.block_lt_of_cell? w _ hp
    have := hv _ e.symm
    omega)
theorem ownsMap_own {H : Type} {w w' : World} {P : Program} {k : TypeId} {R : Value → Option (DataW H × List MemPlace)} {b n B : Nat} {D : DataW H} {v : Value} (h : w.ownsMap P k R b n D) (hg : w.grownBy w' v.ownBlock) (hv : ∀ k, v.ownBlock = some k → B ≤ k) (hB : b < B) : w'.ownsMap P k R b n D :=
  ownsMap_move h (hg.5 b (ownsMap_lt h) (fun e => by have := hv b e.symm; omega))
theorem first_of {H : Type} {D z : DataW H} {k : Lit} {a c : Int} (h1 : D.atKey k z = .lit (.int .i64 a)) (h2 : D.atKey k z = .lit (.int .i64 c)) : c = a := by
  rw [h1] at h2
  injection h2 with h2
  injection h2 with _ h2
  exact h2.symm
theorem ab_of {b : Batch} {r : Record} (h : b.Records[0]? = some r) (h1 : b.Records.length = 1) : isAb b = (r.Key.toList == [97, 98, 111, 114, 116]) := by
  obtain ⟨y, hy⟩ := List.length_eq_one_iff.1 h1
  unfold isAb
  rw [hy] at h ⊢
  simp at h
  subst h
  simp
theorem OwnR.blt {α : Type} {d : Ki α} {e B : Nat} {w : World} {xs : List α} {v : Value} (h : OwnR d e B w xs v) : ∀ k, v.ownBlock = some k → k < w.heap.size := by
  obtain ⟨F, h1, h2, h3⟩ := h
  obtain ⟨inner, Fs, ho, _⟩ := h1
  exact fun k hk => (ho.lt k hk).2
/-- What stands behind a turn of a map. -/
theorem turn_all {α : Type} {d : Ki α} {e B B0 bm : Nat} {w w2 w1 wd : World} {xs : List α} {v : Value} {H : Type} {P : Program} {k : TypeId} {R : Value → Option (DataW H × List MemPlace)} {n : Nat} {D : DataW H}
    (hm : w1.ownsMap P k R bm n D) (hg : w1.grownBy wd (some bm)) (hO : OwnR d e B w1 xs v) (hK : Kp w2 w1) (hb : Below B0 w w1) (h1 : bm < B) (h2 : B0 ≤ bm) (hsz : B ≤ w1.heap.size) : OwnR d e B wd xs v ∧ Kp w2 wd ∧ Below B0 w wd ∧ B ≤ wd.heap.size := by
  refine ⟨?_, hK.grown hm hg, hb.grown hg (by have := ownsMap_lt hm; omega) (fun k hk => by injection hk with hk; omega), Nat.le_trans hsz hg.size⟩
  have hbk := hO.blk
  obtain ⟨F, q1, q2, q3, q4⟩ := hO
  exact ⟨F, TP_frame (fun b hb' => hg.5 b (TP_lt q1 b hb') (fun e => by injection e with e; have := q3 b hb'; omega)) q1, q2, q3, q4.move (fun k hk => hg.5 k (q4.lt k hk) (fun e => by injection e with e; have := hbk k hk; omega))⟩
/-- The answer: a map and a row of the call's own. -/
def GivesTx (x : Log) (w : World) (en : Ending) (w' : World) : Prop :=
  ∃ (b : Nat) (D : DataW Unit) (v : Value), en = .returned (.tuple #[.map (some b), v]) ∧ w'.ownsMap Try.prog 3 (plainElem Try.prog 3) b 400 D ∧ Tells D (txF (allB x)).1 ∧ OwnR kGone 78 w.heap.size w' (txF (allB x)).2 v ∧ Below w.heap.size w w'
/-- What a round's batch is. -/
def fOk (b : Batch) : Prop := (-1 ≤ b.Producer ∧ b.Producer ≤ 1000000000) ∧ (0 ≤ b.Base ∧ b.Base ≤ 1000000000) ∧ (0 ≤ b.Flags ∧ b.Flags ≤ 7) ∧ (4 ≤ b.Flags → bit2 b.Flags = true ∧ b.Records.length = 1)  ∧ 1 ≤ b.Records.length
theorem fOk_of {b : Batch} (h : batchOk b = true) : fOk b := by
  unfold batchOk bA bA0 bM inB at h
  simp only [Bool.and_eq_true, Bool.or_eq_true, decide_eq_true_eq, Bool.not_eq_true', decide_eq_false_iff_not, beq_iff_eq] at h
  unfold fOk
  refine ⟨?_, ?_, ?_, ?_, ?_⟩
  · omega
  · omega
  · omega
  · intro h4
    rcases h.2 with h | h
    · omega
    · exact h.1
  · omega
set_option maxHeartbeats 4000000 in
theorem implTx_c (w : World) (x : Log) {A3 : Option Addr} {c3 : Nat} (l3 : x.Segments.length ≤ c3) (g3 : Row kSegment w A3 x.Segments) (hs : x.sm) (hok : logOk x = true) :
    Calls Try.prog 47 #[.agg #[.int .i64 x.Start, .int .i64 x.Next, .int .i64 x.Roll, .slice A3 x.Segments.length c3]] w (GivesTx x w) := by
  have hlen := hs.1
  have hu := Try.underlying78
  have hu2 := Try.underlying26
  have hu3 := Try.underlying52
  have hu4 := Try.underlying70
  have hmm := @run_makeMap Try.prog
  have HA := Lib.hid (logOk_all hok)
  clear hs hok
  have hllA := HA.out.1
  unfold GivesTx
  generalize hL : allB x = L at HA hllA ⊢
  have HL := Lib.hid hL
  clear hL
  have hll : L.length ≤ 400 := hllA
  clear hllA
  go_enter Try.func47, Try.ntmps47
  go_upto_region 4 with (go_at_call 80; refine (batches_c _ x l3 (Row_below (Row_below g3 (below_al _ _)) (below_al _ _)) hlen (by rw [HL.out]; omega)).mono ?_; rw [HL.out]; rintro e w2 ⟨A, c, rfl, hc, hr, hb2⟩)
  have hbs2 := hb2.size
  rw [size_al, size_al] at hbs2
  have hown0 : w2.ownsMap Try.prog 3 (plainElem (H := Unit) Try.prog 3) (w.heap.size + 1) 0 (.map []) := by
    have h := World.ownsMap_made (H := Unit) (w.alloc (.cells #[.int .i64 x.Start, .int .i64 x.Next, .int .i64 x.Roll, .slice A3 x.Segments.length c3] 30)) Try.prog 3 (plainElem Try.prog 3)
    rw [size_al] at h
    exact ownsMap_below h hb2
  have hb := below_tr (below_tr (below_al _ _) (below_al _ _)) hb2
  clear hb2
  go_loopg [5, 14] L.length (fun g v5 v14 wr => ∃ (k : Nat) (v : Value) (D : DataW Unit), k + g = L.length ∧ v14 = .int .i64 k ∧ v5 = v ∧ wr.ownsMap Try.prog 3 (plainElem Try.prog 3) (w.heap.size + 1) k D ∧ Tells D (txF (L.take k)).1 ∧ OwnR kGone 78 w2.heap.size wr (txF (L.take k)).2 v ∧ Kp w2 wr ∧ Below w.heap.size w wr ∧ w2.heap.size ≤ wr.heap.size)
  case atStart => exact ⟨0, _, _, by omega, rfl, rfl, hown0, Tells.nil, OwnR.nil, Kp.refl _, hb, Nat.le_refl _⟩
  case round =>
    clear hb hown0
    obtain ⟨k, v, D, hk, rfl, rfl, hM, hT, hO, hK, hb, hsz⟩ := hrel
    by_cases hlt : k < L.length
    case neg =>
      rw [List.take_of_length_le (by omega)] at hT hO
      go_wp2
      go_ret2
      exact ⟨_, D, _, rfl, hM.mono (by omega), hT, hO.mono (by omega), hb⟩
    have hrr := Row_kp hr hK
    obtain ⟨bd, b, A6, c6, rfl, hbx, r0, r1, r2, r3, r4, r5, r6, l6, g6⟩ := Batch.at hrr k hlt
    obtain ⟨⟨fp1, fp2⟩, ⟨fb1, fb2⟩, ⟨ff1, ff2⟩, fm, fr⟩ := fOk_of (HA.out.2 b (List.mem_of_getElem? hbx))
    have HX := Lib.hid (txF_step hbx)
    have hl2 := (txF_len L k).2
    clear hbx hrr
    have Fm := Lib.hid fm
    clear fm
    have hM1 := ownsMap_below hM (below_al wr (.cells #[.int .i64 b.Base, .int .i64 b.Epoch, .int .i64 b.Producer, .int .i64 b.Turn, .int .i64 b.Seq, .int .i64 b.Flags, .slice A6 b.Records.length c6] 52))
    have hO1 := hO.below (below_al wr (.cells #[.int .i64 b.Base, .int .i64 b.Epoch, .int .i64 b.Producer, .int .i64 b.Turn, .int .i64 b.Seq, .int .i64 b.Flags, .slice A6 b.Records.length c6] 52))
    have hb1 := below_tr hb (below_al wr (.cells #[.int .i64 b.Base, .int .i64 b.Epoch, .int .i64 b.Producer, .int .i64 b.Turn, .int .i64 b.Seq, .int .i64 b.Flags, .slice A6 b.Records.length c6] 52))
    have hK1 := hK.below (below_al wr (.cells #[.int .i64 b.Base, .int .i64 b.Epoch, .int .i64 b.Producer, .int .i64 b.Turn, .int .i64 b.Seq, .int .i64 b.Flags, .slice A6 b.Records.length c6] 52))
    have hsz1 : w2.heap.size ≤ (wr.alloc (.cells #[.int .i64 b.Base, .int .i64 b.Epoch, .int .i64 b.Producer, .int .i64 b.Turn, .int .i64 b.Seq, .int .i64 b.Flags, .slice A6 b.Records.length c6] 52)).heap.size := by rw [size_al]; omega
    have hMd0 : IsMap D := (hM1.tidy law_int).isMap
    have t0 := Box.new wr #[.int .i64 b.Base, .int .i64 b.Epoch, .int .i64 b.Producer, .int .i64 b.Turn, .int .i64 b.Seq, .int .i64 b.Flags, .slice A6 b.Records.length c6] 52
    have hkey : keyOf Try.prog 3 (.int .i64 b.Producer) = some (.int .i64 b.Producer) := keyOf_int_mk Try.underlying3 (WalkArith.wf_i64 (by omega))
    have hwfb : (Lit.int .i64 b.Base).wf = true := WalkArith.wf_i64 (by omega)
    have e2 : Go.bits .and .i64 b.Flags 2 = 2 * (b.Flags / 2 % 2) := and2 ff1 ff2
    have e4 : Go.bits .and .i64 b.Flags 4 = 4 * (b.Flags / 4) := and4 ff1 ff2
    have HT := Lib.hid hT
    have HO1 := Lib.hid hO1
    have Hvl := Lib.hid hO.blt
    clear hT hO hO1 hK hb hM
    cases hg : opGet (txF (L.take k)).1 b.Producer with
    | none =>
      have hhas : Maps.has D (.int .i64 b.Producer) = false := by rw [(HT.out _).1, hg]; rfl
      by_cases h4 : 4 ≤ b.Flags
      · have h5 : b.Flags / 4 = 1 := by omega
        rw [h5] at e4
        go_wp2_with (first | (at_lookup; refine wpList_lookup_own_ok_int _ rfl _ _ 73 rfl 3 3 .i64 law_int Try.underlying73 Try.underlying3 (zero_int _) (w.heap.size + 1) k D rfl hM1 _ _ rfl hkey ?_; intro cL hat hwc; rw [hhas]) | (at_delete; refine wpList_delete_own _ rfl _ _ 73 3 rfl 3 law_int Try.underlying73 _ (w.heap.size + 1) k D rfl hM1 _ _ rfl hkey ?_; intro wd hMd hturn) | go_in)
        obtain ⟨q1, q2, q3, q4⟩ := turn_all hM1 hturn.grown HO1.out hK1 hb1 (by omega) (by omega) hsz1
        have hD := HT.out.del b.Producer
        rw [opDel_none hg] at hD
        have HX2 := Lib.hid (show txF (L.take (k + 1)) = txF (L.take k) by rw [HX.out]; unfold txB; rw [hg]; simp only; rw [if_pos h4])
        go_roundg (gk - 1)
        case rel => exact ⟨k + 1, _, _, by omega, by go_num, rfl, hMd.mono (by omega), by rw [HX2.out]; exact hD, by rw [HX2.out]; exact q1, q2, q3, q4⟩
        case measure => omega
      · have h5 : b.Flags / 4 = 0 := by omega
        rw [h5] at e4
        by_cases h2 : b.Flags / 2 % 2 = 1
        · rw [h2] at e2
          go_wp2_with (first | (at_lookup; refine wpList_lookup_own_ok_int _ rfl _ _ 73 rfl 3 3 .i64 law_int Try.underlying73 Try.underlying3 (zero_int _) (w.heap.size + 1) k D rfl hM1 _ _ rfl hkey ?_; intro cL hat hwc; rw [hhas]) | (at_mapUpdate; refine wpList_mapUpdate_own _ rfl _ _ _ 73 rfl 3 3 law_int Try.underlying73 _ (w.heap.size + 1) k D rfl hM1 (by unfold maxLen; omega) _ _ _ rfl rfl hkey _ [] (plainElem_int Try.underlying3 hwfb) ?_; intro wd hMd hturn) | go_in)
          obtain ⟨q1, q2, q3, q4⟩ := turn_all hM1 hturn HO1.out hK1 hb1 (by omega) (by omega) hsz1
          have hD := HT.out.put hMd0 trivial hg b.Base 0
          have HX2 := Lib.hid (show txF (L.take (k + 1)) = ((txF (L.take k)).1 ++ [⟨b.Producer, b.Base, 0⟩], (txF (L.take k)).2) by rw [HX.out]; unfold txB; rw [hg]; simp only; rw [if_neg (show ¬ 4 ≤ b.Flags by omega), if_pos (by simp [bit2, h2])])
          go_roundg (gk - 1)
          case rel => exact ⟨k + 1, _, _, by omega, by go_num, rfl, hMd, by rw [HX2.out]; exact hD, by rw [HX2.out]; exact q1, q2, q3, q4⟩
          case measure => omega
        · have h3 : b.Flags / 2 % 2 = 0 := by omega
          rw [h3] at e2
          go_wp2_with (first | (at_lookup; refine wpList_lookup_own_ok_int _ rfl _ _ 73 rfl 3 3 .i64 law_int Try.underlying73 Try.underlying3 (zero_int _) (w.heap.size + 1) k D rfl hM1 _ _ rfl hkey ?_; intro cL hat hwc; rw [hhas]) | go_in)
          have HX2 := Lib.hid (show txF (L.take (k + 1)) = txF (L.take k) by rw [HX.out]; unfold txB; rw [hg]; simp only; rw [if_neg (show ¬ 4 ≤ b.Flags by omega), if_neg (by simp [bit2, h3])])
          go_roundg (gk - 1)
          case rel => exact ⟨k + 1, _, _, by omega, by go_num, rfl, hM1.mono (by omega), by rw [HX2.out]; exact HT.out, by rw [HX2.out]; exact HO1.out, hK1, hb1, hsz1⟩
          case measure => omega
    | some gg =>
      have hhas : Maps.has D (.int .i64 b.Producer) = true := by rw [(HT.out _).1, hg]; rfl
      have Hgf := Lib.hid ((HT.out _).2 gg hg)
      by_cases h4 : 4 ≤ b.Flags
      · have h5 : b.Flags / 4 = 1 := by omega
        rw [h5] at e4
        obtain ⟨ad, r, A5, c5, rfl, hrx, p0, p1, p2, p3, p4, p5, l5, g5⟩ := Record.at (Row_below g6 (below_al wr (.cells #[.int .i64 b.Base, .int .i64 b.Epoch, .int .i64 b.Producer, .int .i64 b.Turn, .int .i64 b.Seq, .int .i64 b.Flags, .slice A6 b.Records.length c6] 52))) 0 (by omega)
        have HAb := Lib.hid (ab_of hrx (Fm.out h4).2)
        clear hrx
        simp [Addr.add] at p0 p1 p2 p3 p4 p5
        have hv := HO1.out.blk
        have Hv := Lib.hid hv
        clear hv
        go_wp2_with (first
          | (at_lookup; refine wpList_lookup_own_ok_int _ rfl _ _ 73 rfl 3 3 .i64 law_int Try.underlying73 Try.underlying3 (zero_int _) (w.heap.size + 1) k D rfl hM1 _ _ rfl hkey ?_; intro cL hat hwc; rw [hhas]; have Hcl := Lib.hid (first_of Hgf.out hat))
          | (at_builtin; refine app_gone rfl _ _ _ rfl rfl ⟨b.Producer, cL, b.Base⟩ rfl (HO1.out.below (below_al _ _)) _ _ rfl (Box.new2 wr _ _ _) (by rw [size_al]; omega) (by omega) ?_; intro v' wa hOa hgra; have hMa := ownsMap_own (ownsMap_below hM1 (below_al _ _)) hgra Hv.out (by omega); have hKa := Lib.hid ((hK1.below (below_al _ _)).own Hv.out hgra); have hba := Lib.hid ((below_tr hb1 (below_al _ _)).grown hgra (by rw [size_al]; have := hb1.size; omega) (fun k hk => by have := Hv.out k hk; omega)); have hsza : Hid (w2.heap.size ≤ wa.heap.size) := Lib.hid (by have := hgra.size; rw [size_al] at this; omega); have HOa := Lib.hid hOa; have ta2 := hgra.cell (later (below_al _ _) (t0 2 _ rfl)) (fun e => absurd (Hvl.out _ e.symm) (Nat.lt_irrefl _)); clear hOa hgra)
          | (at_delete; refine wpList_delete_own _ rfl _ _ 73 3 rfl 3 law_int Try.underlying73 _ (w.heap.size + 1) k D rfl hMa _ _ rfl hkey ?_; intro wd hMd hturn)
          | (at_delete; refine wpList_delete_own _ rfl _ _ 73 3 rfl 3 law_int Try.underlying73 _ (w.heap.size + 1) k D rfl hM1 _ _ rfl hkey ?_; intro wd hMd hturn)
          | go_in)
        · have hab : isAb b = true := by rw [HAb.out]; grind
          obtain ⟨q1, q2, q3, q4⟩ := turn_all hMa hturn.grown HOa.out hKa.out hba.out (by omega) (by omega) hsza.out
          have hD := HT.out.del b.Producer
          have HX2 := Lib.hid (show txF (L.take (k + 1)) = (opDel (txF (L.take k)).1 b.Producer, (txF (L.take k)).2 ++ [⟨b.Producer, cL, b.Base⟩]) by rw [HX.out]; unfold txB; rw [hg]; simp only; rw [if_pos h4, hab, Hcl.out]; rfl)
          go_roundg (gk - 1)
          case rel => exact ⟨k + 1, _, _, by omega, by go_num, rfl, hMd.mono (by omega), by rw [HX2.out]; exact hD, by rw [HX2.out]; exact q1, q2, q3, q4⟩
          case measure => omega
        · have hab : isAb b = false := by rw [HAb.out]; grind
          obtain ⟨q1, q2, q3, q4⟩ := turn_all hM1 hturn.grown HO1.out hK1 hb1 (by omega) (by omega) hsz1
          have hD := HT.out.del b.Producer
          have HX2 := Lib.hid (show txF (L.take (k + 1)) = (opDel (txF (L.take k)).1 b.Producer, (txF (L.take k)).2) by rw [HX.out]; unfold txB; rw [hg]; simp only; rw [if_pos h4, hab]; rfl)
          go_roundg (gk - 1)
          case rel => exact ⟨k + 1, _, _, by omega, by go_num, rfl, hMd.mono (by omega), by rw [HX2.out]; exact hD, by rw [HX2.out]; exact q1, q2, q3, q4⟩
          case measure => omega
      · have h5 : b.Flags / 4 = 0 := by omega
        rw [h5] at e4
        have HX2 := Lib.hid (show txF (L.take (k + 1)) = txF (L.take k) by rw [HX.out]; unfold txB; rw [hg]; simp only; rw [if_neg (show ¬ 4 ≤ b.Flags by omega)])
        rcases (show b.Flags / 2 % 2 = 0 ∨ b.Flags / 2 % 2 = 1 by omega) with h2 | h2
        · rw [h2] at e2
          go_wp2_with (first | (at_lookup; refine wpList_lookup_own_ok_int _ rfl _ _ 73 rfl 3 3 .i64 law_int Try.underlying73 Try.underlying3 (zero_int _) (w.heap.size + 1) k D rfl hM1 _ _ rfl hkey ?_; intro cL hat hwc; rw [hhas]) | go_in)
          go_roundg (gk - 1)
          case rel => exact ⟨k + 1, _, _, by omega, by go_num, rfl, hM1.mono (by omega), by rw [HX2.out]; exact HT.out, by rw [HX2.out]; exact HO1.out, hK1, hb1, hsz1⟩
          case measure => omega
        · rw [h2] at e2
          go_wp2_with (first | (at_lookup; refine wpList_lookup_own_ok_int _ rfl _ _ 73 rfl 3 3 .i64 law_int Try.underlying73 Try.underlying3 (zero_int _) (w.heap.size + 1) k D rfl hM1 _ _ rfl hkey ?_; intro cL hat hwc; rw [hhas]) | go_in)
          go_roundg (gk - 1)
          case rel => exact ⟨k + 1, _, _, by omega, by go_num, rfl, hM1.mono (by omega), by rw [HX2.out]; exact HT.out, by rw [HX2.out]; exact HO1.out, hK1, hb1, hsz1⟩
          case measure => omega
end Go.Proofs.Ytipemgjgimpmbaa.H
