/-
NewQuorum, both sides: a quorum of the call's own. Conditions: each contract's own premises.
-/
import Derived.Test.YtpnjgmgnhkhapaaHOwn
import Derived.Test.YtpnjgmgnhkhapaaHSmall
import Derived.Test.YtpnjgmgnhkhapaaHTo
import Derived.Test.YtpnjgmgnhkhapaaHMkDef
namespace Go.Proofs.Ytpnjgmgnhkhapaa.H
open Go.RowKit
set_option linter.unusedVariables false
set_option linter.unusedSimpArgs false
set_option maxRecDepth 100000
def nVoter : Voter := ⟨0, -1, 0, [], [], [], [], 0⟩
def newQuorum (n : Int) : Quorum := ⟨if inB n 1 5 then List.replicate n.toNat nVoter else [], []⟩
theorem info_nv : (Try.prog.info? 70).map (fun i => (i.zero, i.size, i.bytes)) = some (some (.agg #[.int .i64 0, .int .i64 0, .int .i64 0, .slice none 0 0, .slice none 0 0, .slice none 0 0, .slice none 0 0, .int .i64 0]), 8, 128) := by kernel_rfl
theorem nVoter_T (w : World) : kVoter.T w [] nVoter [.int .i64 0, .int .i64 (-1), .int .i64 0, .slice none 0 0, .slice none 0 0, .slice none 0 0, .slice none 0 0, .int .i64 0] := by
  have h := Voter.mkT w nVoter (TS_nil (d := Ki.int .i64) (e := 3)) (TS_nil (d := kCommand) (e := 76)) (TS_nil (d := Ki.int .i64) (e := 3)) (TS_nil (d := Ki.int .i64) (e := 3))
  simpa [nVoter] using h
theorem app_voter {w : World} {B : Nat} {ops : Array Oper} {rest : List Oper} {o : Oper} {a : Act} {Q : Exit → Act → World → Prop} (hgd : o.guard = none) (s x : Operand) (t : TypeId)
    (ho : o.op = .call { callee := .builtin .append, args := #[s, x], argTypes := #[t, t] }) (ht : t = 29)
    {k : Nat} {v : Value} (hs : a.eval s = v) (hO : OwnR kVoter 70 B w (List.replicate k nVoter) v) (g : Nat) (c : Nat) (hx : a.eval x = .slice (some ⟨g, 0, none⟩) 1 c)
    (hc : Box w g #[.int .i64 0, .int .i64 (-1), .int .i64 0, .slice none 0 0, .slice none 0 0, .slice none 0 0, .slice none 0 0, .int .i64 0]) (hBw : B ≤ w.heap.size)
    (hn : k ≤ 5)
    (h : ∀ A c w', OwnR kVoter 70 B w' (List.replicate (k + 1) nVoter) (.slice A (k + 1) c) → w.grownBy w' v.ownBlock → wpList Try.prog ops Q rest (a.put o.dst (.slice A (k + 1) c)) w') : wpList Try.prog ops Q (o :: rest) a w := by
  subst ht
  obtain ⟨i0, hi, hz0, hz1, hz2⟩ := info_parts info_nv
  have hv := hO.blk
  obtain ⟨F, h1, h2, h3⟩ := hO
  refine app_OwnR (d := kVoter) (B := B) (F := F) (Fx := []) hgd s x _ ho 70 i0 _ 128 Try.underlying29 hi hz0 hz1 hz2 rfl (by decide) hs h1 ⟨g, 0, none⟩ c hx (nVoter_T w) (fun j u hj => ?_) (by simpa using h2) (by simpa using h3) hBw (by simp; omega) (by omega) (fun v' w' hO' hgr => ?_)
  · have hcj := hc j u (by simpa using hj)
    by_cases e0 : j = 0
    · subst e0; exact hcj
    · simpa [Addr.add, e0] using hcj
  · rw [← List.replicate_succ'] at hO'
    obtain ⟨A, c, rfl, _⟩ := hO'.slice
    simp only [List.length_replicate] at hO'
    simpa using h A c w' hO' hgr
/-- The answer: a quorum of the call's own. -/
def MadeQ (x : Quorum) (w : World) (en : Ending) (w' : World) : Prop := ∃ v F, en = .returned (.agg #[v, .slice none 0 0]) ∧ TS kVoter 70 w' F x.Voters v ∧ Fresh w F ∧ Below w.heap.size w w'
set_option maxHeartbeats 4000000 in
theorem implNewQuorum_c (w : World) (n : Int) : Calls Try.prog 17 #[.int .i64 n] w (MadeQ (newQuorum n) w) := by
  have hu := Try.underlying70
  have hu2 := Try.underlying29
  have hu3 := Try.underlying32
  generalize h1 : inB n 1 5 = b1
  have H1 := Lib.hid h1
  cases b1 with
  | false =>
    have HQ : Hid ((newQuorum n).Voters = []) := Lib.hid (by simp [newQuorum, h1])
    clear h1
    go_enter Try.func17, Try.ntmps17
    go_wp2_with (go_at_call 37; refine (within_c _ _ _ _).mono ?_; rintro e w' ⟨rfl, rfl⟩; rw [H1.out])
    refine bodyPost_ret (v := .agg #[.slice none 0 0, .slice none 0 0]) (by simp [results, Try.results17, go_sem]) rfl ⟨_, [], rfl, by rw [HQ.out]; exact TS_nil, Fresh.nil _, ?_⟩
    repeat (first | with_reducible exact Below.refl _ _ | with_reducible assumption | ((with_reducible refine Below.setCell ?_ ?_ _); rotate_left; (simp <;> omega)) | ((with_reducible refine Below.alloc ?_ ?_ _); rotate_left; (simp <;> omega)))
  | true =>
    obtain ⟨m, rfl, hm0, hm1⟩ : ∃ m : Nat, n = m ∧ 1 ≤ m ∧ m ≤ 5 := by
      simp only [inB, decide_eq_true_eq] at h1
      exact ⟨n.toNat, by omega, by omega, by omega⟩
    have HQ : Hid ((newQuorum m).Voters = List.replicate m nVoter) := Lib.hid (by simp [newQuorum, h1])
    clear h1
    go_enter Try.func17, Try.ntmps17
    go_upto_region 4 with (go_at_call 37; refine (within_c _ _ _ _).mono ?_; rintro e w' ⟨rfl, rfl⟩; rw [H1.out])
    go_wp2
    go_loopg [9] m (fun g v9 wr => ∃ (k : Nat) (A : Option Addr) (c : Nat), k + g = m ∧ v9 = .int .i64 k ∧ Hid (Blk wr w.heap.size #[.slice none 0 0, .slice none 0 0] 32) ∧ Hid (Blk wr (w.heap.size + 1) #[.slice A k c, .slice none 0 0] 32) ∧ Below w.heap.size w wr ∧ Hid (OwnR kVoter 70 (w.heap.size + 2) wr (List.replicate k nVoter) (.slice A k c)))
    case atStart =>
      refine ⟨0, none, 0, by omega, rfl, Lib.hid ((Blk.new w _ _).below (below_al _ _)), Lib.hid ?_, below_tr (below_al _ _) (below_al _ _), Lib.hid OwnR.nil⟩
      have h := Blk.new (w.alloc (.cells #[.slice none 0 0, .slice none 0 0] 32)) #[.slice none 0 0, .slice none 0 0] 32
      rw [size_al] at h
      exact h
    case round =>
      obtain ⟨k, A, c, hk, rfl, HB1, HB2, hb, HO⟩ := hrel
      have t1 := HB2.out.cell 0 (.slice A k c) rfl
      have t2 := HB2.out.cell 1 (.slice none 0 0) rfl
      have f1 := HB2.out.frz 0
      have hg2 := HB2.out.lt
      have s1 := HB1.out.cell 0 (.slice none 0 0) rfl
      have s2 := HB1.out.cell 1 (.slice none 0 0) rfl
      have f2 := HB1.out.frz 0
      have f3 := HB1.out.frz 1
      have hg1 := HB1.out.lt
      by_cases hlt : k < m
      case neg =>
        obtain rfl : k = m := by omega
        obtain ⟨F, hT, hF⟩ := (((HO.out.setc w.heap.size 0 (.slice A k c) (by omega)).setc w.heap.size 1 (.slice none 0 0) (by omega)).mono (B' := w.heap.size) (by omega)).fresh
        go_wp2
        refine bodyPost_ret (v := .agg #[.slice A k c, .slice none 0 0]) (by simp [results, Try.results17, go_sem, s1, s2]) rfl ⟨_, F, rfl, by rw [HQ.out]; exact hT, hF, ?_⟩
        repeat (first | with_reducible exact Below.refl _ _ | with_reducible assumption | ((with_reducible refine Below.setCell ?_ ?_ _); rotate_left; (simp <;> omega)) | ((with_reducible refine Below.alloc ?_ ?_ _); rotate_left; (simp <;> omega)))
      have hO2 := HO.out.below (below_al wr (.cells #[.int .i64 0, .int .i64 (-1), .int .i64 0, .slice none 0 0, .slice none 0 0, .slice none 0 0, .slice none 0 0, .int .i64 0] 70))
      have HOO := Lib.hid hO2
      have hob := Lib.hid hO2.blk
      clear hO2
      have HX := Lib.hid (Box.new wr #[.int .i64 0, .int .i64 (-1), .int .i64 0, .slice none 0 0, .slice none 0 0, .slice none 0 0, .slice none 0 0, .int .i64 0] 70)
      have HBa := Lib.hid (HB1.out.below (below_al wr (.cells #[.int .i64 0, .int .i64 (-1), .int .i64 0, .slice none 0 0, .slice none 0 0, .slice none 0 0, .slice none 0 0, .int .i64 0] 70)))
      have HBb := Lib.hid (HB2.out.below (below_al wr (.cells #[.int .i64 0, .int .i64 (-1), .int .i64 0, .slice none 0 0, .slice none 0 0, .slice none 0 0, .slice none 0 0, .int .i64 0] 70)))
      have hbn := below_tr hb (below_al wr (.cells #[.int .i64 0, .int .i64 (-1), .int .i64 0, .slice none 0 0, .slice none 0 0, .slice none 0 0, .slice none 0 0, .int .i64 0] 70))
      go_wp2_with (at_builtin; refine app_voter rfl _ _ _ rfl rfl rfl HOO.out _ _ rfl HX.out (by simp; omega) (by omega) ?_; intro A' c' w' hO3 hgr; have HB1' := Lib.hid (HBa.out.grown hgr (fun h => by have := hob.out _ h; omega)); have HB2' := Lib.hid (HBb.out.grown hgr (fun h => by have := hob.out _ h; omega)); have hbw := hbn.grown hgr (by simp; omega) (fun q hq => by have := hob.out q hq; omega); have HGR := Lib.hid hgr; clear hgr; have t1' := HB2'.out.cell 0 (.slice A k c) rfl; have f1' := HB2'.out.frz 0; have g1' := HB2'.out.lt)
      go_roundg (gk - 1)
      case rel => exact ⟨k + 1, A', c', by omega, by go_num, Lib.hid (HB1'.out.far _ _ _ (by omega)), Lib.hid (by simpa using HB2'.out.set 0 (.slice A' (k + 1) c')), hbw.setCell (p := ⟨w.heap.size + 1, 0, none⟩) (by simp) _, Lib.hid (hO3.setc _ _ _ (by omega))⟩
      case measure => omega
set_option maxHeartbeats 4000000 in
theorem specNewQuorum_c (w : World) (n : Int) : Calls Try.prog 16 #[.int .i64 n] w (MadeQ (newQuorum n) w) := by
  have hu := Try.underlying70
  have hu2 := Try.underlying29
  have hu3 := Try.underlying32
  generalize h1 : inB n 1 5 = b1
  have H1 := Lib.hid h1
  cases b1 with
  | false =>
    have HQ : Hid ((newQuorum n).Voters = []) := Lib.hid (by simp [newQuorum, h1])
    clear h1
    go_enter Try.func16, Try.ntmps16
    go_wp2_with (go_at_call 32; refine (l1In_c _ _ _ _).mono ?_; rintro e w' ⟨rfl, rfl⟩; rw [H1.out])
    refine bodyPost_ret (v := .agg #[.slice none 0 0, .slice none 0 0]) (by simp [results, Try.results16, go_sem]) rfl ⟨_, [], rfl, by rw [HQ.out]; exact TS_nil, Fresh.nil _, ?_⟩
    repeat (first | with_reducible exact Below.refl _ _ | with_reducible assumption | ((with_reducible refine Below.setCell ?_ ?_ _); rotate_left; (simp <;> omega)) | ((with_reducible refine Below.alloc ?_ ?_ _); rotate_left; (simp <;> omega)))
  | true =>
    obtain ⟨m, rfl, hm0, hm1⟩ : ∃ m : Nat, n = m ∧ 1 ≤ m ∧ m ≤ 5 := by
      simp only [inB, decide_eq_true_eq] at h1
      exact ⟨n.toNat, by omega, by omega, by omega⟩
    have HQ : Hid ((newQuorum m).Voters = List.replicate m nVoter) := Lib.hid (by simp [newQuorum, h1])
    clear h1
    go_enter Try.func16, Try.ntmps16
    go_upto_region 4 with (go_at_call 32; refine (l1In_c _ _ _ _).mono ?_; rintro e w' ⟨rfl, rfl⟩; rw [H1.out])
    go_wp2
    go_loopg [4] m (fun g v4 wr => ∃ (k : Nat) (A : Option Addr) (c : Nat), k + g = m ∧ v4 = .int .i64 k ∧ Hid (Blk wr w.heap.size #[.slice none 0 0, .slice none 0 0] 32) ∧ Hid (Blk wr (w.heap.size + 1) #[.slice A k c, .slice none 0 0] 32) ∧ Below w.heap.size w wr ∧ Hid (OwnR kVoter 70 (w.heap.size + 2) wr (List.replicate k nVoter) (.slice A k c)))
    case atStart =>
      refine ⟨0, none, 0, by omega, rfl, Lib.hid ((Blk.new w _ _).below (below_al _ _)), Lib.hid ?_, below_tr (below_al _ _) (below_al _ _), Lib.hid OwnR.nil⟩
      have h := Blk.new (w.alloc (.cells #[.slice none 0 0, .slice none 0 0] 32)) #[.slice none 0 0, .slice none 0 0] 32
      rw [size_al] at h
      exact h
    case round =>
      obtain ⟨k, A, c, hk, rfl, HB1, HB2, hb, HO⟩ := hrel
      have t1 := HB2.out.cell 0 (.slice A k c) rfl
      have t2 := HB2.out.cell 1 (.slice none 0 0) rfl
      have f1 := HB2.out.frz 0
      have hg2 := HB2.out.lt
      have s1 := HB1.out.cell 0 (.slice none 0 0) rfl
      have s2 := HB1.out.cell 1 (.slice none 0 0) rfl
      have f2 := HB1.out.frz 0
      have f3 := HB1.out.frz 1
      have hg1 := HB1.out.lt
      by_cases hlt : k < m
      case neg =>
        obtain rfl : k = m := by omega
        obtain ⟨F, hT, hF⟩ := (((HO.out.setc w.heap.size 0 (.slice A k c) (by omega)).setc w.heap.size 1 (.slice none 0 0) (by omega)).mono (B' := w.heap.size) (by omega)).fresh
        go_wp2
        refine bodyPost_ret (v := .agg #[.slice A k c, .slice none 0 0]) (by simp [results, Try.results16, go_sem, s1, s2]) rfl ⟨_, F, rfl, by rw [HQ.out]; exact hT, hF, ?_⟩
        repeat (first | with_reducible exact Below.refl _ _ | with_reducible assumption | ((with_reducible refine Below.setCell ?_ ?_ _); rotate_left; (simp <;> omega)) | ((with_reducible refine Below.alloc ?_ ?_ _); rotate_left; (simp <;> omega)))
      have hO2 := HO.out.below (below_al wr (.cells #[.int .i64 0, .int .i64 (-1), .int .i64 0, .slice none 0 0, .slice none 0 0, .slice none 0 0, .slice none 0 0, .int .i64 0] 70))
      have HOO := Lib.hid hO2
      have hob := Lib.hid hO2.blk
      clear hO2
      have HX := Lib.hid (Box.new wr #[.int .i64 0, .int .i64 (-1), .int .i64 0, .slice none 0 0, .slice none 0 0, .slice none 0 0, .slice none 0 0, .int .i64 0] 70)
      have HBa := Lib.hid (HB1.out.below (below_al wr (.cells #[.int .i64 0, .int .i64 (-1), .int .i64 0, .slice none 0 0, .slice none 0 0, .slice none 0 0, .slice none 0 0, .int .i64 0] 70)))
      have HBb := Lib.hid (HB2.out.below (below_al wr (.cells #[.int .i64 0, .int .i64 (-1), .int .i64 0, .slice none 0 0, .slice none 0 0, .slice none 0 0, .slice none 0 0, .int .i64 0] 70)))
      have hbn := below_tr hb (below_al wr (.cells #[.int .i64 0, .int .i64 (-1), .int .i64 0, .slice none 0 0, .slice none 0 0, .slice none 0 0, .slice none 0 0, .int .i64 0] 70))
      go_wp2_with (at_builtin; refine app_voter rfl _ _ _ rfl rfl rfl HOO.out _ _ rfl HX.out (by simp; omega) (by omega) ?_; intro A' c' w' hO3 hgr; have HB1' := Lib.hid (HBa.out.grown hgr (fun h => by have := hob.out _ h; omega)); have HB2' := Lib.hid (HBb.out.grown hgr (fun h => by have := hob.out _ h; omega)); have hbw := hbn.grown hgr (by simp; omega) (fun q hq => by have := hob.out q hq; omega); have HGR := Lib.hid hgr; clear hgr; have t1' := HB2'.out.cell 0 (.slice A k c) rfl; have f1' := HB2'.out.frz 0; have g1' := HB2'.out.lt)
      go_roundg (gk - 1)
      case rel => exact ⟨k + 1, A', c', by omega, by go_num, Lib.hid (HB1'.out.far _ _ _ (by omega)), Lib.hid (by simpa using HB2'.out.set 0 (.slice A' (k + 1) c')), hbw.setCell (p := ⟨w.heap.size + 1, 0, none⟩) (by simp) _, Lib.hid (hO3.setc _ _ _ (by omega))⟩
      case measure => omega
theorem MadeQ.made {n : Int} {w w' : World} {en : Ending} (h : MadeQ (newQuorum n) w en w') : (newQuorum n).Made w en w' := by
  obtain ⟨v, F, rfl, hT, hF, hb⟩ := h
  refine ⟨v, .slice none 0 0, F, rfl, ?_, hF, hb⟩
  have h := Quorum.mkT w' (newQuorum n) hT (TS_nil (d := kMessage) (e := 74))
  simpa using h
theorem implNewQuorum_m (w : World) (n : Int) : Calls Try.prog 17 #[.int .i64 n] w ((newQuorum n).Made w) := (implNewQuorum_c w n).mono fun _ _ h => h.made
theorem specNewQuorum_m (w : World) (n : Int) : Calls Try.prog 16 #[.int .i64 n] w ((newQuorum n).Made w) := (specNewQuorum_c w n).mono fun _ _ h => h.made
theorem newQuorum_sm (n : Int) : (newQuorum n).sm := by
  unfold newQuorum Quorum.sm
  refine ⟨?_, by simp⟩
  split
  · rename_i h
    simp only [inB, decide_eq_true_eq] at h
    refine ⟨by simp; omega, fun y hy => ?_⟩
    obtain rfl := List.eq_of_mem_replicate hy
    simp [nVoter, Voter.sm]
  · simp
theorem newQuorum_cnt (n : Int) : (newQuorum n).cntV ≤ 1000000 := by
  unfold newQuorum Quorum.cntV
  split
  · rename_i h
    simp only [inB, decide_eq_true_eq] at h
    simp [sumF, Voter.cnt, nVoter]
    omega
  · simp [sumF]
end Go.Proofs.Ytpnjgmgnhkhapaa.H
