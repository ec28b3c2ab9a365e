/-
NewStore, both sides: a store of the call's own. Conditions: each contract's own premises.
-/
import Derived.Test.YtenldgbabcjjkaaHOwn
import Derived.Test.YtenldgbabcjjkaaHNLog
import Derived.Test.YtenldgbabcjjkaaHTo
import Derived.Test.YtenldgbabcjjkaaHMkDef
import Derived.Deep.RegionLaw
namespace Go.Proofs.Ytenldgbabcjjkaa.H
open Go.RowKit
set_option linter.unusedVariables false
set_option linter.unusedSimpArgs false
set_option maxRecDepth 100000
def nLog (r : Int) : Log := ⟨0, 0, r, []⟩
def newStore (n r : Int) : Store := ⟨if inB n 1 12 && inB r 1 20000 then List.replicate n.toNat (nLog r) else [], [], 0⟩
theorem info_nl : (Try.prog.info? 59).map (fun i => (i.zero, i.size, i.bytes)) = some (some (.agg #[.int .i64 0, .int .i64 0, .int .i64 0, .slice none 0 0]), 4, 48) := by kernel_rfl
theorem nLog_T (w : World) (r : Int) : kLog.T w [] (nLog r) [.int .i64 0, .int .i64 0, .int .i64 r, .slice none 0 0] := by
  have h := Log.mkT w (nLog r) (TS_nil (d := kSegment) (e := 143))
  simpa [nLog] using h
theorem step_log {w : World} {B : Nat} {ops : Array Oper} {o : Oper} {a : Act} {K : Act → World → Prop} {Q : Exit → Act → World → Prop} {E : Prop} (hgd : o.guard = none) (s x : Operand) (t : TypeId)
    (ho : o.op = .call { callee := .builtin .append, args := #[s, x], argTypes := #[t, t] }) (ht : t = 44)
    {k : Nat} {r : Int} {v : Value} (hs : a.eval s = v) (hO : OwnR kLog 59 B w (List.replicate k (nLog r)) v) (g : Nat) (c : Nat) (hx : a.eval x = .slice (some ⟨g, 0, none⟩) 1 c)
    (hc : Box w g #[.int .i64 0, .int .i64 0, .int .i64 r, .slice none 0 0]) (hBw : B ≤ w.heap.size)
    (hn : k ≤ 12)
    (h : ∀ A c w', OwnR kLog 59 B w' (List.replicate (k + 1) (nLog r)) (.slice A (k + 1) c) → w.grownBy w' v.ownBlock → K (a.put o.dst (.slice A (k + 1) c)) w') :
    if Region.wanted o (yielded ops a.tmps) = true then Oper.wp Try.prog o a w K Q else E := by
  subst ht
  obtain ⟨i0, hi, hz0, hz1, hz2⟩ := info_parts info_nl
  obtain ⟨F, h1, h2, h3⟩ := hO
  refine step_OwnR (d := kLog) (B := B) (F := F) (Fx := []) hgd s x _ ho 59 i0 _ 48 Try.underlying44 hi hz0 hz1 hz2 rfl (by decide) hs h1 ⟨g, 0, none⟩ c hx (nLog_T w r) (fun j u hj => ?_) (by simpa using h2) (by simpa using h3) hBw (by simp; omega) (by omega) (fun g' cap w' hO' hgr => ?_)
  · have hcj := hc j u (by simpa using hj)
    by_cases e0 : j = 0
    · subst e0; exact hcj
    · simpa [Addr.add, e0] using hcj
  · rw [← List.replicate_succ'] at hO'
    simp only [List.length_replicate] at hO' ⊢
    exact h _ cap w' hO' hgr
theorem nLog_eq {r : Int} (h : inB r 1 20000 = true) : newLog 0 r = nLog r := by unfold newLog nLog; rw [h]; simp [inB]
theorem implNLog_c (w : World) (r : Int) (h : inB r 1 20000 = true) : Calls Try.prog 53 #[.int .i64 0, .int .i64 r] w fun e w' => e = .returned (.agg #[.int .i64 0, .int .i64 0, .int .i64 r, .slice none 0 0]) ∧ Below w.heap.size w w' := by
  have h1 := implNewLog_c w 0 r
  rw [nLog_eq h] at h1
  exact h1
theorem specNLog_c (w : World) (r : Int) (h : inB r 1 20000 = true) : Calls Try.prog 51 #[.int .i64 0, .int .i64 r] w fun e w' => e = .returned (.agg #[.int .i64 0, .int .i64 0, .int .i64 r, .slice none 0 0]) ∧ Below w.heap.size w w' := by
  have h1 := specNewLog_c w 0 r
  rw [nLog_eq h] at h1
  exact h1
/-- The answer: a store of the call's own. -/
def MadeSt (x : Store) (w : World) (en : Ending) (w' : World) : Prop := ∃ v F, en = .returned (.agg #[v, .slice none 0 0, .int .i64 0]) ∧ TS kLog 59 w' F x.Logs v ∧ Fresh w F ∧ Below w.heap.size w w'
set_option maxHeartbeats 4000000 in
theorem implNewStore_c (w : World) (n r : Int) : Calls Try.prog 25 #[.int .i64 n, .int .i64 r] w (MadeSt (newStore n r) w) := by
  have hu := Try.underlying59
  have hu2 := Try.underlying44
  have hu3 := Try.underlying47
  generalize h1 : inB n 1 12 = b1
  generalize h2 : inB r 1 20000 = b2
  have H1 := Lib.hid h1
  have H2 := Lib.hid h2
  by_cases hb12 : (b1 && b2) = true
  case neg =>
    have HQ : Hid ((newStore n r).Logs = []) := Lib.hid (by simp only [newStore, h1, h2]; rw [if_neg hb12])
    have hb : b1 = false ∨ b2 = false := by cases b1 <;> cases b2 <;> simp_all
    clear h1 h2 hb12
    rcases hb with rfl | rfl
    · go_enter Try.func25, Try.ntmps25
      go_wp2_with (go_at_call 52; ((with_reducible refine (within_c n _ _ _).mono ?_); rintro e w' ⟨rfl, rfl⟩; rw [H1.out]))
      refine bodyPost_ret (v := .agg #[.slice none 0 0, .slice none 0 0, .int .i64 0]) (by simp [results, Try.results25, go_sem]) rfl ⟨_, [], rfl, by rw [HQ.out]; exact TS_nil, Fresh.nil _, ?_⟩
      repeat (first | with_reducible exact Below.refl _ _ | with_reducible assumption | ((with_reducible refine Below.setCell ?_ ?_ _); rotate_left; (simp <;> omega)) | ((with_reducible refine Below.alloc ?_ ?_ _); rotate_left; (simp <;> omega)))
    · go_enter Try.func25, Try.ntmps25
      go_wp2_with (first | (go_at_call 52; ((with_reducible refine (within_c n _ _ _).mono ?_); rintro e w' ⟨rfl, rfl⟩; rw [H1.out])) | (go_at_call 52; ((with_reducible refine (within_c r _ _ _).mono ?_); rintro e w' ⟨rfl, rfl⟩; rw [H2.out])))
      all_goals refine bodyPost_ret (v := .agg #[.slice none 0 0, .slice none 0 0, .int .i64 0]) (by simp [results, Try.results25, go_sem]) rfl ⟨_, [], rfl, by rw [HQ.out]; exact TS_nil, Fresh.nil _, ?_⟩
      all_goals repeat (first | with_reducible exact Below.refl _ _ | with_reducible assumption | ((with_reducible refine Below.setCell ?_ ?_ _); rotate_left; (simp <;> omega)) | ((with_reducible refine Below.alloc ?_ ?_ _); rotate_left; (simp <;> omega)))
  case pos =>
    obtain ⟨rfl, rfl⟩ : b1 = true ∧ b2 = true := by cases b1 <;> cases b2 <;> simp_all
    obtain ⟨m, rfl, hm0, hm1⟩ : ∃ m : Nat, n = m ∧ 1 ≤ m ∧ m ≤ 12 := by
      simp only [inB, decide_eq_true_eq] at h1
      exact ⟨n.toNat, by omega, by omega, by omega⟩
    have HQ : Hid ((newStore m r).Logs = List.replicate m (nLog r)) := Lib.hid (by simp [newStore, h1, h2])
    clear h1 h2 hb12
    go_enter Try.func25, Try.ntmps25
    go_upto_region 4 with (first | (go_at_call 52; ((with_reducible refine (within_c (m : Int) _ _ _).mono ?_); rintro e w' ⟨rfl, rfl⟩; rw [H1.out])) | (go_at_call 52; ((with_reducible refine (within_c r _ _ _).mono ?_); rintro e w' ⟨rfl, rfl⟩; rw [H2.out])))
    go_wp2
    go_loopg [16] m (fun g v16 wr => ∃ (k : Nat) (A : Option Addr) (c : Nat), k + g = m ∧ v16 = .int .i64 k ∧ Hid (Blk wr w.heap.size #[.slice none 0 0, .slice none 0 0, .int .i64 0] 47) ∧ Hid (Blk wr (w.heap.size + 1) #[.slice A k c, .slice none 0 0, .int .i64 0] 47) ∧ Below w.heap.size w wr ∧ Hid (OwnR kLog 59 (w.heap.size + 2) wr (List.replicate k (nLog r)) (.slice A k c)))
    case atStart =>
      refine ⟨0, none, 0, by omega, rfl, Lib.hid ((Blk.new w _ _).below (below_al _ _)), Lib.hid ?_, below_tr (below_al _ _) (below_al _ _), Lib.hid OwnR.nil⟩
      have h := Blk.new (w.alloc (.cells #[.slice none 0 0, .slice none 0 0, .int .i64 0] 47)) #[.slice none 0 0, .slice none 0 0, .int .i64 0] 47
      rw [size_al] at h
      exact h
    case round =>
      obtain ⟨k, A, c, hk, rfl, HB1, HB2, hb, HO⟩ := hrel
      have t1 := HB2.out.cell 0 (.slice A k c) rfl
      have t2 := HB2.out.cell 1 (.slice none 0 0) rfl
      have t3 := HB2.out.cell 2 (.int .i64 0) rfl
      have f1 := HB2.out.frz 0
      have hg2 := HB2.out.lt
      have s1 := HB1.out.cell 0 (.slice none 0 0) rfl
      have s2 := HB1.out.cell 1 (.slice none 0 0) rfl
      have s3 := HB1.out.cell 2 (.int .i64 0) rfl
      have f2 := HB1.out.frz 0
      have f3 := HB1.out.frz 1
      have f4 := HB1.out.frz 2
      have hg1 := HB1.out.lt
      by_cases hlt : k < m
      case neg =>
        obtain rfl : k = m := by omega
        obtain ⟨F, hT, hF⟩ := ((((HO.out.setc w.heap.size 0 (.slice A k c) (by omega)).setc w.heap.size 1 (.slice none 0 0) (by omega)).setc w.heap.size 2 (.int .i64 0) (by omega)).mono (B' := w.heap.size) (by omega)).fresh
        go_wp2
        refine bodyPost_ret (v := .agg #[.slice A k c, .slice none 0 0, .int .i64 0]) (by simp [results, Try.results25, go_sem, s1, s2, s3]) rfl ⟨_, F, rfl, by rw [HQ.out]; exact hT, hF, ?_⟩
        repeat (first | with_reducible exact Below.refl _ _ | with_reducible assumption | ((with_reducible refine Below.setCell ?_ ?_ _); rotate_left; (simp <;> omega)) | ((with_reducible refine Below.alloc ?_ ?_ _); rotate_left; (simp <;> omega)))
      clear s1 s2 s3 f2 f3 f4
      go_upto_region 6 with fail
      go_region_law (first
          | (refine step_call rfl 53 #[.int .i64 0, .int .i64 r] (by simp [go_sem]) (implNLog_c _ r H2.out) ?_; intro w1 hb1'; have hb1 : Below wr.heap.size wr w1 := below_tr (Below.refl _ _).drew hb1'; have hs1 := hb1.size; have t1' := later hb1 t1; have g1' := World.block_lt_of_cell? w1 _ t1')
          | (refine step_log rfl _ _ _ (by rfl) rfl (by rfl) (HO.out.below (below_tr hb1 (below_al _ _))) _ _ (by rfl) (Box.new w1 _ _) (by simp; omega) (by omega) ?_; intro A' c' w' hO3 hgr; have HBn := Lib.hid ((HB2.out.below (below_tr hb1 (below_al _ _))).grown hgr (fun h => by have := HO.out.blk _ h; omega)); have t1n := HBn.out.cell 0 (.slice A k c) rfl; have f1n := HBn.out.frz 0; have g1n := HBn.out.lt; have HGR := Lib.hid hgr; clear hgr))
      all_goals
        go_wp2
        go_roundg (gk - 1)
        case rel => exact ⟨k + 1, A', c', by omega, by go_num, Lib.hid (((HB1.out.below (below_tr hb1 (below_al _ _))).grown HGR.out (fun h => by have := HO.out.blk _ h; omega)).far _ _ _ (by omega)), Lib.hid (by simpa using HBn.out.set 0 (.slice A' (k + 1) c')), ((below_tr hb (below_tr hb1 (below_al _ _))).grown HGR.out (by have := (below_tr hb hb1).size; simp; omega) (fun q hq => by have := HO.out.blk q hq; omega)).setCell (p := ⟨w.heap.size + 1, 0, none⟩) (by simp) _, Lib.hid (hO3.setc _ _ _ (by omega))⟩
        case measure => omega
set_option maxHeartbeats 4000000 in
theorem specNewStore_c (w : World) (n r : Int) : Calls Try.prog 24 #[.int .i64 n, .int .i64 r] w (MadeSt (newStore n r) w) := by
  have hu := Try.underlying59
  have hu2 := Try.underlying44
  have hu3 := Try.underlying47
  generalize h1 : inB n 1 12 = b1
  generalize h2 : inB r 1 20000 = b2
  have H1 := Lib.hid h1
  have H2 := Lib.hid h2
  by_cases hb12 : (b1 && b2) = true
  case neg =>
    have HQ : Hid ((newStore n r).Logs = []) := Lib.hid (by simp only [newStore, h1, h2]; rw [if_neg hb12])
    have hb : b1 = false ∨ b2 = false := by cases b1 <;> cases b2 <;> simp_all
    clear h1 h2 hb12
    rcases hb with rfl | rfl
    · go_enter Try.func24, Try.ntmps24
      go_wp2_with (go_at_call 50; ((with_reducible refine (l1In_c n _ _ _).mono ?_); rintro e w' ⟨rfl, rfl⟩; rw [H1.out]))
      refine bodyPost_ret (v := .agg #[.slice none 0 0, .slice none 0 0, .int .i64 0]) (by simp [results, Try.results24, go_sem]) rfl ⟨_, [], rfl, by rw [HQ.out]; exact TS_nil, Fresh.nil _, ?_⟩
      repeat (first | with_reducible exact Below.refl _ _ | with_reducible assumption | ((with_reducible refine Below.setCell ?_ ?_ _); rotate_left; (simp <;> omega)) | ((with_reducible refine Below.alloc ?_ ?_ _); rotate_left; (simp <;> omega)))
    · go_enter Try.func24, Try.ntmps24
      go_wp2_with (first | (go_at_call 50; ((with_reducible refine (l1In_c n _ _ _).mono ?_); rintro e w' ⟨rfl, rfl⟩; rw [H1.out])) | (go_at_call 50; ((with_reducible refine (l1In_c r _ _ _).mono ?_); rintro e w' ⟨rfl, rfl⟩; rw [H2.out])))
      all_goals refine bodyPost_ret (v := .agg #[.slice none 0 0, .slice none 0 0, .int .i64 0]) (by simp [results, Try.results24, go_sem]) rfl ⟨_, [], rfl, by rw [HQ.out]; exact TS_nil, Fresh.nil _, ?_⟩
      all_goals repeat (first | with_reducible exact Below.refl _ _ | with_reducible assumption | ((with_reducible refine Below.setCell ?_ ?_ _); rotate_left; (simp <;> omega)) | ((with_reducible refine Below.alloc ?_ ?_ _); rotate_left; (simp <;> omega)))
  case pos =>
    obtain ⟨rfl, rfl⟩ : b1 = true ∧ b2 = true := by cases b1 <;> cases b2 <;> simp_all
    obtain ⟨m, rfl, hm0, hm1⟩ : ∃ m : Nat, n = m ∧ 1 ≤ m ∧ m ≤ 12 := by
      simp only [inB, decide_eq_true_eq] at h1
      exact ⟨n.toNat, by omega, by omega, by omega⟩
    have HQ : Hid ((newStore m r).Logs = List.replicate m (nLog r)) := Lib.hid (by simp [newStore, h1, h2])
    clear h1 h2 hb12
    go_enter Try.func24, Try.ntmps24
    go_upto_region 4 with (first | (go_at_call 50; ((with_reducible refine (l1In_c (m : Int) _ _ _).mono ?_); rintro e w' ⟨rfl, rfl⟩; rw [H1.out])) | (go_at_call 50; ((with_reducible refine (l1In_c r _ _ _).mono ?_); rintro e w' ⟨rfl, rfl⟩; rw [H2.out])))
    go_wp2
    go_loopg [6] m (fun g v6 wr => ∃ (k : Nat) (A : Option Addr) (c : Nat), k + g = m ∧ v6 = .int .i64 k ∧ Hid (Blk wr w.heap.size #[.slice none 0 0, .slice none 0 0, .int .i64 0] 47) ∧ Hid (Blk wr (w.heap.size + 1) #[.slice A k c, .slice none 0 0, .int .i64 0] 47) ∧ Below w.heap.size w wr ∧ Hid (OwnR kLog 59 (w.heap.size + 2) wr (List.replicate k (nLog r)) (.slice A k c)))
    case atStart =>
      refine ⟨0, none, 0, by omega, rfl, Lib.hid ((Blk.new w _ _).below (below_al _ _)), Lib.hid ?_, below_tr (below_al _ _) (below_al _ _), Lib.hid OwnR.nil⟩
      have h := Blk.new (w.alloc (.cells #[.slice none 0 0, .slice none 0 0, .int .i64 0] 47)) #[.slice none 0 0, .slice none 0 0, .int .i64 0] 47
      rw [size_al] at h
      exact h
    case round =>
      obtain ⟨k, A, c, hk, rfl, HB1, HB2, hb, HO⟩ := hrel
      have t1 := HB2.out.cell 0 (.slice A k c) rfl
      have t2 := HB2.out.cell 1 (.slice none 0 0) rfl
      have t3 := HB2.out.cell 2 (.int .i64 0) rfl
      have f1 := HB2.out.frz 0
      have hg2 := HB2.out.lt
      have s1 := HB1.out.cell 0 (.slice none 0 0) rfl
      have s2 := HB1.out.cell 1 (.slice none 0 0) rfl
      have s3 := HB1.out.cell 2 (.int .i64 0) rfl
      have f2 := HB1.out.frz 0
      have f3 := HB1.out.frz 1
      have f4 := HB1.out.frz 2
      have hg1 := HB1.out.lt
      by_cases hlt : k < m
      case neg =>
        obtain rfl : k = m := by omega
        obtain ⟨F, hT, hF⟩ := ((((HO.out.setc w.heap.size 0 (.slice A k c) (by omega)).setc w.heap.size 1 (.slice none 0 0) (by omega)).setc w.heap.size 2 (.int .i64 0) (by omega)).mono (B' := w.heap.size) (by omega)).fresh
        go_wp2
        refine bodyPost_ret (v := .agg #[.slice A k c, .slice none 0 0, .int .i64 0]) (by simp [results, Try.results24, go_sem, s1, s2, s3]) rfl ⟨_, F, rfl, by rw [HQ.out]; exact hT, hF, ?_⟩
        repeat (first | with_reducible exact Below.refl _ _ | with_reducible assumption | ((with_reducible refine Below.setCell ?_ ?_ _); rotate_left; (simp <;> omega)) | ((with_reducible refine Below.alloc ?_ ?_ _); rotate_left; (simp <;> omega)))
      clear s1 s2 s3 f2 f3 f4
      go_upto_region 7 with fail
      go_region_law (first
          | (refine step_call rfl 51 #[.int .i64 0, .int .i64 r] (by simp [go_sem]) (specNLog_c _ r H2.out) ?_; intro w1 hb1'; have hb1 : Below wr.heap.size wr w1 := below_tr (Below.refl _ _).drew hb1'; have hs1 := hb1.size; have t1' := later hb1 t1; have g1' := World.block_lt_of_cell? w1 _ t1')
          | (refine step_log rfl _ _ _ (by rfl) rfl (by rfl) (HO.out.below (below_tr hb1 (below_al _ _))) _ _ (by rfl) (Box.new w1 _ _) (by simp; omega) (by omega) ?_; intro A' c' w' hO3 hgr; have HBn := Lib.hid ((HB2.out.below (below_tr hb1 (below_al _ _))).grown hgr (fun h => by have := HO.out.blk _ h; omega)); have t1n := HBn.out.cell 0 (.slice A k c) rfl; have f1n := HBn.out.frz 0; have g1n := HBn.out.lt; have HGR := Lib.hid hgr; clear hgr))
      all_goals
        go_wp2
        go_roundg (gk - 1)
        case rel => exact ⟨k + 1, A', c', by omega, by go_num, Lib.hid (((HB1.out.below (below_tr hb1 (below_al _ _))).grown HGR.out (fun h => by have := HO.out.blk _ h; omega)).far _ _ _ (by omega)), Lib.hid (by simpa using HBn.out.set 0 (.slice A' (k + 1) c')), ((below_tr hb (below_tr hb1 (below_al _ _))).grown HGR.out (by have := (below_tr hb hb1).size; simp; omega) (fun q hq => by have := HO.out.blk q hq; omega)).setCell (p := ⟨w.heap.size + 1, 0, none⟩) (by simp) _, Lib.hid (hO3.setc _ _ _ (by omega))⟩
        case measure => omega
theorem MadeSt.made {n r : Int} {w w' : World} {en : Ending} (h : MadeSt (newStore n r) w en w') : (newStore n r).Made w en w' := by
  obtain ⟨v, F, rfl, hT, hF, hb⟩ := h
  refine ⟨v, .slice none 0 0, F, rfl, ?_, hF, hb⟩
  have h := Store.mkT w' (newStore n r) hT (TS_nil (d := kTxn) (e := 136))
  simpa using h
theorem implNewStore_m (w : World) (n r : Int) : Calls Try.prog 25 #[.int .i64 n, .int .i64 r] w ((newStore n r).Made w) := (implNewStore_c w n r).mono fun _ _ h => h.made
theorem specNewStore_m (w : World) (n r : Int) : Calls Try.prog 24 #[.int .i64 n, .int .i64 r] w ((newStore n r).Made w) := (specNewStore_c w n r).mono fun _ _ h => h.made
theorem newStore_sm (n r : Int) : (newStore n r).sm := by
  unfold newStore Store.sm
  refine ⟨?_, by simp⟩
  split
  · rename_i h
    simp only [inB, Bool.and_eq_true, decide_eq_true_eq] at h
    refine ⟨by simp; omega, fun y hy => ?_⟩
    obtain rfl := List.eq_of_mem_replicate hy
    simp [nLog, Log.sm]
  · simp
theorem newStore_cnt (n r : Int) : (newStore n r).cntV ≤ 1000000 := by
  unfold newStore Store.cntV
  split
  · rename_i h
    simp only [inB, Bool.and_eq_true, decide_eq_true_eq] at h
    simp [sumF, Log.cnt, nLog]
    omega
  · simp [sumF]
end Go.Proofs.Ytenldgbabcjjkaa.H
