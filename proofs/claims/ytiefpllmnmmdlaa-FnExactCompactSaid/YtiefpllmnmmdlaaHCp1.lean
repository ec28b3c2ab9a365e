/-
The program's Compact. Conditions: each contract's own premises.
-/
import Derived.Test.YtiefpllmnmmdlaaHCp0
namespace Go.Proofs.Ytiefpllmnmmdlaa.H
open Go.RowKit
set_option linter.unusedVariables false
set_option linter.unusedSimpArgs false
set_option maxRecDepth 100000
/-- The answer: a log of the call's own, and whether it was asked for rightly. -/
def MadeLB (x : Log) (ok : Bool) (w : World) (en : Ending) (w' : World) : Prop := ∃ v F, en = .returned (.tuple #[.agg #[.int .i64 x.Start, .int .i64 x.Next, .int .i64 x.Roll, v], .bool ok]) ∧ kLog.T w' F x [.int .i64 x.Start, .int .i64 x.Next, .int .i64 x.Roll, v] ∧ Fresh w F ∧ Below w.heap.size w w'
theorem lb_made {w w' : World} {x : Log} {ok : Bool} {v : Value} (hO : OwnT kSegment 45 w.heap.size w' x.Segments v) (hb : Below w.heap.size w w') : MadeLB x ok w (.returned (.tuple #[.agg #[.int .i64 x.Start, .int .i64 x.Next, .int .i64 x.Roll, v], .bool ok])) w' := by
  obtain ⟨F, hT, hF⟩ := hO.fresh
  exact ⟨v, F, rfl, Log.mkT w' x hT, hF, hb⟩
theorem args_of {x : Log} {tt now keep : Int} (h : argsF x tt now keep = true) : logOk x = true ∧ (0 ≤ now ∧ now ≤ 1000000000000) ∧ (0 ≤ keep ∧ keep ≤ 1000000000000) := by
  simp only [argsF, inB, Bool.and_eq_true, decide_eq_true_eq] at h
  obtain ⟨⟨⟨h1, _⟩, h2⟩, h3⟩ := h
  exact ⟨h1, by omega, by omega⟩
theorem Row.cut {α : Type} {d : Ki α} {w : World} {A : Option Addr} {xs : List α} (h : Row d w A xs) (i j : Nat) (hij : i < xs.length) : Row d w (A.map (fun z => z.add (i * d.sz))) ((xs.drop i).take (j - i)) := by
  obtain ⟨a, rfl, _⟩ := h (by omega)
  exact Row.take (Row.drop h i) _
theorem copyPart_c (w : World) (l : List Record) {A : Option Addr} {c i j : Nat} (hc : l.length ≤ c) (hr : Row kRecord w A l) (hl : l.length ≤ 1048576) (hs : ∀ y ∈ l, y.sm) (hij : i < j) (hj : j ≤ l.length) :
    Calls Try.prog 26 #[.slice (A.map (fun z => z.add (i * 6))) (j - i) (c - i)] w fun e w' => ∃ A' c' F, e = .returned (.slice A' (j - i) c') ∧ TS kRecord 53 w' F ((l.drop i).take (j - i)) (.slice A' (j - i) c') ∧ Fresh w F ∧ Below w.heap.size w w' := by
  have hlen : ((l.drop i).take (j - i)).length = j - i := by rw [List.length_take, List.length_drop]; omega
  have h := implCopyRecords_c w ((l.drop i).take (j - i)) (c := c - i) (by omega) (Row.cut hr i j (by omega)) (by omega) (fun y hy => hs y (List.mem_of_mem_drop (List.mem_of_mem_take hy)))
  rw [hlen] at h
  refine Calls.mono h ?_
  rintro e w' ⟨v, F, rfl, hT, hF, hb⟩
  obtain ⟨A', c', rfl, _⟩ := TS_read hT
  rw [hlen] at hT ⊢
  exact ⟨A', c', F, rfl, hT, hF, hb⟩
set_option maxHeartbeats 16000000 in
theorem implCompact_c (w : World) (x : Log) (tt now keep : Int) {A : Option Addr} {c : Nat} (hc : x.Segments.length ≤ c) (hr : Row kSegment w A x.Segments) (hs : x.sm) :
    Calls Try.prog 8 #[.agg #[.int .i64 x.Start, .int .i64 x.Next, .int .i64 x.Roll, .slice A x.Segments.length c], .int .i64 tt, .int .i64 now, .int .i64 keep] w (MadeLB (compactL x tt now keep) (compactOk x tt now keep) w) := by
  have HS := Lib.hid hs
  clear hs
  have hu := Try.underlying45
  have hu2 := Try.underlying26
  have hu3 := Try.underlying28
  have hu4 := Try.underlying48
  have hu5 := Try.underlying42
  have hu6 := Try.underlying58
  have hu7 := Try.underlying56
  have hu8 := Try.underlying46
  have hu9 := Try.underlying53
  generalize hok : argsF x tt now keep = ok
  have Hok := Lib.hid hok
  have B1 := (Blk.new w #[.int .i64 x.Start, .int .i64 x.Next, .int .i64 x.Roll, .slice A x.Segments.length c] 28).below (below_al _ (.cells #[.int .i64 0, .int .i64 0, .int .i64 0, .slice none 0 0] 28))
  have B2 := Blk.new (w.alloc (.cells #[.int .i64 x.Start, .int .i64 x.Next, .int .i64 x.Roll, .slice A x.Segments.length c] 28)) #[.int .i64 0, .int .i64 0, .int .i64 0, .slice none 0 0] 28
  have hb := below_tr (below_al w (.cells #[.int .i64 x.Start, .int .i64 x.Next, .int .i64 x.Roll, .slice A x.Segments.length c] 28)) (below_al _ (.cells #[.int .i64 0, .int .i64 0, .int .i64 0, .slice none 0 0] 28))
  rw [size_al] at B2
  go_enter Try.func8, Try.ntmps8
  go_upto_region 1 with fail
  generalize (w.alloc (.cells #[.int .i64 x.Start, .int .i64 x.Next, .int .i64 x.Roll, .slice A x.Segments.length c] 28)).alloc (.cells #[.int .i64 0, .int .i64 0, .int .i64 0, .slice none 0 0] 28) = W1 at B1 B2 hb ⊢
  have a0 := B1.cell 0 _ rfl
  have a1 := B1.cell 1 _ rfl
  have a2 := B1.cell 2 _ rfl
  have a3 := B1.cell 3 _ rfl
  have HR1 := Lib.hid (Row_below hr hb)
  have hsz := hb.size
  have HB1 := Lib.hid B1
  have HB2 := Lib.hid B2
  have g2 := B2.lt
  have Hh := Lib.hid hb
  clear B1 B2
  cases ok with
  | false =>
    have HL : Hid (compactL x tt now keep = zLog ∧ compactOk x tt now keep = false) := Lib.hid (by unfold compactL compactOk; rw [hok]; exact ⟨rfl, rfl⟩)
    clear hok
    go_upto_region 2 with (go_at_call 22; refine (compactable_c _ x tt now keep hc HR1.out HS.out).mono ?_; rintro e W2 ⟨rfl, hb2⟩; rw [Hok.out])
    have C2 := HB2.out.below hb2
    have e0 := C2.cell 0 _ rfl
    have e1 := C2.cell 1 _ rfl
    have e2 := C2.cell 2 _ rfl
    have e3 := C2.cell 3 _ rfl
    have f0 := C2.frz 0
    have f1 := C2.frz 1
    have f2 := C2.frz 2
    have f3 := C2.frz 3
    have g3 := C2.lt
    have hbw := below_tr hb hb2
    go_wp2
    refine bodyPost_ret (v := .tuple #[.agg #[.int .i64 0, .int .i64 0, .int .i64 0, .slice none 0 0], .bool false]) (by simp [results, Try.results8, go_sem, e0, e1, e2, e3]) rfl ?_
    rw [HL.out.1, HL.out.2]
    refine lb_made (x := zLog) OwnT.nil ?_
    repeat (first | with_reducible exact Below.refl _ _ | with_reducible assumption | ((with_reducible refine Below.setCell ?_ ?_ _); rotate_left; (simp <;> omega)) | ((with_reducible refine Below.alloc ?_ ?_ _); rotate_left; (simp <;> omega)))
  | true =>
    have HL : Hid (compactOk x tt now keep = decide (cpN (cpMat x tt now keep) x.Segments 0 ≤ 400)) := Lib.hid (by unfold compactOk; rw [hok]; rfl)
    obtain ⟨hlo, hnow, hkeep⟩ := args_of hok
    have HNK := Lib.hid (And.intro hnow hkeep)
    have hall := logOk_all hlo
    have hll := hall.1
    have HAL := Lib.hid hall.2
    have HFO := Lib.hid (fun b hb => fOk_of (hall.2 b hb) : ∀ b ∈ allB x, fOk b)
    have HCO := Lib.hid (fun b hb => cOk_of (hall.2 b hb) : ∀ b ∈ allB x, cOk b)
    have HSM := Lib.hid (all_sm HS.out)
    clear hok hlo hnow hkeep hall
    go_upto_region 3 with (go_at_call 22; refine (compactable_c _ x tt now keep hc HR1.out HS.out).mono ?_; rintro e W2 ⟨rfl, hb2⟩; rw [Hok.out])
    have C1 := HB1.out.below hb2
    have C2 := Lib.hid (HB2.out.below hb2)
    have c0 := C1.cell 0 _ rfl
    have c1 := C1.cell 1 _ rfl
    have c2 := C1.cell 2 _ rfl
    have c3 := C1.cell 3 _ rfl
    have HR2 := Lib.hid (Row_below HR1.out hb2)
    have Hh2 := Lib.hid (below_tr hb hb2)
    have hsz2 := hb2.size
    clear a0 a1 a2 a3 hb2 hb HB1 HB2 HR1 Hh
    have HC1 := Lib.hid C1
    clear C1
    go_upto_region 4 with (go_at_call 23; refine (implCopyLog_c _ x hc HR2.out HS.out).mono ?_; rintro e W3 ⟨v, F0, rfl, hT, hF, hb3⟩; obtain ⟨v3, F3, he, e9, hT3⟩ := Log.opnT hT; simp only [List.cons.injEq, true_and, and_true] at he; subst he; subst e9; clear hT; obtain ⟨A0, q0, e9, hq0, _⟩ := TS_read hT3; subst e9; have D1 := HC1.out.below hb3; have f0 := D1.frz 0; have f1 := D1.frz 1; have f2 := D1.frz 2; have f3 := D1.frz 3; have d0 := D1.cell 0 _ rfl; have d1 := D1.cell 1 _ rfl; have d2 := D1.cell 2 _ rfl; have d3 := D1.cell 3 _ rfl; have gl := D1.lt; have HD1 := Lib.hid D1; have Hb3 := Lib.hid hb3; clear D1 hb3)
    have HKS := Lib.hid (KeepR.of hT3 hF)
    clear hT3 hF
    have E1' := (((HD1.out.set 0 (.int .i64 x.Start)).set 1 (.int .i64 x.Next)).set 2 (.int .i64 x.Roll)).set 3 (.slice A0 x.Segments.length q0)
    have E1 : Blk ((((W3.setCell ⟨w.heap.size, 0, none⟩ (.int .i64 x.Start)).setCell ⟨w.heap.size, 1, none⟩ (.int .i64 x.Next)).setCell ⟨w.heap.size, 2, none⟩ (.int .i64 x.Roll)).setCell ⟨w.heap.size, 3, none⟩ (.slice A0 x.Segments.length q0)) w.heap.size #[.int .i64 x.Start, .int .i64 x.Next, .int .i64 x.Roll, .slice A0 x.Segments.length q0] 28 := by simpa using E1'
    have E2 := ((((C2.out.below Hb3.out).far w.heap.size 0 (.int .i64 x.Start) (by omega)).far w.heap.size 1 (.int .i64 x.Next) (by omega)).far w.heap.size 2 (.int .i64 x.Roll) (by omega)).far w.heap.size 3 (.slice A0 x.Segments.length q0) (by omega)
    have hSt := ((((Stay.refl w.heap.size W3).setc 0 (.int .i64 x.Start)).setc 1 (.int .i64 x.Next)).setc 2 (.int .i64 x.Roll)).setc 3 (.slice A0 x.Segments.length q0)
    have hb4 := ((((below_tr Hh2.out Hb3.out).setCell (p := ⟨w.heap.size, 0, none⟩) (by simp) (.int .i64 x.Start)).setCell (p := ⟨w.heap.size, 1, none⟩) (by simp) (.int .i64 x.Next)).setCell (p := ⟨w.heap.size, 2, none⟩) (by simp) (.int .i64 x.Roll)).setCell (p := ⟨w.heap.size, 3, none⟩) (by simp) (.slice A0 x.Segments.length q0)
    have hG2 : w.heap.size < W2.heap.size := by omega
    clear E1' C2 Hb3 HD1 Hh2 f0 f1 f2 f3 d0 d1 d2 d3 gl c0 c1 c2 c3 HC1 HR2 hsz2
    generalize (((W3.setCell ⟨w.heap.size, 0, none⟩ (.int .i64 x.Start)).setCell ⟨w.heap.size, 1, none⟩ (.int .i64 x.Next)).setCell ⟨w.heap.size, 2, none⟩ (.int .i64 x.Roll)).setCell ⟨w.heap.size, 3, none⟩ (.slice A0 x.Segments.length q0) = W4 at E1 E2 hSt hb4 ⊢
    have f3 := E1.frz 3
    have d0 : W4.cell? ⟨w.heap.size, 0, none⟩ = some (.int .i64 x.Start) := E1.cell 0 _ rfl
    have d1 : W4.cell? ⟨w.heap.size, 1, none⟩ = some (.int .i64 x.Next) := E1.cell 1 _ rfl
    have d2 : W4.cell? ⟨w.heap.size, 2, none⟩ = some (.int .i64 x.Roll) := E1.cell 2 _ rfl
    have d3 : W4.cell? ⟨w.heap.size, 3, none⟩ = some (.slice A0 x.Segments.length q0) := E1.cell 3 _ rfl
    have gl := E1.lt
    have HSt := Lib.hid hSt
    have HSG4 := Lib.hid (KeepR.use HKS.out hG2 hSt (Stay.refl _ _))
    have HE1 := Lib.hid E1
    have HE2 := Lib.hid E2
    have Hb4 := Lib.hid hb4
    have hln : x.Segments.length ≤ 1048576 := HS.out.1
    clear E1 E2 hb4 hSt
    generalize hL : allB x = L at HFO HCO HSM hll HAL
    have HLL := Lib.hid hL
    clear hL
    go_upto_region 5 with (first
      | (go_at_call 25; refine (batches_c _ x hq0 HSG4.out hln (by rw [HLL.out]; omega)).mono ?_; rw [HLL.out]; rintro e W5 ⟨Ab, cb, rfl, hcb, hrb, hb5⟩)
      | (go_at_call 24; refine (goes_k _ L Ab cb hcb hrb hll HFO.out HSM.out tt now keep HNK.out.1 HNK.out.2).mono ?_; rintro e W6 ⟨Bm, dm, rfl, hdm, hkm, hb6⟩))
    have HKM := Lib.hid hkm
    have hbx := below_tr hb5 hb6
    have F1 := HE1.out.below hbx
    have F2 := HE2.out.below hbx
    have hbw6 := below_tr Hb4.out hbx
    have HSt6 := HSt.out.below hbx
    have hG5 : w.heap.size < W5.heap.size := by have := hb5.size; omega
    have f3 := F1.frz 3
    have d3 : W6.cell? ⟨w.heap.size, 3, none⟩ = some (.slice A0 x.Segments.length q0) := F1.cell 3 _ rfl
    have gl := F1.lt
    have HF1 := Lib.hid F1
    have HF2 := Lib.hid F2
    have Hb6 := Lib.hid hbw6
    have HST6 := Lib.hid HSt6
    have h02 : w.heap.size + 1 ≠ w.heap.size := by omega
    clear hkm hrb hcb hb5 hb6 hbx F1 F2 hbw6 HSt6 HE1 HE2 Hb4 HSt HSG4
    go_upto_region 7 with fail
    have G1 : Blk (W6.setCell ⟨w.heap.size, 3, none⟩ (.slice none 0 0)) w.heap.size #[.int .i64 x.Start, .int .i64 x.Next, .int .i64 x.Roll, .slice none 0 0] 28 := by simpa using HF1.out.set 3 (.slice none 0 0)
    have G2 := HF2.out.far w.heap.size 3 (.slice none 0 0) h02
    have hbw7 := Hb6.out.setCell (p := ⟨w.heap.size, 3, none⟩) (by simp) (.slice none 0 0)
    have hs67 : Stay w.heap.size W6 (W6.setCell ⟨w.heap.size, 3, none⟩ (.slice none 0 0)) := (Stay.refl _ _).setc 3 _
    have hs37 : Stay w.heap.size W3 (W6.setCell ⟨w.heap.size, 3, none⟩ (.slice none 0 0)) := HST6.out.setc 3 _
    clear HF1 HF2 Hb6 HST6 f3 d3 gl
    generalize W6.setCell ⟨w.heap.size, 3, none⟩ (.slice none 0 0) = Wp at G1 G2 hbw7 hs67 hs37 ⊢
    have SEG := Lib.hid (fun wr (h : Stay w.heap.size Wp wr) => KeepR.use HKS.out hG2 hs37 h)
    have ROWS : Hid (∀ wr, Stay w.heap.size Wp wr → Row (Ki.slice 4 Ki.bool) wr Bm (cpMat x tt now keep)) := Lib.hid (fun wr h => by unfold cpMat; rw [HLL.out]; exact KeepR.use HKM.out hG5 hs67 h)
    have hml : (cpMat x tt now keep).length = L.length := by unfold cpMat; rw [matF_len, HLL.out]
    clear HKS HKM hs37 hs67
    have hpw := G2.lt
    obtain ⟨NP, hNP⟩ : ∃ n, n = Wp.heap.size := ⟨_, rfl⟩
    have HNP := Lib.hid hNP
    rw [← hNP] at hpw
    clear hNP
    generalize hMM : cpMat x tt now keep = M at HL ROWS hml
    have HMM := Lib.hid hMM
    clear hMM
    have HCL := Lib.hid (show ∀ s ∈ x.Segments, ∀ b ∈ s.Batches, b ∈ L from fun s hs b hb => by rw [← HLL.out]; exact List.mem_flatMap.2 ⟨s, hs, hb⟩)
    have HAT := Lib.hid (show ∀ i k s b, x.Segments[i]? = some s → s.Batches[k]? = some b → L[atS x.Segments i + k]? = some b from fun i k s b h1 h2 => by rw [← HLL.out]; exact allB_at h1 h2)
    have HNN := Lib.hid (show ∀ k, cpN M (x.Segments.take k) 0 ≤ 16000 from fun k => Nat.le_trans (cpN_len M _ 0 (fun b hb => (HCO.out b (by rw [← HLL.out]; obtain ⟨s, h1, h2⟩ := List.mem_flatMap.1 hb; exact List.mem_flatMap.2 ⟨s, List.mem_of_mem_take h1, h2⟩)).2.2.2.2)) (by
      have h1 : ((x.Segments.take k).flatMap (·.Batches)).length ≤ (allB x).length := by
        unfold allB
        conv => rhs; rw [← List.take_append_drop k x.Segments, List.flatMap_append, List.length_append]
        omega
      rw [HLL.out] at h1
      omega))
    go_upto_region 9 with fail
    go_loopg [12, 13, 43] x.Segments.length (fun g v12 v13 v43 wr => ∃ (k : Nat) (A' : Option Addr) (c' : Nat), k + g = x.Segments.length ∧ v43 = .int .i64 k ∧ v12 = .int .i64 (atS x.Segments k : Nat) ∧ v13 = .int .i64 (cpN M (x.Segments.take k) 0 : Nat) ∧ Hid (Blk wr w.heap.size #[.int .i64 x.Start, .int .i64 x.Next, .int .i64 x.Roll, .slice A' (cpGs M (x.Segments.take k) 0).length c'] 28) ∧ Hid (Blk wr (w.heap.size + 1) #[.int .i64 0, .int .i64 0, .int .i64 0, .slice none 0 0] 28) ∧ Hid (OwnR kSegment 45 NP wr (cpGs M (x.Segments.take k) 0) (.slice A' (cpGs M (x.Segments.take k) 0).length c')) ∧ Hid (Stay w.heap.size Wp wr) ∧ Below w.heap.size w wr)
    case atStart => exact ⟨0, none, 0, by omega, rfl, rfl, rfl, Lib.hid G1, Lib.hid G2, Lib.hid OwnR.nil, Lib.hid (Stay.refl _ _), hbw7⟩
    case round =>
      clear G1 G2 hbw7
      obtain ⟨k, A', c', hk, rfl, rfl, rfl, HB1, HB2, HO, HST, hb⟩ := hrel
      have hnn := HNN.out k
      by_cases hlt : k < x.Segments.length
      case neg =>
        obtain rfl : k = x.Segments.length := by omega
        have hg2 := HB2.out.lt
        have d0 := HB1.out.cell 0 _ rfl
        have d1 := HB1.out.cell 1 _ rfl
        have d2 := HB1.out.cell 2 _ rfl
        have d3 := HB1.out.cell 3 _ rfl
        have e0 := HB2.out.cell 0 _ rfl
        have e1 := HB2.out.cell 1 _ rfl
        have e2 := HB2.out.cell 2 _ rfl
        have e3 := HB2.out.cell 3 _ rfl
        have f0 := HB2.out.frz 0
        have f1 := HB2.out.frz 1
        have f2 := HB2.out.frz 2
        have f3 := HB2.out.frz 3
        rw [List.take_length] at d3 hnn HO ⊢
        by_cases hm : cpN M x.Segments 0 ≤ 400
        case pos =>
          have HLc : Hid (compactL x tt now keep = ⟨x.Start, x.Next, x.Roll, cpGs M x.Segments 0⟩ ∧ compactOk x tt now keep = true) := Lib.hid (by
            have h1 : compactOk x tt now keep = true := by rw [HL.out]; simpa using hm
            refine ⟨?_, h1⟩
            unfold compactL
            rw [if_pos h1, HMM.out])
          go_wp2
          refine bodyPost_ret (v := .tuple #[.agg #[.int .i64 x.Start, .int .i64 x.Next, .int .i64 x.Roll, .slice A' (cpGs M x.Segments 0).length c'], .bool true]) (by simp [results, Try.results8, go_sem, e0, e1, e2, e3]) rfl ?_
          rw [HLc.out.1, HLc.out.2]
          refine lb_made (x := ⟨x.Start, x.Next, x.Roll, cpGs M x.Segments 0⟩) (OwnT.mono (B := NP) ?_ (by omega)) ?_
          · repeat (refine OwnT.setc ?_ _ _ _ (by omega))
            exact HO.out.toT
          · repeat (first | with_reducible exact Below.refl _ _ | with_reducible assumption | ((with_reducible refine Below.setCell ?_ ?_ _); rotate_left; (simp <;> omega)) | ((with_reducible refine Below.alloc ?_ ?_ _); rotate_left; (simp <;> omega)))
        case neg =>
          have HLc : Hid (compactL x tt now keep = zLog ∧ compactOk x tt now keep = false) := Lib.hid (by
            have h1 : compactOk x tt now keep = false := by rw [HL.out]; simpa using hm
            refine ⟨?_, h1⟩
            unfold compactL
            rw [if_neg (by rw [h1]; simp)])
          go_wp2
          refine bodyPost_ret (v := .tuple #[.agg #[.int .i64 0, .int .i64 0, .int .i64 0, .slice none 0 0], .bool false]) (by simp [results, Try.results8, go_sem, e0, e1, e2, e3]) rfl ?_
          rw [HLc.out.1, HLc.out.2]
          refine lb_made (x := zLog) OwnT.nil ?_
          repeat (first | with_reducible exact Below.refl _ _ | with_reducible assumption | ((with_reducible refine Below.setCell ?_ ?_ _); rotate_left; (simp <;> omega)) | ((with_reducible refine Below.alloc ?_ ?_ _); rotate_left; (simp <;> omega)))
      have hkc : k ≤ x.Segments.length := by omega
      have hsr := HST.out.1
      rw [← HNP.out] at hsr
      obtain ⟨ad, y, A1, c1, rfl, hy, p0, p1, l1, g1⟩ := Segment.at (SEG.out wr HST.out) k hlt
      have HY := Lib.hid hy
      have HYM := Lib.hid (List.mem_of_getElem? hy)
      have hys := (HS.out.2 y HYM.out).1
      clear hy
      have B3 := Blk.new wr #[.int .i64 y.Base, .slice A1 y.Batches.length c1] 45
      have hb1 := below_al wr (.cells #[.int .i64 y.Base, .slice A1 y.Batches.length c1] 45)
      obtain ⟨H, hH⟩ : ∃ n, n = wr.heap.size := ⟨_, rfl⟩
      go_upto_region 11 with fail
      clear p0 p1
      have HB1a := Lib.hid (HB1.out.below hb1)
      have HB2a := Lib.hid (HB2.out.below hb1)
      have HOa := Lib.hid (HO.out.below hb1)
      have HSTa := Lib.hid (HST.out.below hb1)
      have Hba := Lib.hid (below_tr hb hb1)
      have HG1 := Lib.hid (Row_below g1 hb1)
      generalize wr.alloc (.cells #[.int .i64 y.Base, .slice A1 y.Batches.length c1] 45) = W8 at B3 hb1 HB1a HB2a HOa HSTa Hba HG1 ⊢
      rw [← hH] at B3 ⊢
      have hHs : H < W8.heap.size := B3.lt
      have hNPH : NP ≤ H := by omega
      have s1 : W8.cell? ⟨H, 1, none⟩ = some (.slice A1 y.Batches.length c1) := B3.cell 1 _ rfl
      have HB3 := Lib.hid B3
      clear B3 g1 HB1 HB2 HO HST hb hb1 hH hsr
      go_upto_region 13 with fail
      clear s1
      go_loopg [12, 16, 50] y.Batches.length (fun g v12 v16 v50 wr2 => ∃ (m : Nat) (Ao : Option Addr) (co : Nat), m + g = y.Batches.length ∧ v50 = .int .i64 m ∧ v12 = .int .i64 ((atS x.Segments k + m : Nat) : Int) ∧ v16 = .slice Ao (cpL M (y.Batches.take m) (atS x.Segments k)).length co ∧ Hid (OwnR kBatch 48 W8.heap.size wr2 (cpL M (y.Batches.take m) (atS x.Segments k)) (.slice Ao (cpL M (y.Batches.take m) (atS x.Segments k)).length co)) ∧ Below W8.heap.size W8 wr2)
      case atStart => exact ⟨0, none, 0, by omega, rfl, by simp, rfl, Lib.hid OwnR.nil, Below.refl _ _⟩
      case round =>
        obtain ⟨m, Ao, co, hm, rfl, rfl, rfl, HO, hb⟩ := hrel
        by_cases hmt : m < y.Batches.length
        case neg =>
          obtain rfl : m = y.Batches.length := by omega
          rw [List.take_length] at HO ⊢
          obtain ⟨hgs, hgn⟩ := cpGs_take (M := M) HY.out
          have HGS := Lib.hid hgs
          have hnn1 := HNN.out (k + 1)
          rw [hgn] at hnn1
          have HGN := Lib.hid hgn
          have HAS := Lib.hid (atS_step HY.out)
          clear hgs hgn
          generalize cpL M y.Batches (atS x.Segments k) = X at HO HGS HGN hnn1 ⊢
          have HB1b := Lib.hid (HB1a.out.below hb)
          have HB2b := Lib.hid (HB2a.out.below hb)
          have HOb := Lib.hid (HOa.out.below hb)
          have HSTb := Lib.hid (HSTa.out.below hb)
          have Hbb := Lib.hid (below_tr Hba.out hb)
          by_cases hX0 : X.length = 0
          case pos =>
            have HGe : Hid (cpGs M (x.Segments.take (k + 1)) 0 = cpGs M (x.Segments.take k) 0) := Lib.hid (by rw [HGS.out]; unfold cpG; rw [if_pos hX0, List.append_nil])
            go_wp2
            go_roundg (x.Segments.length - (k + 1))
            case rel => exact ⟨k + 1, A', c', by omega, by go_num, by rw [HAS.out], by rw [HGN.out, hX0, Nat.add_zero], by rw [HGe.out]; exact HB1b, HB2b, by rw [HGe.out]; exact HOb, HSTb, Hbb.out⟩
            case measure => omega
          case neg =>
            have HGe : Hid (cpGs M (x.Segments.take (k + 1)) 0 = cpGs M (x.Segments.take k) 0 ++ [⟨y.Base, X⟩]) := Lib.hid (by rw [HGS.out]; unfold cpG; rw [if_neg hX0])
            have hlG : (cpGs M (x.Segments.take k) 0).length ≤ 1048576 := by
              have h1 := cpGs_len M (x.Segments.take k) 0
              rw [List.length_take] at h1
              omega
            have B3b := HB3.out.below hb
            have s0 : wr.cell? ⟨H, 0, none⟩ = some (.int .i64 y.Base) := B3b.cell 0 _ rfl
            have t3 : wr.cell? ⟨w.heap.size, 3, none⟩ = some (.slice A' (cpGs M (x.Segments.take k) 0).length c') := HB1b.out.cell 3 _ rfl
            have f3 := HB1b.out.frz 3
            have gl := HB1b.out.lt
            have hsb := hb.size
            obtain ⟨F2, hT2, hN2, hG2', _⟩ := HO.out
            have hba := below_al wr (.cells #[.int .i64 y.Base, .slice Ao X.length co] 45)
            have HTS := Lib.hid (T_bel (seg_T (y := ⟨y.Base, X⟩) hT2) hba)
            have HFx : Hid (Fresh W8 F2) := Lib.hid ⟨hN2, hG2'⟩
            clear hT2 hN2 hG2'
            generalize hnG : (cpGs M (x.Segments.take k) 0).length = nG at HB1b HOa t3 hlG ⊢
            have HNG := Lib.hid hnG
            clear hnG
            have h0P : w.heap.size + 1 < NP := hpw
            have hNP8 : NP ≤ W8.heap.size := by omega
            have hbw := below_tr Hbb.out hba
            have hszw := hbw.size
            go_wp2_with (at_builtin; refine list_el (v := .slice A' nG c') info_seg rfl (by decide) (by decide) rfl _ _ _ rfl Try.underlying26 rfl HOa.out (below_tr hb hba) hNP8 _ _ rfl HTS.out (Box.new wr _ _) HFx.out (by rw [HNG.out]; omega) ?_; rw [HNG.out]; intro A7 c7 W9 hO7 hgr hvb; have HB1n := Lib.hid ((HB1b.out.below hba).grown hgr (fun h => by have := hvb _ h; omega)); have HB2n := Lib.hid ((HB2b.out.below hba).grown hgr (fun h => by have := hvb _ h; omega)); have t3n := HB1n.out.cell 3 (.slice A' nG c') rfl; have f3n := HB1n.out.frz 3; have g3n := HB1n.out.lt; have HGR := Lib.hid hgr; clear hgr)
            go_roundg (x.Segments.length - (k + 1))
            case rel =>
              refine ⟨k + 1, A7, c7, by omega, by go_num, by rw [HAS.out]; try go_num, by rw [HGN.out]; go_num, Lib.hid ?_, Lib.hid (HB2n.out.far _ _ _ (by omega)), Lib.hid ?_, Lib.hid (((HSTb.out.below hba).grown HGR.out (fun q hq => .inl (by have := hvb q hq; have := HNP.out; omega))).setc 3 _), (hbw.grown HGR.out hszw (fun q hq => by have := hvb q hq; omega)).setCell (p := ⟨w.heap.size, 3, none⟩) (by simp) _⟩
              · rw [HGe.out, List.length_append, List.length_singleton, HNG.out]
                simpa using HB1n.out.set 3 (.slice A7 (nG + 1) c7)
              · rw [HGe.out, List.length_append, List.length_singleton, HNG.out]
                exact hO7.setc _ _ _ (by omega)
            case measure => omega
        obtain ⟨bd, b, A6, c6, rfl, hyb, r0, r1, r2, r3, r4, r5, r6, l6, g6⟩ := Batch.at HG1.out m hmt
        have hbL := HCL.out y HYM.out b (List.mem_of_getElem? hyb)
        obtain ⟨⟨bp0, bp1⟩, ⟨bb0, bb1⟩, ⟨bs0, bs1⟩, bn0, bn1⟩ := HCO.out b hbL
        have HRS := Lib.hid (HSM.out b hbL).2
        have hat := HAT.out k m y b HY.out hyb
        have hatl := (List.getElem?_eq_some_iff.1 hat).1
        have hMG : ∃ gs, M[atS x.Segments k + m]? = some gs ∧ gs.length = b.Records.length := by
          rw [← HMM.out]
          unfold cpMat
          rw [HLL.out]
          exact ⟨_, matF_get tt (now - keep) L _ b hat, by rw [rowF_len]⟩
        obtain ⟨gs, hgs, hgl⟩ := hMG
        have HCT := Lib.hid (show cpL M (y.Batches.take (m + 1)) (atS x.Segments k) = cpL M (y.Batches.take m) (atS x.Segments k) ++ cpOut b (cpS b gs b.Records.length) b.Records.length by rw [cpL_take hyb, hgs]; rfl)
        have hXl : (cpL M (y.Batches.take m) (atS x.Segments k)).length ≤ 16000 := by
          have h1 := cpL_len M (y.Batches.take m) (atS x.Segments k) (fun q hq => (HCO.out q (HCL.out y HYM.out q (List.mem_of_mem_take hq))).2.2.2.2)
          rw [List.length_take] at h1
          omega
        obtain ⟨adm, Ag, cg, rfl, q0, lg, gg⟩ := boolsAt (ROWS.out W8 HSTa.out) hgs
        rw [hgl] at q0 lg
        have HGG := Lib.hid gg
        have HG6 := Lib.hid g6
        have HGL := Lib.hid hgl
        clear hyb hbL hat hgs gg g6 hgl
        replace r0 := later hb r0
        replace r1 := later hb r1
        replace r2 := later hb r2
        replace r3 := later hb r3
        replace r4 := later hb r4
        replace r5 := later hb r5
        replace r6 := later hb r6
        replace q0 := later hb q0
        generalize cpL M (y.Batches.take m) (atS x.Segments k) = X at HO HCT hXl ⊢
        have hOlt := HO.out.lt
        have B18 := Blk.new wr #[.int .i64 b.Base, .int .i64 b.Epoch, .int .i64 b.Producer, .int .i64 b.Turn, .int .i64 b.Seq, .int .i64 b.Flags, .slice A6 b.Records.length c6] 48
        have hb18 := below_al wr (.cells #[.int .i64 b.Base, .int .i64 b.Epoch, .int .i64 b.Producer, .int .i64 b.Turn, .int .i64 b.Seq, .int .i64 b.Flags, .slice A6 b.Records.length c6] 48)
        have q1 := later hb18 q0
        obtain ⟨H18, hH18⟩ : ∃ n, n = wr.heap.size := ⟨_, rfl⟩
        go_upto_region 18 with fail
        have hb9 := below_tr hb hb18
        have HO9 := Lib.hid (HO.out.below hb18)
        generalize wr.alloc (.cells #[.int .i64 b.Base, .int .i64 b.Epoch, .int .i64 b.Producer, .int .i64 b.Turn, .int .i64 b.Seq, .int .i64 b.Flags, .slice A6 b.Records.length c6] 48) = W9 at B18 hb18 q1 hb9 HO9 ⊢
        rw [← hH18] at B18 hOlt ⊢
        have h9s := B18.lt
        have h8s := hb.size
        have hH8 : W8.heap.size ≤ H18 := by omega
        clear r0 r1 r2 r3 r4 r5 r6 q0 q1 HO hH18 hb18 hb hHs
        have hatc : ((atS x.Segments k + m : Nat) : Int) + 1 = ((atS x.Segments k + (m + 1) : Nat) : Int) := by omega
        go_loopg [16, 20] b.Records.length (fun g3 v16 v20 wr3 => ∃ (i : Nat) (Ao : Option Addr) (co : Nat), i + g3 = b.Records.length ∧ v20 = .int .i64 i ∧ v16 = .slice Ao (X ++ cpOut b (cpS b gs i) i).length co ∧ Hid (OwnR kBatch 48 W8.heap.size wr3 (X ++ cpOut b (cpS b gs i) i) (.slice Ao (X ++ cpOut b (cpS b gs i) i).length co)) ∧ Hid (Blk wr3 H18 #[.int .i64 b.Base, .int .i64 b.Epoch, .int .i64 b.Producer, .int .i64 b.Turn, .int .i64 b.Seq, .int .i64 b.Flags, .slice A6 b.Records.length c6] 48) ∧ Hid (∀ q, (Value.slice Ao (X ++ cpOut b (cpS b gs i) i).length co).ownBlock = some q → q ≠ H18) ∧ Hid ((cpS b gs i).2 = none ∨ gs[i]? ≠ some false) ∧ Below W8.heap.size W8 wr3)
        case atStart =>
          have h0 : X ++ cpOut b (cpS b gs 0) 0 = X := by simp [cpOut, cpS]
          exact ⟨0, Ao, co, by omega, rfl, by rw [h0], by rw [h0]; exact HO9, Lib.hid B18, by rw [h0]; exact Lib.hid (fun q hq => by have := hOlt q hq; omega), Lib.hid (.inl rfl), hb9⟩
        case round =>
          clear B18 HO9 hb9 hOlt h9s h8s
          obtain ⟨i, Ao, co, hi, rfl, rfl, HO, HB18, HNE, HOP, hb⟩ := hrel
          have hol := cpOut_len (b := b) (g := gs) i
          have hXo : (X ++ cpOut b (cpS b gs i) i).length ≤ 1048576 := by rw [List.length_append]; omega
          generalize hZ : X ++ cpOut b (cpS b gs i) i = Z at HO HNE hXo ⊢
          have HZ := Lib.hid hZ
          clear hZ hol
          by_cases hit : i < b.Records.length
          case neg =>
            obtain rfl : i = b.Records.length := by omega
            go_wp2
            go_roundg (y.Batches.length - (m + 1))
            case rel => exact ⟨m + 1, Ao, co, by omega, by go_num, by first | (rw [← hatc]; try go_num) | go_num, by rw [HCT.out, HZ.out], by rw [HCT.out, HZ.out]; exact HO, hb⟩
            case measure => omega
          obtain ⟨v, hv⟩ : ∃ v, gs[i]? = some v := ⟨gs[i]'(by rw [HGL.out]; exact hit), List.getElem?_eq_getElem _⟩
          obtain ⟨adg, rfl, q1⟩ := boolAt HGG.out hv
          have q1 := later hb q1
          cases v with
          | true =>
            have HGN := Lib.hid (cpOut_gone (b := b) (g := gs) (k := i) (by rw [hv]; simp))
            have HPN := Lib.hid (show (cpS b gs (i + 1)).2 = none by rw [cpS_gone (by rw [hv]; simp)])
            go_wp2
            go_roundg (b.Records.length - (i + 1))
            case rel => exact ⟨i + 1, Ao, co, by omega, by go_num, by rw [HGN.out, HZ.out], by rw [HGN.out, HZ.out]; exact HO, HB18, by rw [HGN.out, HZ.out]; exact HNE, Lib.hid (.inl HPN.out), hb⟩
            case measure => omega
          | false =>
            have HV := Lib.hid hv
            have HPN : Hid ((cpS b gs i).2 = none) := Lib.hid (by
              rcases HOP.out with h | h
              · exact h
              · exact absurd hv h)
            clear hv
            go_upto_region 22 with fail
            obtain ⟨WR, hWR⟩ : ∃ q, q = wr := ⟨_, rfl⟩
            subst hWR
            go_loopg [21] (b.Records.length - i) (fun g4 v21 wr4 => ∃ (j : Nat), j + g4 = b.Records.length ∧ i ≤ j ∧ v21 = .int .i64 j ∧ wr4 = WR ∧ Hid (∀ q, i ≤ q → q < j → gs[q]? = some false))
            case atStart => exact ⟨i, by omega, Nat.le_refl _, rfl, rfl, Lib.hid (fun q h1 h2 => by omega)⟩
            case round =>
              obtain ⟨j, hj, hij, rfl, hwr, HQ⟩ := hrel
              subst hwr
              by_cases hcond : j < b.Records.length ∧ gs[j]? = some false
              case pos =>
                obtain ⟨hjt, hgj⟩ := hcond
                obtain ⟨adj, he, q2⟩ := boolAt HGG.out hgj
                cases he
                have q2 := later hb q2
                have HQN : Hid (∀ q, i ≤ q → q < j + 1 → gs[q]? = some false) := Lib.hid (fun q h1 h2 => by
                  by_cases e : q = j
                  · rw [e]; exact hgj
                  · exact HQ.out q h1 (by omega))
                clear hgj
                go_wp2
                go_roundg (b.Records.length - (j + 1))
                case rel => exact ⟨j + 1, by omega, by omega, by go_num, rfl, HQN⟩
                case measure => omega
              have hlt' : i < j := by
                by_cases e : i = j
                · exact absurd ⟨by omega, by rw [← e]; exact HV.out⟩ hcond
                · omega
              have HEND : Hid (gs[j]? ≠ some false) := Lib.hid (fun e => by
                have := (List.getElem?_eq_some_iff.1 e).1
                rw [HGL.out] at this
                exact hcond ⟨this, e⟩)
              have a0 := HB18.out.cell 0 _ rfl
              have a1 := HB18.out.cell 1 _ rfl
              have a2 := HB18.out.cell 2 _ rfl
              have a3 := HB18.out.cell 3 _ rfl
              have a4 := HB18.out.cell 4 _ rfl
              have a5 := HB18.out.cell 5 _ rfl
              have a6 := HB18.out.cell 6 _ rfl
              have B22 := Blk.new wr #[.int .i64 b.Base, .int .i64 b.Epoch, .int .i64 b.Producer, .int .i64 b.Turn, .int .i64 b.Seq, .int .i64 b.Flags, .slice A6 b.Records.length c6] 48
              have hb22 := below_al wr (.cells #[.int .i64 b.Base, .int .i64 b.Epoch, .int .i64 b.Producer, .int .i64 b.Turn, .int .i64 b.Seq, .int .i64 b.Flags, .slice A6 b.Records.length c6] 48)
              obtain ⟨H22, hH22⟩ : ∃ n, n = wr.heap.size := ⟨_, rfl⟩
              have hHH : H18 ≠ H22 := by have := HB18.out.lt; omega
              have hg2 : H22 < (wr.alloc (.cells #[.int .i64 b.Base, .int .i64 b.Epoch, .int .i64 b.Producer, .int .i64 b.Turn, .int .i64 b.Seq, .int .i64 b.Flags, .slice A6 b.Records.length c6] 48)).heap.size := by rw [hH22]; exact B22.lt
              by_cases hjt : j < b.Records.length
              case' pos =>
                obtain ⟨v, hv⟩ : ∃ v, gs[j]? = some v := ⟨gs[j]'(by rw [HGL.out]; exact hjt), List.getElem?_eq_getElem _⟩
                obtain ⟨adj, he, q2⟩ := boolAt HGG.out hv
                cases he
                have q2 := later hb q2
                have hvt : v = true := by
                  cases v with
                  | true => rfl
                  | false => exact absurd ⟨hjt, hv⟩ hcond
                subst hvt
                clear hv
                go_upto_region 25 with fail
                clear q2
              case' neg =>
                go_upto_region 25 with fail
              all_goals
                clear a0 a1 a2 a3 a4 a5 a6 hcond hjt
                rw [← hH22] at B22 ⊢
                generalize wr.alloc (.cells #[.int .i64 b.Base, .int .i64 b.Epoch, .int .i64 b.Producer, .int .i64 b.Turn, .int .i64 b.Seq, .int .i64 b.Flags, .slice A6 b.Records.length c6] 48) = W11 at B22 hb22 hg2 ⊢
                have HH22 := Lib.hid hH22
                clear hH22
                have z0 : W11.cell? ⟨H22, 0, none⟩ = some (.int .i64 b.Base) := B22.cell 0 _ rfl
                have f0 := B22.frz 0
                go_upto_region 26 with fail
                have D22 : Blk (W11.setCell ⟨H22, 0, none⟩ (.int .i64 (b.Base + (i : Int)))) H22 #[.int .i64 (b.Base + (i : Int)), .int .i64 b.Epoch, .int .i64 b.Producer, .int .i64 b.Turn, .int .i64 b.Seq, .int .i64 b.Flags, .slice A6 b.Records.length c6] 48 := by simpa using B22.set 0 (.int .i64 (b.Base + (i : Int)))
                have hbr := hb22.setCell (p := ⟨H22, 0, none⟩) (by simp; have := HH22.out; omega) (.int .i64 (b.Base + (i : Int)))
                clear z0 f0 B22 hb22 hg2
                generalize W11.setCell ⟨H22, 0, none⟩ (.int .i64 (b.Base + (i : Int))) = W12 at D22 hbr ⊢
                have z2 : W12.cell? ⟨H22, 2, none⟩ = some (.int .i64 b.Producer) := D22.cell 2 _ rfl
                have z4 : W12.cell? ⟨H22, 4, none⟩ = some (.int .i64 b.Seq) := D22.cell 4 _ rfl
                have f4 := D22.frz 4
                have hg2 := D22.lt
                by_cases hP : 0 ≤ b.Producer
                case' pos =>
                  go_upto_region 28 with fail
                  have E22 : Blk (W12.setCell ⟨H22, 4, none⟩ (.int .i64 (b.Seq + (i : Int)))) H22 #[.int .i64 (b.Base + (i : Int)), .int .i64 b.Epoch, .int .i64 b.Producer, .int .i64 b.Turn, .int .i64 (b.Seq + (i : Int)), .int .i64 b.Flags, .slice A6 b.Records.length c6] 48 := by simpa using D22.set 4 (.int .i64 (b.Seq + (i : Int)))
                  have hbr2 := hbr.setCell (p := ⟨H22, 4, none⟩) (by simp; have := HH22.out; omega) (.int .i64 (b.Seq + (i : Int)))
                  have HMK : Hid (mkB b i j = ⟨b.Base + i, b.Epoch, b.Producer, b.Turn, b.Seq + i, b.Flags, (b.Records.drop i).take (j - i)⟩) := Lib.hid (by unfold mkB; rw [if_pos hP])
                  clear z2 z4 f4 hg2 D22 hbr
                  generalize b.Seq + (i : Int) = sq at E22 hbr2 HMK ⊢
                  generalize W12.setCell ⟨H22, 4, none⟩ (.int .i64 sq) = W13 at E22 hbr2 ⊢
                case' neg =>
                  go_upto_region 28 with fail
                  obtain ⟨sq, hsq⟩ : ∃ q, b.Seq = q := ⟨_, rfl⟩
                  have E22 : Blk W12 H22 #[.int .i64 (b.Base + (i : Int)), .int .i64 b.Epoch, .int .i64 b.Producer, .int .i64 b.Turn, .int .i64 sq, .int .i64 b.Flags, .slice A6 b.Records.length c6] 48 := by rw [← hsq]; exact D22
                  have hbr2 := hbr
                  have HMK : Hid (mkB b i j = ⟨b.Base + i, b.Epoch, b.Producer, b.Turn, sq, b.Flags, (b.Records.drop i).take (j - i)⟩) := Lib.hid (by unfold mkB; rw [if_neg hP, hsq])
                  clear z2 z4 f4 hg2 D22 hbr hsq
                  generalize W12 = W13 at E22 hbr2 ⊢
                all_goals
                  have hb3 := below_tr hb hbr2
                  have B18c := HB18.out.below hbr2
                  have y6 : W13.cell? ⟨H18, 6, none⟩ = some (.slice A6 b.Records.length c6) := B18c.cell 6 _ rfl
                  have f6 := E22.frz 6
                  have hg3 := E22.lt
                  have HCALL := Lib.hid (copyPart_c W13 b.Records (i := i) (j := j) l6 (Row_below (Row_below HG6.out hb) hbr2) (by omega) HRS.out hlt' (by omega))
                  go_upto_region 29 with (go_at_call 26; refine HCALL.out.mono ?_; rintro e W14 ⟨A7, c7, F7, rfl, hT7, hF7, hb7⟩; have E22b := E22.below hb7; have e6b : W14.cell? ⟨H22, 6, none⟩ = some (.slice A6 b.Records.length c6) := E22b.cell 6 _ rfl; have f6b := E22b.frz 6; have hg3b := E22b.lt)
                  have G22 : Blk (W14.setCell ⟨H22, 6, none⟩ (.slice A7 (j - i) c7)) H22 #[.int .i64 (b.Base + (i : Int)), .int .i64 b.Epoch, .int .i64 b.Producer, .int .i64 b.Turn, .int .i64 sq, .int .i64 b.Flags, .slice A7 (j - i) c7] 48 := by simpa using E22b.set 6 (.slice A7 (j - i) c7)
                  have hbr3 := (below_tr hbr2 hb7).setCell (p := ⟨H22, 6, none⟩) (by simp; have := HH22.out; omega) (.slice A7 (j - i) c7)
                  have hT8 := TS_setn (o := 6) (u := .slice A7 (j - i) c7) hT7 (g := H22) (fun hh => by have := hF7.2 _ hh; omega)
                  have HF8 : Hid (Fresh wr F7) := Lib.hid (hF7.mono hbr2.size)
                  clear hT7 E22b e6b f6b hg3b y6 f6 hg3 E22 hb7 hF7
                  generalize W14.setCell ⟨H22, 6, none⟩ (.slice A7 (j - i) c7) = W15 at G22 hbr3 hT8 ⊢
                  have e0 : W15.cell? ⟨H22, 0, none⟩ = some (.int .i64 (b.Base + (i : Int))) := G22.cell 0 _ rfl
                  have e1 : W15.cell? ⟨H22, 1, none⟩ = some (.int .i64 b.Epoch) := G22.cell 1 _ rfl
                  have e2 : W15.cell? ⟨H22, 2, none⟩ = some (.int .i64 b.Producer) := G22.cell 2 _ rfl
                  have e3 : W15.cell? ⟨H22, 3, none⟩ = some (.int .i64 b.Turn) := G22.cell 3 _ rfl
                  have e4 : W15.cell? ⟨H22, 4, none⟩ = some (.int .i64 sq) := G22.cell 4 _ rfl
                  have e5 : W15.cell? ⟨H22, 5, none⟩ = some (.int .i64 b.Flags) := G22.cell 5 _ rfl
                  have e6 : W15.cell? ⟨H22, 6, none⟩ = some (.slice A7 (j - i) c7) := G22.cell 6 _ rfl
                  have HRUN := Lib.hid (cpOut_run (b := b) (g := gs) HPN.out HQ.out hlt')
                  have HXN : Hid (Z ++ [⟨b.Base + i, b.Epoch, b.Producer, b.Turn, sq, b.Flags, (b.Records.drop i).take (j - i)⟩] = X ++ cpOut b (cpS b gs j) j) := Lib.hid (by rw [HRUN.out, HMK.out, ← HZ.out, List.append_assoc])
                  have HLN : Hid ((X ++ cpOut b (cpS b gs j) j).length = Z.length + 1) := Lib.hid (by rw [← HXN.out, List.length_append, List.length_singleton])
                  generalize hYY : X ++ cpOut b (cpS b gs j) j = Y at HXN HLN
                  have HYY := Lib.hid hYY
                  clear hYY
                  have hba := below_al W15 (.cells #[.int .i64 (b.Base + (i : Int)), .int .i64 b.Epoch, .int .i64 b.Producer, .int .i64 b.Turn, .int .i64 sq, .int .i64 b.Flags, .slice A7 (j - i) c7] 48)
                  have hbz := below_tr hbr3 hba
                  have HTr := Lib.hid (T_bel (Batch.mkT W15 ⟨b.Base + i, b.Epoch, b.Producer, b.Turn, sq, b.Flags, (b.Records.drop i).take (j - i)⟩ (show TS kRecord 53 W15 F7 ((b.Records.drop i).take (j - i)) (.slice A7 (j - i) c7) from hT8)) hba)
                  have XB := Box.new W15 #[.int .i64 (b.Base + (i : Int)), .int .i64 b.Epoch, .int .i64 b.Producer, .int .i64 b.Turn, .int .i64 sq, .int .i64 b.Flags, .slice A7 (j - i) c7] 48
                  have h8z := hbz.size
                  have hwr := hb.size
                  go_upto_region 30 with (at_builtin; refine list_elh (v := .slice Ao Z.length co) info_batch rfl (by decide) (by decide) rfl _ _ _ rfl Try.underlying42 rfl HO.out hbz hwr _ _ rfl HTr.out XB HF8.out hXo ?_; rw [HXN.out, ← HLN.out]; intro A8 c8 W17 hO8 hgr hvb hat)
                  have hbn := (below_tr hb hbz).grown hgr (Nat.le_trans hwr h8z) hvb
                  have h18z := HB18.out.below hbz
                  have HB18n := Lib.hid (Blk.grown h18z hgr (fun e => HNE.out H18 e rfl))
                  have h18 := HB18.out.lt
                  have HNEn : Hid (∀ q, (Value.slice A8 Y.length c8).ownBlock = some q → q ≠ H18) := Lib.hid (fun q hq => by
                    rcases hat with h | h
                    · exact HNE.out q (h.symm.trans hq)
                    · rw [hq] at h
                      injection h with h
                      rw [size_al] at h h8z
                      omega)
                  clear hat hgr
                  have hO8' := Lib.hid hO8
                  clear hO8 hba XB hbz h18z h8z hwr e0 e1 e2 e3 e4 e5 e6 hT8 G22 hbr3 B18c hb3 hbr2 q1 hvb h18
                  clear HRUN HXN HLN HTr HF8 HCALL HMK
                  try clear q2
                  go_wp2
                  go_roundg (b.Records.length - j)
                  case rel => exact ⟨j, A8, c8, by omega, by go_num, by rw [HYY.out], by rw [HYY.out]; exact hO8', HB18n, by rw [HYY.out]; exact HNEn, Lib.hid (.inr HEND.out), hbn⟩
                  case measure => omega
end Go.Proofs.Ytiefpllmnmmdlaa.H
