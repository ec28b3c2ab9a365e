/-
The reference's Compact. Conditions: each contract's own premises.
-/
import Derived.Test.YtiefpllmnmmdlaaHCp1
import Derived.Test.YtiefpllmnmmdlaaHCp2
namespace Go.Proofs.Ytiefpllmnmmdlaa.H
open Go.RowKit
set_option linter.unusedVariables false
set_option linter.unusedSimpArgs false
set_option maxRecDepth 100000
theorem below_grow {E : Nat} {w w1 w2 w3 : World} {row : Option Nat} {j : Nat} {u : Value} (hE : E = w.heap.size) (h1 : Below w.heap.size w w1) (h2 : Below w1.heap.size w1 w2) (h3 : w2.grownBy w3 row) (hr : ∀ k, row = some k → E + 1 ≤ k) : Below w.heap.size w (w3.setCell ⟨E, j, none⟩ u) :=
  ((below_tr h1 h2).grown h3 (Nat.le_trans h1.size h2.size) (fun k hk => by have := hr k hk; omega)).setCell (p := ⟨E, j, none⟩) (by simp; omega) u
set_option maxHeartbeats 16000000 in
theorem specCompact_m (w : World) (x : Log) (tt now keep : Int) {A : Option Addr} {c : Nat} (hc : x.Segments.length ≤ c) (hr : Row kSegment w A x.Segments) (hs : x.sm) (hw : x.wf) :
    Calls Try.prog 6 #[.agg #[.int .i64 x.Start, .int .i64 x.Next, .int .i64 x.Roll, .slice A x.Segments.length c], .int .i64 tt, .int .i64 now, .int .i64 keep] w (MadeLB (compactL x tt now keep) (compactOk x tt now keep) w) := by
  have HS := Lib.hid hs
  have HW := Lib.hid hw
  clear hs hw
  have hu := Try.underlying45
  have hu2 := Try.underlying26
  have hu3 := Try.underlying28
  have hu4 := Try.underlying48
  have hu5 := Try.underlying42
  have hu8 := Try.underlying46
  have hu9 := Try.underlying53
  generalize hok : argsF x tt now keep = ok
  have Hok := Lib.hid hok
  have B1 := (Blk.new w #[.int .i64 x.Start, .int .i64 x.Next, .int .i64 x.Roll, .slice A x.Segments.length c] 28).below (below_al _ (.cells #[.int .i64 0, .int .i64 0, .int .i64 0, .slice none 0 0] 28))
  have B2 := Blk.new (w.alloc (.cells #[.int .i64 x.Start, .int .i64 x.Next, .int .i64 x.Roll, .slice A x.Segments.length c] 28)) #[.int .i64 0, .int .i64 0, .int .i64 0, .slice none 0 0] 28
  have hb := below_tr (below_al w (.cells #[.int .i64 x.Start, .int .i64 x.Next, .int .i64 x.Roll, .slice A x.Segments.length c] 28)) (below_al _ (.cells #[.int .i64 0, .int .i64 0, .int .i64 0, .slice none 0 0] 28))
  rw [size_al] at B2
  go_enter Try.func6, Try.ntmps6
  go_upto_region 1 with fail
  generalize (w.alloc (.cells #[.int .i64 x.Start, .int .i64 x.Next, .int .i64 x.Roll, .slice A x.Segments.length c] 28)).alloc (.cells #[.int .i64 0, .int .i64 0, .int .i64 0, .slice none 0 0] 28) = W1 at B1 B2 hb ⊢
  have a0 := B1.cell 0 _ rfl
  have a1 := B1.cell 1 _ rfl
  have a2 := B1.cell 2 _ rfl
  have a3 := B1.cell 3 _ rfl
  have HR1 := Lib.hid (Row_below hr hb)
  have hsz := hb.size
  have HB1 := Lib.hid B1
  have HB2 := Lib.hid B2
  have g2 := B2.lt
  have Hh := Lib.hid hb
  clear B1 B2
  cases ok with
  | false =>
    have HL : Hid (compactL x tt now keep = zLog ∧ compactOk x tt now keep = false) := Lib.hid (by unfold compactL compactOk; rw [hok]; exact ⟨rfl, rfl⟩)
    clear hok
    go_upto_region 2 with (go_at_call 18; refine (l4Args_c _ x tt now keep hc HR1.out HS.out HW.out).mono ?_; rintro e W2 ⟨rfl, hb2⟩; rw [Hok.out])
    have C2 := HB2.out.below hb2
    have e0 := C2.cell 0 _ rfl
    have e1 := C2.cell 1 _ rfl
    have e2 := C2.cell 2 _ rfl
    have e3 := C2.cell 3 _ rfl
    have f0 := C2.frz 0
    have f1 := C2.frz 1
    have f2 := C2.frz 2
    have f3 := C2.frz 3
    have g3 := C2.lt
    have hbw := below_tr hb hb2
    go_wp2
    refine bodyPost_ret (v := .tuple #[.agg #[.int .i64 0, .int .i64 0, .int .i64 0, .slice none 0 0], .bool false]) (by simp [results, Try.results6, go_sem, e0, e1, e2, e3]) rfl ?_
    rw [HL.out.1, HL.out.2]
    refine lb_made (x := zLog) OwnT.nil ?_
    repeat (first | with_reducible exact Below.refl _ _ | with_reducible assumption | ((with_reducible refine Below.setCell ?_ ?_ _); rotate_left; (simp <;> omega)) | ((with_reducible refine Below.alloc ?_ ?_ _); rotate_left; (simp <;> omega)))
  | true =>
    have HL : Hid (compactOk x tt now keep = decide (cpN (cpMat x tt now keep) x.Segments 0 ≤ 400)) := Lib.hid (by unfold compactOk; rw [hok]; rfl)
    obtain ⟨hlo, hnow, hkeep⟩ := args_of hok
    have HNK := Lib.hid (And.intro hnow hkeep)
    have hall := logOk_all hlo
    have hll := hall.1
    have HFO := Lib.hid (fun b hb => fOk_of (hall.2 b hb) : ∀ b ∈ allB x, fOk b)
    have HCO := Lib.hid (fun b hb => cOk_of (hall.2 b hb) : ∀ b ∈ allB x, cOk b)
    have HSM := Lib.hid (all_sm HS.out)
    clear hok hlo hnow hkeep hall
    go_upto_region 3 with (go_at_call 18; refine (l4Args_c _ x tt now keep hc HR1.out HS.out HW.out).mono ?_; rintro e W2 ⟨rfl, hb2⟩; rw [Hok.out])
    have C1 := HB1.out.below hb2
    have C2 := Lib.hid (HB2.out.below hb2)
    have c0 := C1.cell 0 _ rfl
    have c1 := C1.cell 1 _ rfl
    have c2 := C1.cell 2 _ rfl
    have c3 := C1.cell 3 _ rfl
    have HR2 := Lib.hid (Row_below HR1.out hb2)
    have Hh2 := Lib.hid (below_tr hb hb2)
    have hsz2 := hb2.size
    have hln : x.Segments.length ≤ 1048576 := HS.out.1
    clear a0 a1 a2 a3 hb2 hb HB1 HB2 HR1 Hh
    have HC1 := Lib.hid C1
    clear C1
    go_upto_region 4 with (go_at_call 19; refine (l3All_c _ x hc HR2.out hln (by omega)).mono ?_; rintro e W3 ⟨Ab, cb, rfl, hcb, hrb, hb3⟩; have D1 := HC1.out.below hb3; have d0 := D1.cell 0 _ rfl; have d1 := D1.cell 1 _ rfl; have d2 := D1.cell 2 _ rfl; have d3 := D1.cell 3 _ rfl; have HD1 := Lib.hid D1; clear D1)
    have HD2 := Lib.hid (C2.out.below hb3)
    have HR3 := Lib.hid (Row_below HR2.out hb3)
    have HRB := Lib.hid hrb
    have Hw3 := Lib.hid (below_tr Hh2.out hb3)
    have hw3 : w.heap.size + 1 < W3.heap.size := HD2.out.lt
    generalize hL : allB x = L at HFO HCO HSM hll hcb HRB
    have HLL := Lib.hid hL
    clear hL
    clear C2 HC1 Hh2 HR2 c0 c1 c2 c3 hb3 hrb hsz2
    have hml : (cpMat x tt now keep).length = L.length := by unfold cpMat; rw [matF_len, HLL.out]
    generalize hMM : cpMat x tt now keep = M at HL hml
    have HMM := Lib.hid hMM
    clear hMM
    have HCL := Lib.hid (show ∀ s ∈ x.Segments, ∀ b ∈ s.Batches, b ∈ L from fun s hs b hb => by rw [← HLL.out]; exact List.mem_flatMap.2 ⟨s, hs, hb⟩)
    have HAT := Lib.hid (show ∀ i k s b, x.Segments[i]? = some s → s.Batches[k]? = some b → L[atS x.Segments i + k]? = some b from fun i k s b h1 h2 => by rw [← HLL.out]; exact allB_at h1 h2)
    have HNN := Lib.hid (show ∀ k, cpN M (x.Segments.take k) 0 ≤ 16000 from fun k => Nat.le_trans (cpN_len M _ 0 (fun b hb => (HCO.out b (by rw [← HLL.out]; obtain ⟨s, h1, h2⟩ := List.mem_flatMap.1 hb; exact List.mem_flatMap.2 ⟨s, List.mem_of_mem_take h1, h2⟩)).2.2.2.2)) (by
      have h1 : ((x.Segments.take k).flatMap (·.Batches)).length ≤ (allB x).length := by
        unfold allB
        conv => rhs; rw [← List.take_append_drop k x.Segments, List.flatMap_append, List.length_append]
        omega
      rw [HLL.out] at h1
      omega))
    go_upto_region 5 with fail
    clear d0 d1 d2 d3
    have BE := Blk.new W3 #[.int .i64 x.Start, .int .i64 x.Next, .int .i64 x.Roll, .slice none 0 0] 28
    have hb4 := below_al W3 (.cells #[.int .i64 x.Start, .int .i64 x.Next, .int .i64 x.Roll, .slice none 0 0] 28)
    have h4s : (W3.alloc (.cells #[.int .i64 x.Start, .int .i64 x.Next, .int .i64 x.Roll, .slice none 0 0] 28)).heap.size = W3.heap.size + 1 := size_al _ _
    obtain ⟨E, hE⟩ : ∃ n, n = W3.heap.size := ⟨_, rfl⟩
    generalize W3.alloc (.cells #[.int .i64 x.Start, .int .i64 x.Next, .int .i64 x.Roll, .slice none 0 0] 28) = W4 at BE hb4 h4s ⊢
    rw [← hE] at BE h4s hw3 ⊢
    have HE := Lib.hid hE
    clear hE
    go_upto_region 7 with fail
    go_loopg [12, 13, 14] x.Segments.length (fun g v12 v13 v14 wr => ∃ (k : Nat) (A' : Option Addr) (c' : Nat), k + g = x.Segments.length ∧ v14 = .int .i64 k ∧ v12 = .int .i64 (atS x.Segments k : Nat) ∧ v13 = .int .i64 (cpN M (x.Segments.take k) 0 : Nat) ∧ Hid (Blk wr E #[.int .i64 x.Start, .int .i64 x.Next, .int .i64 x.Roll, .slice A' (cpGs M (x.Segments.take k) 0).length c'] 28) ∧ Hid (OwnR kSegment 45 (E + 1) wr (cpGs M (x.Segments.take k) 0) (.slice A' (cpGs M (x.Segments.take k) 0).length c')) ∧ Below W3.heap.size W3 wr)
    case atStart => exact ⟨0, none, 0, by omega, rfl, rfl, rfl, Lib.hid BE, Lib.hid OwnR.nil, hb4⟩
    case round =>
      clear BE hb4 h4s
      obtain ⟨k, A', c', hk, rfl, rfl, rfl, HBE, HO, hb⟩ := hrel
      have hnn := HNN.out k
      have hsw := hb.size
      rw [← HE.out] at hsw
      have HbA := Lib.hid hb
      have d3 : wr.cell? ⟨w.heap.size, 3, none⟩ = some (.slice A x.Segments.length c) := (HD1.out.below hb).cell 3 _ rfl
      by_cases hlt : k < x.Segments.length
      case neg =>
        obtain rfl : k = x.Segments.length := by omega
        have E2 := HD2.out.below hb
        have hg2 := E2.lt
        have q0 := HBE.out.cell 0 _ rfl
        have q1 := HBE.out.cell 1 _ rfl
        have q2 := HBE.out.cell 2 _ rfl
        have q3 := HBE.out.cell 3 _ rfl
        have e0 := E2.cell 0 _ rfl
        have e1 := E2.cell 1 _ rfl
        have e2 := E2.cell 2 _ rfl
        have e3 := E2.cell 3 _ rfl
        have f0 := E2.frz 0
        have f1 := E2.frz 1
        have f2 := E2.frz 2
        have f3 := E2.frz 3
        clear E2
        rw [List.take_length] at q3 hnn HO ⊢
        have hbw := below_tr Hw3.out hb
        by_cases hm : cpN M x.Segments 0 ≤ 400
        case pos =>
          have HLc : Hid (compactL x tt now keep = ⟨x.Start, x.Next, x.Roll, cpGs M x.Segments 0⟩ ∧ compactOk x tt now keep = true) := Lib.hid (by
            have h1 : compactOk x tt now keep = true := by rw [HL.out]; simpa using hm
            refine ⟨?_, h1⟩
            unfold compactL
            rw [if_pos h1, HMM.out])
          go_wp2
          refine bodyPost_ret (v := .tuple #[.agg #[.int .i64 x.Start, .int .i64 x.Next, .int .i64 x.Roll, .slice A' (cpGs M x.Segments 0).length c'], .bool true]) (by simp [results, Try.results6, go_sem, e0, e1, e2, e3]) rfl ?_
          rw [HLc.out.1, HLc.out.2]
          refine lb_made (x := ⟨x.Start, x.Next, x.Roll, cpGs M x.Segments 0⟩) (OwnT.mono (B := E + 1) ?_ (by omega)) ?_
          · repeat (refine OwnT.setc ?_ _ _ _ (by omega))
            exact HO.out.toT
          · repeat (first | with_reducible exact Below.refl _ _ | with_reducible assumption | ((with_reducible refine Below.setCell ?_ ?_ _); rotate_left; (simp <;> omega)) | ((with_reducible refine Below.alloc ?_ ?_ _); rotate_left; (simp <;> omega)))
        case neg =>
          have HLc : Hid (compactL x tt now keep = zLog ∧ compactOk x tt now keep = false) := Lib.hid (by
            have h1 : compactOk x tt now keep = false := by rw [HL.out]; simpa using hm
            refine ⟨?_, h1⟩
            unfold compactL
            rw [if_neg (by rw [h1]; simp)])
          go_wp2
          refine bodyPost_ret (v := .tuple #[.agg #[.int .i64 0, .int .i64 0, .int .i64 0, .slice none 0 0], .bool false]) (by simp [results, Try.results6, go_sem, e0, e1, e2, e3]) rfl ?_
          rw [HLc.out.1, HLc.out.2]
          refine lb_made (x := zLog) OwnT.nil ?_
          repeat (first | with_reducible exact Below.refl _ _ | with_reducible assumption | ((with_reducible refine Below.setCell ?_ ?_ _); rotate_left; (simp <;> omega)) | ((with_reducible refine Below.alloc ?_ ?_ _); rotate_left; (simp <;> omega)))
      have hkc : k ≤ x.Segments.length := by omega
      obtain ⟨ad, y, A1, c1, rfl, hy, p0, p1, l1, g1⟩ := Segment.at (Row_below HR3.out hb) k hlt
      have HY := Lib.hid hy
      have HYM := Lib.hid (List.mem_of_getElem? hy)
      have hys := (HS.out.2 y HYM.out).1
      clear hy
      have BH := Blk.new wr #[.int .i64 y.Base, .slice none 0 0] 45
      have hb1 := below_al wr (.cells #[.int .i64 y.Base, .slice none 0 0] 45)
      obtain ⟨H, hH⟩ : ∃ n, n = wr.heap.size := ⟨_, rfl⟩
      go_upto_region 10 with fail
      replace p1 := later hb1 p1
      replace d3 := later hb1 d3
      clear p0
      have HBEa := Lib.hid (HBE.out.below hb1)
      obtain ⟨WA, hWA⟩ : ∃ q, q = wr := ⟨_, rfl⟩
      generalize wr.alloc (.cells #[.int .i64 y.Base, .slice none 0 0] 45) = W8 at BH hb1 p1 d3 HBEa ⊢
      rw [← hH] at BH hsw ⊢
      have HHA := Lib.hid hH
      have hHs : H < W8.heap.size := BH.lt
      clear hH
      rw [← hWA] at HO HBE HbA hb1 HHA
      clear hWA
      go_upto_region 11 with fail
      clear p1 d3
      go_loopg [12, 13, 59] y.Batches.length (fun g v12 v13 v59 wr2 => ∃ (m : Nat) (Ao : Option Addr) (co : Nat), m + g = y.Batches.length ∧ v59 = .int .i64 m ∧ v12 = .int .i64 ((atS x.Segments k + m : Nat) : Int) ∧ v13 = .int .i64 ((cpN M (x.Segments.take k) 0 + (cpL M (y.Batches.take m) (atS x.Segments k)).length : Nat) : Int) ∧ Hid (Blk wr2 H #[.int .i64 y.Base, .slice Ao (cpL M (y.Batches.take m) (atS x.Segments k)).length co] 45) ∧ Hid (OwnX kBatchE 48 (H + 1) [] wr2 (cpL M (y.Batches.take m) (atS x.Segments k)) (.slice Ao (cpL M (y.Batches.take m) (atS x.Segments k)).length co)) ∧ Below WA.heap.size WA wr2)
      case atStart => exact ⟨0, none, 0, by omega, rfl, by simp, by simp [cpL], Lib.hid BH, Lib.hid ⟨[], TS_nil, List.nodup_nil, by simp, Ex.nil⟩, hb1⟩
      case round =>
        clear BH hb1 HBEa
        obtain ⟨m, Ao, co, hm, rfl, rfl, rfl, HBH, HOX, hb2⟩ := hrel
        have hs2 := hb2.size
        rw [← HHA.out] at hs2
        by_cases hmt : m < y.Batches.length
        case neg =>
          obtain rfl : m = y.Batches.length := by omega
          rw [List.take_length] at HBH HOX ⊢
          obtain ⟨hgs, hgn⟩ := cpGs_take (M := M) HY.out
          have HGS := Lib.hid hgs
          have hnn1 := HNN.out (k + 1)
          rw [hgn] at hnn1
          have HGN := Lib.hid hgn
          have HAS := Lib.hid (atS_step HY.out)
          clear hgs hgn
          generalize cpL M y.Batches (atS x.Segments k) = X at HBH HOX HGS HGN hnn1 ⊢
          have s1 : wr.cell? ⟨H, 1, none⟩ = some (.slice Ao X.length co) := HBH.out.cell 1 _ rfl
          have HBEb := Lib.hid (HBE.out.below hb2)
          have Hb2 := Lib.hid (below_tr HbA.out hb2)
          by_cases hX0 : X.length = 0
          case pos =>
            have HGe : Hid (cpGs M (x.Segments.take (k + 1)) 0 = cpGs M (x.Segments.take k) 0) := Lib.hid (by rw [HGS.out]; unfold cpG; rw [if_pos hX0, List.append_nil])
            have HOb := Lib.hid (HO.out.below hb2)
            go_wp2
            go_roundg (x.Segments.length - (k + 1))
            case rel => exact ⟨k + 1, A', c', by omega, by go_num, by rw [HAS.out], by rw [HGN.out], by rw [HGe.out]; exact HBEb, by rw [HGe.out]; exact HOb, Hb2.out⟩
            case measure => omega
          case neg =>
            have HGe : Hid (cpGs M (x.Segments.take (k + 1)) 0 = cpGs M (x.Segments.take k) 0 ++ [⟨y.Base, X⟩]) := Lib.hid (by rw [HGS.out]; unfold cpG; rw [if_neg hX0])
            have hlG : (cpGs M (x.Segments.take k) 0).length ≤ 1048576 := by
              have h1 := cpGs_len M (x.Segments.take k) 0
              rw [List.length_take] at h1
              omega
            have s0 : wr.cell? ⟨H, 0, none⟩ = some (.int .i64 y.Base) := HBH.out.cell 0 _ rfl
            have t3 : wr.cell? ⟨E, 3, none⟩ = some (.slice A' (cpGs M (x.Segments.take k) 0).length c') := HBEb.out.cell 3 _ rfl
            have f3 := HBEb.out.frz 3
            have gl := HBEb.out.lt
            have hXp : 0 < X.length := by omega
            obtain ⟨F2, hT2, hN2, hG2'⟩ := HOX.out.seg
            have hba := below_al wr (.cells #[.int .i64 y.Base, .slice Ao X.length co] 45)
            have HTS := Lib.hid (T_bel (seg_T (y := ⟨y.Base, X⟩) hT2) hba)
            have HFx : Hid (Fresh WA F2) := Lib.hid ⟨hN2, fun b hb' => by have := hG2' b hb'; rw [← HHA.out]; omega⟩
            clear hT2 hN2 hG2'
            generalize hnG : (cpGs M (x.Segments.take k) 0).length = nG at HBEb HO t3 hlG ⊢
            have HNG := Lib.hid hnG
            clear hnG
            have hbw := below_tr Hb2.out hba
            have hszw := hbw.size
            have hEW : E + 1 ≤ WA.heap.size := by rw [← HHA.out]; have := HBE.out.lt; rw [← HHA.out] at this; omega
            go_wp2_with (at_builtin; refine list_el (v := .slice A' nG c') info_seg rfl (by decide) (by decide) rfl _ _ _ rfl Try.underlying26 rfl HO.out (below_tr hb2 hba) hEW _ _ rfl HTS.out (Box.new wr _ _) HFx.out (by rw [HNG.out]; omega) ?_; rw [HNG.out]; intro A7 c7 W9 hO7 hgr hvb; have HBn := Lib.hid ((HBEb.out.below hba).grown hgr (fun h => by have := hvb _ h; omega)); have t3n := HBn.out.cell 3 (.slice A' nG c') rfl; have f3n := HBn.out.frz 3; have g3n := HBn.out.lt; have HGR := Lib.hid hgr; clear hgr)
            go_roundg (x.Segments.length - (k + 1))
            case rel =>
              refine ⟨k + 1, A7, c7, by omega, by go_num, by rw [HAS.out]; try go_num, by rw [HGN.out]; try go_num, Lib.hid ?_, Lib.hid ?_, (below_grow HE.out Hb2.out hba HGR.out hvb)⟩
              · rw [HGe.out, List.length_append, List.length_singleton, HNG.out]
                simpa using HBn.out.set 3 (.slice A7 (nG + 1) c7)
              · rw [HGe.out, List.length_append, List.length_singleton, HNG.out]
                exact hO7.setc _ _ _ (by omega)
            case measure => omega
        obtain ⟨b, hyb⟩ : ∃ b, y.Batches[m]? = some b := ⟨_, List.getElem?_eq_getElem hmt⟩
        have hbL := HCL.out y HYM.out b (List.mem_of_getElem? hyb)
        obtain ⟨⟨bp0, bp1⟩, ⟨bb0, bb1⟩, ⟨bs0, bs1⟩, bn0, bn1⟩ := HCO.out b hbL
        have HRS := Lib.hid (HSM.out b hbL).2
        have hat := HAT.out k m y b HY.out hyb
        have hatl := (List.getElem?_eq_some_iff.1 hat).1
        have HHAT := Lib.hid hat
        have hMG : ∃ gs, M[atS x.Segments k + m]? = some gs ∧ gs.length = b.Records.length ∧ ∀ (q : Nat) (r : Record), b.Records[q]? = some r → gs[q]? = some (goesF tt (now - keep) b (kB tt b (b.Records.drop (q + 1)) (q + 1) ++ kL tt (L.drop (atS x.Segments k + m + 1))) q r) := by
          rw [← HMM.out]
          unfold cpMat
          rw [HLL.out]
          refine ⟨_, matF_get tt (now - keep) L _ b hat, by rw [rowF_len], fun q r hq => ?_⟩
          have := rowF_get tt (now - keep) b (kL tt (L.drop (atS x.Segments k + m + 1))) b.Records 0 q r hq
          simpa using this
        obtain ⟨gs, hgs, hgl, hgq⟩ := hMG
        have HGQ := Lib.hid hgq
        have HCT := Lib.hid (show cpL M (y.Batches.take (m + 1)) (atS x.Segments k) = cpL M (y.Batches.take m) (atS x.Segments k) ++ cpOut b (cpS b gs b.Records.length) b.Records.length by rw [cpL_take hyb, hgs]; rfl)
        have hXl : (cpL M (y.Batches.take m) (atS x.Segments k)).length ≤ 16000 := by
          have h1 := cpL_len M (y.Batches.take m) (atS x.Segments k) (fun q hq => (HCO.out q (HCL.out y HYM.out q (List.mem_of_mem_take hq))).2.2.2.2)
          rw [List.length_take] at h1
          have h2 := hatl
          have : y.Batches.length ≤ 400 := by
            have h3 : (y.Batches).length ≤ (allB x).length := by
              unfold allB
              have := List.getElem?_eq_some_iff.1 HY.out
              obtain ⟨h4, h5⟩ := this
              rw [List.length_flatMap]
              exact sumF_mem (f := fun s : Segment => s.Batches.length) HYM.out
            rw [HLL.out] at h3
            omega
          omega
        obtain ⟨adb, b', A6, c6, rfl, hbx, r0, r1, r2, r3, r4, r5, r6, l6, g6⟩ := Batch.at HRB.out (atS x.Segments k + m) hatl
        replace r0 := later (below_tr HbA.out hb2) r0
        replace r1 := later (below_tr HbA.out hb2) r1
        replace r2 := later (below_tr HbA.out hb2) r2
        replace r3 := later (below_tr HbA.out hb2) r3
        replace r4 := later (below_tr HbA.out hb2) r4
        replace r5 := later (below_tr HbA.out hb2) r5
        replace r6 := later (below_tr HbA.out hb2) r6
        obtain rfl : b' = b := by rw [hat] at hbx; exact (Option.some.inj hbx).symm
        have HGL := Lib.hid hgl
        clear hyb hbL hat hgs hgl hgq hbx
        generalize hatm : atS x.Segments k + m = at_ at *
        have HATM := Lib.hid hatm
        clear hatm
        have B18 := Blk.new wr #[.int .i64 b'.Base, .int .i64 b'.Epoch, .int .i64 b'.Producer, .int .i64 b'.Turn, .int .i64 b'.Seq, .int .i64 b'.Flags, .slice A6 b'.Records.length c6] 48
        have hb18 := below_al wr (.cells #[.int .i64 b'.Base, .int .i64 b'.Epoch, .int .i64 b'.Producer, .int .i64 b'.Turn, .int .i64 b'.Seq, .int .i64 b'.Flags, .slice A6 b'.Records.length c6] 48)
        obtain ⟨H18, hH18⟩ : ∃ n, n = wr.heap.size := ⟨_, rfl⟩
        have hH8 : H < H18 := by have := HBH.out.lt; omega
        have HX9 := Lib.hid (OwnX.of (X := [H18]) HOX.out.toR hb18 (by simp; omega))
        have HBH9 := Lib.hid (HBH.out.below hb18)
        have hb9 := below_tr hb2 hb18
        have HG6 := Lib.hid g6
        go_upto_region 13 with fail
        clear r0 r1 r2 r3 r4 r5 r6
        rw [← hH18] at B18 ⊢
        have HH18 := Lib.hid hH18
        clear hH18 hb18 g6
        generalize wr.alloc (.cells #[.int .i64 b'.Base, .int .i64 b'.Epoch, .int .i64 b'.Producer, .int .i64 b'.Turn, .int .i64 b'.Seq, .int .i64 b'.Flags, .slice A6 b'.Records.length c6] 48) = W9 at B18 HX9 HBH9 hb9 ⊢
        generalize cpL M (y.Batches.take m) (atS x.Segments k) = X at HX9 HBH9 HCT hXl HOX HBH ⊢
        generalize hNn : cpN M (x.Segments.take k) 0 = Nn at hnn ⊢
        have HNn := Lib.hid hNn
        clear hNn
        clear HOX HBH hb2 hs2
        go_upto_region 15 with fail
        go_loopg [13, 17, 18] b'.Records.length (fun g v13 v17 v18 wr3 => ∃ (i : Nat) (Ao : Option Addr) (co : Nat) (op : Bool), i + g = b'.Records.length ∧ v18 = .int .i64 i ∧ v17 = .bool op ∧ Hid (op = (cpS b' gs i).2.isSome) ∧ v13 = .int .i64 ((Nn + (X ++ cpOut b' (cpS b' gs i) i).length : Nat) : Int) ∧ Hid (Blk wr3 H #[.int .i64 y.Base, .slice Ao (X ++ cpOut b' (cpS b' gs i) i).length co] 45) ∧ Hid (OwnX kBatchE 48 (H + 1) [H18] wr3 (X ++ cpOut b' (cpS b' gs i) i) (.slice Ao (X ++ cpOut b' (cpS b' gs i) i).length co)) ∧ Hid (Blk wr3 H18 #[.int .i64 b'.Base, .int .i64 b'.Epoch, .int .i64 b'.Producer, .int .i64 b'.Turn, .int .i64 b'.Seq, .int .i64 b'.Flags, .slice A6 b'.Records.length c6] 48) ∧ Below WA.heap.size WA wr3)
        case atStart =>
          have h0 : X ++ cpOut b' (cpS b' gs 0) 0 = X := by simp [cpOut, cpS]
          exact ⟨0, Ao, co, false, by omega, rfl, rfl, Lib.hid rfl, by rw [h0], by rw [h0]; exact HBH9, by rw [h0]; exact HX9, Lib.hid B18, hb9⟩
        case round =>
          clear B18 HX9 HBH9 hb9
          obtain ⟨i, Ao, co, op, hi, rfl, rfl, HOP, rfl, HBH, HOX, HB18, hb⟩ := hrel
          have hol := cpOut_len (b := b') (g := gs) i
          have hXo : (X ++ cpOut b' (cpS b' gs i) i).length ≤ 17000 := by rw [List.length_append]; omega
          generalize hZ : X ++ cpOut b' (cpS b' gs i) i = Z1 at HBH HOX hXo ⊢
          have HZ := Lib.hid hZ
          clear hZ hol
          have q6 : wr.cell? ⟨H18, 6, none⟩ = some (.slice A6 b'.Records.length c6) := HB18.out.cell 6 _ rfl
          have hatc : ((at_ : Nat) : Int) + 1 = ((atS x.Segments k + (m + 1) : Nat) : Int) := by have := HATM.out; omega
          by_cases hit : i < b'.Records.length
          case neg =>
            obtain rfl : i = b'.Records.length := by omega
            have HCN : Hid (cpL M (y.Batches.take (m + 1)) (atS x.Segments k) = Z1) := Lib.hid (by rw [HCT.out, HZ.out])
            go_wp2
            go_roundg (y.Batches.length - (m + 1))
            case rel => exact ⟨m + 1, Ao, co, by omega, by go_num, by first | (rw [← hatc]; try go_num) | go_num, by rw [HCN.out, HNn.out], by rw [HCN.out]; exact HBH, by rw [HCN.out]; exact Lib.hid ⟨_, HOX.out.choose_spec.1, HOX.out.choose_spec.2.1, fun b hb' => ⟨(HOX.out.choose_spec.2.2.1 b hb').1, by simp⟩, HOX.out.choose_spec.2.2.2⟩, hb⟩
            case measure => omega
          obtain ⟨adr, r, A5, c5, rfl, hrx, p0, p1, p2, p3, p4, p5, l5, g5⟩ := Record.at (Row_below HG6.out (below_tr HbA.out hb)) i hit
          have HG5 := Lib.hid g5
          have hr5 := (HRS.out r (List.mem_of_getElem? hrx)).2.2.1
          have hgi := HGQ.out i r hrx
          have HRX := Lib.hid hrx
          generalize hgv : goesF tt (now - keep) b' (kB tt b' (b'.Records.drop (i + 1)) (i + 1) ++ kL tt (L.drop (at_ + 1))) i r = gv at hgi
          have HGV := Lib.hid hgv
          have HGI := Lib.hid hgi
          clear hgv hgi hrx g5
          have HCALL := Lib.hid (l4Goes_c wr L hcb (Row_below HRB.out (below_tr HbA.out hb)) hll HFO.out (fun b hb => (HSM.out b hb).1) at_ i tt now keep b' r HHAT.out HRX.out HNK.out.1 HNK.out.2)
          have hbn : i + 1 ≤ 40 := by omega
          have hrc := HB18.out.lt
          cases gv with
          | true =>
            have HGN := Lib.hid (cpOut_gone (b := b') (g := gs) (k := i) (by rw [HGI.out]; simp))
            have HPN := Lib.hid (show (cpS b' gs (i + 1)).2 = none by rw [cpS_gone (by rw [HGI.out]; simp)])
            go_wp2_with (go_at_call 20; refine HCALL.out.mono ?_; rintro e W5 ⟨rfl, hb5⟩; rw [HGV.out])
            go_roundg (b'.Records.length - (i + 1))
            case rel => exact ⟨i + 1, Ao, co, false, by omega, by go_num, rfl, Lib.hid (by rw [HPN.out]; rfl), by rw [HGN.out, HZ.out]; first | rfl | go_num, by rw [HGN.out, HZ.out]; exact Lib.hid (HBH.out.below hb5), by rw [HGN.out, HZ.out]; exact Lib.hid (HOX.out.below hb5), Lib.hid (HB18.out.below hb5), below_tr hb hb5⟩
            case measure => omega
          | false =>
            go_upto_region 19 with (go_at_call 20; refine HCALL.out.mono ?_; rintro e W5 ⟨rfl, hb5⟩; rw [HGV.out])
            clear p0 p1 p2 p3 p4 p5 q6 HCALL
            have HBH5 := HBH.out.below hb5
            have HOX5 := HOX.out.below hb5
            have HB185 := HB18.out.below hb5
            have hbA5 := below_tr hb hb5
            have hs5 := hbA5.size
            rw [← HHA.out] at hs5
            clear HBH HOX HB18
            cases op
            case' true =>
              obtain ⟨i0, hi0⟩ : ∃ i0, (cpS b' gs i).2 = some i0 := Option.isSome_iff_exists.1 HOP.out.symm
              have hle := cpS_le i i0 hi0
              have hle : i0 ≤ i := by omega
              obtain ⟨h1, h2, h3⟩ := cpOut_next HGI.out hi0
              have HFIN : Hid (X ++ cpOut b' (cpS b' gs (i + 1)) (i + 1) = (X ++ (cpS b' gs i).1) ++ [mkB b' i0 (i + 1)]) := Lib.hid (by rw [h2, List.append_assoc])
              have HZe : Hid (Z1 = (X ++ (cpS b' gs i).1) ++ [mkB b' i0 i]) := Lib.hid (by rw [← HZ.out, h1, List.append_assoc])
              have HPN := Lib.hid h3
              clear hi0 h1 h2 h3 HOP
              generalize X ++ (cpS b' gs i).1 = Z at HFIN HZe
              have HZl : Hid (Z1.length = Z.length + 1) := Lib.hid (by rw [HZe.out, List.length_append, List.length_singleton])
              rw [HZl.out] at hXo HBH5 HOX5
              rw [HZe.out] at HOX5
              have hZb : Z.length ≤ 17000 := by omega
              have HOX6 := Lib.hid HOX5
              have HBH6 := Lib.hid HBH5
              have HB186 := Lib.hid HB185
              have HbA6 := Lib.hid hbA5
              clear HOX5 HBH5 HB185 hbA5 hs5 hXo
              obtain ⟨A2, hA2⟩ : ∃ q, q = Ao := ⟨_, rfl⟩
              subst hA2
              obtain ⟨c2, hc2⟩ : ∃ q, q = co := ⟨_, rfl⟩
              subst hc2
              obtain ⟨WB, hWB⟩ : ∃ q, q = W5 := ⟨_, rfl⟩
              subst hWB
              rw [HZl.out]
              clear HZl HZe HZ
              go_upto_region 28 with fail
            case' false =>
              obtain ⟨Z, hZ1⟩ : ∃ q, q = Z1 := ⟨_, rfl⟩
              subst hZ1
              have hZb := hXo
              have hi0 : (cpS b' gs i).2 = none := by
                cases h : (cpS b' gs i).2 with
                | none => rfl
                | some q => have := HOP.out; rw [h] at this; cases this
              have hfst := cpOut_first HGI.out hi0
              have HFIN : Hid (X ++ cpOut b' (cpS b' gs (i + 1)) (i + 1) = Z ++ [mkB b' i (i + 1)]) := Lib.hid (by rw [hfst, ← List.append_assoc, HZ.out])
              have HPN : Hid ((cpS b' gs (i + 1)).2 = some i) := Lib.hid (by rw [cpS_keep HGI.out, hi0]; rfl)
              clear hi0 hfst HOP
              have a0 := HB185.cell 0 _ rfl
              have a1 := HB185.cell 1 _ rfl
              have a2 := HB185.cell 2 _ rfl
              have a3 := HB185.cell 3 _ rfl
              have a4 := HB185.cell 4 _ rfl
              have a5 := HB185.cell 5 _ rfl
              have a6 := HB185.cell 6 _ rfl
              have BX := Blk.new W5 #[.int .i64 b'.Base, .int .i64 b'.Epoch, .int .i64 b'.Producer, .int .i64 b'.Turn, .int .i64 b'.Seq, .int .i64 b'.Flags, .slice (some adr) b'.Records.length c6] 48
              have hbx := below_al W5 (.cells #[.int .i64 b'.Base, .int .i64 b'.Epoch, .int .i64 b'.Producer, .int .i64 b'.Turn, .int .i64 b'.Seq, .int .i64 b'.Flags, .slice (some adr) b'.Records.length c6] 48)
              obtain ⟨G1, hG1⟩ : ∃ n, n = W5.heap.size := ⟨_, rfl⟩
              have hHG : H18 < G1 := by have := HB185.lt; omega
              go_upto_region 21 with fail
              clear a0 a1 a2 a3 a4 a5 a6
              have HB186 := HB185.below hbx
              generalize W5.alloc (.cells #[.int .i64 b'.Base, .int .i64 b'.Epoch, .int .i64 b'.Producer, .int .i64 b'.Turn, .int .i64 b'.Seq, .int .i64 b'.Flags, .slice (some adr) b'.Records.length c6] 48) = W6 at BX hbx HB186 ⊢
              rw [← hG1] at BX ⊢
              have hG1l : W5.heap.size ≤ G1 := by omega
              clear hG1
              have z0 := HB186.cell 0 _ rfl
              have x0 := BX.cell 0 _ rfl
              have f0 := BX.frz 0
              have hg := BX.lt
              go_upto_region 22 with fail
              have BX2 : Blk (W6.setCell ⟨G1, 0, none⟩ (.int .i64 (b'.Base + (i : Int)))) G1 #[.int .i64 (b'.Base + (i : Int)), .int .i64 b'.Epoch, .int .i64 b'.Producer, .int .i64 b'.Turn, .int .i64 b'.Seq, .int .i64 b'.Flags, .slice (some adr) b'.Records.length c6] 48 := by simpa using BX.set 0 (.int .i64 (b'.Base + (i : Int)))
              have hbx2 := hbx.setCell (p := ⟨G1, 0, none⟩) (by simp; omega) (.int .i64 (b'.Base + (i : Int)))
              have HB187 := HB186.far G1 0 (.int .i64 (b'.Base + (i : Int))) (by omega)
              clear z0 x0 f0 hg HB186 BX hbx
              generalize W6.setCell ⟨G1, 0, none⟩ (.int .i64 (b'.Base + (i : Int))) = W7 at BX2 hbx2 HB187 ⊢
              have z2 := HB187.cell 2 _ rfl
              have z4 := HB187.cell 4 _ rfl
              have x4 := BX2.cell 4 _ rfl
              have f4 := BX2.frz 4
              have hg := BX2.lt
              by_cases hP : 0 ≤ b'.Producer
              case' pos =>
                go_upto_region 24 with fail
                have BX3 : Blk (W7.setCell ⟨G1, 4, none⟩ (.int .i64 (b'.Seq + (i : Int)))) G1 #[.int .i64 (b'.Base + (i : Int)), .int .i64 b'.Epoch, .int .i64 b'.Producer, .int .i64 b'.Turn, .int .i64 (b'.Seq + (i : Int)), .int .i64 b'.Flags, .slice (some adr) b'.Records.length c6] 48 := by simpa using BX2.set 4 (.int .i64 (b'.Seq + (i : Int)))
                have hbx3 := hbx2.setCell (p := ⟨G1, 4, none⟩) (by simp; omega) (.int .i64 (b'.Seq + (i : Int)))
                have HB188 := HB187.far G1 4 (.int .i64 (b'.Seq + (i : Int))) (by omega)
                have HMK : Hid (mkB b' i i = ⟨b'.Base + i, b'.Epoch, b'.Producer, b'.Turn, b'.Seq + i, b'.Flags, []⟩) := Lib.hid (by unfold mkB; rw [if_pos hP]; simp)
                clear z2 z4 x4 f4 hg BX2 hbx2 HB187
                generalize b'.Seq + (i : Int) = sq at BX3 hbx3 HMK HB188 ⊢
                generalize W7.setCell ⟨G1, 4, none⟩ (.int .i64 sq) = W8 at BX3 hbx3 HB188 ⊢
              case' neg =>
                go_upto_region 24 with fail
                obtain ⟨sq, hsq⟩ : ∃ q, b'.Seq = q := ⟨_, rfl⟩
                have BX3 : Blk W7 G1 #[.int .i64 (b'.Base + (i : Int)), .int .i64 b'.Epoch, .int .i64 b'.Producer, .int .i64 b'.Turn, .int .i64 sq, .int .i64 b'.Flags, .slice (some adr) b'.Records.length c6] 48 := by rw [← hsq]; exact BX2
                have hbx3 := hbx2
                have HB188 := HB187
                have HMK : Hid (mkB b' i i = ⟨b'.Base + i, b'.Epoch, b'.Producer, b'.Turn, sq, b'.Flags, []⟩) := Lib.hid (by unfold mkB; rw [if_neg hP, hsq]; simp)
                clear z2 z4 x4 f4 hg BX2 hbx2 HB187 hsq
                generalize W7 = W8 at BX3 hbx3 HB188 ⊢
              all_goals
                have BX3b := BX3.below (below_al W8 (.cells #[] 53))
                have x6 := BX3b.cell 6 _ rfl
                have f6 := BX3b.frz 6
                have hg := BX3b.lt
                obtain ⟨G2, hG2⟩ : ∃ n, n = W8.heap.size := ⟨_, rfl⟩
                go_upto_region 25 with fail
                rw [← hG2]
                clear x6 f6 hg
                have hO2 := (lit_own (d := kRecord) (e := 53) W8).setc G1 6 (.slice (some ⟨G2, 0, none⟩) 0 0) BX3.lt
                rw [← hG2] at hO2
                have BX4 : Blk ((W8.alloc (.cells #[] 53)).setCell ⟨G1, 6, none⟩ (.slice (some ⟨G2, 0, none⟩) 0 0)) G1 #[.int .i64 (b'.Base + (i : Int)), .int .i64 b'.Epoch, .int .i64 b'.Producer, .int .i64 b'.Turn, .int .i64 sq, .int .i64 b'.Flags, .slice (some ⟨G2, 0, none⟩) 0 0] 48 := by simpa using BX3b.set 6 (.slice (some ⟨G2, 0, none⟩) 0 0)
                have hbx4 := (below_tr hbx3 (below_al W8 (.cells #[] 53))).setCell (p := ⟨G1, 6, none⟩) (by simp; omega) (.slice (some ⟨G2, 0, none⟩) 0 0)
                have HB189 := Lib.hid ((HB188.below (below_al W8 (.cells #[] 53))).far G1 6 (.slice (some ⟨G2, 0, none⟩) 0 0) (by omega))
                have hG2l : W5.heap.size ≤ G2 := by rw [hG2]; exact hbx3.size
                clear BX3 hbx3 HB188 hG2 BX3b
                generalize (W8.alloc (.cells #[] 53)).setCell ⟨G1, 6, none⟩ (.slice (some ⟨G2, 0, none⟩) 0 0) = W9 at BX4 hbx4 HB189 hO2 ⊢
                have s1 : W9.cell? ⟨H, 1, none⟩ = some (.slice Ao Z.length co) := (HBH5.below hbx4).cell 1 _ rfl
                have e0 : W9.cell? ⟨G1, 0, none⟩ = some (.int .i64 (b'.Base + (i : Int))) := BX4.cell 0 _ rfl
                have e1 : W9.cell? ⟨G1, 1, none⟩ = some (.int .i64 b'.Epoch) := BX4.cell 1 _ rfl
                have e2 : W9.cell? ⟨G1, 2, none⟩ = some (.int .i64 b'.Producer) := BX4.cell 2 _ rfl
                have e3 : W9.cell? ⟨G1, 3, none⟩ = some (.int .i64 b'.Turn) := BX4.cell 3 _ rfl
                have e4 : W9.cell? ⟨G1, 4, none⟩ = some (.int .i64 sq) := BX4.cell 4 _ rfl
                have e5 : W9.cell? ⟨G1, 5, none⟩ = some (.int .i64 b'.Flags) := BX4.cell 5 _ rfl
                have e6 : W9.cell? ⟨G1, 6, none⟩ = some (.slice (some ⟨G2, 0, none⟩) 0 0) := BX4.cell 6 _ rfl
                have hba := below_al W9 (.cells #[.int .i64 (b'.Base + (i : Int)), .int .i64 b'.Epoch, .int .i64 b'.Producer, .int .i64 b'.Turn, .int .i64 sq, .int .i64 b'.Flags, .slice (some ⟨G2, 0, none⟩) 0 0] 48)
                have XB := Box.new W9 #[.int .i64 (b'.Base + (i : Int)), .int .i64 b'.Epoch, .int .i64 b'.Producer, .int .i64 b'.Turn, .int .i64 sq, .int .i64 b'.Flags, .slice (some ⟨G2, 0, none⟩) 0 0] 48
                obtain ⟨F7, hT7, hN7, hG7, hE7⟩ := hO2
                have HF7 : Hid (Fresh W5 F7) := Lib.hid ⟨hN7, fun q hq => by have := hG7 q hq; omega⟩
                have HTr := Lib.hid (BatchE.mkT (W9.alloc (.cells #[.int .i64 (b'.Base + (i : Int)), .int .i64 b'.Epoch, .int .i64 b'.Producer, .int .i64 b'.Turn, .int .i64 sq, .int .i64 b'.Flags, .slice (some ⟨G2, 0, none⟩) 0 0] 48)) ⟨b'.Base + i, b'.Epoch, b'.Producer, b'.Turn, sq, b'.Flags, []⟩ (TS_below hT7 hba) (hE7.below hba))
                have hb9a := below_tr hbx4 hba
                have HOX5h := Lib.hid HOX5
                have HBH5h := Lib.hid HBH5
                have hHl := HBH5.lt
                have h5x : ∀ q ∈ [H18], q < W5.heap.size := by simp; exact HB185.lt
                have H5X := Lib.hid h5x
                clear hT7 hN7 hG7 hE7 HOX5 HBH5 h5x
                go_upto_region 26 with (at_builtin; refine list_elX (v := .slice Ao Z.length co) info_batch rfl (by decide) (by decide) rfl _ _ _ rfl Try.underlying42 rfl HOX5h.out hb9a (by omega) H5X.out _ _ rfl HTr.out XB HF7.out (by omega) ?_; intro A2 c2 W10 hOX10 hbx10; have HBH10 := ((HBH5h.out.below hb9a).bx hbx10 (.inl (Nat.lt_succ_self _))); have t1 := HBH10.cell 1 (.slice Ao Z.length co) rfl; have tf := HBH10.frz 1; have tl := HBH10.lt)
                have HOX6 : Hid (OwnX kBatchE 48 (H + 1) [H18] (W10.setCell ⟨H, 1, none⟩ (.slice A2 (Z.length + 1) c2)) (Z ++ [mkB b' i i]) (.slice A2 (Z.length + 1) c2)) := Lib.hid (by rw [HMK.out]; exact hOX10.setc H 1 _ (.inl (Nat.lt_succ_self _)))
                have HBH6 : Hid (Blk (W10.setCell ⟨H, 1, none⟩ (.slice A2 (Z.length + 1) c2)) H #[.int .i64 y.Base, .slice A2 (Z.length + 1) c2] 45) := Lib.hid (by simpa using HBH10.set 1 (.slice A2 (Z.length + 1) c2))
                have HB186 := Lib.hid (((HB189.out.below hba).bx hbx10 (.inr (by simp))).far H 1 (.slice A2 (Z.length + 1) c2) (by omega))
                have HbA6 := Lib.hid (((below_tr hbA5 hb9a).trans (hbx10.bel.mono (by have := HHA.out; omega))).setCell (p := ⟨H, 1, none⟩) (by have := HHA.out; simp; omega) (.slice A2 (Z.length + 1) c2))
                clear t1 tf tl HBH10 hOX10 hbx10 hb9a HTr XB hba s1 e0 e1 e2 e3 e4 e5 e6 BX4 hbx4 HB189 HF7 HOX5h HBH5h hHl H5X HMK hbA5 hs5 hXo hG1l hG2l hHG
                generalize W10.setCell ⟨H, 1, none⟩ (.slice A2 (Z.length + 1) c2) = WB at HOX6 HBH6 HB186 HbA6 ⊢
                obtain ⟨i0, hi0⟩ : ∃ q, q = i := ⟨_, rfl⟩
                have hle : i0 ≤ i := by omega
                have HOX6 : Hid (OwnX kBatchE 48 (H + 1) [H18] WB (Z ++ [mkB b' i0 i]) (.slice A2 (Z.length + 1) c2)) := Lib.hid (by rw [hi0]; exact HOX6.out)
                have HFIN : Hid (X ++ cpOut b' (cpS b' gs (i + 1)) (i + 1) = Z ++ [mkB b' i0 (i + 1)]) := Lib.hid (by rw [hi0]; exact HFIN.out)
                have HPN : Hid ((cpS b' gs (i + 1)).2 = some i0) := Lib.hid (by rw [hi0]; exact HPN.out)
                clear hi0
                go_upto_region 28 with fail
            all_goals
              obtain ⟨gb, cb2, A8, c8, e8, hv6, hcb1, hcb2⟩ := HOX6.out.last
              simp only [Value.slice.injEq, true_and] at e8
              obtain ⟨rfl, rfl⟩ := e8
              have s1 : WB.cell? ⟨H, 1, none⟩ = some (.slice (some ⟨gb, 0, none⟩) (Z.length + 1) c2) := HBH6.out.cell 1 _ rfl
              have HV6 := Lib.hid hv6
              clear hv6
              have hyl : (mkB b' i0 i).Records.length ≤ 40 := by unfold mkB; simp; omega
              have HRECS := Lib.hid (mkB_next (b := b') HRX.out hle)
              have HREC : Hid (mkB b' i0 (i + 1) = ⟨(mkB b' i0 i).Base, (mkB b' i0 i).Epoch, (mkB b' i0 i).Producer, (mkB b' i0 i).Turn, (mkB b' i0 i).Seq, (mkB b' i0 i).Flags, (mkB b' i0 i).Records ++ [r]⟩) := Lib.hid (by rw [← HRECS.out]; rfl)
              rw [HREC.out] at HFIN
              clear HRECS HREC
              generalize mkB b' i0 i = y0 at HOX6 HV6 hyl HFIN
              go_upto_region 29 with fail
              have q6 : WB.cell? ⟨H18, 6, none⟩ = some (.slice (some adr) b'.Records.length c6) := HB186.out.cell 6 _ rfl
              obtain ⟨adq, rq, A5q, c5q, eq, hrq, p0, p1, p2, p3, p4, p5, l5q, g5q⟩ := Record.at (Row_below HG6.out (below_tr HbA.out HbA6.out)) i hit
              simp only [Option.some.injEq] at eq
              subst eq
              obtain rfl : rq = r := by rw [HRX.out] at hrq; exact (Option.some.inj hrq).symm
              clear hrq s1
              have X1 := Blk.new WB #[.int .i64 rq.Time, .bool rq.Keyed, .string rq.Key, .bool rq.Gone, .string rq.Value, .slice A5q rq.Heads.length c5q] 53
              have hb1 := below_al WB (.cells #[.int .i64 rq.Time, .bool rq.Keyed, .string rq.Key, .bool rq.Gone, .string rq.Value, .slice A5q rq.Heads.length c5q] 53)
              obtain ⟨G3, hG3⟩ : ∃ n, n = WB.heap.size := ⟨_, rfl⟩
              go_upto_region 30 with fail
              clear p0 p1 p2 p3 p4 p5 q6
              have HG5q := Lib.hid (Row_below g5q hb1)
              clear g5q
              generalize WB.alloc (.cells #[.int .i64 rq.Time, .bool rq.Keyed, .string rq.Key, .bool rq.Gone, .string rq.Value, .slice A5q rq.Heads.length c5q] 53) = W20 at X1 hb1 HG5q ⊢
              rw [← hG3] at X1 ⊢
              have hG3l : WB.heap.size ≤ G3 := by omega
              have hX1l := X1.lt
              clear hG3
              have X2 := X1.below (below_al W20 (.cells #[] 127))
              have a5 : (W20.alloc (.cells #[] 127)).cell? ⟨G3, 5, none⟩ = some (.slice A5q rq.Heads.length c5q) := X2.cell 5 _ rfl
              have z5 := X2.frz 5
              have hGl := X2.lt
              go_upto_region 31 with (at_builtin; refine list_flat (v := .slice (some ⟨W20.heap.size, 0, none⟩) 0 0) info_head rfl (by decide) (by decide) head_flat rfl _ _ _ rfl Try.underlying51 rfl (lit_KO W20) rfl (Row_below HG5q.out (below_al _ _)) hr5 (by simp) ?_; intro A6h c6h W21 hO5 hgr hvb; have X3 := X2.grown hgr (by simp [Value.ownBlock]; have := X1.lt; omega); have a6 : W21.cell? ⟨G3, 5, none⟩ = some (.slice A5q rq.Heads.length c5q) := X3.cell 5 _ rfl; have z6 := X3.frz 5; have hGl2 := X3.lt; have HGR := Lib.hid hgr; clear hgr; have HO5 := Lib.hid hO5; clear hO5)
              have HBW21 : Hid (Below W20.heap.size W20 W21) := Lib.hid ((below_al W20 (.cells #[] 127)).grown HGR.out (by simp) (fun k hk => by simp [Value.ownBlock] at hk; omega))
              clear hvb HGR
              have X4 := X3.set 5 (.slice A6h rq.Heads.length c6h)
              have hbB := (below_tr hb1 HBW21.out).setCell (p := ⟨G3, 5, none⟩) hG3l (.slice A6h rq.Heads.length c6h)
              have HO6 := Lib.hid (HO5.out.setc G3 5 (.slice A6h rq.Heads.length c6h) hX1l)
              have hW20 : WB.heap.size ≤ W20.heap.size := hb1.size
              clear a6 z6 hGl2 HO5 X3 a5 z5 hGl HG5q hb1 X1 X2 HBW21
              generalize W21.setCell ⟨G3, 5, none⟩ (.slice A6h rq.Heads.length c6h) = W22 at X4 hbB HO6 ⊢
              have X5 : Blk W22 G3 #[.int .i64 rq.Time, .bool rq.Keyed, .string rq.Key, .bool rq.Gone, .string rq.Value, .slice A6h rq.Heads.length c6h] 53 := by simpa using X4
              have HOX7 := Lib.hid (HOX6.out.more (Below.refl _ _) hG3l)
              have HV7 : W22.cell? ⟨gb, Z.length * 7 + 6, none⟩ = some (.slice A8 y0.Records.length c8) := later hbB HV6.out
              have hBs : H + 1 ≤ WB.heap.size := HBH6.out.lt
              have HX5 := Lib.hid X5
              obtain ⟨F7, hT7, hN7, hG7, _⟩ := HO6.out
              have BL1 := Lib.hid (show Below W22.heap.size W22 (W22.drew.alloc (.cells #[.int .i64 rq.Time, .bool rq.Keyed, .string rq.Key, .bool rq.Gone, .string rq.Value, .slice A6h rq.Heads.length c6h] 53)) from below_tr (Below.refl _ _).drew (below_al _ _))
              have BX1 := Lib.hid (show Box (W22.drew.alloc (.cells #[.int .i64 rq.Time, .bool rq.Keyed, .string rq.Key, .bool rq.Gone, .string rq.Value, .slice A6h rq.Heads.length c6h] 53)) W22.heap.size #[.int .i64 rq.Time, .bool rq.Keyed, .string rq.Key, .bool rq.Gone, .string rq.Value, .slice A6h rq.Heads.length c6h] from Box.new W22.drew _ _)
              have HTr := Lib.hid (Record.mkT (W22.drew.alloc (.cells #[.int .i64 rq.Time, .bool rq.Keyed, .string rq.Key, .bool rq.Gone, .string rq.Value, .slice A6h rq.Heads.length c6h] 53)) rq (TS_below hT7 BL1.out))
              have S0 : W22.drew.cell? ⟨gb, Z.length * 7 + 6, none⟩ = some (.slice A8 y0.Records.length c8) ∧ W22.drew.cell? ⟨G3, 0, none⟩ = some (.int .i64 rq.Time) ∧ W22.drew.cell? ⟨G3, 1, none⟩ = some (.bool rq.Keyed) ∧ W22.drew.cell? ⟨G3, 2, none⟩ = some (.string rq.Key) ∧ W22.drew.cell? ⟨G3, 3, none⟩ = some (.bool rq.Gone) ∧ W22.drew.cell? ⟨G3, 4, none⟩ = some (.string rq.Value) ∧ W22.drew.cell? ⟨G3, 5, none⟩ = some (.slice A6h rq.Heads.length c6h) := ⟨HV7, X5.cell 0 _ rfl, X5.cell 1 _ rfl, X5.cell 2 _ rfl, X5.cell 3 _ rfl, X5.cell 4 _ rfl, X5.cell 5 _ rfl⟩
              have HF7 : Hid (Fresh WB F7) := Lib.hid ⟨hN7, fun q hq => by have := hG7 q hq; omega⟩
              have hbT := below_tr hbB BL1.out
              have H7X := Lib.hid (show ∀ q ∈ [G3, H18], q < (W22.drew.alloc (.cells #[.int .i64 rq.Time, .bool rq.Keyed, .string rq.Key, .bool rq.Gone, .string rq.Value, .slice A6h rq.Heads.length c6h] 53)).heap.size ∧ q ∉ F7 from by
                have h2 := HB186.out.lt
                have h3 := BL1.out.size
                have h4 := X5.lt
                have h5 := hbB.size
                intro q hq
                refine ⟨?_, fun hh => ?_⟩
                · simp at hq; rcases hq with rfl | rfl <;> omega
                · have := hG7 q hh; simp at hq; rcases hq with rfl | rfl <;> omega)
              clear X4 X5 hT7 hN7 hG7
              refine wp_region_T 10 (fun W => W.cell? ⟨gb, Z.length * 7 + 6, none⟩ = some (.slice A8 y0.Records.length c8) ∧ W.cell? ⟨G3, 0, none⟩ = some (.int .i64 rq.Time) ∧ W.cell? ⟨G3, 1, none⟩ = some (.bool rq.Keyed) ∧ W.cell? ⟨G3, 2, none⟩ = some (.string rq.Key) ∧ W.cell? ⟨G3, 3, none⟩ = some (.bool rq.Gone) ∧ W.cell? ⟨G3, 4, none⟩ = some (.string rq.Value) ∧ W.cell? ⟨G3, 5, none⟩ = some (.slice A6h rq.Heads.length c6h)) (by kernel_rfl) ?_
              refine wpAnyT_take (i := 0) (v := .pointer (some ⟨gb, Z.length * 7, none⟩)) rfl (by kernel_rfl) (fun _ _ _ h => h) (by rfl) (fun W hW => ?_) S0 ?_
              · obtain ⟨h1, h2, h3, h4, h5, h6, h7⟩ := hW
                have hl1 := World.block_lt_of_cell? W _ h1
                have hl2 := World.block_lt_of_cell? W _ h2
                go_simp
              try simp only [Act.put, List.setIfInBounds_toArray, List.set_cons_zero, List.set_cons_succ]
              refine wpAnyT_take (i := 1) (v := .pointer (some ⟨gb, Z.length * 7, none⟩)) rfl (by kernel_rfl) (fun _ _ _ h => h) (by rfl) (fun W hW => ?_) S0 ?_
              · obtain ⟨h1, h2, h3, h4, h5, h6, h7⟩ := hW
                have hl1 := World.block_lt_of_cell? W _ h1
                have hl2 := World.block_lt_of_cell? W _ h2
                go_simp
              try simp only [Act.put, List.setIfInBounds_toArray, List.set_cons_zero, List.set_cons_succ]
              refine wpAnyT_take (i := 2) (v := .pointer (some ⟨gb, Z.length * 7, none⟩)) rfl (by kernel_rfl) (fun _ _ _ h => h) (by rfl) (fun W hW => ?_) S0 ?_
              · obtain ⟨h1, h2, h3, h4, h5, h6, h7⟩ := hW
                have hl1 := World.block_lt_of_cell? W _ h1
                have hl2 := World.block_lt_of_cell? W _ h2
                go_simp
              try simp only [Act.put, List.setIfInBounds_toArray, List.set_cons_zero, List.set_cons_succ]
              refine wpAnyT_take (i := 3) (v := .pointer (some ⟨gb, Z.length * 7 + 6, none⟩)) rfl (by kernel_rfl) (fun _ _ _ h => h) (by rfl) (fun W hW => ?_) S0 ?_
              · obtain ⟨h1, h2, h3, h4, h5, h6, h7⟩ := hW
                have hl1 := World.block_lt_of_cell? W _ h1
                have hl2 := World.block_lt_of_cell? W _ h2
                go_simp
              try simp only [Act.put, List.setIfInBounds_toArray, List.set_cons_zero, List.set_cons_succ]
              refine wpAnyT_take (i := 4) (v := .slice A8 y0.Records.length c8) rfl (by kernel_rfl) (fun _ _ _ h => h) (by rfl) (fun W hW => ?_) S0 ?_
              · obtain ⟨h1, h2, h3, h4, h5, h6, h7⟩ := hW
                have hl1 := World.block_lt_of_cell? W _ h1
                have hl2 := World.block_lt_of_cell? W _ h2
                go_simp
              try simp only [Act.put, List.setIfInBounds_toArray, List.set_cons_zero, List.set_cons_succ]
              refine wpAnyT_take (i := 5) (v := .agg #[.int .i64 rq.Time, .bool rq.Keyed, .string rq.Key, .bool rq.Gone, .string rq.Value, .slice A6h rq.Heads.length c6h]) rfl (by kernel_rfl) (fun _ _ _ h => h) (by rfl) (fun W hW => ?_) S0 ?_
              · obtain ⟨h1, h2, h3, h4, h5, h6, h7⟩ := hW
                have hl1 := World.block_lt_of_cell? W _ h1
                have hl2 := World.block_lt_of_cell? W _ h2
                go_simp
              try simp only [Act.put, List.setIfInBounds_toArray, List.set_cons_zero, List.set_cons_succ]
              refine wpAnyT_one (i := 6) (by kernel_rfl) rfl (fun K hK => ?_)
              have hba := below_al W22.drew (.cells #[.int .i64 rq.Time, .bool rq.Keyed, .string rq.Key, .bool rq.Gone, .string rq.Value, .slice A6h rq.Heads.length c6h] 53)
              go_simp
              have S1 : (W22.drew.alloc (.cells #[.int .i64 rq.Time, .bool rq.Keyed, .string rq.Key, .bool rq.Gone, .string rq.Value, .slice A6h rq.Heads.length c6h] 53)).cell? ⟨gb, Z.length * 7 + 6, none⟩ = some (.slice A8 y0.Records.length c8) ∧ (W22.drew.alloc (.cells #[.int .i64 rq.Time, .bool rq.Keyed, .string rq.Key, .bool rq.Gone, .string rq.Value, .slice A6h rq.Heads.length c6h] 53)).cell? ⟨G3, 0, none⟩ = some (.int .i64 rq.Time) ∧ (W22.drew.alloc (.cells #[.int .i64 rq.Time, .bool rq.Keyed, .string rq.Key, .bool rq.Gone, .string rq.Value, .slice A6h rq.Heads.length c6h] 53)).cell? ⟨G3, 1, none⟩ = some (.bool rq.Keyed) ∧ (W22.drew.alloc (.cells #[.int .i64 rq.Time, .bool rq.Keyed, .string rq.Key, .bool rq.Gone, .string rq.Value, .slice A6h rq.Heads.length c6h] 53)).cell? ⟨G3, 2, none⟩ = some (.string rq.Key) ∧ (W22.drew.alloc (.cells #[.int .i64 rq.Time, .bool rq.Keyed, .string rq.Key, .bool rq.Gone, .string rq.Value, .slice A6h rq.Heads.length c6h] 53)).cell? ⟨G3, 3, none⟩ = some (.bool rq.Gone) ∧ (W22.drew.alloc (.cells #[.int .i64 rq.Time, .bool rq.Keyed, .string rq.Key, .bool rq.Gone, .string rq.Value, .slice A6h rq.Heads.length c6h] 53)).cell? ⟨G3, 4, none⟩ = some (.string rq.Value) ∧ (W22.drew.alloc (.cells #[.int .i64 rq.Time, .bool rq.Keyed, .string rq.Key, .bool rq.Gone, .string rq.Value, .slice A6h rq.Heads.length c6h] 53)).cell? ⟨G3, 5, none⟩ = some (.slice A6h rq.Heads.length c6h) := ⟨later hba S0.1, later hba S0.2.1, later hba S0.2.2.1, later hba S0.2.2.2.1, later hba S0.2.2.2.2.1, later hba S0.2.2.2.2.2.1, later hba S0.2.2.2.2.2.2⟩
              refine hK.out _ _ (fun _ => S1) ?_
              clear hK K
              try simp only [Act.put, List.setIfInBounds_toArray, List.set_cons_zero, List.set_cons_succ]
              refine wpAnyT_one (i := 7) (by kernel_rfl) rfl (fun K hK => ?_)
              refine step_rec info_rec rfl rfl (.tmp 126) (.tmp 128) 46 rfl Try.underlying46 rfl HOX7.out HV6.out hbT hBs rq H7X.out HTr.out HF7.out _ _ rfl BX1.out (by omega) ?_
              intro A9 c9 wa hOXa hbxa hbxs hva hfa hga
              have hXa : Blk wa G3 #[.int .i64 rq.Time, .bool rq.Keyed, .string rq.Key, .bool rq.Gone, .string rq.Value, .slice A6h rq.Heads.length c6h] 53 := (HX5.out.below BL1.out).bx hbxa (.inr (by simp))
              have S2 : wa.cell? ⟨gb, Z.length * 7 + 6, none⟩ = some (.slice A8 y0.Records.length c8) ∧ wa.cell? ⟨G3, 0, none⟩ = some (.int .i64 rq.Time) ∧ wa.cell? ⟨G3, 1, none⟩ = some (.bool rq.Keyed) ∧ wa.cell? ⟨G3, 2, none⟩ = some (.string rq.Key) ∧ wa.cell? ⟨G3, 3, none⟩ = some (.bool rq.Gone) ∧ wa.cell? ⟨G3, 4, none⟩ = some (.string rq.Value) ∧ wa.cell? ⟨G3, 5, none⟩ = some (.slice A6h rq.Heads.length c6h) := ⟨hva, hXa.cell 0 _ rfl, hXa.cell 1 _ rfl, hXa.cell 2 _ rfl, hXa.cell 3 _ rfl, hXa.cell 4 _ rfl, hXa.cell 5 _ rfl⟩
              have HQ1 := Lib.hid (hOXa.less (X' := [H18]) (by simp))
              have HQ2 := Lib.hid (hbxs.less (X' := [H18]) (by simp))
              refine hK.out _ _ (fun _ => S2) ?_
              clear hK K hOXa hbxa hbxs hXa
              try simp only [Act.put, List.setIfInBounds_toArray, List.set_cons_zero, List.set_cons_succ]
              refine wpAnyT_one (i := 8) (by kernel_rfl) rfl (fun K hK => ?_)
              go_simp
              refine hK.out _ _ (fun _ => S2) ?_
              clear hK K
              try simp only [Act.put, List.setIfInBounds_toArray, List.set_cons_zero, List.set_cons_succ]
              refine wpAnyT_one (i := 9) (by kernel_rfl) rfl (fun K hK => ?_)
              go_simp
              refine hK.out _ _ (fun _ => S2) ?_
              clear hK K
              try simp only [Act.put, List.setIfInBounds_toArray, List.set_cons_zero, List.set_cons_succ]
              refine wpAnyT_one (i := 10) (by kernel_rfl) rfl (fun K hK => ?_)
              go_simp
              refine hK.out _ _ (fun h => absurd rfl h) ?_
              clear hK K S0 S1 S2 hba hva hfa hga
              refine wpAnyT_done (by kernel_rfl) ?_ _
              have HBHn := Lib.hid ((HBH6.out.below hbT).bx HQ2.out (.inl (Nat.lt_succ_self _)))
              have HB18n := Lib.hid ((HB186.out.below hbT).bx HQ2.out (.inr (by simp)))
              have HbAn := Lib.hid ((below_tr HbA6.out hbT).trans (HQ2.out.bel.mono (by have := HHA.out; omega)))
              have HZl : Hid ((X ++ cpOut b' (cpS b' gs (i + 1)) (i + 1)).length = Z.length + 1) := Lib.hid (by rw [HFIN.out, List.length_append, List.length_singleton])
              have HOXn := Lib.hid HQ1.out
              generalize wa.setCell ⟨gb, Z.length * 7 + 6, none⟩ (.slice A9 (y0.Records.length + 1) c9) = wc at HBHn HB18n HbAn HOXn HQ1 HQ2 ⊢
              clear HQ1 HQ2 BL1 BX1 HTr HF7 HV7 H7X HX5 HO6 hbB HOX7 hbT
              go_wp2
              go_roundg (b'.Records.length - (i + 1))
              case rel => exact ⟨i + 1, _, c2, true, by omega, by go_num, rfl, Lib.hid (by rw [HPN.out]; rfl), by rw [HZl.out]; first | rfl | go_num, by rw [HZl.out]; exact HBHn, by rw [HZl.out, HFIN.out]; exact HOXn, HB18n, HbAn.out⟩
              case measure => omega
end Go.Proofs.Ytiefpllmnmmdlaa.H
