/-
The reference's CutFrom. Conditions: each contract's own premises.
-/
import Derived.Test.YtipemgjgimpmbaaHCopy5
import Derived.Test.YtipemgjgimpmbaaHCut1
import Derived.Test.YtipemgjgimpmbaaHLog2
namespace Go.Proofs.Ytipemgjgimpmbaa.H
open Go.RowKit
set_option linter.unusedVariables false
set_option linter.unusedSimpArgs false
set_option maxRecDepth 100000
set_option maxHeartbeats 4000000 in
theorem l3End_c (w : World) (s : Segment) {A : Option Addr} {c : Nat} (hc : s.Batches.length ≤ c) (hr : Row kBatch w A s.Batches) (hs : s.sm) (hok : ∀ b ∈ s.Batches, batchOk b = true) :
    Calls Try.prog 57 #[.agg #[.int .i64 s.Base, .slice A s.Batches.length c]] w fun e w' => e = .returned (.int .i64 (segEnd s)) ∧ Below w.heap.size w w' := by
  have hu := Try.underlying83
  have hu4 := Try.underlying52
  have hu5 := Try.underlying70
  have HS := Lib.hid hs.2
  have HOK := Lib.hid hok
  have hl := hs.1
  clear hs hok
  have B1 := Blk.new w #[.int .i64 s.Base, .slice A s.Batches.length c] 83
  have hb := below_al w (.cells #[.int .i64 s.Base, .slice A s.Batches.length c] 83)
  have HR := Lib.hid (Row_below hr hb)
  go_enter Try.func57, Try.ntmps57
  go_upto_region 1 with fail
  generalize w.alloc (.cells #[.int .i64 s.Base, .slice A s.Batches.length c] 83) = W1 at B1 hb HR ⊢
  have a1 : W1.cell? ⟨w.heap.size, 1, none⟩ = some (.slice A s.Batches.length c) := B1.cell 1 _ rfl
  by_cases h0 : s.Batches.length = 0
  case pos =>
    have HE : Hid (segEnd s = -1) := Lib.hid (by unfold segEnd; rw [List.length_eq_zero_iff.1 h0]; rfl)
    have hz : ((s.Batches.length : Int) == 0) = true := by rw [h0]; rfl
    clear h0
    go_wp2
    go_ret
    exact ⟨by rw [HE.out]; rfl, hb⟩
  case neg =>
    have hz : ((s.Batches.length : Int) == 0) = false := by simp; exact fun h => h0 (by rw [h]; rfl)
    have hnl : 0 < s.Batches.length := by omega
    clear h0
    obtain ⟨bd, b, A6, c6, rfl, hyb, p0, p1, p2, p3, p4, p5, p6, l6, g6⟩ := Batch.at HR.out (s.Batches.length - 1) (by omega)
    have hi0 : ((s.Batches.length : Int) - 1).toNat = s.Batches.length - 1 := by omega
    have HE : Hid (segEnd s = lastB b) := Lib.hid (by unfold segEnd; rw [List.getLast?_eq_getElem?, hyb])
    have hbm := List.mem_of_getElem? hyb
    have Hbo := Lib.hid (HOK.out b hbm)
    have Hbs := Lib.hid (HS.out b hbm)
    have HG6 := Lib.hid g6
    clear hyb hbm
    go_wp2_with (go_at_call 89; refine (specLastOffset_c _ b l6 HG6.out Hbs.out).mono ?_; rintro e w3 ⟨rfl, hb3⟩; rw [if_pos Hbo.out])
    go_ret
    exact ⟨by rw [HE.out]; rfl, below_tr hb hb3⟩
/-- The answer, read. -/
def GivesLB (x : Log) (ok : Bool) (w : World) (en : Ending) (w' : World) : Prop := ∃ A c, en = .returned (.tuple #[.agg #[.int .i64 x.Start, .int .i64 x.Next, .int .i64 x.Roll, .slice A x.Segments.length c], .bool ok]) ∧ x.Segments.length ≤ c ∧ Row kSegment w' A x.Segments ∧ Below w.heap.size w w'
theorem rowD {W0 W : World} {B : Nat} {F : List Nat} {xs : List Segment} {A : Option Addr} {q : Nat} (hT : TS kSegment 83 W0 F xs (.slice A xs.length q)) (hF : ∀ b ∈ F, B ≤ b) (hS : St B W0.heap.size W0 W) (k : Nat) : Row kSegment W (A.map (fun a => a.add (k * 2))) (xs.drop k) := by
  have h := TP_frame (w1 := W) (fun b hb => hS b (hF b hb) (TS_lt hT b hb)) hT
  obtain ⟨A', c', e, _, _, hr⟩ := TS_read h
  simp only [Value.slice.injEq, true_and] at e
  obtain ⟨rfl, rfl⟩ := e
  cases A with
  | none =>
    intro hp
    rw [List.length_drop] at hp
    obtain ⟨_, h, _⟩ := hr (by omega)
    cases h
  | some ad => exact hr.drop k
set_option maxHeartbeats 8000000 in
theorem specCutFrom_c (w : World) (x : Log) (start : Int) {A : Option Addr} {c : Nat} (hc : x.Segments.length ≤ c) (hr : Row kSegment w A x.Segments) (hs : x.sm) (hw : x.wf) :
    Calls Try.prog 21 #[.agg #[.int .i64 x.Start, .int .i64 x.Next, .int .i64 x.Roll, .slice A x.Segments.length c], .int .i64 start] w (GivesLB (cutFromL x start) (cutOk x start) w) := by
  have HS := Lib.hid hs
  have HW := Lib.hid hw
  have hln := hs.1
  clear hs hw
  have hu := Try.underlying83
  have hu2 := Try.underlying28
  have hu3 := Try.underlying30
  generalize hok : cutOk x start = ok
  have Hok := Lib.hid hok
  generalize ho1 : logOk x = o1
  generalize ho2 : inB start x.Start x.Next = o2
  have O1 := Lib.hid ho1
  have O2 := Lib.hid ho2
  have B1 := (Blk.new w #[.int .i64 x.Start, .int .i64 x.Next, .int .i64 x.Roll, .slice A x.Segments.length c] 30).below (below_al _ (.cells #[.int .i64 0, .int .i64 0, .int .i64 0, .slice none 0 0] 30))
  have B2 := Blk.new (w.alloc (.cells #[.int .i64 x.Start, .int .i64 x.Next, .int .i64 x.Roll, .slice A x.Segments.length c] 30)) #[.int .i64 0, .int .i64 0, .int .i64 0, .slice none 0 0] 30
  have hb := below_tr (below_al w (.cells #[.int .i64 x.Start, .int .i64 x.Next, .int .i64 x.Roll, .slice A x.Segments.length c] 30)) (below_al _ (.cells #[.int .i64 0, .int .i64 0, .int .i64 0, .slice none 0 0] 30))
  rw [size_al] at B2
  go_enter Try.func21, Try.ntmps21
  go_upto_region 1 with fail
  generalize (w.alloc (.cells #[.int .i64 x.Start, .int .i64 x.Next, .int .i64 x.Roll, .slice A x.Segments.length c] 30)).alloc (.cells #[.int .i64 0, .int .i64 0, .int .i64 0, .slice none 0 0] 30) = W1 at B1 B2 hb ⊢
  have a0 : W1.cell? ⟨w.heap.size, 0, none⟩ = some (.int .i64 x.Start) := B1.cell 0 _ rfl
  have a1 : W1.cell? ⟨w.heap.size, 1, none⟩ = some (.int .i64 x.Next) := B1.cell 1 _ rfl
  have a2 : W1.cell? ⟨w.heap.size, 2, none⟩ = some (.int .i64 x.Roll) := B1.cell 2 _ rfl
  have a3 : W1.cell? ⟨w.heap.size, 3, none⟩ = some (.slice A x.Segments.length c) := B1.cell 3 _ rfl
  have HR1 := Lib.hid (Row_below hr hb)
  have hsz := hb.size
  have HB1 := Lib.hid B1
  have HB2 := Lib.hid B2
  have g2 := B2.lt
  have Hh := Lib.hid hb
  clear B1 B2 hb
  by_cases hbb : ok = true
  case neg =>
    have hok0 : ok = false := by cases ok <;> simp_all
    subst hok0
    have HL : Hid (cutFromL x start = zLog) := Lib.hid (by unfold cutFromL; rw [hok]; rfl)
    have hcase : o1 = false ∨ (o1 = true ∧ o2 = false) := by unfold cutOk at hok; rw [ho1, ho2] at hok; cases o1 <;> cases o2 <;> simp_all
    clear hok ho1 ho2 hbb
    rcases hcase with rfl | ⟨rfl, rfl⟩
    all_goals
      go_upto_region 2 with (first | (go_at_call 42; refine (specLogOk_c _ x hc HR1.out HS.out HW.out).mono ?_; rintro e W2 ⟨rfl, hb2⟩; rw [O1.out]; have b0 := later hb2 a0; have b1 := later hb2 a1) | (go_at_call 51; refine (l1In_c _ _ _ _).mono ?_; rintro e w' ⟨rfl, rfl⟩; rw [O2.out]))
      have C2 := HB2.out.below hb2
      have e0 := C2.cell 0 _ rfl
      have e1 := C2.cell 1 _ rfl
      have e2 := C2.cell 2 _ rfl
      have e3 := C2.cell 3 _ rfl
      have f0 := C2.frz 0
      have f1 := C2.frz 1
      have f2 := C2.frz 2
      have f3 := C2.frz 3
      have g3 := C2.lt
      have hbw := below_tr Hh.out hb2
      go_wp2
      refine bodyPost_ret (v := .tuple #[.agg #[.int .i64 0, .int .i64 0, .int .i64 0, .slice none 0 0], .bool false]) (by simp [results, Try.results21, go_sem, e0, e1, e2, e3]) rfl ?_
      rw [HL.out]
      refine ⟨none, 0, rfl, Nat.le_refl _, fun h => absurd h (Nat.lt_irrefl _), ?_⟩
      repeat (first | with_reducible exact Below.refl _ _ | with_reducible assumption | ((with_reducible refine Below.setCell ?_ ?_ _); rotate_left; (simp <;> omega)) | ((with_reducible refine Below.alloc ?_ ?_ _); rotate_left; (simp <;> omega)))
  case pos =>
    subst hbb
    have HL : Hid (cutFromL x start = ⟨start, x.Next, x.Roll, cutF start x.Segments⟩) := Lib.hid (by unfold cutFromL; rw [hok]; rfl)
    obtain ⟨rfl, rfl⟩ : o1 = true ∧ o2 = true := by unfold cutOk at hok; rw [ho1, ho2] at hok; cases o1 <;> cases o2 <;> simp_all
    have HAL := Lib.hid (logOk_all ho1).2
    clear hok ho1 ho2
    go_upto_region 3 with (first | (go_at_call 42; refine (specLogOk_c _ x hc HR1.out HS.out HW.out).mono ?_; rintro e W2 ⟨rfl, hb2⟩; rw [O1.out]; have b0 := later hb2 a0; have b1 := later hb2 a1; have b2 := later hb2 a2; have b3 := later hb2 a3) | (go_at_call 51; refine (l1In_c _ _ _ _).mono ?_; rintro e w' ⟨rfl, rfl⟩; rw [O2.out]))
    have C2 := Lib.hid (HB2.out.below hb2)
    have HR2 := Lib.hid (Row_below HR1.out hb2)
    have Hh2 := Lib.hid (below_tr Hh.out hb2)
    have hsz2 := hb2.size
    clear a0 a1 a2 a3 HB1 HB2 HR1 Hh
    go_upto_region 4 with (go_at_call 56; refine (l3Copy_c _ x hc HR2.out HS.out).mono ?_; rintro e W3 ⟨v, F0, rfl, hT, hF, hb3⟩; obtain ⟨v3, F3, he, e9, hT3⟩ := Log.opnT hT; simp only [List.cons.injEq, true_and, and_true] at he; subst he; subst e9; clear hT; obtain ⟨A0, q0, e9, l0, _, r0⟩ := TS_read hT3; subst e9; have HT3 := Lib.hid hT3; have HF3 := Lib.hid hF.2; clear hF hT3 r0; have Hb3 := Lib.hid hb3; have hs3 := hb3.size; clear hb3)
    have B4 := Blk.new W3 #[.int .i64 x.Start, .int .i64 x.Next, .int .i64 x.Roll, .slice A0 x.Segments.length q0] 30
    have hba := below_al W3 (.cells #[.int .i64 x.Start, .int .i64 x.Next, .int .i64 x.Roll, .slice A0 x.Segments.length q0] 30)
    have C3 := Lib.hid ((C2.out.below Hb3.out).below hba)
    have Hh3 := Lib.hid (below_tr Hh2.out Hb3.out)
    generalize W3.alloc (.cells #[.int .i64 x.Start, .int .i64 x.Next, .int .i64 x.Roll, .slice A0 x.Segments.length q0] 30) = W4 at B4 hba C3 ⊢
    clear b0 b1 b2 b3 C2 Hh2 HR2
    have d0 : W4.cell? ⟨W3.heap.size, 0, none⟩ = some (.int .i64 x.Start) := B4.cell 0 _ rfl
    have f0 := B4.frz 0
    have gl := B4.lt
    go_upto_region 5 with fail
    have B5 : Blk (W4.setCell ⟨W3.heap.size, 0, none⟩ (.int .i64 start)) W3.heap.size #[.int .i64 start, .int .i64 x.Next, .int .i64 x.Roll, .slice A0 x.Segments.length q0] 30 := by simpa using B4.set 0 (.int .i64 start)
    have C5 := C3.out.far W3.heap.size 0 (.int .i64 start) (by omega)
    have hb5 := hba.setCell (p := ⟨W3.heap.size, 0, none⟩) (by simp) (.int .i64 start)
    generalize W4.setCell ⟨W3.heap.size, 0, none⟩ (.int .i64 start) = W5 at B5 C5 hb5 ⊢
    clear d0 f0 gl B4 hba C3
    go_loopg [] x.Segments.length (fun g wr => ∃ (k : Nat) (ys : List Segment) (A' : Option Addr) (c' : Nat), ys.length = g ∧ Hid (Blk wr W3.heap.size #[.int .i64 start, .int .i64 x.Next, .int .i64 x.Roll, .slice A' ys.length c'] 30) ∧ Hid (Blk wr (w.heap.size + 1) #[.int .i64 0, .int .i64 0, .int .i64 0, .slice none 0 0] 30) ∧ ys.length ≤ c' ∧ Hid (A' = A0.map (fun a => a.add (k * 2))) ∧ Hid (cutF start ys = cutF start x.Segments) ∧ Hid (ys = x.Segments.drop k) ∧ Below W3.heap.size W3 wr)
    case atStart => exact ⟨0, x.Segments, A0, q0, rfl, Lib.hid B5, Lib.hid C5, l0, Lib.hid (by cases A0 <;> simp [Addr.add]), Lib.hid rfl, Lib.hid rfl, hb5⟩
    case round =>
      clear B5 C5 hb5
      obtain ⟨k, ys, A', c', hgk, HB1, HB2, hlc, HA, HC, HK, hb⟩ := hrel
      have HGK := Lib.hid hgk
      clear hgk
      have hg1 := HB1.out.lt
      have hg2 := HB2.out.lt
      have hyl : ys.length ≤ x.Segments.length := by have := HK.out; rw [this, List.length_drop]; omega
      have s3 : wr.cell? ⟨W3.heap.size, 3, none⟩ = some (.slice A' ys.length c') := HB1.out.cell 3 _ rfl
      by_cases h1 : 1 < ys.length
      case neg =>
        have HY : Hid (ys = cutF start x.Segments) := Lib.hid (by
          rw [← HC.out]
          match ys, h1 with
          | [], _ => rfl
          | [a], _ => rfl
          | a :: b :: r, h => simp at h)
        have d0 := HB1.out.cell 0 _ rfl
        have d1 := HB1.out.cell 1 _ rfl
        have d2 := HB1.out.cell 2 _ rfl
        have e0 := HB2.out.cell 0 _ rfl
        have e1 := HB2.out.cell 1 _ rfl
        have e2 := HB2.out.cell 2 _ rfl
        have e3 := HB2.out.cell 3 _ rfl
        have f0 := HB2.out.frz 0
        have f1 := HB2.out.frz 1
        have f2 := HB2.out.frz 2
        have f3 := HB2.out.frz 3
        have hbw := (below_tr Hh3.out hb)
        have h1' : ¬ (1 : Int) < (ys.length : Int) := by omega
        go_wp2
        refine bodyPost_ret (v := .tuple #[.agg #[.int .i64 start, .int .i64 x.Next, .int .i64 x.Roll, .slice A' ys.length c'], .bool true]) (by simp [results, Try.results21, go_sem, e0, e1, e2, e3]) rfl ?_
        rw [HL.out, ← HY.out]
        refine ⟨A', c', rfl, hlc, ?_, ?_⟩
        · rw [HA.out, HK.out]
          refine rowD HT3.out (B := w.heap.size + 2) (fun b hb' => by have := HF3.out b hb'; omega) ?_ k
          exact ((((St.of_below hb (Nat.le_refl _)).trans (St.set _ _ _ _ (by omega))).trans (St.set _ _ _ _ (by omega))).trans (St.set _ _ _ _ (by omega))).trans (St.set _ _ _ _ (by omega))
        · repeat (first | with_reducible exact Below.refl _ _ | with_reducible assumption | ((with_reducible refine Below.setCell ?_ ?_ _); rotate_left; (simp <;> omega)) | ((with_reducible refine Below.alloc ?_ ?_ _); rotate_left; (simp <;> omega)))
      case pos =>
        have hRw := rowD HT3.out (B := w.heap.size + 2) (fun b hb' => by have := HF3.out b hb'; omega) (St.of_below hb (Nat.le_refl _)) k
        rw [← HA.out, ← HK.out] at hRw
        obtain ⟨ad, s, A1, c1, rfl, hs0, p0, p1, l1, g1⟩ := Segment.at hRw 0 (by omega)
        have HG1 := Lib.hid g1
        have hsm : s ∈ x.Segments := List.mem_of_mem_drop (by rw [← HK.out]; exact List.mem_of_getElem? hs0)
        have Hss := Lib.hid (HS.out.2 s hsm)
        have Hsb := Lib.hid (show ∀ b ∈ s.Batches, batchOk b = true from fun b hb' => HAL.out b (List.mem_flatMap.2 ⟨s, hsm, hb'⟩))
        have Hst : Hid (∃ t r, ys = s :: t :: r) := Lib.hid (by
          match ys, h1, hs0 with
          | a :: b :: r, _, h => simp at h; subst h; exact ⟨b, r, rfl⟩
          | [a], h, _ => simp at h
          | [], h, _ => simp at h)
        clear hs0 hsm g1 hRw
        have h1' : (1 : Int) < (ys.length : Int) := by omega
        have ha0 : ad.add (0 * 2) = ad := by simp [Addr.add]
        rw [ha0] at p0 p1
        by_cases hend : segEnd s < start
        case neg =>
          have HY : Hid (ys = cutF start x.Segments) := Lib.hid (by
            rw [← HC.out]
            obtain ⟨t, r, rfl⟩ := Hst.out
            rw [cutF, if_neg hend])
          go_upto_region 7 with (go_at_call 57; refine (l3End_c _ s l1 HG1.out Hss.out Hsb.out).mono ?_; rintro e W7 ⟨rfl, hb7⟩)
          have HB1 := Lib.hid (HB1.out.below hb7)
          have HB2 := Lib.hid (HB2.out.below hb7)
          have hb := below_tr hb hb7
          have d3 : W7.cell? ⟨W3.heap.size, 3, none⟩ = some (.slice (some ad) ys.length c') := HB1.out.cell 3 _ rfl
          have hg1 := HB1.out.lt
          have hg2 := HB2.out.lt
          have d0 := HB1.out.cell 0 _ rfl
          have d1 := HB1.out.cell 1 _ rfl
          have d2 := HB1.out.cell 2 _ rfl
          have e0 := HB2.out.cell 0 _ rfl
          have e1 := HB2.out.cell 1 _ rfl
          have e2 := HB2.out.cell 2 _ rfl
          have e3 := HB2.out.cell 3 _ rfl
          have f0 := HB2.out.frz 0
          have f1 := HB2.out.frz 1
          have f2 := HB2.out.frz 2
          have f3 := HB2.out.frz 3
          have hbw := (below_tr Hh3.out hb)
          go_wp2
          refine bodyPost_ret (v := .tuple #[.agg #[.int .i64 start, .int .i64 x.Next, .int .i64 x.Roll, (.slice (some ad) ys.length c')], .bool true]) (by simp [results, Try.results21, go_sem, e0, e1, e2, e3]) rfl ?_
          rw [HL.out, ← HY.out]
          refine ⟨some ad, c', rfl, hlc, ?_, ?_⟩
          · rw [HA.out, HK.out]
            refine rowD HT3.out (B := w.heap.size + 2) (fun b hb' => by have := HF3.out b hb'; omega) ?_ k
            exact ((((St.of_below hb (Nat.le_refl _)).trans (St.set _ _ _ _ (by omega))).trans (St.set _ _ _ _ (by omega))).trans (St.set _ _ _ _ (by omega))).trans (St.set _ _ _ _ (by omega))
          · repeat (first | with_reducible exact Below.refl _ _ | with_reducible assumption | ((with_reducible refine Below.setCell ?_ ?_ _); rotate_left; (simp <;> omega)) | ((with_reducible refine Below.alloc ?_ ?_ _); rotate_left; (simp <;> omega)))
        case pos =>
          have HCn : Hid (cutF start (ys.drop 1) = cutF start x.Segments) := Lib.hid (by
            rw [← HC.out]
            obtain ⟨t, r, rfl⟩ := Hst.out
            rw [cutF, if_pos hend]; rfl)
          go_upto_region 6 with (go_at_call 57; refine (l3End_c _ s l1 HG1.out Hss.out Hsb.out).mono ?_; rintro e W7 ⟨rfl, hb7⟩; have HB1' := Lib.hid (HB1.out.below hb7); have s3' : W7.cell? ⟨W3.heap.size, 3, none⟩ = some (.slice (some ad) ys.length c') := HB1'.out.cell 3 _ rfl; have f3' := HB1'.out.frz 3; have g3' := HB1'.out.lt)
          have HGd := Lib.hid (show (ys.drop 1).length = ys.length - 1 from List.length_drop)
          go_wp2
          go_roundg (gk - 1)
          case rel =>
            refine ⟨k + 1, ys.drop 1, some (ad.add 2), c' - 1, ?_, Lib.hid ?_, Lib.hid ((HB2.out.below hb7).far _ _ _ (by omega)), ?_, Lib.hid ?_, HCn, Lib.hid ?_, (below_tr hb hb7).setCell (p := ⟨W3.heap.size, 3, none⟩) (by simp) _⟩
            · rw [HGd.out, HGK.out]
            · have h := HB1'.out.set 3 (.slice (some ⟨ad.block, ad.off + 2, none⟩) (ys.length - 1) (c' - 1))
              rw [HGd.out, show ad.add 2 = ⟨ad.block, ad.off + 2, none⟩ by simp [Addr.add]]
              simpa using h
            · rw [HGd.out]; omega
            · have h := HA.out
              cases A0 with
              | none => simp at h
              | some a0 =>
                simp only [Option.map_some, Option.some.injEq] at h ⊢
                rw [h, Addr.add_add, Nat.add_mul, Nat.one_mul]
            · have h := HK.out
              rw [h, List.drop_drop]
          case measure => have := HGK.out; omega
end Go.Proofs.Ytipemgjgimpmbaa.H
