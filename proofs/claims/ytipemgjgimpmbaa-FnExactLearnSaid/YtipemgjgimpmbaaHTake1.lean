/-
The program's Take. Conditions: each contract's own premises.
-/
import Derived.Test.YtipemgjgimpmbaaHSeenAt
import Derived.Test.YtipemgjgimpmbaaHLast
import Derived.Test.YtipemgjgimpmbaaHBatch
import Derived.Deep.RegionHeldLaw
namespace Go.Proofs.Ytipemgjgimpmbaa.H
open Go.RowKit
set_option linter.unusedVariables false
set_option linter.unusedSimpArgs false
set_option maxRecDepth 100000
def TookT (l : List Seen) (b : Batch) (w : World) (en : Ending) (w' : World) : Prop := ∃ v, en = .returned (.tuple #[v, .int .i64 (takeC l b), .int .i64 (takeO l b)]) ∧ OwnT kSeen 101 w.heap.size w' (takeL l b) v ∧ Below w.heap.size w w'
theorem tookT_of {l L : List Seen} {b : Batch} {w w' : World} {v : Value} {c o : Int} (h : takeR l b = (L, c, o)) (hO : OwnT kSeen 101 w.heap.size w' L v) (hb : Below w.heap.size w w') : TookT l b w (.returned (.tuple #[v, .int .i64 c, .int .i64 o])) w' := by
  refine ⟨v, ?_, ?_, hb⟩
  · unfold takeC takeO; rw [h]
  · unfold takeL; rw [h]; exact hO
theorem ownX_T {B : Nat} {w : World} {l : List Seen} {v : Value} (h : OwnR kSeenX 101 B w l v) : OwnT kSeen 101 B w l v := by
  obtain ⟨F, h1, h2, h3, _⟩ := h
  exact ⟨F, seenX_TS h1, h2, h3⟩
theorem ownX_row {B : Nat} {w : World} {l : List Seen} {A : Option Addr} {c : Nat} (h : OwnR kSeenX 101 B w l (.slice A l.length c)) : l.length ≤ c ∧ Row kSeen w A l := by
  obtain ⟨F, h1, _⟩ := h
  obtain ⟨A', c', e, h2, _, h3⟩ := TS_read h1
  simp only [Value.slice.injEq, true_and] at e
  obtain ⟨rfl, rfl⟩ := e
  exact ⟨h2, h3⟩
set_option maxHeartbeats 8000000 in
theorem implTake_c (w : World) (l : List Seen) (b : Batch) {A : Option Addr} {c : Nat} (hc : l.length ≤ c) (hr : Row kSeen w A l) (hs : l.length ≤ 1048576 ∧ ∀ y ∈ l, y.sm) {A6 : Option Addr} {c6 : Nat} (l6 : b.Records.length ≤ c6) (g6 : Row kRecord w A6 b.Records) (hsb : b.sm) :
    Calls Try.prog 28 #[.slice A l.length c, .agg #[.int .i64 b.Base, .int .i64 b.Epoch, .int .i64 b.Producer, .int .i64 b.Turn, .int .i64 b.Seq, .int .i64 b.Flags, .slice A6 b.Records.length c6]] w (TookT l b w) := by
  have HS := Lib.hid hs
  have HSB := Lib.hid hsb
  have hbl := hsb.1
  clear hs hsb
  generalize ht1 : tableOk l = t1
  generalize ht2 : batchOk b = t2
  have HT1 := Lib.hid ht1
  have HT2 := Lib.hid ht2
  clear ht1 ht2
  have hu := Try.underlying101
  have hu2 := Try.underlying46
  have hu3 := Try.underlying103
  have hu4 := Try.underlying99
  have hu5 := Try.underlying52
  have X := Lib.hid (Blk.new w #[.int .i64 b.Base, .int .i64 b.Epoch, .int .i64 b.Producer, .int .i64 b.Turn, .int .i64 b.Seq, .int .i64 b.Flags, .slice A6 b.Records.length c6] 52)
  have hb0 := below_al w (.cells #[.int .i64 b.Base, .int .i64 b.Epoch, .int .i64 b.Producer, .int .i64 b.Turn, .int .i64 b.Seq, .int .i64 b.Flags, .slice A6 b.Records.length c6] 52)
  have HR1 := Lib.hid (Row_below hr hb0)
  have HG1 := Lib.hid (Row_below g6 hb0)
  have Hb0 := Lib.hid hb0
  obtain ⟨J, hJ⟩ : ∃ n, n = w.heap.size := ⟨_, rfl⟩
  clear hr g6
  go_enter Try.func28, Try.ntmps28
  go_upto_region 1 with fail
  generalize w.alloc (.cells #[.int .i64 b.Base, .int .i64 b.Epoch, .int .i64 b.Producer, .int .i64 b.Turn, .int .i64 b.Seq, .int .i64 b.Flags, .slice A6 b.Records.length c6] 52) = W1 at X HR1 HG1 Hb0 ⊢
  rw [← hJ] at X ⊢
  have HJ := Lib.hid hJ
  clear hJ hb0
  have x0 : W1.cell? ⟨J, 0, none⟩ = some (.int .i64 b.Base) := X.out.cell 0 _ rfl
  have x1 : W1.cell? ⟨J, 1, none⟩ = some (.int .i64 b.Epoch) := X.out.cell 1 _ rfl
  have x2 : W1.cell? ⟨J, 2, none⟩ = some (.int .i64 b.Producer) := X.out.cell 2 _ rfl
  have x3 : W1.cell? ⟨J, 3, none⟩ = some (.int .i64 b.Turn) := X.out.cell 3 _ rfl
  have x4 : W1.cell? ⟨J, 4, none⟩ = some (.int .i64 b.Seq) := X.out.cell 4 _ rfl
  have x5 : W1.cell? ⟨J, 5, none⟩ = some (.int .i64 b.Flags) := X.out.cell 5 _ rfl
  have x6 : W1.cell? ⟨J, 6, none⟩ = some (.slice A6 b.Records.length c6) := X.out.cell 6 _ rfl
  by_cases hok : (t1 && t2) = true
  case neg =>
    have HB : Hid (takeR l b = ([], 4, -1)) := Lib.hid (by unfold takeR; rw [HT1.out, HT2.out, if_neg hok])
    cases t1
    · clear hok
      go_wp2_with (first | (go_at_call 67; refine (implTableOk_c _ l hc HR1.out HS.out).mono ?_; rintro e W2 ⟨rfl, hb2⟩; rw [HT1.out]))
      refine bodyPost_ret (v := .tuple #[.slice none 0 0, .int .i64 4, .int .i64 (-1)]) (by simp [results, Try.results28, go_sem]) rfl ?_
      exact tookT_of HB.out OwnT.nil (below_tr Hb0.out hb2)
    · obtain rfl : t2 = false := by cases t2 <;> simp_all
      clear hok
      go_wp2_with (first | (go_at_call 67; refine (implTableOk_c _ l hc HR1.out HS.out).mono ?_; rintro e W2 ⟨rfl, hb2⟩; rw [HT1.out]; have y0 := later hb2 x0; have y1 := later hb2 x1; have y2 := later hb2 x2; have y3 := later hb2 x3; have y4 := later hb2 x4; have y5 := later hb2 x5; have y6 := later hb2 x6) | (go_at_call 68; refine (implBatchOk_c _ b l6 (Row_below HG1.out hb2) HSB.out).mono ?_; rintro e W3 ⟨rfl, hb3⟩; rw [HT2.out]))
      refine bodyPost_ret (v := .tuple #[.slice none 0 0, .int .i64 4, .int .i64 (-1)]) (by simp [results, Try.results28, go_sem]) rfl ?_
      exact tookT_of HB.out OwnT.nil (below_tr (below_tr Hb0.out hb2) hb3)
  obtain ⟨rfl, rfl⟩ : t1 = true ∧ t2 = true := by cases t1 <;> cases t2 <;> simp_all
  clear hok
  go_upto_region 3 with (first | (go_at_call 67; refine (implTableOk_c _ l hc HR1.out HS.out).mono ?_; rintro e W2 ⟨rfl, hb2⟩; rw [HT1.out]; have y0 := later hb2 x0; have y1 := later hb2 x1; have y2 := later hb2 x2; have y3 := later hb2 x3; have y4 := later hb2 x4; have y5 := later hb2 x5; have y6 := later hb2 x6) | (go_at_call 68; refine (implBatchOk_c _ b l6 (Row_below HG1.out hb2) HSB.out).mono ?_; rintro e W3 ⟨rfl, hb3⟩; rw [HT2.out]))
  have HR3 := Lib.hid (Row_below (Row_below HR1.out hb2) hb3)
  have Hb3 := Lib.hid (below_tr (below_tr Hb0.out hb2) hb3)
  have X3 := Lib.hid ((X.out.below hb2).below hb3)
  clear x0 x1 x2 x3 x4 x5 x6 y0 y1 y2 y3 y4 y5 y6 hb2 hb3 X HR1 HG1 Hb0
  obtain ⟨hl100, hsrt, hsn⟩ := tableOk_all HT1.out
  have HSR := Lib.hid hsrt
  have HSN := Lib.hid hsn
  obtain ⟨⟨fp0, fp1⟩, ⟨fb0, fb1⟩, ⟨ff0, ff1⟩, hf4, hr1⟩ := fOk_of HT2.out
  obtain ⟨⟨ft0, ft1⟩, ⟨fs0, fs1⟩, hr40⟩ := bt_facts HT2.out
  clear hsrt hsn hf4
  have HTR : Hid (takeR l b = if b.Producer = -1 ∨ 4 ≤ b.Flags then (l, 0, -1) else match seenGet b.Producer l with
      | some s => takeHas l b (seenAt b.Producer l) s
      | none => takeNo l b (seenAt b.Producer l)) := Lib.hid (by unfold takeR; rw [HT1.out, HT2.out]; exact if_pos rfl)
  go_upto_region 4 with (go_at_call 69; refine (implCopySeen_c _ l hc HR3.out HS.out.1 HS.out.2).mono ?_; rintro e W4 ⟨A7, c7, rfl, hO, hb4⟩)
  have HO4 := Lib.hid (hO.mono (B' := w.heap.size) Hb3.out.size)
  have hJ3 : J < W3.heap.size := X3.out.lt
  have HOJ := Lib.hid (show ∀ k, (Value.slice A7 l.length c7).ownBlock = some k → k ≠ J from fun k hk => by have := hO.blk k hk; omega)
  have HO5 := Lib.hid hO
  have X4 := Lib.hid (X3.out.below hb4)
  have Hb4 := Lib.hid (below_tr Hb3.out hb4)
  have hs34 := hb4.size
  clear hO hb4 HR3 Hb3 X3
  have e4 : Go.bits .and .i64 b.Flags 4 = 4 * (b.Flags / 4) := and4 ff0 ff1
  have x0 : W4.cell? ⟨J, 0, none⟩ = some (.int .i64 b.Base) := X4.out.cell 0 _ rfl
  have x2 : W4.cell? ⟨J, 2, none⟩ = some (.int .i64 b.Producer) := X4.out.cell 2 _ rfl
  have x5 : W4.cell? ⟨J, 5, none⟩ = some (.int .i64 b.Flags) := X4.out.cell 5 _ rfl
  have HP1 : Hid (∀ e1, decide (b.Producer = -1) = e1 → (b.Producer == -1) = e1) := Lib.hid (fun e1 h => by rw [← h]; rfl)
  generalize hv1 : decide (b.Producer = -1) = e1
  have hp1 : (b.Producer == -1) = e1 := HP1.out e1 hv1
  have HE1 := Lib.hid hv1
  clear hv1 HP1
  cases e1
  case true =>
    have HX : Hid (takeR l b = (l, 0, -1)) := Lib.hid (by rw [HTR.out, if_pos (.inl (of_decide_eq_true HE1.out))])
    go_wp2
    refine bodyPost_ret (v := .tuple #[.slice A7 l.length c7, .int .i64 0, .int .i64 (-1)]) (by simp [results, Try.results28, go_sem]) rfl ?_
    exact tookT_of HX.out (ownX_T HO4.out) Hb4.out
  have hpn : b.Producer ≠ -1 := of_decide_eq_false HE1.out
  have fp2 : 0 ≤ b.Producer := by omega
  clear hpn
  by_cases h4 : 4 ≤ b.Flags
  case pos =>
    have h5 : b.Flags / 4 = 1 := by omega
    rw [h5] at e4
    clear h5
    have HX : Hid (takeR l b = (l, 0, -1)) := Lib.hid (by rw [HTR.out, if_pos (.inr h4)])
    go_wp2
    refine bodyPost_ret (v := .tuple #[.slice A7 l.length c7, .int .i64 0, .int .i64 (-1)]) (by simp [results, Try.results28, go_sem]) rfl ?_
    exact tookT_of HX.out (ownX_T HO4.out) Hb4.out
  have h5 : b.Flags / 4 = 0 := by omega
  rw [h5] at e4
  clear h5
  have HTR2 : Hid (takeR l b = match seenGet b.Producer l with
      | some s => takeHas l b (seenAt b.Producer l) s
      | none => takeNo l b (seenAt b.Producer l)) := Lib.hid (by rw [HTR.out, if_neg (by have := of_decide_eq_false HE1.out; omega)])
  clear HTR
  have HPB : Hid (∀ s ∈ l, 0 ≤ s.Producer ∧ s.Producer ≤ 1000000000) := Lib.hid (fun s hs => (snA_facts (HSN.out s hs).1).1)
  go_upto_region 7 with (go_at_call 70; refine (findSeen_c _ l b.Producer (ownX_row HO5.out).1 (ownX_row HO5.out).2 hl100 HSR.out HPB.out ⟨fp0, fp1⟩).mono ?_; rintro e W5 ⟨rfl, hb5⟩)
  clear e4 x0 x2 x5 hp1 HE1 h4
  rw [hasAt_get]
  have hil := seenAt_le b.Producer l
  have HGS := Lib.hid (fun s (h : seenGet b.Producer l = some s) => seenGet_some h)
  generalize seenAt b.Producer l = i at hil HTR2 HGS ⊢
  generalize seenGet b.Producer l = gs at HTR2 HGS ⊢
  have HO6 := Lib.hid (HO5.out.below hb5)
  have X5 := Lib.hid (X4.out.below hb5)
  have Hb5 := Lib.hid (below_tr Hb4.out hb5)
  have HBB : Hid (J < W3.heap.size ∧ W3.heap.size ≤ W5.heap.size ∧ J = w.heap.size) := Lib.hid ⟨hJ3, Nat.le_trans hs34 hb5.size, HJ.out⟩
  clear hb5 HO4 HO5 X4 Hb4
  have x0 : W5.cell? ⟨J, 0, none⟩ = some (.int .i64 b.Base) := X5.out.cell 0 _ rfl
  have x2 : W5.cell? ⟨J, 2, none⟩ = some (.int .i64 b.Producer) := X5.out.cell 2 _ rfl
  have x3 : W5.cell? ⟨J, 3, none⟩ = some (.int .i64 b.Turn) := X5.out.cell 3 _ rfl
  have x4 : W5.cell? ⟨J, 4, none⟩ = some (.int .i64 b.Seq) := X5.out.cell 4 _ rfl
  have x6 : W5.cell? ⟨J, 6, none⟩ = some (.slice A6 b.Records.length c6) := X5.out.cell 6 _ rfl
  cases gs
  case none =>
    have HT3 : Hid (takeR l b = takeNo l b i) := HTR2
    clear HTR2 HGS
    rw [show (none : Option Seen).isSome = false from rfl]
    go_upto_region 8 with fail
    go_quiet (fail)
    go_upto_region 9 with fail
    go_quiet (fail)
    go_upto_region 20 with fail
    refine gen_wp (w0 := W5) (below_dn (below_dn (Below.refl _ _) _) _) (fun W6 hb6 => ?_)
    replace HO6 := Lib.hid (HO6.out.below hb6)
    replace X5 := Lib.hid (X5.out.below hb6)
    replace Hb5 := Lib.hid (below_tr Hb5.out hb6)
    replace HBB := Lib.hid (show J < W3.heap.size ∧ W3.heap.size ≤ W6.heap.size ∧ J = w.heap.size from ⟨HBB.out.1, Nat.le_trans HBB.out.2.1 hb6.size, HBB.out.2.2⟩)
    clear hb6 x0 x2 x3 x4 x6
    have x0 : W6.cell? ⟨J, 0, none⟩ = some (.int .i64 b.Base) := X5.out.cell 0 _ rfl
    have x2 : W6.cell? ⟨J, 2, none⟩ = some (.int .i64 b.Producer) := X5.out.cell 2 _ rfl
    have x3 : W6.cell? ⟨J, 3, none⟩ = some (.int .i64 b.Turn) := X5.out.cell 3 _ rfl
    have x4 : W6.cell? ⟨J, 4, none⟩ = some (.int .i64 b.Seq) := X5.out.cell 4 _ rfl
    generalize hv1 : decide (b.Seq = 0) = e1
    have hp1 : (b.Seq != 0) = !e1 := by rw [← hv1]; rfl
    have HE1 := Lib.hid hv1
    clear hv1
    cases e1
    case false =>
      have HX : Hid (takeR l b = (l, 2, -1)) := Lib.hid (by rw [HT3.out, takeNo, if_neg (of_decide_eq_false HE1.out)])
      go_wp2
      refine bodyPost_ret (v := .tuple #[.slice A7 l.length c7, .int .i64 2, .int .i64 (-1)]) (by simp [results, Try.results28, go_sem]) rfl ?_
      exact tookT_of HX.out (ownX_T (HO6.out.mono (by have := HBB.out; omega))) Hb5.out
    case true =>
      generalize hv2 : decide (100 ≤ l.length) = e2
      have hp2 : ((l.length : Int) == 100) = e2 := by rw [← hv2, Bool.eq_iff_iff]; simp; omega
      have HE2 := Lib.hid hv2
      clear hv2
      cases e2
      case true =>
        have HX : Hid (takeR l b = ([], 4, -1)) := Lib.hid (by rw [HT3.out, takeNo, if_pos (of_decide_eq_true HE1.out), if_pos (of_decide_eq_true HE2.out)])
        go_wp2
        refine bodyPost_ret (v := .tuple #[.slice none 0 0, .int .i64 4, .int .i64 (-1)]) (by simp [results, Try.results28, go_sem]) rfl ?_
        exact tookT_of HX.out OwnT.nil Hb5.out
      case false =>
        have HX : Hid (takeR l b = ((insS l i b.Producer).set i (takeNew (newS b.Producer) true b), 0, b.Base)) := Lib.hid (by rw [HT3.out, takeNo, if_pos (of_decide_eq_true HE1.out), if_neg (of_decide_eq_false HE2.out)])
        go_upto_region 26 with (go_at_call 71; refine (insert_c _ l i W6.heap.size c7 A7 b.Producer (HO6.out.below (below_al _ _)) (by have := HBB.out; simp; omega) hil (by omega) (Blk.new W6 _ _) (fun k hk => by have := HO6.out.blt k hk; omega)).mono ?_; rintro e W7 ⟨A8, c8, rfl, hO8, hg8⟩)
        have hL : (insS l i b.Producer).length = l.length + 1 := insS_len l i b.Producer hil
        obtain ⟨g, c9, u3, e9, HSA⟩ := SeenAt.open (L := insS l i b.Producer) hO8 (insS_get l i b.Producer hil)
        rw [hL] at e9
        simp only [Value.slice.injEq, true_and] at e9
        obtain ⟨rfl, rfl⟩ := e9
        have hJw : J ≠ W6.heap.size := by have := HBB.out; omega
        have X7 := Lib.hid ((X5.out.below (below_al W6 _)).grown hg8 (fun e => HOJ.out J e rfl))
        have Hb7 := Lib.hid ((below_tr Hb5.out (below_al W6 _)).grown hg8 (by have := Hb5.out.size; simp; omega) (fun k hk => by have := HO6.out.blk k hk; have := HBB.out; omega))
        have HSA7 := Lib.hid HSA
        have HJ3 := Lib.hid (show J < W3.heap.size from HBB.out.1)
        have hig : i < l.length + 1 := by omega
        have hJg : J ≠ g := by have := HSA.lt.2; omega
        clear hO8 hg8 HSA x0 x2 x3 x4 X5 Hb5 HO6 HBB
        generalize insS l i b.Producer = L1 at HX hL HSA7
        obtain ⟨s0, s1, s2, s3⟩ := HSA7.out.cell
        have f3 := HSA7.out.frz 3 (by decide)
        have hgl := HSA7.out.lt.1
        go_upto_region 29 with fail
        have HSA8 := Lib.hid (HSA7.out.set3 (.slice none 0 0)).nil
        have X8 := Lib.hid (X7.out.far g (i * 4 + 3) (.slice none 0 0) hJg)
        have Hb8 := Lib.hid (Hb7.out.setCell (p := ⟨g, i * 4 + 3, none⟩) (by have := HSA7.out.lt.2; have := HJ3.out; have := HJ.out; simp; omega) (.slice none 0 0))
        generalize W7.setCell ⟨g, i * 4 + 3, none⟩ (.slice none 0 0) = W8 at HSA8 X8 Hb8 ⊢
        clear s0 s1 s2 s3 f3 hgl HSA7 X7 Hb7
        have x0 : W8.cell? ⟨J, 0, none⟩ = some (.int .i64 b.Base) := X8.out.cell 0 _ rfl
        have x3 : W8.cell? ⟨J, 3, none⟩ = some (.int .i64 b.Turn) := X8.out.cell 3 _ rfl
        have x4 : W8.cell? ⟨J, 4, none⟩ = some (.int .i64 b.Seq) := X8.out.cell 4 _ rfl
        obtain ⟨s0, s1, s2, s3⟩ := HSA8.out.cell
        have f1 := HSA8.out.frz 1 (by decide)
        have f2 := HSA8.out.frz 2 (by decide)
        have f3 := HSA8.out.frz 3 (by decide)
        have hgl := HSA8.out.lt.1
        have hw1 : IntKind.i64.wrap (b.Seq + (b.Records.length : Int)) = b.Seq + (b.Records.length : Int) := IntWalk.i64_in _ (by omega)
        go_region
        have HSA9 := Lib.hid (((HSA8.out.setT b.Turn).setN (b.Seq + (b.Records.length : Int))).below (Below.refl _ _).drew)
        have X9 := Lib.hid ((((X8.out.far g (i * 4 + 1) (.int .i64 b.Turn) hJg).far g (i * 4 + 2) (.int .i64 (b.Seq + (b.Records.length : Int))) hJg)).below (Below.refl _ _).drew)
        have Hb9 := Lib.hid ((((Hb8.out.setCell (p := ⟨g, i * 4 + 1, none⟩) (by have := HSA8.out.lt.2; have := HJ3.out; have := HJ.out; simp; omega) (.int .i64 b.Turn)).setCell (p := ⟨g, i * 4 + 2, none⟩) (by have := HSA8.out.lt.2; have := HJ3.out; have := HJ.out; simp; omega) (.int .i64 (b.Seq + (b.Records.length : Int))))).drew)
        generalize ((W8.setCell ⟨g, i * 4 + 1, none⟩ (.int .i64 b.Turn)).setCell ⟨g, i * 4 + 2, none⟩ (.int .i64 (b.Seq + (b.Records.length : Int)))).drew = W9 at HSA9 X9 Hb9 ⊢
        clear x0 x3 x4 s0 s1 s2 s3 f1 f2 f3 hgl HSA8 X8 Hb8 hw1
        have x0 : W9.cell? ⟨J, 0, none⟩ = some (.int .i64 b.Base) := X9.out.cell 0 _ rfl
        have x4 : W9.cell? ⟨J, 4, none⟩ = some (.int .i64 b.Seq) := X9.out.cell 4 _ rfl
        obtain ⟨_, _, _, s3⟩ := HSA9.out.cell
        have f3 := HSA9.out.frz 3 (by decide)
        have hgl := HSA9.out.lt.1
        have hJl := X9.out.lt
        go_upto_region 30 with fail
        have BX1 := Lib.hid (show Box (W9.drew.alloc (.cells #[.int .i64 b.Seq, .int .i64 b.Records.length, .int .i64 b.Base] 103)) W9.heap.size #[.int .i64 (newR b).Seq, .int .i64 (newR b).Many, .int .i64 (newR b).Offset] from Box.new W9.drew _ _)
        have BL1 := Lib.hid (show Below W9.heap.size W9 (W9.drew.alloc (.cells #[.int .i64 b.Seq, .int .i64 b.Records.length, .int .i64 b.Base] 103)) from below_tr (Below.refl _ _).drew (below_al _ _))
        have hB9 := HSA9.out.lt.2
        have hwB : w.heap.size ≤ W3.heap.size := by have := HJ3.out; have := HJ.out; omega
        have hJB : J < W3.heap.size := HJ3.out
        have S0 : W9.drew.cell? ⟨J, 4, none⟩ = some (.int .i64 b.Seq) ∧ W9.drew.cell? ⟨J, 0, none⟩ = some (.int .i64 b.Base) ∧ W9.drew.cell? ⟨g, i * 4 + 3, none⟩ = some (.slice none 0 0) := ⟨x4, x0, s3⟩
        refine wp_region_T 15 (fun W => W.cell? ⟨J, 4, none⟩ = some (.int .i64 b.Seq) ∧ W.cell? ⟨J, 0, none⟩ = some (.int .i64 b.Base) ∧ W.cell? ⟨g, i * 4 + 3, none⟩ = some (.slice none 0 0)) (by kernel_rfl) ?_
        refine wpAnyT_take (i := 0) (v := .pointer (some ⟨g, i * 4, none⟩)) rfl (by kernel_rfl) (fun _ _ _ h => h) (by rfl) (fun W hW => ?_) S0 ?_
        · obtain ⟨h1, h2, h3⟩ := hW
          have hl1 := World.block_lt_of_cell? W _ h2
          have hl2 := World.block_lt_of_cell? W _ h3
          go_simp
        try simp only [Act.put, List.setIfInBounds_toArray, List.set_cons_zero, List.set_cons_succ]
        refine wpAnyT_take (i := 1) (v := .pointer (some ⟨g, i * 4, none⟩)) rfl (by kernel_rfl) (fun _ _ _ h => h) (by rfl) (fun W hW => ?_) S0 ?_
        · obtain ⟨h1, h2, h3⟩ := hW
          have hl1 := World.block_lt_of_cell? W _ h2
          have hl2 := World.block_lt_of_cell? W _ h3
          go_simp
        try simp only [Act.put, List.setIfInBounds_toArray, List.set_cons_zero, List.set_cons_succ]
        refine wpAnyT_take (i := 2) (v := .pointer (some ⟨g, i * 4, none⟩)) rfl (by kernel_rfl) (fun _ _ _ h => h) (by rfl) (fun W hW => ?_) S0 ?_
        · obtain ⟨h1, h2, h3⟩ := hW
          have hl1 := World.block_lt_of_cell? W _ h2
          have hl2 := World.block_lt_of_cell? W _ h3
          go_simp
        try simp only [Act.put, List.setIfInBounds_toArray, List.set_cons_zero, List.set_cons_succ]
        refine wpAnyT_take (i := 3) (v := .pointer (some ⟨g, i * 4 + 3, none⟩)) rfl (by kernel_rfl) (fun _ _ _ h => h) (by rfl) (fun W hW => ?_) S0 ?_
        · obtain ⟨h1, h2, h3⟩ := hW
          have hl1 := World.block_lt_of_cell? W _ h2
          have hl2 := World.block_lt_of_cell? W _ h3
          go_simp
        try simp only [Act.put, List.setIfInBounds_toArray, List.set_cons_zero, List.set_cons_succ]
        refine wpAnyT_take (i := 4) (v := .slice none 0 0) rfl (by kernel_rfl) (fun _ _ _ h => h) (by rfl) (fun W hW => ?_) S0 ?_
        · obtain ⟨h1, h2, h3⟩ := hW
          have hl1 := World.block_lt_of_cell? W _ h2
          have hl2 := World.block_lt_of_cell? W _ h3
          go_simp
        try simp only [Act.put, List.setIfInBounds_toArray, List.set_cons_zero, List.set_cons_succ]
        refine wpAnyT_take (i := 5) (v := .pointer (some ⟨J, 4, none⟩)) rfl (by kernel_rfl) (fun _ _ _ h => h) (by rfl) (fun W hW => ?_) S0 ?_
        · obtain ⟨h1, h2, h3⟩ := hW
          have hl1 := World.block_lt_of_cell? W _ h2
          have hl2 := World.block_lt_of_cell? W _ h3
          go_simp
        try simp only [Act.put, List.setIfInBounds_toArray, List.set_cons_zero, List.set_cons_succ]
        refine wpAnyT_take (i := 6) (v := .int .i64 b.Seq) rfl (by kernel_rfl) (fun _ _ _ h => h) (by rfl) (fun W hW => ?_) S0 ?_
        · obtain ⟨h1, h2, h3⟩ := hW
          have hl1 := World.block_lt_of_cell? W _ h2
          have hl2 := World.block_lt_of_cell? W _ h3
          go_simp
        try simp only [Act.put, List.setIfInBounds_toArray, List.set_cons_zero, List.set_cons_succ]
        refine wpAnyT_take (i := 7) (v := .int .i64 b.Records.length) rfl (by kernel_rfl) (fun _ _ _ h => h) (by rfl) (fun W hW => ?_) S0 ?_
        · obtain ⟨h1, h2, h3⟩ := hW
          have hl1 := World.block_lt_of_cell? W _ h2
          have hl2 := World.block_lt_of_cell? W _ h3
          go_simp
        try simp only [Act.put, List.setIfInBounds_toArray, List.set_cons_zero, List.set_cons_succ]
        refine wpAnyT_take (i := 8) (v := .pointer (some ⟨J, 0, none⟩)) rfl (by kernel_rfl) (fun _ _ _ h => h) (by rfl) (fun W hW => ?_) S0 ?_
        · obtain ⟨h1, h2, h3⟩ := hW
          have hl1 := World.block_lt_of_cell? W _ h2
          have hl2 := World.block_lt_of_cell? W _ h3
          go_simp
        try simp only [Act.put, List.setIfInBounds_toArray, List.set_cons_zero, List.set_cons_succ]
        refine wpAnyT_take (i := 9) (v := .int .i64 b.Base) rfl (by kernel_rfl) (fun _ _ _ h => h) (by rfl) (fun W hW => ?_) S0 ?_
        · obtain ⟨h1, h2, h3⟩ := hW
          have hl1 := World.block_lt_of_cell? W _ h2
          have hl2 := World.block_lt_of_cell? W _ h3
          go_simp
        try simp only [Act.put, List.setIfInBounds_toArray, List.set_cons_zero, List.set_cons_succ]
        refine wpAnyT_take (i := 10) (v := .agg #[.int .i64 b.Seq, .int .i64 b.Records.length, .int .i64 b.Base]) rfl (by kernel_rfl) (fun _ _ _ h => h) (by rfl) (fun W hW => ?_) S0 ?_
        · obtain ⟨h1, h2, h3⟩ := hW
          have hl1 := World.block_lt_of_cell? W _ h2
          have hl2 := World.block_lt_of_cell? W _ h3
          go_simp
        try simp only [Act.put, List.setIfInBounds_toArray, List.set_cons_zero, List.set_cons_succ]
        refine wpAnyT_one (i := 11) (by kernel_rfl) rfl (fun K hK => ?_)
        have hba := below_al W9.drew (.cells #[.int .i64 b.Seq, .int .i64 b.Records.length, .int .i64 b.Base] 103)
        go_simp
        have S1 : (W9.drew.alloc (.cells #[.int .i64 b.Seq, .int .i64 b.Records.length, .int .i64 b.Base] 103)).cell? ⟨J, 4, none⟩ = some (.int .i64 b.Seq) ∧ (W9.drew.alloc (.cells #[.int .i64 b.Seq, .int .i64 b.Records.length, .int .i64 b.Base] 103)).cell? ⟨J, 0, none⟩ = some (.int .i64 b.Base) ∧ (W9.drew.alloc (.cells #[.int .i64 b.Seq, .int .i64 b.Records.length, .int .i64 b.Base] 103)).cell? ⟨g, i * 4 + 3, none⟩ = some (.slice none 0 0) := ⟨later hba S0.1, later hba S0.2.1, later hba S0.2.2⟩
        refine hK.out _ _ (fun _ => S1) ?_
        clear hK K
        try simp only [Act.put, List.setIfInBounds_toArray, List.set_cons_zero, List.set_cons_succ]
        refine wpAnyT_one (i := 12) (by kernel_rfl) rfl (fun K hK => ?_)
        refine step_recent info_recent rfl rfl (.tmp 147) (.tmp 154) 99 rfl Try.underlying99 (v3 := .slice none 0 0) rfl HSA9.out BL1.out (newR b) _ _ rfl BX1.out (by simp) ?_
        intro A9 c9 wa hSA hblk hbB
        have hJa : Blk wa J #[.int .i64 b.Base, .int .i64 b.Epoch, .int .i64 b.Producer, .int .i64 b.Turn, .int .i64 b.Seq, .int .i64 b.Flags, .slice A6 b.Records.length c6] 52 := (hblk J (by have := hba.size; have := BL1.out.size; simp; omega) hJB).trans (X9.out.below BL1.out)
        obtain ⟨_, _, _, t3⟩ := hSA.cell
        have tf3 := hSA.frz 3 (by decide)
        have tgl := hSA.lt.1
        have S2 : wa.cell? ⟨J, 4, none⟩ = some (.int .i64 b.Seq) ∧ wa.cell? ⟨J, 0, none⟩ = some (.int .i64 b.Base) ∧ wa.cell? ⟨g, i * 4 + 3, none⟩ = some (.slice none 0 0) := ⟨hJa.cell 4 _ rfl, hJa.cell 0 _ rfl, t3⟩
        have HQ := Lib.hid (And.intro (hSA.set3 (.slice A9 (1) c9)) (rec_tail (o := i * 4 + 3) X9.out Hb9.out BL1.out hbB hJB hwB hB9 (.slice A9 (1) c9)))
        refine hK.out _ _ (fun _ => S2) ?_
        clear hK K hSA hblk hbB hJa
        try simp only [Act.put, List.setIfInBounds_toArray, List.set_cons_zero, List.set_cons_succ]
        refine wpAnyT_one (i := 13) (by kernel_rfl) rfl (fun K hK => ?_)
        go_simp
        refine hK.out _ _ (fun _ => S2) ?_
        clear hK K
        try simp only [Act.put, List.setIfInBounds_toArray, List.set_cons_zero, List.set_cons_succ]
        refine wpAnyT_one (i := 14) (by kernel_rfl) rfl (fun K hK => ?_)
        go_simp
        refine hK.out _ _ (fun _ => S2) ?_
        clear hK K
        try simp only [Act.put, List.setIfInBounds_toArray, List.set_cons_zero, List.set_cons_succ]
        refine wpAnyT_one (i := 15) (by kernel_rfl) rfl (fun K hK => ?_)
        go_simp
        refine hK.out _ _ (fun h => absurd rfl h) ?_
        clear hK K S0 S1 S2 hba t3 tf3 tgl
        refine wpAnyT_done (by kernel_rfl) ?_ _
        clear BX1 BL1 x0 x4 s3 f3 hgl HSA9 X9 Hb9 hB9
        have HSA := Lib.hid HQ.out.1
        have X := Lib.hid HQ.out.2.1
        have Hb := Lib.hid HQ.out.2.2
        clear HQ
        generalize wa.setCell ⟨g, i * 4 + 3, none⟩ (.slice A9 1 c9) = wc at HSA X Hb ⊢
        have x0 : wc.cell? ⟨J, 0, none⟩ = some (.int .i64 b.Base) := X.out.cell 0 _ rfl
        obtain ⟨_, _, _, s3⟩ := HSA.out.cell
        have hgl := HSA.out.lt.1
        go_upto_region 34 with fail
        go_quiet (fail)
        go_wp2
        refine bodyPost_ret (v := .tuple #[.slice (some ⟨g, 0, none⟩) (l.length + 1) c8, .int .i64 0, .int .i64 b.Base]) (by simp [results, Try.results28, go_sem]) rfl ?_
        refine tookT_of HX.out (((OwnT.toSeen (OwnT.mono ?_ hwB))).below (below_dn (Below.refl _ _) _)) (below_dn Hb.out _)
        rw [← hL]
        exact HSA.out.close
  case some s =>
    have HT3 : Hid (takeR l b = takeHas l b i s) := HTR2
    obtain ⟨hli, hsp⟩ := HGS.out s rfl
    have hig : i < l.length := (List.getElem?_eq_some_iff.1 hli).1
    obtain ⟨⟨_, _⟩, ⟨st0, st1⟩, ⟨sn0, sn1⟩, sr5⟩ := snA_facts (HSN.out s (List.mem_of_getElem? hli)).1
    clear HTR2 HGS
    obtain ⟨g, c9, u3, e9, HSA⟩ := SeenAt.open HO6.out hli
    simp only [Value.slice.injEq, true_and] at e9
    obtain ⟨rfl, rfl⟩ := e9
    have HLI := Lib.hid hli
    have HJ3 := Lib.hid (show J < W3.heap.size from HBB.out.1)
    have hwB : w.heap.size ≤ W3.heap.size := by have := HJ3.out; have := HJ.out; omega
    have hJg : J ≠ g := by have := HSA.lt.2; have := HJ3.out; omega
    obtain ⟨s0, s1, s2, s3⟩ := HSA.cell
    have HSA5 := Lib.hid HSA
    have hgl := HSA.lt.1
    clear hli hsp HSA HBB
    rw [show (some s).isSome = true from rfl]
    generalize hv1 : decide (s.Turn = b.Turn) = e1
    have hp1 : (s.Turn == b.Turn) = e1 := by rw [← hv1]; rfl
    have HE1 := Lib.hid hv1
    clear hv1
    by_cases hlt : b.Turn < s.Turn
    case pos =>
      have HX : Hid (takeR l b = (l, 3, -1)) := Lib.hid (by rw [HT3.out, takeHas, if_pos hlt])
      have hd1 : decide (b.Turn < s.Turn) = true := by simpa using hlt
      obtain rfl : e1 = false := by rw [← HE1.out]; simp; omega
      go_upto_region 8 with fail
      go_quiet (fail)
      go_upto_region 9 with fail
      go_quiet (fail)
      go_wp2
      refine bodyPost_ret (v := .tuple #[.slice (some ⟨g, 0, none⟩) l.length c7, .int .i64 3, .int .i64 (-1)]) (by simp [results, Try.results28, go_sem]) rfl ?_
      exact tookT_of HX.out ((ownX_T (HO6.out.mono hwB)).below (below_dn (below_dn (Below.refl _ _) _) _)) (below_dn (below_dn Hb5.out _) _)
    have hd1 : decide (b.Turn < s.Turn) = false := by simpa using hlt
    cases e1
    case false =>
      have HT4 : Hid (takeR l b = if b.Seq = 0 then (l.set i (takeNew s true b), 0, b.Base) else (l, 2, -1)) := Lib.hid (by rw [HT3.out, takeHas, if_neg hlt, if_neg (of_decide_eq_false HE1.out)])
      go_upto_region 8 with fail
      go_quiet (fail)
      go_upto_region 9 with fail
      go_quiet (fail)
      go_upto_region 20 with fail
      refine gen_wp (w0 := W5) (below_dn (below_dn (Below.refl _ _) _) _) (fun W7 hb6 => ?_)
      have HSA7 := Lib.hid (HSA5.out.below hb6)
      have X7 := Lib.hid (X5.out.below hb6)
      have Hb7 := Lib.hid (below_tr Hb5.out hb6)
      have HO7 := Lib.hid (HO6.out.below hb6)
      clear hb6 x0 x2 x3 x4 x6 s0 s1 s2 s3 HSA5 X5 Hb5 HO6 hgl
      have x4 : W7.cell? ⟨J, 4, none⟩ = some (.int .i64 b.Seq) := X7.out.cell 4 _ rfl
      generalize hv1 : decide (b.Seq = 0) = e2
      have hp2 : (b.Seq != 0) = !e2 := by rw [← hv1]; rfl
      have HE2 := Lib.hid hv1
      clear hv1
      cases e2
      case false =>
        have HX : Hid (takeR l b = (l, 2, -1)) := Lib.hid (by rw [HT4.out, if_neg (of_decide_eq_false HE2.out)])
        go_wp2
        refine bodyPost_ret (v := .tuple #[.slice (some ⟨g, 0, none⟩) l.length c7, .int .i64 2, .int .i64 (-1)]) (by simp [results, Try.results28, go_sem]) rfl ?_
        exact tookT_of HX.out (ownX_T (HO7.out.mono hwB)) Hb7.out
      case true =>
        have HX : Hid (takeR l b = (l.set i (takeNew s true b), 0, b.Base)) := Lib.hid (by rw [HT4.out, if_pos (of_decide_eq_true HE2.out)])
        go_upto_region 26 with fail
        clear x4
        obtain ⟨s0, s1, s2, s3⟩ := HSA7.out.cell
        have f3 := HSA7.out.frz 3 (by decide)
        have hgl := HSA7.out.lt.1
        go_upto_region 29 with fail
        have HSA8 := Lib.hid (HSA7.out.set3 (.slice none 0 0)).nil
        have X8 := Lib.hid (X7.out.far g (i * 4 + 3) (.slice none 0 0) hJg)
        have Hb8 := Lib.hid (Hb7.out.setCell (p := ⟨g, i * 4 + 3, none⟩) (by have := HSA7.out.lt.2; have := HJ3.out; have := HJ.out; simp; omega) (.slice none 0 0))
        generalize W7.setCell ⟨g, i * 4 + 3, none⟩ (.slice none 0 0) = W8 at HSA8 X8 Hb8 ⊢
        clear s0 s1 s2 s3 f3 hgl HSA7 X7 Hb7
        have x0 : W8.cell? ⟨J, 0, none⟩ = some (.int .i64 b.Base) := X8.out.cell 0 _ rfl
        have x3 : W8.cell? ⟨J, 3, none⟩ = some (.int .i64 b.Turn) := X8.out.cell 3 _ rfl
        have x4 : W8.cell? ⟨J, 4, none⟩ = some (.int .i64 b.Seq) := X8.out.cell 4 _ rfl
        obtain ⟨s0, s1, s2, s3⟩ := HSA8.out.cell
        have f1 := HSA8.out.frz 1 (by decide)
        have f2 := HSA8.out.frz 2 (by decide)
        have f3 := HSA8.out.frz 3 (by decide)
        have hgl := HSA8.out.lt.1
        have hw1 : IntKind.i64.wrap (b.Seq + (b.Records.length : Int)) = b.Seq + (b.Records.length : Int) := IntWalk.i64_in _ (by omega)
        go_region
        have HSA9 := Lib.hid (((HSA8.out.setT b.Turn).setN (b.Seq + (b.Records.length : Int))).below (Below.refl _ _).drew)
        have X9 := Lib.hid ((((X8.out.far g (i * 4 + 1) (.int .i64 b.Turn) hJg).far g (i * 4 + 2) (.int .i64 (b.Seq + (b.Records.length : Int))) hJg)).below (Below.refl _ _).drew)
        have Hb9 := Lib.hid ((((Hb8.out.setCell (p := ⟨g, i * 4 + 1, none⟩) (by have := HSA8.out.lt.2; have := HJ3.out; have := HJ.out; simp; omega) (.int .i64 b.Turn)).setCell (p := ⟨g, i * 4 + 2, none⟩) (by have := HSA8.out.lt.2; have := HJ3.out; have := HJ.out; simp; omega) (.int .i64 (b.Seq + (b.Records.length : Int))))).drew)
        generalize ((W8.setCell ⟨g, i * 4 + 1, none⟩ (.int .i64 b.Turn)).setCell ⟨g, i * 4 + 2, none⟩ (.int .i64 (b.Seq + (b.Records.length : Int)))).drew = W9 at HSA9 X9 Hb9 ⊢
        clear x0 x3 x4 s0 s1 s2 s3 f1 f2 f3 hgl HSA8 X8 Hb8 hw1
        have x0 : W9.cell? ⟨J, 0, none⟩ = some (.int .i64 b.Base) := X9.out.cell 0 _ rfl
        have x4 : W9.cell? ⟨J, 4, none⟩ = some (.int .i64 b.Seq) := X9.out.cell 4 _ rfl
        obtain ⟨_, _, _, s3⟩ := HSA9.out.cell
        have f3 := HSA9.out.frz 3 (by decide)
        have hgl := HSA9.out.lt.1
        have hJl := X9.out.lt
        go_upto_region 30 with fail
        have BX1 := Lib.hid (show Box (W9.drew.alloc (.cells #[.int .i64 b.Seq, .int .i64 b.Records.length, .int .i64 b.Base] 103)) W9.heap.size #[.int .i64 (newR b).Seq, .int .i64 (newR b).Many, .int .i64 (newR b).Offset] from Box.new W9.drew _ _)
        have BL1 := Lib.hid (show Below W9.heap.size W9 (W9.drew.alloc (.cells #[.int .i64 b.Seq, .int .i64 b.Records.length, .int .i64 b.Base] 103)) from below_tr (Below.refl _ _).drew (below_al _ _))
        have hB9 := HSA9.out.lt.2
        have hwB : w.heap.size ≤ W3.heap.size := by have := HJ3.out; have := HJ.out; omega
        have hJB : J < W3.heap.size := HJ3.out
        have S0 : W9.drew.cell? ⟨J, 4, none⟩ = some (.int .i64 b.Seq) ∧ W9.drew.cell? ⟨J, 0, none⟩ = some (.int .i64 b.Base) ∧ W9.drew.cell? ⟨g, i * 4 + 3, none⟩ = some (.slice none 0 0) := ⟨x4, x0, s3⟩
        refine wp_region_T 15 (fun W => W.cell? ⟨J, 4, none⟩ = some (.int .i64 b.Seq) ∧ W.cell? ⟨J, 0, none⟩ = some (.int .i64 b.Base) ∧ W.cell? ⟨g, i * 4 + 3, none⟩ = some (.slice none 0 0)) (by kernel_rfl) ?_
        refine wpAnyT_take (i := 0) (v := .pointer (some ⟨g, i * 4, none⟩)) rfl (by kernel_rfl) (fun _ _ _ h => h) (by rfl) (fun W hW => ?_) S0 ?_
        · obtain ⟨h1, h2, h3⟩ := hW
          have hl1 := World.block_lt_of_cell? W _ h2
          have hl2 := World.block_lt_of_cell? W _ h3
          go_simp
        try simp only [Act.put, List.setIfInBounds_toArray, List.set_cons_zero, List.set_cons_succ]
        refine wpAnyT_take (i := 1) (v := .pointer (some ⟨g, i * 4, none⟩)) rfl (by kernel_rfl) (fun _ _ _ h => h) (by rfl) (fun W hW => ?_) S0 ?_
        · obtain ⟨h1, h2, h3⟩ := hW
          have hl1 := World.block_lt_of_cell? W _ h2
          have hl2 := World.block_lt_of_cell? W _ h3
          go_simp
        try simp only [Act.put, List.setIfInBounds_toArray, List.set_cons_zero, List.set_cons_succ]
        refine wpAnyT_take (i := 2) (v := .pointer (some ⟨g, i * 4, none⟩)) rfl (by kernel_rfl) (fun _ _ _ h => h) (by rfl) (fun W hW => ?_) S0 ?_
        · obtain ⟨h1, h2, h3⟩ := hW
          have hl1 := World.block_lt_of_cell? W _ h2
          have hl2 := World.block_lt_of_cell? W _ h3
          go_simp
        try simp only [Act.put, List.setIfInBounds_toArray, List.set_cons_zero, List.set_cons_succ]
        refine wpAnyT_take (i := 3) (v := .pointer (some ⟨g, i * 4 + 3, none⟩)) rfl (by kernel_rfl) (fun _ _ _ h => h) (by rfl) (fun W hW => ?_) S0 ?_
        · obtain ⟨h1, h2, h3⟩ := hW
          have hl1 := World.block_lt_of_cell? W _ h2
          have hl2 := World.block_lt_of_cell? W _ h3
          go_simp
        try simp only [Act.put, List.setIfInBounds_toArray, List.set_cons_zero, List.set_cons_succ]
        refine wpAnyT_take (i := 4) (v := .slice none 0 0) rfl (by kernel_rfl) (fun _ _ _ h => h) (by rfl) (fun W hW => ?_) S0 ?_
        · obtain ⟨h1, h2, h3⟩ := hW
          have hl1 := World.block_lt_of_cell? W _ h2
          have hl2 := World.block_lt_of_cell? W _ h3
          go_simp
        try simp only [Act.put, List.setIfInBounds_toArray, List.set_cons_zero, List.set_cons_succ]
        refine wpAnyT_take (i := 5) (v := .pointer (some ⟨J, 4, none⟩)) rfl (by kernel_rfl) (fun _ _ _ h => h) (by rfl) (fun W hW => ?_) S0 ?_
        · obtain ⟨h1, h2, h3⟩ := hW
          have hl1 := World.block_lt_of_cell? W _ h2
          have hl2 := World.block_lt_of_cell? W _ h3
          go_simp
        try simp only [Act.put, List.setIfInBounds_toArray, List.set_cons_zero, List.set_cons_succ]
        refine wpAnyT_take (i := 6) (v := .int .i64 b.Seq) rfl (by kernel_rfl) (fun _ _ _ h => h) (by rfl) (fun W hW => ?_) S0 ?_
        · obtain ⟨h1, h2, h3⟩ := hW
          have hl1 := World.block_lt_of_cell? W _ h2
          have hl2 := World.block_lt_of_cell? W _ h3
          go_simp
        try simp only [Act.put, List.setIfInBounds_toArray, List.set_cons_zero, List.set_cons_succ]
        refine wpAnyT_take (i := 7) (v := .int .i64 b.Records.length) rfl (by kernel_rfl) (fun _ _ _ h => h) (by rfl) (fun W hW => ?_) S0 ?_
        · obtain ⟨h1, h2, h3⟩ := hW
          have hl1 := World.block_lt_of_cell? W _ h2
          have hl2 := World.block_lt_of_cell? W _ h3
          go_simp
        try simp only [Act.put, List.setIfInBounds_toArray, List.set_cons_zero, List.set_cons_succ]
        refine wpAnyT_take (i := 8) (v := .pointer (some ⟨J, 0, none⟩)) rfl (by kernel_rfl) (fun _ _ _ h => h) (by rfl) (fun W hW => ?_) S0 ?_
        · obtain ⟨h1, h2, h3⟩ := hW
          have hl1 := World.block_lt_of_cell? W _ h2
          have hl2 := World.block_lt_of_cell? W _ h3
          go_simp
        try simp only [Act.put, List.setIfInBounds_toArray, List.set_cons_zero, List.set_cons_succ]
        refine wpAnyT_take (i := 9) (v := .int .i64 b.Base) rfl (by kernel_rfl) (fun _ _ _ h => h) (by rfl) (fun W hW => ?_) S0 ?_
        · obtain ⟨h1, h2, h3⟩ := hW
          have hl1 := World.block_lt_of_cell? W _ h2
          have hl2 := World.block_lt_of_cell? W _ h3
          go_simp
        try simp only [Act.put, List.setIfInBounds_toArray, List.set_cons_zero, List.set_cons_succ]
        refine wpAnyT_take (i := 10) (v := .agg #[.int .i64 b.Seq, .int .i64 b.Records.length, .int .i64 b.Base]) rfl (by kernel_rfl) (fun _ _ _ h => h) (by rfl) (fun W hW => ?_) S0 ?_
        · obtain ⟨h1, h2, h3⟩ := hW
          have hl1 := World.block_lt_of_cell? W _ h2
          have hl2 := World.block_lt_of_cell? W _ h3
          go_simp
        try simp only [Act.put, List.setIfInBounds_toArray, List.set_cons_zero, List.set_cons_succ]
        refine wpAnyT_one (i := 11) (by kernel_rfl) rfl (fun K hK => ?_)
        have hba := below_al W9.drew (.cells #[.int .i64 b.Seq, .int .i64 b.Records.length, .int .i64 b.Base] 103)
        go_simp
        have S1 : (W9.drew.alloc (.cells #[.int .i64 b.Seq, .int .i64 b.Records.length, .int .i64 b.Base] 103)).cell? ⟨J, 4, none⟩ = some (.int .i64 b.Seq) ∧ (W9.drew.alloc (.cells #[.int .i64 b.Seq, .int .i64 b.Records.length, .int .i64 b.Base] 103)).cell? ⟨J, 0, none⟩ = some (.int .i64 b.Base) ∧ (W9.drew.alloc (.cells #[.int .i64 b.Seq, .int .i64 b.Records.length, .int .i64 b.Base] 103)).cell? ⟨g, i * 4 + 3, none⟩ = some (.slice none 0 0) := ⟨later hba S0.1, later hba S0.2.1, later hba S0.2.2⟩
        refine hK.out _ _ (fun _ => S1) ?_
        clear hK K
        try simp only [Act.put, List.setIfInBounds_toArray, List.set_cons_zero, List.set_cons_succ]
        refine wpAnyT_one (i := 12) (by kernel_rfl) rfl (fun K hK => ?_)
        refine step_recent info_recent rfl rfl (.tmp 147) (.tmp 154) 99 rfl Try.underlying99 (v3 := .slice none 0 0) rfl HSA9.out BL1.out (newR b) _ _ rfl BX1.out (by simp) ?_
        intro A9 c9 wa hSA hblk hbB
        have hJa : Blk wa J #[.int .i64 b.Base, .int .i64 b.Epoch, .int .i64 b.Producer, .int .i64 b.Turn, .int .i64 b.Seq, .int .i64 b.Flags, .slice A6 b.Records.length c6] 52 := (hblk J (by have := hba.size; have := BL1.out.size; simp; omega) hJB).trans (X9.out.below BL1.out)
        obtain ⟨_, _, _, t3⟩ := hSA.cell
        have tf3 := hSA.frz 3 (by decide)
        have tgl := hSA.lt.1
        have S2 : wa.cell? ⟨J, 4, none⟩ = some (.int .i64 b.Seq) ∧ wa.cell? ⟨J, 0, none⟩ = some (.int .i64 b.Base) ∧ wa.cell? ⟨g, i * 4 + 3, none⟩ = some (.slice none 0 0) := ⟨hJa.cell 4 _ rfl, hJa.cell 0 _ rfl, t3⟩
        have HQ := Lib.hid (And.intro (hSA.set3 (.slice A9 (1) c9)) (rec_tail (o := i * 4 + 3) X9.out Hb9.out BL1.out hbB hJB hwB hB9 (.slice A9 (1) c9)))
        refine hK.out _ _ (fun _ => S2) ?_
        clear hK K hSA hblk hbB hJa
        try simp only [Act.put, List.setIfInBounds_toArray, List.set_cons_zero, List.set_cons_succ]
        refine wpAnyT_one (i := 13) (by kernel_rfl) rfl (fun K hK => ?_)
        go_simp
        refine hK.out _ _ (fun _ => S2) ?_
        clear hK K
        try simp only [Act.put, List.setIfInBounds_toArray, List.set_cons_zero, List.set_cons_succ]
        refine wpAnyT_one (i := 14) (by kernel_rfl) rfl (fun K hK => ?_)
        go_simp
        refine hK.out _ _ (fun _ => S2) ?_
        clear hK K
        try simp only [Act.put, List.setIfInBounds_toArray, List.set_cons_zero, List.set_cons_succ]
        refine wpAnyT_one (i := 15) (by kernel_rfl) rfl (fun K hK => ?_)
        go_simp
        refine hK.out _ _ (fun h => absurd rfl h) ?_
        clear hK K S0 S1 S2 hba t3 tf3 tgl
        refine wpAnyT_done (by kernel_rfl) ?_ _
        clear BX1 BL1 x0 x4 s3 f3 hgl HSA9 X9 Hb9 hB9
        have HSA := Lib.hid HQ.out.1
        have X := Lib.hid HQ.out.2.1
        have Hb := Lib.hid HQ.out.2.2
        clear HQ
        generalize wa.setCell ⟨g, i * 4 + 3, none⟩ (.slice A9 1 c9) = wc at HSA X Hb ⊢
        have x0 : wc.cell? ⟨J, 0, none⟩ = some (.int .i64 b.Base) := X.out.cell 0 _ rfl
        obtain ⟨_, _, _, s3⟩ := HSA.out.cell
        have hgl := HSA.out.lt.1
        go_upto_region 34 with fail
        go_quiet (fail)
        go_wp2
        refine bodyPost_ret (v := .tuple #[.slice (some ⟨g, 0, none⟩) l.length c7, .int .i64 0, .int .i64 b.Base]) (by simp [results, Try.results28, go_sem]) rfl ?_
        refine tookT_of HX.out (((OwnT.toSeen (OwnT.mono ?_ hwB))).below (below_dn (Below.refl _ _) _)) (below_dn Hb.out _)
        exact HSA.out.close
    case true =>
      have HT4 : Hid (takeR l b = match dupOf b s.Recent with
        | some o => (l, 1, o)
        | none => if b.Seq = s.Next then (l.set i (takeNew s false b), 0, b.Base) else (l, 2, -1)) := Lib.hid (by rw [HT3.out, takeHas, if_neg hlt, if_pos (of_decide_eq_true HE1.out)]; rfl)
      go_upto_region 8 with fail
      go_quiet (fail)
      go_upto_region 9 with fail
      go_quiet (fail)
      go_upto_region 12 with fail
      refine gen_wp (w0 := W5) (below_dn (below_dn (Below.refl _ _) _) _) (fun W6 hb6 => ?_)
      have HSA6 := Lib.hid (HSA5.out.below hb6)
      have X6 := Lib.hid (X5.out.below hb6)
      have Hb6 := Lib.hid (below_tr Hb5.out hb6)
      replace HO6 := Lib.hid (HO6.out.below hb6)
      clear hb6 x0 x2 x3 x4 x6 s0 s1 s2 s3 HSA5 X5 Hb5 hgl
      obtain ⟨s0, s1, s2, s3⟩ := HSA6.out.cell
      have hgl := HSA6.out.lt.1
      obtain ⟨A3, c3, rfl, l3, hr3⟩ := HSA6.out.recent
      have HR3 := Lib.hid hr3
      clear hr3
      generalize hdo : dupOf b s.Recent = dd at HT4
      have HDO := Lib.hid hdo
      clear hdo
      go_upto_region 13 with fail
      clear s0 s1 s2 s3 hgl
      go_loopg [78] s.Recent.length (fun q v wr => ∃ k : Nat, k + q = s.Recent.length ∧ v = .int .i64 k ∧ Below W6.heap.size W6 wr ∧ Hid (dupOf b (s.Recent.drop k) = dd))
      case atStart => exact ⟨0, by omega, rfl, Below.refl _ _, HDO⟩
      case round =>
        clear HDO
        obtain ⟨k, hk, rfl, hbr, HD⟩ := hrel
        by_cases hlk : k < s.Recent.length
        case pos =>
          obtain ⟨bd, r, rfl, hy, r0, r1, r2⟩ := Recent.at (Row_below HR3.out hbr) k hlk
          have HD2 : Hid ((if r.Seq = b.Seq ∧ r.Many = b.Records.length then some r.Offset else dupOf b (s.Recent.drop (k + 1))) = dd) := Lib.hid (by rw [← dupOf_cons, ← drop_cons hy]; exact HD.out)
          clear hy HD
          have hba := below_al wr (.cells #[.int .i64 r.Seq, .int .i64 r.Many, .int .i64 r.Offset] 103)
          have Q1 := Blk.new wr #[.int .i64 r.Seq, .int .i64 r.Many, .int .i64 r.Offset] 103
          have Xr := Lib.hid ((X6.out.below hbr).below hba)
          have HBR := Lib.hid (below_tr hbr hba)
          obtain ⟨Q, hQ⟩ : ∃ n, n = wr.heap.size := ⟨_, rfl⟩
          go_upto_region 15 with fail
          clear r0 r1 r2
          generalize wr.alloc (.cells #[.int .i64 r.Seq, .int .i64 r.Many, .int .i64 r.Offset] 103) = W8 at Q1 Xr HBR ⊢
          rw [← hQ] at Q1 ⊢
          clear hQ hba hbr
          have q0 : W8.cell? ⟨Q, 0, none⟩ = some (.int .i64 r.Seq) := Q1.cell 0 _ rfl
          have q1 : W8.cell? ⟨Q, 1, none⟩ = some (.int .i64 r.Many) := Q1.cell 1 _ rfl
          have q2 : W8.cell? ⟨Q, 2, none⟩ = some (.int .i64 r.Offset) := Q1.cell 2 _ rfl
          have x4 : W8.cell? ⟨J, 4, none⟩ = some (.int .i64 b.Seq) := Xr.out.cell 4 _ rfl
          have hQl := Q1.lt
          clear Q1
          generalize hv3 : decide (r.Seq = b.Seq) = e3
          have hp3 : (r.Seq == b.Seq) = e3 := by rw [← hv3]; rfl
          generalize hv4 : decide (r.Many = b.Records.length) = e4
          have hp4 : (r.Many == (b.Records.length : Int)) = e4 := by rw [← hv4]; rfl
          have HE3 := Lib.hid hv3
          have HE4 := Lib.hid hv4
          clear hv3 hv4
          cases e3
          case false =>
            have HD3 : Hid (dupOf b (s.Recent.drop (k + 1)) = dd) := Lib.hid (by rw [← HD2.out, if_neg (fun h => of_decide_eq_false HE3.out h.1)])
            go_wp2
            go_roundg (s.Recent.length - k - 1)
            case rel => exact ⟨k + 1, by omega, by go_num, HBR.out, HD3⟩
            case measure => omega
          case true =>
            cases e4
            case false =>
              have HD3 : Hid (dupOf b (s.Recent.drop (k + 1)) = dd) := Lib.hid (by rw [← HD2.out, if_neg (fun h => of_decide_eq_false HE4.out h.2)])
              go_wp2
              go_roundg (s.Recent.length - k - 1)
              case rel => exact ⟨k + 1, by omega, by go_num, HBR.out, HD3⟩
              case measure => omega
            case true =>
              have HDD : Hid (dd = some r.Offset) := Lib.hid (by rw [← HD2.out, if_pos ⟨of_decide_eq_true HE3.out, of_decide_eq_true HE4.out⟩])
              have HX : Hid (takeR l b = (l, 1, r.Offset)) := Lib.hid (by rw [HT4.out, HDD.out])
              go_upto_region 16 with fail
              go_quiet (fail)
              go_wp2
              refine bodyPost_ret (v := .tuple #[.slice (some ⟨g, 0, none⟩) l.length c7, .int .i64 1, .int .i64 r.Offset]) (by simp [results, Try.results28, go_sem]) rfl ?_
              exact tookT_of HX.out ((ownX_T ((HO6.out.below HBR.out).mono hwB)).below (below_dn (Below.refl _ _) _)) (below_dn (below_tr Hb6.out HBR.out) _)
        case neg =>
          have HDD : Hid (dd = none) := Lib.hid (by have h := HD.out; rw [List.drop_eq_nil_of_le (by omega)] at h; rw [← h]; rfl)
          have HT5 : Hid (takeR l b = if b.Seq = s.Next then (l.set i (takeNew s false b), 0, b.Base) else (l, 2, -1)) := Lib.hid (by rw [HT4.out, HDD.out])
          have HSA7 := Lib.hid (HSA6.out.below hbr)
          have X7 := Lib.hid (X6.out.below hbr)
          have Hb7 := Lib.hid (below_tr Hb6.out hbr)
          have HO7 := Lib.hid (HO6.out.below hbr)
          clear HD HDD HT4 HSA6 X6 Hb6 HO6 hbr
          obtain ⟨s0, s1, s2, s3⟩ := HSA7.out.cell
          have hgl := HSA7.out.lt.1
          have x4 : wr.cell? ⟨J, 4, none⟩ = some (.int .i64 b.Seq) := X7.out.cell 4 _ rfl
          generalize hv3 : decide (b.Seq = s.Next) = e3
          have hp3 : (b.Seq != s.Next) = !e3 := by rw [← hv3]; rfl
          have HE3 := Lib.hid hv3
          clear hv3
          cases e3
          case false =>
            have HX : Hid (takeR l b = (l, 2, -1)) := Lib.hid (by rw [HT5.out, if_neg (of_decide_eq_false HE3.out)])
            go_upto_region 18 with fail
            go_quiet (fail)
            go_wp2
            refine bodyPost_ret (v := .tuple #[.slice (some ⟨g, 0, none⟩) l.length c7, .int .i64 2, .int .i64 (-1)]) (by simp [results, Try.results28, go_sem]) rfl ?_
            exact tookT_of HX.out ((ownX_T (HO7.out.mono hwB)).below (below_dn (Below.refl _ _) _)) (below_dn Hb7.out _)
          case true =>
            have HX : Hid (takeR l b = (l.set i (takeNew s false b), 0, b.Base)) := Lib.hid (by rw [HT5.out, if_pos (of_decide_eq_true HE3.out)])
            go_upto_region 18 with fail
            go_quiet (fail)
            go_upto_region 26 with fail
            refine gen_wp (w0 := wr) (below_dn (Below.refl _ _) _) (fun W7 hb6 => ?_)
            replace HSA7 := Lib.hid (HSA7.out.below hb6)
            replace X7 := Lib.hid (X7.out.below hb6)
            replace Hb7 := Lib.hid (below_tr Hb7.out hb6)
            clear hb6 x4 s0 s1 s2 s3 hgl HO7
            have x0 : W7.cell? ⟨J, 0, none⟩ = some (.int .i64 b.Base) := X7.out.cell 0 _ rfl
            have x3 : W7.cell? ⟨J, 3, none⟩ = some (.int .i64 b.Turn) := X7.out.cell 3 _ rfl
            have x4 : W7.cell? ⟨J, 4, none⟩ = some (.int .i64 b.Seq) := X7.out.cell 4 _ rfl
            obtain ⟨s0, s1, s2, s3⟩ := HSA7.out.cell
            have f1 := HSA7.out.frz 1 (by decide)
            have f2 := HSA7.out.frz 2 (by decide)
            have f3 := HSA7.out.frz 3 (by decide)
            have hgl := HSA7.out.lt.1
            have hw1 : IntKind.i64.wrap (b.Seq + (b.Records.length : Int)) = b.Seq + (b.Records.length : Int) := IntWalk.i64_in _ (by omega)
            go_upto_region 29 with fail
            go_region
            have HSA9 := Lib.hid (((HSA7.out.setT b.Turn).setN (b.Seq + (b.Records.length : Int))).below (Below.refl _ _).drew)
            have X9 := Lib.hid ((((X7.out.far g (i * 4 + 1) (.int .i64 b.Turn) hJg).far g (i * 4 + 2) (.int .i64 (b.Seq + (b.Records.length : Int))) hJg)).below (Below.refl _ _).drew)
            have Hb9 := Lib.hid ((((Hb7.out.setCell (p := ⟨g, i * 4 + 1, none⟩) (by have := HSA7.out.lt.2; have := HJ3.out; have := HJ.out; simp; omega) (.int .i64 b.Turn)).setCell (p := ⟨g, i * 4 + 2, none⟩) (by have := HSA7.out.lt.2; have := HJ3.out; have := HJ.out; simp; omega) (.int .i64 (b.Seq + (b.Records.length : Int))))).drew)
            generalize ((W7.setCell ⟨g, i * 4 + 1, none⟩ (.int .i64 b.Turn)).setCell ⟨g, i * 4 + 2, none⟩ (.int .i64 (b.Seq + (b.Records.length : Int)))).drew = W9 at HSA9 X9 Hb9 ⊢
            clear x0 x3 x4 s0 s1 s2 s3 f1 f2 f3 hgl HSA7 X7 Hb7 hw1
            have x0 : W9.cell? ⟨J, 0, none⟩ = some (.int .i64 b.Base) := X9.out.cell 0 _ rfl
            have x4 : W9.cell? ⟨J, 4, none⟩ = some (.int .i64 b.Seq) := X9.out.cell 4 _ rfl
            obtain ⟨_, _, _, s3⟩ := HSA9.out.cell
            have f3 := HSA9.out.frz 3 (by decide)
            have hgl := HSA9.out.lt.1
            have hJl := X9.out.lt
            go_upto_region 30 with fail
            have BX1 := Lib.hid (show Box (W9.drew.alloc (.cells #[.int .i64 b.Seq, .int .i64 b.Records.length, .int .i64 b.Base] 103)) W9.heap.size #[.int .i64 (newR b).Seq, .int .i64 (newR b).Many, .int .i64 (newR b).Offset] from Box.new W9.drew _ _)
            have BL1 := Lib.hid (show Below W9.heap.size W9 (W9.drew.alloc (.cells #[.int .i64 b.Seq, .int .i64 b.Records.length, .int .i64 b.Base] 103)) from below_tr (Below.refl _ _).drew (below_al _ _))
            have hB9 := HSA9.out.lt.2
            have hwB : w.heap.size ≤ W3.heap.size := by have := HJ3.out; have := HJ.out; omega
            have hJB : J < W3.heap.size := HJ3.out
            have S0 : W9.drew.cell? ⟨J, 4, none⟩ = some (.int .i64 b.Seq) ∧ W9.drew.cell? ⟨J, 0, none⟩ = some (.int .i64 b.Base) ∧ W9.drew.cell? ⟨g, i * 4 + 3, none⟩ = some (.slice A3 s.Recent.length c3) := ⟨x4, x0, s3⟩
            refine wp_region_T 15 (fun W => W.cell? ⟨J, 4, none⟩ = some (.int .i64 b.Seq) ∧ W.cell? ⟨J, 0, none⟩ = some (.int .i64 b.Base) ∧ W.cell? ⟨g, i * 4 + 3, none⟩ = some (.slice A3 s.Recent.length c3)) (by kernel_rfl) ?_
            refine wpAnyT_take (i := 0) (v := .pointer (some ⟨g, i * 4, none⟩)) rfl (by kernel_rfl) (fun _ _ _ h => h) (by rfl) (fun W hW => ?_) S0 ?_
            · obtain ⟨h1, h2, h3⟩ := hW
              have hl1 := World.block_lt_of_cell? W _ h2
              have hl2 := World.block_lt_of_cell? W _ h3
              go_simp
            try simp only [Act.put, List.setIfInBounds_toArray, List.set_cons_zero, List.set_cons_succ]
            refine wpAnyT_take (i := 1) (v := .pointer (some ⟨g, i * 4, none⟩)) rfl (by kernel_rfl) (fun _ _ _ h => h) (by rfl) (fun W hW => ?_) S0 ?_
            · obtain ⟨h1, h2, h3⟩ := hW
              have hl1 := World.block_lt_of_cell? W _ h2
              have hl2 := World.block_lt_of_cell? W _ h3
              go_simp
            try simp only [Act.put, List.setIfInBounds_toArray, List.set_cons_zero, List.set_cons_succ]
            refine wpAnyT_take (i := 2) (v := .pointer (some ⟨g, i * 4, none⟩)) rfl (by kernel_rfl) (fun _ _ _ h => h) (by rfl) (fun W hW => ?_) S0 ?_
            · obtain ⟨h1, h2, h3⟩ := hW
              have hl1 := World.block_lt_of_cell? W _ h2
              have hl2 := World.block_lt_of_cell? W _ h3
              go_simp
            try simp only [Act.put, List.setIfInBounds_toArray, List.set_cons_zero, List.set_cons_succ]
            refine wpAnyT_take (i := 3) (v := .pointer (some ⟨g, i * 4 + 3, none⟩)) rfl (by kernel_rfl) (fun _ _ _ h => h) (by rfl) (fun W hW => ?_) S0 ?_
            · obtain ⟨h1, h2, h3⟩ := hW
              have hl1 := World.block_lt_of_cell? W _ h2
              have hl2 := World.block_lt_of_cell? W _ h3
              go_simp
            try simp only [Act.put, List.setIfInBounds_toArray, List.set_cons_zero, List.set_cons_succ]
            refine wpAnyT_take (i := 4) (v := .slice A3 s.Recent.length c3) rfl (by kernel_rfl) (fun _ _ _ h => h) (by rfl) (fun W hW => ?_) S0 ?_
            · obtain ⟨h1, h2, h3⟩ := hW
              have hl1 := World.block_lt_of_cell? W _ h2
              have hl2 := World.block_lt_of_cell? W _ h3
              go_simp
            try simp only [Act.put, List.setIfInBounds_toArray, List.set_cons_zero, List.set_cons_succ]
            refine wpAnyT_take (i := 5) (v := .pointer (some ⟨J, 4, none⟩)) rfl (by kernel_rfl) (fun _ _ _ h => h) (by rfl) (fun W hW => ?_) S0 ?_
            · obtain ⟨h1, h2, h3⟩ := hW
              have hl1 := World.block_lt_of_cell? W _ h2
              have hl2 := World.block_lt_of_cell? W _ h3
              go_simp
            try simp only [Act.put, List.setIfInBounds_toArray, List.set_cons_zero, List.set_cons_succ]
            refine wpAnyT_take (i := 6) (v := .int .i64 b.Seq) rfl (by kernel_rfl) (fun _ _ _ h => h) (by rfl) (fun W hW => ?_) S0 ?_
            · obtain ⟨h1, h2, h3⟩ := hW
              have hl1 := World.block_lt_of_cell? W _ h2
              have hl2 := World.block_lt_of_cell? W _ h3
              go_simp
            try simp only [Act.put, List.setIfInBounds_toArray, List.set_cons_zero, List.set_cons_succ]
            refine wpAnyT_take (i := 7) (v := .int .i64 b.Records.length) rfl (by kernel_rfl) (fun _ _ _ h => h) (by rfl) (fun W hW => ?_) S0 ?_
            · obtain ⟨h1, h2, h3⟩ := hW
              have hl1 := World.block_lt_of_cell? W _ h2
              have hl2 := World.block_lt_of_cell? W _ h3
              go_simp
            try simp only [Act.put, List.setIfInBounds_toArray, List.set_cons_zero, List.set_cons_succ]
            refine wpAnyT_take (i := 8) (v := .pointer (some ⟨J, 0, none⟩)) rfl (by kernel_rfl) (fun _ _ _ h => h) (by rfl) (fun W hW => ?_) S0 ?_
            · obtain ⟨h1, h2, h3⟩ := hW
              have hl1 := World.block_lt_of_cell? W _ h2
              have hl2 := World.block_lt_of_cell? W _ h3
              go_simp
            try simp only [Act.put, List.setIfInBounds_toArray, List.set_cons_zero, List.set_cons_succ]
            refine wpAnyT_take (i := 9) (v := .int .i64 b.Base) rfl (by kernel_rfl) (fun _ _ _ h => h) (by rfl) (fun W hW => ?_) S0 ?_
            · obtain ⟨h1, h2, h3⟩ := hW
              have hl1 := World.block_lt_of_cell? W _ h2
              have hl2 := World.block_lt_of_cell? W _ h3
              go_simp
            try simp only [Act.put, List.setIfInBounds_toArray, List.set_cons_zero, List.set_cons_succ]
            refine wpAnyT_take (i := 10) (v := .agg #[.int .i64 b.Seq, .int .i64 b.Records.length, .int .i64 b.Base]) rfl (by kernel_rfl) (fun _ _ _ h => h) (by rfl) (fun W hW => ?_) S0 ?_
            · obtain ⟨h1, h2, h3⟩ := hW
              have hl1 := World.block_lt_of_cell? W _ h2
              have hl2 := World.block_lt_of_cell? W _ h3
              go_simp
            try simp only [Act.put, List.setIfInBounds_toArray, List.set_cons_zero, List.set_cons_succ]
            refine wpAnyT_one (i := 11) (by kernel_rfl) rfl (fun K hK => ?_)
            have hba := below_al W9.drew (.cells #[.int .i64 b.Seq, .int .i64 b.Records.length, .int .i64 b.Base] 103)
            go_simp
            have S1 : (W9.drew.alloc (.cells #[.int .i64 b.Seq, .int .i64 b.Records.length, .int .i64 b.Base] 103)).cell? ⟨J, 4, none⟩ = some (.int .i64 b.Seq) ∧ (W9.drew.alloc (.cells #[.int .i64 b.Seq, .int .i64 b.Records.length, .int .i64 b.Base] 103)).cell? ⟨J, 0, none⟩ = some (.int .i64 b.Base) ∧ (W9.drew.alloc (.cells #[.int .i64 b.Seq, .int .i64 b.Records.length, .int .i64 b.Base] 103)).cell? ⟨g, i * 4 + 3, none⟩ = some (.slice A3 s.Recent.length c3) := ⟨later hba S0.1, later hba S0.2.1, later hba S0.2.2⟩
            refine hK.out _ _ (fun _ => S1) ?_
            clear hK K
            try simp only [Act.put, List.setIfInBounds_toArray, List.set_cons_zero, List.set_cons_succ]
            refine wpAnyT_one (i := 12) (by kernel_rfl) rfl (fun K hK => ?_)
            refine step_recent info_recent rfl rfl (.tmp 147) (.tmp 154) 99 rfl Try.underlying99 (v3 := .slice A3 s.Recent.length c3) rfl HSA9.out BL1.out (newR b) _ _ rfl BX1.out (by omega) ?_
            intro A9 c9 wa hSA hblk hbB
            have hJa : Blk wa J #[.int .i64 b.Base, .int .i64 b.Epoch, .int .i64 b.Producer, .int .i64 b.Turn, .int .i64 b.Seq, .int .i64 b.Flags, .slice A6 b.Records.length c6] 52 := (hblk J (by have := hba.size; have := BL1.out.size; simp; omega) hJB).trans (X9.out.below BL1.out)
            obtain ⟨_, _, _, t3⟩ := hSA.cell
            have tf3 := hSA.frz 3 (by decide)
            have tgl := hSA.lt.1
            have S2 : wa.cell? ⟨J, 4, none⟩ = some (.int .i64 b.Seq) ∧ wa.cell? ⟨J, 0, none⟩ = some (.int .i64 b.Base) ∧ wa.cell? ⟨g, i * 4 + 3, none⟩ = some (.slice A3 s.Recent.length c3) := ⟨hJa.cell 4 _ rfl, hJa.cell 0 _ rfl, t3⟩
            have HQ := Lib.hid (And.intro (hSA.set3 (.slice A9 (s.Recent.length + 1) c9)) (rec_tail (o := i * 4 + 3) X9.out Hb9.out BL1.out hbB hJB hwB hB9 (.slice A9 (s.Recent.length + 1) c9)))
            refine hK.out _ _ (fun _ => S2) ?_
            clear hK K hSA hblk hbB hJa
            try simp only [Act.put, List.setIfInBounds_toArray, List.set_cons_zero, List.set_cons_succ]
            refine wpAnyT_one (i := 13) (by kernel_rfl) rfl (fun K hK => ?_)
            go_simp
            refine hK.out _ _ (fun _ => S2) ?_
            clear hK K
            try simp only [Act.put, List.setIfInBounds_toArray, List.set_cons_zero, List.set_cons_succ]
            refine wpAnyT_one (i := 14) (by kernel_rfl) rfl (fun K hK => ?_)
            go_simp
            refine hK.out _ _ (fun _ => S2) ?_
            clear hK K
            try simp only [Act.put, List.setIfInBounds_toArray, List.set_cons_zero, List.set_cons_succ]
            refine wpAnyT_one (i := 15) (by kernel_rfl) rfl (fun K hK => ?_)
            go_simp
            refine hK.out _ _ (fun h => absurd rfl h) ?_
            clear hK K S0 S1 S2 hba t3 tf3 tgl
            refine wpAnyT_done (by kernel_rfl) ?_ _
            clear BX1 BL1 x0 x4 s3 f3 hgl HSA9 X9 Hb9 hB9
            have HSA := Lib.hid HQ.out.1
            have X := Lib.hid HQ.out.2.1
            have Hb := Lib.hid HQ.out.2.2
            clear HQ
            generalize wa.setCell ⟨g, i * 4 + 3, none⟩ (.slice A9 (s.Recent.length + 1) c9) = wc at HSA X Hb ⊢
            have x0 : wc.cell? ⟨J, 0, none⟩ = some (.int .i64 b.Base) := X.out.cell 0 _ rfl
            obtain ⟨_, _, _, s3⟩ := HSA.out.cell
            have hgl := HSA.out.lt.1
            by_cases h5 : s.Recent.length = 5
            case neg =>
              have h56 : ¬ ((5 : Int) < (s.Recent.length : Int) + 1) := by omega
              have HL5 : Hid (last5 (s.Recent ++ [newR b]) = s.Recent ++ [newR b]) := Lib.hid (by unfold last5; rw [show (s.Recent ++ [newR b]).length - 5 = 0 by simp; omega]; rfl)
              go_upto_region 34 with fail
              go_quiet (fail)
              go_wp2
              refine bodyPost_ret (v := .tuple #[.slice (some ⟨g, 0, none⟩) l.length c7, .int .i64 0, .int .i64 b.Base]) (by simp [results, Try.results28, go_sem]) rfl ?_
              refine tookT_of HX.out (((OwnT.toSeen (OwnT.mono ?_ hwB))).below (below_dn (Below.refl _ _) _)) (below_dn Hb.out _)
              have hcl := HSA.out.close
              rw [show (⟨s.Producer, b.Turn, b.Seq + (b.Records.length : Int), s.Recent ++ [newR b]⟩ : Seen) = takeNew s false b by unfold takeNew; rw [if_neg (by simp), HL5.out]] at hcl
              exact hcl
            case pos =>
              have HL5 : Hid (last5 (s.Recent ++ [newR b]) = (s.Recent ++ [newR b]).drop 1) := Lib.hid (by unfold last5; rw [show (s.Recent ++ [newR b]).length - 5 = 1 by simp; omega])
              have H6 : Hid (s.Recent.length + 1 = 6) := Lib.hid (by omega)
              have HLD : Hid (((s.Recent ++ [newR b]).drop 1).length = 5) := Lib.hid (by simp; omega)
              clear h5
              rw [H6.out] at HSA s3 ⊢
              obtain ⟨h9, hA9, hc9, HRw⟩ := HSA.out.rowOf (by simp) rfl
              subst hA9
              have hcc1 : ¬ (c9 = 1) := by omega
              have hcc2 : 1 ≤ c9 := by omega
              have f3 := HSA.out.frz 3 (by decide)
              have HR9 := Lib.hid HRw
              clear HRw
              go_upto_region 34 with (go_at_call 72; refine (cloneRecent_n _ ((s.Recent ++ [newR b]).drop 1) 5 HLD.out (by omega) (HR9.out.drop 1) (by omega)).mono ?_; rintro e W11 ⟨A11, c11, rfl, hO11, hb11⟩; have HSB11 := Lib.hid (HSA.out.fresh hb11 hO11); have X11 := Lib.hid (X.out.below hb11); have Hb11 := Lib.hid (below_tr Hb.out hb11); clear hO11 hb11; obtain ⟨_, _, _, t3⟩ := HSB11.out.cell; have tf3 := HSB11.out.frz 3 (by decide); have tgl := HSB11.out.lt.1)
              have HSC := Lib.hid (HSB11.out.set3 (.slice A11 5 c11))
              have XC := Lib.hid (X11.out.far g (i * 4 + 3) (.slice A11 5 c11) hJg)
              have HbC := Lib.hid (Hb11.out.setCell (p := ⟨g, i * 4 + 3, none⟩) (by have := HSB11.out.lt.2; have := HJ3.out; have := HJ.out; simp; omega) (.slice A11 5 c11))
              generalize W11.setCell ⟨g, i * 4 + 3, none⟩ (.slice A11 5 c11) = wd at HSC XC HbC ⊢
              clear x0 s3 hgl t3 tf3 tgl f3 HSB11 X11 Hb11
              have x0 : wd.cell? ⟨J, 0, none⟩ = some (.int .i64 b.Base) := XC.out.cell 0 _ rfl
              go_quiet (fail)
              go_wp2
              refine bodyPost_ret (v := .tuple #[.slice (some ⟨g, 0, none⟩) l.length c7, .int .i64 0, .int .i64 b.Base]) (by simp [results, Try.results28, go_sem]) rfl ?_
              refine tookT_of HX.out (((OwnT.toSeen (OwnT.mono ?_ hwB))).below (below_dn (Below.refl _ _) _)) (below_dn HbC.out _)
              have hcl := HSC.out.close
              rw [show (⟨s.Producer, b.Turn, b.Seq + (b.Records.length : Int), (s.Recent ++ [newR b]).drop 1⟩ : Seen) = takeNew s false b by unfold takeNew; rw [if_neg (by simp), HL5.out]] at hcl
              exact hcl
end Go.Proofs.Ytipemgjgimpmbaa.H
