/-
The reference's Visible. Conditions: each contract's own premises.
-/
import Derived.Test.YtipemgjgimpmbaaHVis2
import Derived.Test.YtipemgjgimpmbaaHCopy4
import Derived.Test.YtipemgjgimpmbaaHMv4
namespace Go.Proofs.Ytipemgjgimpmbaa.H
open Go.RowKit
set_option linter.unusedVariables false
set_option linter.unusedSimpArgs false
set_option maxRecDepth 100000
def GivesRN (l : List Read) (n : Int) (w : World) (en : Ending) (w' : World) : Prop := ∃ A c, en = .returned (.tuple #[.slice A l.length c, .int .i64 n]) ∧ l.length ≤ c ∧ Row kRead w' A l ∧ Below w.heap.size w w'
/-- What an append does to cells that stood when the literal had none. -/
theorem Kp.app {a b c : World} {row : Option Nat} {g : Nat} {t : TypeId} (h : Kp a b) (hg : b.grownBy c row) (hB : Blk a g #[] t) (hr : ∀ k, row = some k → k = g ∨ a.heap.size ≤ k) : Kp a c := fun p u hp => by
  have hb := h p u hp
  have hlt := World.block_lt_of_cell? a _ hp
  have hlb := World.block_lt_of_cell? b _ hb
  refine hg.cell hb (fun e => ?_)
  rcases hr p.block e.symm with hk | hk
  · unfold Blk at hB
    rw [← hk] at hB
    simp [World.cell?, hB] at hp
  · omega
set_option maxHeartbeats 8000000 in
theorem specVisible_c (w : World) (x : Log) (fr : Int) (st : Bool) {A : Option Addr} {c : Nat} (hc : x.Segments.length ≤ c) (hr : Row kSegment w A x.Segments) (hs : x.sm) (hw : x.wf) (hz : x.sz ≤ 1048576) :
    Calls Try.prog 34 #[.agg #[.int .i64 x.Start, .int .i64 x.Next, .int .i64 x.Roll, .slice A x.Segments.length c], .int .i64 fr, .bool st] w (GivesRN (visF x fr st) (visN x fr st) w) := by
  have HS := Lib.hid hs
  have HW := Lib.hid hw
  have hlen := hs.1
  clear hs hw
  have hu := Try.underlying52
  have hu2 := Try.underlying70
  have hu3 := Try.underlying116
  have hu4 := Try.underlying50
  have hu5 := Try.underlying118
  have hu6 := Try.underlying59
  have hu7 := Try.underlying78
  have hu8 := Try.underlying26
  generalize hok : cutOk x fr = ok
  generalize ho1 : logOk x = o1
  generalize ho2 : inB fr x.Start x.Next = o2
  have O1 := Lib.hid ho1
  have O2 := Lib.hid ho2
  have hB := Blk.new w #[.int .i64 x.Start, .int .i64 x.Next, .int .i64 x.Roll, .slice A x.Segments.length c] 30
  have hb0 := below_al w (.cells #[.int .i64 x.Start, .int .i64 x.Next, .int .i64 x.Roll, .slice A x.Segments.length c] 30)
  have hlit := lit_own (d := kRead) (e := 118) (w.alloc (.cells #[.int .i64 x.Start, .int .i64 x.Next, .int .i64 x.Roll, .slice A x.Segments.length c] 30))
  have B1 := hB.below (below_al _ (.cells #[] 118))
  have hb := below_tr hb0 (below_al _ (.cells #[] 118))
  rw [size_al] at hlit
  have BL := Blk.new (w.alloc (.cells #[.int .i64 x.Start, .int .i64 x.Next, .int .i64 x.Roll, .slice A x.Segments.length c] 30)) #[] 118
  rw [size_al] at BL
  go_enter Try.func34, Try.ntmps34
  go_upto_region 2 with fail
  generalize (w.alloc (.cells #[.int .i64 x.Start, .int .i64 x.Next, .int .i64 x.Roll, .slice A x.Segments.length c] 30)).alloc (.cells #[] 118) = W1 at B1 hb hlit BL ⊢
  clear hB hb0
  have a0 : W1.cell? ⟨w.heap.size, 0, none⟩ = some (.int .i64 x.Start) := B1.cell 0 _ rfl
  have a1 : W1.cell? ⟨w.heap.size, 1, none⟩ = some (.int .i64 x.Next) := B1.cell 1 _ rfl
  have a2 : W1.cell? ⟨w.heap.size, 2, none⟩ = some (.int .i64 x.Roll) := B1.cell 2 _ rfl
  have a3 : W1.cell? ⟨w.heap.size, 3, none⟩ = some (.slice A x.Segments.length c) := B1.cell 3 _ rfl
  have HR1 := Lib.hid (Row_below hr hb)
  have HB1 := Lib.hid B1
  have Hh := Lib.hid hb
  have HLI := Lib.hid BL
  clear B1 hb hlit BL
  by_cases hbb : ok = true
  case neg =>
    have hok0 : ok = false := by cases ok <;> simp_all
    subst hok0
    have HF : Hid (visF x fr st = []) := Lib.hid (by unfold visF; rw [hok]; rfl)
    have HN : Hid (visN x fr st = -1) := Lib.hid (by unfold visN; rw [hok]; rfl)
    have hcase : o1 = false ∨ (o1 = true ∧ o2 = false) := by unfold cutOk at hok; rw [ho1, ho2] at hok; cases o1 <;> cases o2 <;> simp_all
    clear hok ho1 ho2 hbb
    rcases hcase with rfl | ⟨rfl, rfl⟩
    all_goals
      go_wp2_with (first | (go_at_call 42; refine (specLogOk_c _ x hc HR1.out HS.out HW.out).mono ?_; rintro e W2 ⟨rfl, hb2⟩; rw [O1.out]; have b0 := later hb2 a0; have b1 := later hb2 a1) | (go_at_call 51; refine (l1In_c _ _ _ _).mono ?_; rintro e w' ⟨rfl, rfl⟩; rw [O2.out]))
      refine bodyPost_ret (v := .tuple #[.slice (some ⟨w.heap.size + 1, 0, none⟩) 0 0, .int .i64 (-1)]) (by simp [results, Try.results34, go_sem]) rfl ?_
      rw [HF.out, HN.out]
      exact ⟨_, _, rfl, Nat.le_refl _, fun h => absurd h (Nat.lt_irrefl _), below_tr Hh.out hb2⟩
  case pos =>
    subst hbb
    obtain ⟨rfl, rfl⟩ : o1 = true ∧ o2 = true := by unfold cutOk at hok; rw [ho1, ho2] at hok; cases o1 <;> cases o2 <;> simp_all
    have hal := aborted_len x
    have HFO := Lib.hid (fOk_all ho1).2
    have hbl := (fOk_all ho1).1
    have HIT := Lib.hid (show ∀ b ∈ allB x, ¬ 4 ≤ b.Flags → (aborted x).any (hitS b) = (aborted x).any (hitG b) from fun b hb h4 => hit_same ho1 hb h4)
    have HF : Hid (visF x fr st = visL st (aborted x) fr (visEnd x st) (allB x)) := Lib.hid (by unfold visF; rw [hok]; rfl)
    have HN : Hid (visN x fr st = if visEnd x st < fr then fr else visEnd x st) := Lib.hid (by unfold visN; rw [hok]; rfl)
    have HSM := Lib.hid (show ∀ b ∈ allB x, b.sm from fun b hb' => by
      unfold allB at hb'
      obtain ⟨s, hs', hb'⟩ := List.mem_flatMap.1 hb'
      exact (HS.out.2 s hs').2 b hb')
    have HRM := Lib.hid (show ∀ (gs : List Gone) (en : Int) (k : Nat) (b : Batch), (allB x)[k]? = some b → (visL st gs fr en ((allB x).take k)).length + b.Records.length ≤ 1048576 from fun gs en k b h => vis_room hz st gs fr en h)
    clear hok ho1 ho2
    go_upto_region 4 with (first | (go_at_call 42; refine (specLogOk_c _ x hc HR1.out HS.out HW.out).mono ?_; rintro e W2 ⟨rfl, hb2⟩; rw [O1.out]; have b0 := later hb2 a0; have b1 := later hb2 a1; have b2 := later hb2 a2; have b3 := later hb2 a3) | (go_at_call 51; refine (l1In_c _ _ _ _).mono ?_; rintro e w' ⟨rfl, rfl⟩; rw [O2.out]))
    have HR2 := Lib.hid (Row_below HR1.out hb2)
    have Hh2 := Lib.hid (below_tr Hh.out hb2)
    have HL2 := Lib.hid (HLI.out.below hb2)
    clear a0 a1 a2 a3 HB1 HR1 Hh HLI
    go_upto_region 6 with (go_at_call 10; refine (specAborted_c _ x hc HR2.out HS.out HW.out).mono ?_; rintro e W3 ⟨Ag, cg, rfl, lg, gg, hb3⟩; have d0 := later hb3 b0; have d1 := later hb3 b1; have d2 := later hb3 b2; have d3 := later hb3 b3)
    have HR3 := Lib.hid (Row_below HR2.out hb3)
    have Hh3 := Lib.hid (below_tr Hh2.out hb3)
    have HL3 := Lib.hid (HL2.out.below hb3)
    have HRg := Lib.hid gg
    clear b0 b1 b2 b3 HR2 Hh2 HL2 hb3 gg
    generalize aborted x = gs at hal HIT HF lg HRg ⊢
    cases st
    case false =>
      have HEN : Hid (visEnd x false = x.Next) := Lib.hid rfl
      rw [HEN.out] at HF HN
      go_upto_region 9 with (go_at_call 44; refine (l3All_c _ x hc HR3.out hlen (by omega)).mono ?_; rintro e W5 ⟨A9, c9, rfl, l9, r9, hb5⟩; have HR9 := Lib.hid r9; clear r9)
      have HB5 := Lib.hid (below_tr Hh3.out hb5)
      have HG5 := Lib.hid (Row_below HRg.out hb5)
      have HL5 := Lib.hid (HL3.out.below hb5)
      clear hb5 d0 d1 d2 d3 HR3 Hh3 HL3 HRg
      generalize allB x = L at HFO hbl HF HSM HR9 l9 HRM HIT ⊢
      generalize x.Next = en at HF HN HEN ⊢
      have HLB := HL5
      obtain ⟨M0, hM0⟩ : ∃ n, n = W5.heap.size := ⟨_, rfl⟩
      have HM0 := Lib.hid hM0
      have hM1 : w.heap.size + 2 ≤ M0 := by have := HLB.out.lt; omega
      clear hM0
      go_upto_region 10 with fail
      go_loopg [8, 12] L.length (fun g v8 v12 wr => ∃ (k : Nat) (A' : Option Addr) (c' : Nat), k + g = L.length ∧ v12 = .int .i64 k ∧ v8 = .slice A' (visL false gs fr en (L.take k)).length c' ∧ Hid (MvM kRead 118 wr [] 0 (w.heap.size + 2) M0 (w.heap.size + 1) (visL false gs fr en (L.take k)) (.slice A' (visL false gs fr en (L.take k)).length c')) ∧ Hid (Kp W5 wr) ∧ Below w.heap.size w wr ∧ M0 ≤ wr.heap.size)
      case atStart => exact ⟨0, some ⟨w.heap.size + 1, 0, none⟩, 0, by omega, rfl, rfl, Lib.hid (by rw [List.take_zero]; exact MvM.lit HLB.out), Lib.hid (fun p u h => h), HB5.out, by rw [HM0.out]; exact Nat.le_refl _⟩
      case round =>
        obtain ⟨k, A', c', hk, rfl, rfl, HOW, HKP, hb, hMs⟩ := hrel
        by_cases hlt : k < L.length
        case neg =>
          obtain rfl : k = L.length := by omega
          rw [List.take_length] at HOW ⊢
          rw [← HF.out] at HOW ⊢
          obtain ⟨Ff, hTf, _⟩ := (HOW.out.own.mono (B' := w.heap.size) (by omega)).fresh
          obtain ⟨A8, c8, e8, l8, _, r8⟩ := TS_read hTf
          simp only [Value.slice.injEq, true_and] at e8
          obtain ⟨rfl, rfl⟩ := e8
          have HR8 := Lib.hid r8
          clear r8 hTf
          by_cases hmx : en < fr
          case pos =>
            have HN2 : Hid (visN x fr false = fr) := Lib.hid (by rw [HN.out, if_pos hmx])
            go_wp2
            refine bodyPost_ret (v := .tuple #[.slice A' (visF x fr false).length c', .int .i64 fr]) (by simp [results, Try.results34, go_sem]) rfl ?_
            rw [HN2.out]
            exact ⟨_, _, rfl, l8, HR8.out, hb⟩
          case neg =>
            have HN2 : Hid (visN x fr false = en) := Lib.hid (by rw [HN.out, if_neg hmx])
            go_wp2
            refine bodyPost_ret (v := .tuple #[.slice A' (visF x fr false).length c', .int .i64 en]) (by simp [results, Try.results34, go_sem]) rfl ?_
            rw [HN2.out]
            exact ⟨_, _, rfl, l8, HR8.out, hb⟩
        case pos =>
          obtain ⟨bd, b, A6, c6, rfl, hyb, p0, p1, p2, p3, p4, p5, p6, l6, g6⟩ := Batch.at (Row_kp HR9.out HKP.out) k hlt
          have HKV := Lib.hid (visL_take (st := false) (gs := gs) (fr := fr) (en := en) hyb)
          have hbm := List.mem_of_getElem? hyb
          obtain ⟨_, ⟨fb1, fb2⟩, ⟨ff1, ff2⟩, _, _⟩ := HFO.out b hbm
          have hbs := HSM.out b hbm
          have hbl2 := hbs.1
          have HBS := Lib.hid hbs
          have HLZ := Lib.hid (HRM.out gs en k b hyb)
          have HG6 : Hid (Row kRecord W5 A6 b.Records) := Lib.hid (by
            obtain ⟨_, b2, A6', c6', e1, hy2, _, _, _, _, _, _, z6, _, g6'⟩ := Batch.at HR9.out k hlt
            cases e1
            rw [hyb] at hy2
            cases hy2
            have e2 := HKP.out _ _ z6
            rw [p6] at e2
            cases e2
            exact g6')
          clear hyb hbm hbs g6
          generalize visL false gs fr en (L.take k) = zs at HOW HKV HLZ ⊢
          have BJ := Blk.new wr #[.int .i64 b.Base, .int .i64 b.Epoch, .int .i64 b.Producer, .int .i64 b.Turn, .int .i64 b.Seq, .int .i64 b.Flags, .slice A6 b.Records.length c6] 52
          have hbj := below_al wr (.cells #[.int .i64 b.Base, .int .i64 b.Epoch, .int .i64 b.Producer, .int .i64 b.Turn, .int .i64 b.Seq, .int .i64 b.Flags, .slice A6 b.Records.length c6] 52)
          obtain ⟨J, hJ⟩ : ∃ n, n = wr.heap.size := ⟨_, rfl⟩
          go_upto_region 13 with fail
          clear p0 p1 p2 p3 p4 p5 p6
          generalize wr.alloc (.cells #[.int .i64 b.Base, .int .i64 b.Epoch, .int .i64 b.Producer, .int .i64 b.Turn, .int .i64 b.Seq, .int .i64 b.Flags, .slice A6 b.Records.length c6] 52) = W6 at BJ hbj ⊢
          rw [← hJ] at BJ ⊢
          have HJ := Lib.hid hJ
          clear hJ
          have BJX := Lib.hid BJ
          have j5 : W6.cell? ⟨J, 5, none⟩ = some (.int .i64 b.Flags) := BJ.cell 5 _ rfl
          have HbX := Lib.hid hbj
          have hszj := hbj.size
          clear BJ hbj
          by_cases h4 : 4 ≤ b.Flags
          case pos =>
            have HZ : Hid (visL false gs fr en (L.take (k + 1)) = zs) := Lib.hid (by rw [HKV.out]; unfold visB; rw [if_pos h4, List.append_nil])
            go_wp2
            go_roundg (gk - 1)
            case rel => exact ⟨k + 1, A', c', by omega, by go_num, by rw [HZ.out], by rw [HZ.out]; exact Lib.hid (HOW.out.below HbX.out), Lib.hid (HKP.out.below HbX.out), below_tr hb HbX.out, by omega⟩
            case measure => omega
          case neg =>
            have HZK : Hid (visL false gs fr en (L.take (k + 1)) = zs ++ readsB fr en b b.Records 0) := Lib.hid (by rw [HKV.out]; unfold visB; rw [if_neg (show ¬ 4 ≤ b.Flags by omega), if_neg (by simp)])
            go_upto_region 16 with fail
            go_loopg [14] 0 (fun g v14 wi => v14 = .bool false ∧ wi = W6)
            case atStart => exact ⟨rfl, rfl⟩
            case round =>
              obtain ⟨rfl, hrel⟩ := hrel
              subst hrel
              go_upto_region 21 with fail
              go_loopg [8, 17] b.Records.length (fun g v8 v17 wi => ∃ (q : Nat) (A2 : Option Addr) (c2 : Nat), q + g = b.Records.length ∧ v17 = .int .i64 q ∧ v8 = .slice A2 (zs ++ readsB fr en b (b.Records.take q) 0).length c2 ∧ Hid (MvM kRead 118 wi [] 0 (w.heap.size + 2) M0 (w.heap.size + 1) (zs ++ readsB fr en b (b.Records.take q) 0) (.slice A2 (zs ++ readsB fr en b (b.Records.take q) 0).length c2)) ∧ Hid (Kp W5 wi) ∧ Hid (Blk wi J #[.int .i64 b.Base, .int .i64 b.Epoch, .int .i64 b.Producer, .int .i64 b.Turn, .int .i64 b.Seq, .int .i64 b.Flags, .slice A6 b.Records.length c6] 52) ∧ Hid (∀ k, (Value.slice A2 (zs ++ readsB fr en b (b.Records.take q) 0).length c2).ownBlock = some k → k ≠ J) ∧ Below w.heap.size w wi ∧ M0 ≤ wi.heap.size)
              case atStart => exact ⟨0, A', c', by omega, rfl, by simp [readsB], by simpa [readsB] using Lib.hid (HOW.out.below HbX.out), Lib.hid (HKP.out.below HbX.out), BJX, by simpa [readsB] using Lib.hid (show ∀ k, (Value.slice A' zs.length c').ownBlock = some k → k ≠ J from fun k hk => by have := HOW.out.own.lt k hk; have := HJ.out; omega), below_tr hb HbX.out, by omega⟩
              case round =>
                obtain ⟨q, A2, c2, hq, rfl, rfl, HM, HKP2, HBJ, HNE, hbi, hMs2⟩ := hrel
                have j6 : wr.cell? ⟨J, 6, none⟩ = some (.slice A6 b.Records.length c6) := HBJ.out.cell 6 _ rfl
                have j0 : wr.cell? ⟨J, 0, none⟩ = some (.int .i64 b.Base) := HBJ.out.cell 0 _ rfl
                by_cases hlq : q < b.Records.length
                case neg =>
                  obtain rfl : q = b.Records.length := by omega
                  rw [List.take_length] at HM ⊢
                  rw [← HZK.out] at HM ⊢
                  go_wp2
                  go_roundg (L.length - k - 1)
                  case rel => exact ⟨k + 1, A2, c2, by omega, by go_num, rfl, HM, HKP2, hbi, hMs2⟩
                  case measure => omega
                case pos =>
                  obtain ⟨rd, r, A5, c5, rfl, hyr, p0, p1, p2, p3, p4, p5, l5, g5⟩ := Record.at (Row_kp HG6.out HKP2.out) q hlq
                  have HKR : Hid (zs ++ readsB fr en b (b.Records.take (q + 1)) 0 = (zs ++ readsB fr en b (b.Records.take q) 0) ++ readB fr en b q r) := Lib.hid (by rw [readsB_take hyr, List.append_assoc])
                  have HYL : Hid ((zs ++ readsB fr en b (b.Records.take q) 0).length ≤ 1048576) := Lib.hid (by have h1 := readsB_len fr en b (b.Records.take q) 0; have h2 := HLZ.out; rw [List.length_take] at h1; rw [List.length_append]; omega)
                  have hy5 := (HBS.out.2 r (List.mem_of_getElem? hyr)).2.2.1
                  clear hyr
                  generalize (zs ++ readsB fr en b (b.Records.take q) 0) = ys at HM HKR HYL HNE ⊢
                  have hw1 : IntKind.i64.wrap (b.Base + (q : Int)) = b.Base + (q : Int) := IntWalk.i64_in _ (by omega)
                  by_cases hf : fr ≤ b.Base + (q : Int)
                  case neg =>
                    have HKs : Hid (zs ++ readsB fr en b (b.Records.take (q + 1)) 0 = ys) := Lib.hid (by rw [HKR.out]; unfold readB; rw [if_neg (by omega), List.append_nil])
                    go_wp2
                    go_roundg (b.Records.length - q - 1)
                    case rel => exact ⟨q + 1, A2, c2, by omega, by go_num, by rw [HKs.out], by rw [HKs.out]; exact HM, HKP2, HBJ, by rw [HKs.out]; exact HNE, hbi, hMs2⟩
                    case measure => omega
                  by_cases he : b.Base + (q : Int) < en
                  case neg =>
                    have HKs : Hid (zs ++ readsB fr en b (b.Records.take (q + 1)) 0 = ys) := Lib.hid (by rw [HKR.out]; unfold readB; rw [if_neg (by omega), List.append_nil])
                    go_wp2
                    go_roundg (b.Records.length - q - 1)
                    case rel => exact ⟨q + 1, A2, c2, by omega, by go_num, by rw [HKs.out], by rw [HKs.out]; exact HM, HKP2, HBJ, by rw [HKs.out]; exact HNE, hbi, hMs2⟩
                    case measure => omega
                  have HKs : Hid (zs ++ readsB fr en b (b.Records.take (q + 1)) 0 = ys ++ [⟨b.Base + (q : Int), r⟩]) := Lib.hid (by rw [HKR.out]; unfold readB; rw [if_pos ⟨by omega, by omega⟩])
                  have X1 := Blk.new wr #[.int .i64 r.Time, .bool r.Keyed, .string r.Key, .bool r.Gone, .string r.Value, .slice A5 r.Heads.length c5] 116
                  have hbr := below_al wr (.cells #[.int .i64 r.Time, .bool r.Keyed, .string r.Key, .bool r.Gone, .string r.Value, .slice A5 r.Heads.length c5] 116)
                  obtain ⟨G, hG⟩ : ∃ n, n = wr.heap.size := ⟨_, rfl⟩
                  go_upto_region 25 with fail
                  clear p0 p1 p2 p3 p4 p5 j6 j0
                  have G5 := Lib.hid (Row_below g5 hbr)
                  generalize wr.alloc (.cells #[.int .i64 r.Time, .bool r.Keyed, .string r.Key, .bool r.Gone, .string r.Value, .slice A5 r.Heads.length c5] 116) = W7 at X1 hbr G5 ⊢
                  rw [← hG] at X1 ⊢
                  have HG := Lib.hid hG
                  clear hG g5
                  have hs7 := hbr.size
                  have X2 := X1.below (below_al W7 (.cells #[] 152))
                  have a5 : (W7.alloc (.cells #[] 152)).cell? ⟨G, 5, none⟩ = some (.slice A5 r.Heads.length c5) := X2.cell 5 _ rfl
                  have z5 := X2.frz 5
                  have hGl := X2.lt
                  go_upto_region 26 with (at_builtin; refine list_flat (v := .slice (some ⟨W7.heap.size, 0, none⟩) 0 0) info_head rfl (by decide) (by decide) head_flat rfl _ _ _ rfl Try.underlying114 rfl (lit_KO W7) rfl (Row_below G5.out (below_al _ _)) hy5 (by simp) ?_; intro A7 c7 W8 hO5 hgr hvb; have X3 := X2.grown hgr (by simp [Value.ownBlock]; have := X1.lt; omega); have a6 : W8.cell? ⟨G, 5, none⟩ = some (.slice A5 r.Heads.length c5) := X3.cell 5 _ rfl; have z6 := X3.frz 5; have hGl2 := X3.lt; have HGR := Lib.hid hgr; clear hgr; have HO5 := Lib.hid hO5; clear hO5)
                  have HBW2 : Hid (Below W7.heap.size W7 W8) := Lib.hid ((below_al W7 (.cells #[] 152)).grown HGR.out (by simp) (fun k hk => by simp [Value.ownBlock] at hk; omega))
                  clear hvb HGR
                  have hbr2 := below_tr hbr HBW2.out
                  have X4 := X3.set 5 (.slice A7 r.Heads.length c7)
                  have hbr3 : Below wr.heap.size wr (W8.setCell ⟨G, 5, none⟩ (.slice A7 r.Heads.length c7)) := hbr2.setCell (p := ⟨G, 5, none⟩) (by have := HG.out; simp; omega) _
                  have HO6 := Lib.hid (HO5.out.setc G 5 (.slice A7 r.Heads.length c7) (by have := X1.lt; omega))
                  generalize W8.setCell ⟨G, 5, none⟩ (.slice A7 r.Heads.length c7) = W9 at X4 hbr3 HO6 ⊢
                  clear a6 z6 hGl2 HO5 X3 hbr2 a5 z5 hGl G5 X1 X2 HBW2
                  have d0 : W9.cell? ⟨G, 0, none⟩ = some (.int .i64 r.Time) := X4.cell 0 _ rfl
                  have d1 : W9.cell? ⟨G, 1, none⟩ = some (.bool r.Keyed) := X4.cell 1 _ rfl
                  have d2 : W9.cell? ⟨G, 2, none⟩ = some (.string r.Key) := X4.cell 2 _ rfl
                  have d3 : W9.cell? ⟨G, 3, none⟩ = some (.bool r.Gone) := X4.cell 3 _ rfl
                  have d4 : W9.cell? ⟨G, 4, none⟩ = some (.string r.Value) := X4.cell 4 _ rfl
                  have d5 : W9.cell? ⟨G, 5, none⟩ = some (.slice A7 r.Heads.length c7) := X4.cell 5 _ rfl
                  have j0 : W9.cell? ⟨J, 0, none⟩ = some (.int .i64 b.Base) := (HBJ.out.below hbr3).cell 0 _ rfl
                  have hbA := below_al W9 (.cells #[.int .i64 (b.Base + (q : Int)), .int .i64 r.Time, .bool r.Keyed, .string r.Key, .bool r.Gone, .string r.Value, .slice A7 r.Heads.length c7] 118)
                  have HCH := Lib.hid (below_tr hbr3 hbA)
                  obtain ⟨F6, hT6, hN6, hG6, _⟩ := HO6.out.below hbA
                  have HTr := Lib.hid (Read.mkT _ ⟨b.Base + (q : Int), r⟩ hT6)
                  have HFx : Hid (Fresh wr F6) := Lib.hid ⟨hN6, fun b hb' => by have := hG6 b hb'; omega⟩
                  clear hT6 hN6 hG6 hbA
                  go_wp2_with (at_builtin; refine list_mv4 (v := .slice A2 ys.length c2) info_read rfl (by decide) (by decide) rfl _ _ _ rfl Try.underlying59 rfl HM.out HCH.out hMs2 _ _ rfl HTr.out (Box.new W9 _ _) HFx.out (by omega) hM1 HYL.out ?_; intro A11 c11 W11 hM11 hgr hvb hat; have HGR := Lib.hid hgr; clear hgr)
                  have hszc := HCH.out.size
                  go_roundg (b.Records.length - q - 1)
                  case rel =>
                    refine ⟨q + 1, A11, c11, by omega, by go_num, by rw [HKs.out, List.length_append, List.length_singleton], Lib.hid ?_, Lib.hid ((HKP2.out.below HCH.out).app HGR.out HLB.out (fun k hk => by have := hvb k hk; have := HM0.out; omega)), Lib.hid ((HBJ.out.below HCH.out).grown HGR.out (fun e => HNE.out J e rfl)), Lib.hid ?_, (below_tr hbi HCH.out).grown HGR.out (by have := hbi.size; omega) (fun q hq => by have := hvb q hq; omega), by have := HGR.out.size; omega⟩
                    · rw [HKs.out, List.length_append, List.length_singleton]
                      exact hM11
                    · rw [HKs.out, List.length_append, List.length_singleton]
                      intro k hk
                      rcases hat with e | e
                      · exact HNE.out k (by rw [← e]; exact hk)
                      · rw [hk] at e
                        have := Option.some.inj e
                        have := HBJ.out.lt
                        omega
                  case measure => omega
    case true =>
      have HEN : Hid (visEnd x true = stable x) := Lib.hid rfl
      rw [HEN.out] at HF HN
      go_upto_region 8 with (go_at_call 78; refine (specStable_c _ x hc HR3.out HS.out HW.out).mono ?_; rintro e W4 ⟨rfl, hb4⟩; have f0 := later hb4 d0; have f1 := later hb4 d1; have f2 := later hb4 d2; have f3 := later hb4 d3)
      replace HR3 := Lib.hid (Row_below HR3.out hb4)
      replace Hh3 := Lib.hid (below_tr Hh3.out hb4)
      replace HL3 := Lib.hid (HL3.out.below hb4)
      replace HRg := Lib.hid (Row_below HRg.out hb4)
      clear hb4 d0 d1 d2 d3
      generalize stable x = en at HF HN HEN ⊢
      go_upto_region 9 with (go_at_call 44; refine (l3All_c _ x hc HR3.out hlen (by omega)).mono ?_; rintro e W5 ⟨A9, c9, rfl, l9, r9, hb5⟩; have HR9 := Lib.hid r9; clear r9)
      have HB5 := Lib.hid (below_tr Hh3.out hb5)
      have HG5 := Lib.hid (Row_below HRg.out hb5)
      have HL5 := Lib.hid (HL3.out.below hb5)
      clear hb5 f0 f1 f2 f3 HR3 Hh3 HL3 HRg
      generalize allB x = L at HFO hbl HF HSM HR9 l9 HRM HIT ⊢
      have HLB := HL5
      obtain ⟨M0, hM0⟩ : ∃ n, n = W5.heap.size := ⟨_, rfl⟩
      have HM0 := Lib.hid hM0
      have hM1 : w.heap.size + 2 ≤ M0 := by have := HLB.out.lt; omega
      clear hM0
      go_upto_region 10 with fail
      go_loopg [8, 12] L.length (fun g v8 v12 wr => ∃ (k : Nat) (A' : Option Addr) (c' : Nat), k + g = L.length ∧ v12 = .int .i64 k ∧ v8 = .slice A' (visL true gs fr en (L.take k)).length c' ∧ Hid (MvM kRead 118 wr [] 0 (w.heap.size + 2) M0 (w.heap.size + 1) (visL true gs fr en (L.take k)) (.slice A' (visL true gs fr en (L.take k)).length c')) ∧ Hid (Kp W5 wr) ∧ Below w.heap.size w wr ∧ M0 ≤ wr.heap.size)
      case atStart => exact ⟨0, some ⟨w.heap.size + 1, 0, none⟩, 0, by omega, rfl, rfl, Lib.hid (by rw [List.take_zero]; exact MvM.lit HLB.out), Lib.hid (fun p u h => h), HB5.out, by rw [HM0.out]; exact Nat.le_refl _⟩
      case round =>
        obtain ⟨k, A', c', hk, rfl, rfl, HOW, HKP, hb, hMs⟩ := hrel
        by_cases hlt : k < L.length
        case neg =>
          obtain rfl : k = L.length := by omega
          rw [List.take_length] at HOW ⊢
          rw [← HF.out] at HOW ⊢
          obtain ⟨Ff, hTf, _⟩ := (HOW.out.own.mono (B' := w.heap.size) (by omega)).fresh
          obtain ⟨A8, c8, e8, l8, _, r8⟩ := TS_read hTf
          simp only [Value.slice.injEq, true_and] at e8
          obtain ⟨rfl, rfl⟩ := e8
          have HR8 := Lib.hid r8
          clear r8 hTf
          by_cases hmx : en < fr
          case pos =>
            have HN2 : Hid (visN x fr true = fr) := Lib.hid (by rw [HN.out, if_pos hmx])
            go_wp2
            refine bodyPost_ret (v := .tuple #[.slice A' (visF x fr true).length c', .int .i64 fr]) (by simp [results, Try.results34, go_sem]) rfl ?_
            rw [HN2.out]
            exact ⟨_, _, rfl, l8, HR8.out, hb⟩
          case neg =>
            have HN2 : Hid (visN x fr true = en) := Lib.hid (by rw [HN.out, if_neg hmx])
            go_wp2
            refine bodyPost_ret (v := .tuple #[.slice A' (visF x fr true).length c', .int .i64 en]) (by simp [results, Try.results34, go_sem]) rfl ?_
            rw [HN2.out]
            exact ⟨_, _, rfl, l8, HR8.out, hb⟩
        case pos =>
          obtain ⟨bd, b, A6, c6, rfl, hyb, p0, p1, p2, p3, p4, p5, p6, l6, g6⟩ := Batch.at (Row_kp HR9.out HKP.out) k hlt
          have HKV := Lib.hid (visL_take (st := true) (gs := gs) (fr := fr) (en := en) hyb)
          have hbm := List.mem_of_getElem? hyb
          obtain ⟨_, ⟨fb1, fb2⟩, ⟨ff1, ff2⟩, _, fr1⟩ := HFO.out b hbm
          have hbs := HSM.out b hbm
          have hbl2 := hbs.1
          have HBS := Lib.hid hbs
          have HLZ := Lib.hid (HRM.out gs en k b hyb)
          have HG6 : Hid (Row kRecord W5 A6 b.Records) := Lib.hid (by
            obtain ⟨_, b2, A6', c6', e1, hy2, _, _, _, _, _, _, z6, _, g6'⟩ := Batch.at HR9.out k hlt
            cases e1
            rw [hyb] at hy2
            cases hy2
            have e2 := HKP.out _ _ z6
            rw [p6] at e2
            cases e2
            exact g6')
          have HBM := Lib.hid hbm
          clear hyb hbm hbs g6
          generalize visL true gs fr en (L.take k) = zs at HOW HKV HLZ ⊢
          have BJ := Blk.new wr #[.int .i64 b.Base, .int .i64 b.Epoch, .int .i64 b.Producer, .int .i64 b.Turn, .int .i64 b.Seq, .int .i64 b.Flags, .slice A6 b.Records.length c6] 52
          have hbj := below_al wr (.cells #[.int .i64 b.Base, .int .i64 b.Epoch, .int .i64 b.Producer, .int .i64 b.Turn, .int .i64 b.Seq, .int .i64 b.Flags, .slice A6 b.Records.length c6] 52)
          obtain ⟨J, hJ⟩ : ∃ n, n = wr.heap.size := ⟨_, rfl⟩
          go_upto_region 13 with fail
          clear p0 p1 p2 p3 p4 p5 p6
          generalize wr.alloc (.cells #[.int .i64 b.Base, .int .i64 b.Epoch, .int .i64 b.Producer, .int .i64 b.Turn, .int .i64 b.Seq, .int .i64 b.Flags, .slice A6 b.Records.length c6] 52) = W6 at BJ hbj ⊢
          rw [← hJ] at BJ ⊢
          have HJ := Lib.hid hJ
          clear hJ
          have BJX := Lib.hid BJ
          have j5 : W6.cell? ⟨J, 5, none⟩ = some (.int .i64 b.Flags) := BJ.cell 5 _ rfl
          have HbX := Lib.hid hbj
          have hszj := hbj.size
          clear BJ hbj
          by_cases h4 : 4 ≤ b.Flags
          case pos =>
            have HZ : Hid (visL true gs fr en (L.take (k + 1)) = zs) := Lib.hid (by rw [HKV.out]; unfold visB; rw [if_pos h4, List.append_nil])
            go_wp2
            go_roundg (gk - 1)
            case rel => exact ⟨k + 1, A', c', by omega, by go_num, by rw [HZ.out], by rw [HZ.out]; exact Lib.hid (HOW.out.below HbX.out), Lib.hid (HKP.out.below HbX.out), below_tr hb HbX.out, by omega⟩
            case measure => omega
          case neg =>
            have HVB : Hid (visL true gs fr en (L.take (k + 1)) = zs ++ (if abG b gs = true then [] else readsB fr en b b.Records 0)) := Lib.hid (by rw [HKV.out]; unfold visB; rw [if_neg (show ¬ 4 ≤ b.Flags by omega)]; rfl)
            have HAB : Hid ((bit2 b.Flags && gs.any (hitS b)) = abG b gs) := Lib.hid (by unfold abG; rw [HIT.out b HBM.out (by omega)])
            have HG6g := Lib.hid (Row_kp HG5.out (HKP.out.below HbX.out))
            go_upto_region 16 with fail
            go_loopg [14, 15] gs.length (fun g v14 v15 wi => ∃ m : Nat, m + g = gs.length ∧ v15 = .int .i64 m ∧ v14 = .bool (bit2 b.Flags && (gs.take m).any (hitS b)) ∧ Below W6.heap.size W6 wi)
            case atStart => exact ⟨0, by omega, rfl, by simp, Below.refl _ _⟩
            case round =>
              obtain ⟨m, hm, rfl, rfl, hbw⟩ := hrel
              have B7 := Lib.hid (BJX.out.below hbw)
              by_cases hlm : m < gs.length
              case pos =>
                obtain ⟨gd, gg, rfl, hgx, q0, q1, q2⟩ := Gone.at (Row_below HG6g.out hbw) m hlm
                have HX := Lib.hid hgx
                clear hgx
                have hbg := below_al wr (.cells #[.int .i64 gg.Producer, .int .i64 gg.First, .int .i64 gg.Last] 78)
                have X1 := Blk.new wr #[.int .i64 gg.Producer, .int .i64 gg.First, .int .i64 gg.Last] 78
                have BJ8 := B7.out.below hbg
                generalize hsk : (bit2 b.Flags && (gs.take m).any (hitS b)) = sk
                have HSK := Lib.hid hsk
                clear hsk
                obtain ⟨G, hG⟩ : ∃ n, n = wr.heap.size := ⟨_, rfl⟩
                go_upto_region 19 with fail
                clear q0 q1 q2 j5
                generalize wr.alloc (.cells #[.int .i64 gg.Producer, .int .i64 gg.First, .int .i64 gg.Last] 78) = W8 at X1 hbg BJ8 ⊢
                rw [← hG] at X1 ⊢
                have HG := Lib.hid hG
                clear hG
                have x0 : W8.cell? ⟨G, 0, none⟩ = some (.int .i64 gg.Producer) := X1.cell 0 _ rfl
                have x1 : W8.cell? ⟨G, 1, none⟩ = some (.int .i64 gg.First) := X1.cell 1 _ rfl
                have x2 : W8.cell? ⟨G, 2, none⟩ = some (.int .i64 gg.Last) := X1.cell 2 _ rfl
                have j0 : W8.cell? ⟨J, 0, none⟩ = some (.int .i64 b.Base) := BJ8.cell 0 _ rfl
                have j2 : W8.cell? ⟨J, 2, none⟩ = some (.int .i64 b.Producer) := BJ8.cell 2 _ rfl
                have j5 : W8.cell? ⟨J, 5, none⟩ = some (.int .i64 b.Flags) := BJ8.cell 5 _ rfl
                have hbg2 := Lib.hid hbg
                clear X1 BJ8 hbg
                have HGK : Hid ((bit2 b.Flags && (gs.take (m + 1)).any (hitS b)) = (sk || (bit2 b.Flags && hitS b gg))) := Lib.hid (by rw [take_snoc HX.out, List.any_append, ← HSK.out]; cases bit2 b.Flags <;> simp)
                have HHI : Hid (hitS b gg = (decide (b.Producer = gg.Producer) && (decide (gg.First ≤ b.Base) && decide (b.Base ≤ gg.Last)))) := Lib.hid rfl
                have HBI : Hid (bit2 b.Flags = decide (b.Flags / 2 % 2 = 1)) := Lib.hid rfl
                generalize hv1 : decide (b.Producer = gg.Producer) = e1 at HHI
                have hp1 : (b.Producer == gg.Producer) = e1 := by rw [← hv1]; rfl
                generalize hv2 : decide (b.Flags / 2 % 2 = 1) = e2 at HBI
                have hp2 : (b.Flags / 2 % 2 == 1) = e2 := by rw [← hv2]; rfl
                clear hv1 hv2
                go_wp2
                all_goals
                  go_roundg (gs.length - m - 1)
                  case rel => exact ⟨m + 1, by omega, by go_num, by rw [HGK.out, HHI.out, HBI.out]; simp only [Value.bool.injEq]; grind, below_tr hbw hbg2.out⟩
                  case measure => omega
              case neg =>
                obtain rfl : m = gs.length := by omega
                rw [List.take_length, HAB.out]
                clear HAB j5
                replace HbX := Lib.hid (below_tr HbX.out hbw)
                have BJX := B7
                have hszj := HbX.out.size
                generalize abG b gs = ab at HVB ⊢
                cases ab
                case true =>
                  have HZ : Hid (visL true gs fr en (L.take (k + 1)) = zs) := Lib.hid (by rw [HVB.out, if_pos rfl, List.append_nil])
                  have hr0 : decide ((0 : Int) < (b.Records.length : Int)) = true := by simp; omega
                  have j6 : wr.cell? ⟨J, 6, none⟩ = some (.slice A6 b.Records.length c6) := BJX.out.cell 6 _ rfl
                  go_upto_region 21 with fail
                  go_loopg [8, 17] 0 (fun g v8 v17 wi => v8 = .slice A' zs.length c' ∧ v17 = .int .i64 0 ∧ wi = wr)
                  case atStart => exact ⟨rfl, rfl, rfl⟩
                  case round =>
                    obtain ⟨rfl, rfl, hrel⟩ := hrel
                    subst hrel
                    go_wp2
                    go_roundg (L.length - k - 1)
                    case rel => exact ⟨k + 1, A', c', by omega, by go_num, by rw [HZ.out], by rw [HZ.out]; exact Lib.hid (HOW.out.below HbX.out), Lib.hid (HKP.out.below HbX.out), below_tr hb HbX.out, by omega⟩
                    case measure => omega
                case false =>
                  have HZK : Hid (visL true gs fr en (L.take (k + 1)) = zs ++ readsB fr en b b.Records 0) := Lib.hid (by rw [HVB.out, if_neg (by simp)])
                  go_upto_region 21 with fail
                  go_loopg [8, 17] b.Records.length (fun g v8 v17 wi => ∃ (q : Nat) (A2 : Option Addr) (c2 : Nat), q + g = b.Records.length ∧ v17 = .int .i64 q ∧ v8 = .slice A2 (zs ++ readsB fr en b (b.Records.take q) 0).length c2 ∧ Hid (MvM kRead 118 wi [] 0 (w.heap.size + 2) M0 (w.heap.size + 1) (zs ++ readsB fr en b (b.Records.take q) 0) (.slice A2 (zs ++ readsB fr en b (b.Records.take q) 0).length c2)) ∧ Hid (Kp W5 wi) ∧ Hid (Blk wi J #[.int .i64 b.Base, .int .i64 b.Epoch, .int .i64 b.Producer, .int .i64 b.Turn, .int .i64 b.Seq, .int .i64 b.Flags, .slice A6 b.Records.length c6] 52) ∧ Hid (∀ k, (Value.slice A2 (zs ++ readsB fr en b (b.Records.take q) 0).length c2).ownBlock = some k → k ≠ J) ∧ Below w.heap.size w wi ∧ M0 ≤ wi.heap.size)
                  case atStart => exact ⟨0, A', c', by omega, rfl, by simp [readsB], by simpa [readsB] using Lib.hid (HOW.out.below HbX.out), Lib.hid (HKP.out.below HbX.out), BJX, by simpa [readsB] using Lib.hid (show ∀ k, (Value.slice A' zs.length c').ownBlock = some k → k ≠ J from fun k hk => by have := HOW.out.own.lt k hk; have := HJ.out; omega), below_tr hb HbX.out, by omega⟩
                  case round =>
                    obtain ⟨q, A2, c2, hq, rfl, rfl, HM, HKP2, HBJ, HNE, hbi, hMs2⟩ := hrel
                    have j6 : wr.cell? ⟨J, 6, none⟩ = some (.slice A6 b.Records.length c6) := HBJ.out.cell 6 _ rfl
                    have j0 : wr.cell? ⟨J, 0, none⟩ = some (.int .i64 b.Base) := HBJ.out.cell 0 _ rfl
                    by_cases hlq : q < b.Records.length
                    case neg =>
                      obtain rfl : q = b.Records.length := by omega
                      rw [List.take_length] at HM ⊢
                      rw [← HZK.out] at HM ⊢
                      go_wp2
                      go_roundg (L.length - k - 1)
                      case rel => exact ⟨k + 1, A2, c2, by omega, by go_num, rfl, HM, HKP2, hbi, hMs2⟩
                      case measure => omega
                    case pos =>
                      obtain ⟨rd, r, A5, c5, rfl, hyr, p0, p1, p2, p3, p4, p5, l5, g5⟩ := Record.at (Row_kp HG6.out HKP2.out) q hlq
                      have HKR : Hid (zs ++ readsB fr en b (b.Records.take (q + 1)) 0 = (zs ++ readsB fr en b (b.Records.take q) 0) ++ readB fr en b q r) := Lib.hid (by rw [readsB_take hyr, List.append_assoc])
                      have HYL : Hid ((zs ++ readsB fr en b (b.Records.take q) 0).length ≤ 1048576) := Lib.hid (by have h1 := readsB_len fr en b (b.Records.take q) 0; have h2 := HLZ.out; rw [List.length_take] at h1; rw [List.length_append]; omega)
                      have hy5 := (HBS.out.2 r (List.mem_of_getElem? hyr)).2.2.1
                      clear hyr
                      generalize (zs ++ readsB fr en b (b.Records.take q) 0) = ys at HM HKR HYL HNE ⊢
                      have hw1 : IntKind.i64.wrap (b.Base + (q : Int)) = b.Base + (q : Int) := IntWalk.i64_in _ (by omega)
                      by_cases hf : fr ≤ b.Base + (q : Int)
                      case neg =>
                        have HKs : Hid (zs ++ readsB fr en b (b.Records.take (q + 1)) 0 = ys) := Lib.hid (by rw [HKR.out]; unfold readB; rw [if_neg (by omega), List.append_nil])
                        go_wp2
                        go_roundg (b.Records.length - q - 1)
                        case rel => exact ⟨q + 1, A2, c2, by omega, by go_num, by rw [HKs.out], by rw [HKs.out]; exact HM, HKP2, HBJ, by rw [HKs.out]; exact HNE, hbi, hMs2⟩
                        case measure => omega
                      by_cases he : b.Base + (q : Int) < en
                      case neg =>
                        have HKs : Hid (zs ++ readsB fr en b (b.Records.take (q + 1)) 0 = ys) := Lib.hid (by rw [HKR.out]; unfold readB; rw [if_neg (by omega), List.append_nil])
                        go_wp2
                        go_roundg (b.Records.length - q - 1)
                        case rel => exact ⟨q + 1, A2, c2, by omega, by go_num, by rw [HKs.out], by rw [HKs.out]; exact HM, HKP2, HBJ, by rw [HKs.out]; exact HNE, hbi, hMs2⟩
                        case measure => omega
                      have HKs : Hid (zs ++ readsB fr en b (b.Records.take (q + 1)) 0 = ys ++ [⟨b.Base + (q : Int), r⟩]) := Lib.hid (by rw [HKR.out]; unfold readB; rw [if_pos ⟨by omega, by omega⟩])
                      have X1 := Blk.new wr #[.int .i64 r.Time, .bool r.Keyed, .string r.Key, .bool r.Gone, .string r.Value, .slice A5 r.Heads.length c5] 116
                      have hbr := below_al wr (.cells #[.int .i64 r.Time, .bool r.Keyed, .string r.Key, .bool r.Gone, .string r.Value, .slice A5 r.Heads.length c5] 116)
                      obtain ⟨G, hG⟩ : ∃ n, n = wr.heap.size := ⟨_, rfl⟩
                      go_upto_region 25 with fail
                      clear p0 p1 p2 p3 p4 p5 j6 j0
                      have G5 := Lib.hid (Row_below g5 hbr)
                      generalize wr.alloc (.cells #[.int .i64 r.Time, .bool r.Keyed, .string r.Key, .bool r.Gone, .string r.Value, .slice A5 r.Heads.length c5] 116) = W7 at X1 hbr G5 ⊢
                      rw [← hG] at X1 ⊢
                      have HG := Lib.hid hG
                      clear hG g5
                      have hs7 := hbr.size
                      have X2 := X1.below (below_al W7 (.cells #[] 152))
                      have a5 : (W7.alloc (.cells #[] 152)).cell? ⟨G, 5, none⟩ = some (.slice A5 r.Heads.length c5) := X2.cell 5 _ rfl
                      have z5 := X2.frz 5
                      have hGl := X2.lt
                      go_upto_region 26 with (at_builtin; refine list_flat (v := .slice (some ⟨W7.heap.size, 0, none⟩) 0 0) info_head rfl (by decide) (by decide) head_flat rfl _ _ _ rfl Try.underlying114 rfl (lit_KO W7) rfl (Row_below G5.out (below_al _ _)) hy5 (by simp) ?_; intro A7 c7 W8 hO5 hgr hvb; have X3 := X2.grown hgr (by simp [Value.ownBlock]; have := X1.lt; omega); have a6 : W8.cell? ⟨G, 5, none⟩ = some (.slice A5 r.Heads.length c5) := X3.cell 5 _ rfl; have z6 := X3.frz 5; have hGl2 := X3.lt; have HGR := Lib.hid hgr; clear hgr; have HO5 := Lib.hid hO5; clear hO5)
                      have HBW2 : Hid (Below W7.heap.size W7 W8) := Lib.hid ((below_al W7 (.cells #[] 152)).grown HGR.out (by simp) (fun k hk => by simp [Value.ownBlock] at hk; omega))
                      clear hvb HGR
                      have hbr2 := below_tr hbr HBW2.out
                      have X4 := X3.set 5 (.slice A7 r.Heads.length c7)
                      have hbr3 : Below wr.heap.size wr (W8.setCell ⟨G, 5, none⟩ (.slice A7 r.Heads.length c7)) := hbr2.setCell (p := ⟨G, 5, none⟩) (by have := HG.out; simp; omega) _
                      have HO6 := Lib.hid (HO5.out.setc G 5 (.slice A7 r.Heads.length c7) (by have := X1.lt; omega))
                      generalize W8.setCell ⟨G, 5, none⟩ (.slice A7 r.Heads.length c7) = W9 at X4 hbr3 HO6 ⊢
                      clear a6 z6 hGl2 HO5 X3 hbr2 a5 z5 hGl G5 X1 X2 HBW2
                      have d0 : W9.cell? ⟨G, 0, none⟩ = some (.int .i64 r.Time) := X4.cell 0 _ rfl
                      have d1 : W9.cell? ⟨G, 1, none⟩ = some (.bool r.Keyed) := X4.cell 1 _ rfl
                      have d2 : W9.cell? ⟨G, 2, none⟩ = some (.string r.Key) := X4.cell 2 _ rfl
                      have d3 : W9.cell? ⟨G, 3, none⟩ = some (.bool r.Gone) := X4.cell 3 _ rfl
                      have d4 : W9.cell? ⟨G, 4, none⟩ = some (.string r.Value) := X4.cell 4 _ rfl
                      have d5 : W9.cell? ⟨G, 5, none⟩ = some (.slice A7 r.Heads.length c7) := X4.cell 5 _ rfl
                      have j0 : W9.cell? ⟨J, 0, none⟩ = some (.int .i64 b.Base) := (HBJ.out.below hbr3).cell 0 _ rfl
                      have hbA := below_al W9 (.cells #[.int .i64 (b.Base + (q : Int)), .int .i64 r.Time, .bool r.Keyed, .string r.Key, .bool r.Gone, .string r.Value, .slice A7 r.Heads.length c7] 118)
                      have HCH := Lib.hid (below_tr hbr3 hbA)
                      obtain ⟨F6, hT6, hN6, hG6, _⟩ := HO6.out.below hbA
                      have HTr := Lib.hid (Read.mkT _ ⟨b.Base + (q : Int), r⟩ hT6)
                      have HFx : Hid (Fresh wr F6) := Lib.hid ⟨hN6, fun b hb' => by have := hG6 b hb'; omega⟩
                      clear hT6 hN6 hG6 hbA
                      go_wp2_with (at_builtin; refine list_mv4 (v := .slice A2 ys.length c2) info_read rfl (by decide) (by decide) rfl _ _ _ rfl Try.underlying59 rfl HM.out HCH.out hMs2 _ _ rfl HTr.out (Box.new W9 _ _) HFx.out (by omega) hM1 HYL.out ?_; intro A11 c11 W11 hM11 hgr hvb hat; have HGR := Lib.hid hgr; clear hgr)
                      have hszc := HCH.out.size
                      go_roundg (b.Records.length - q - 1)
                      case rel =>
                        refine ⟨q + 1, A11, c11, by omega, by go_num, by rw [HKs.out, List.length_append, List.length_singleton], Lib.hid ?_, Lib.hid ((HKP2.out.below HCH.out).app HGR.out HLB.out (fun k hk => by have := hvb k hk; have := HM0.out; omega)), Lib.hid ((HBJ.out.below HCH.out).grown HGR.out (fun e => HNE.out J e rfl)), Lib.hid ?_, (below_tr hbi HCH.out).grown HGR.out (by have := hbi.size; omega) (fun q hq => by have := hvb q hq; omega), by have := HGR.out.size; omega⟩
                        · rw [HKs.out, List.length_append, List.length_singleton]
                          exact hM11
                        · rw [HKs.out, List.length_append, List.length_singleton]
                          intro k hk
                          rcases hat with e | e
                          · exact HNE.out k (by rw [← e]; exact hk)
                          · rw [hk] at e
                            have := Option.some.inj e
                            have := HBJ.out.lt
                            omega
                      case measure => omega
end Go.Proofs.Ytipemgjgimpmbaa.H
