/-
The program's Moves. Conditions: each contract's own premises.
-/
import Derived.Test.YtenldgbabcjjkaaHW8
namespace Go.Proofs.Ytenldgbabcjjkaa.H
open Go.RowKit Go.Sort Go.Maps
set_option linter.unusedVariables false
set_option linter.unusedSimpArgs false
set_option maxRecDepth 100000
theorem okSl_in {q : List Slot} (hs : q.length ≤ 1048576 ∧ ∀ yy ∈ q, yy.sm) (hw : wfList Slot.wf q) : ∀ s ∈ q, okSl s := fun s hm => ⟨Nat.le_trans (hs.2 s hm) (by simp [maxLen]), (hw.2 s hm).2⟩
theorem take_snocS {l : List Slot} {j : Nat} {y : Slot} (h : l[j]? = some y) : l.take j ++ [y] = l.take (j + 1) := by rw [List.take_add_one, h]; rfl
theorem box_grown {w w' : World} {g b : Nat} {cs : Array Value} (h : Box w g cs) {H : Type} {P : Program} {k : TypeId} {R : Value → Option (DataW H × List MemPlace)} {n : Nat} {D : DataW H} (hm : w.ownsMap P k R b n D) (hg : w.grownBy w' (some b)) : Box w' g cs := fun j u hj => by
  have h1 := h j u hj
  obtain ⟨es, clock, hb, _⟩ := hm
  exact hg.cell h1 (fun e => by
    injection e with e
    subst e
    simp [World.cell?, hb] at h1)
set_option maxHeartbeats 8000000 in
theorem implMoves_c (w : World) (l : List Want) (ls : List (List Slot)) {A : Option Addr} {c : Nat} (hl : l.length ≤ c) (hg : Row kWant w A l) {B : Option Addr} {d : Nat} (hl2 : ls.length ≤ d) (hg2 : Row (Ki.slice 79 kSlot) w B ls)
    (hs : l.length ≤ 1048576 ∧ ∀ y ∈ l, y.sm) (hs2 : ls.length ≤ 1048576 ∧ ∀ y ∈ ls, (y.length ≤ 1048576 ∧ ∀ yy ∈ y, yy.sm)) (hw : wfList Want.wf l) (hw2 : wfList (wfList Slot.wf) ls) :
    Calls Try.prog 17 #[.slice A l.length c, .slice B ls.length d] w fun e w' => e = .returned (.int .i64 (movesF l ls)) ∧ Below w.heap.size w w' := by
  unfold movesF
  have HS := Lib.hid hs
  have HS2 := Lib.hid hs2
  have HW := Lib.hid hw
  have HOQ := Lib.hid (fun q hq => okSl_in (hs2.2 q hq) (hw2.2 q hq))
  have HOW := Lib.hid (fun y hy => okSl_of (hs.2 y hy) (hw.2 y hy))
  have hln := hs.1
  have hln2 := hs2.1
  clear hs hs2 hw hw2
  have hu2 := Try.underlying25
  have hu3 := Try.underlying73
  have hu4 := Try.underlying71
  have hu5 := Try.underlying79
  have hu6 := Try.underlying32
  have hmm := @run_makeMap Try.prog
  generalize hok : wantsF l = ok
  have HOK := Lib.hid hok
  clear hok
  go_enter Try.func17, Try.ntmps17
  cases ok with
  | false =>
    go_wp2_with (go_at_call 12; refine (implWantsOk_c _ l hl hg HS.out HW.out).mono ?_; rintro e w1 ⟨rfl, hb1⟩; rw [HOK.out])
    go_ret
    exact ⟨rfl, hb1⟩
  | true =>
  by_cases hll : ls.length = l.length
  case neg =>
    have hd : ¬ ((ls.length : Int) = (l.length : Int)) := by omega
    go_wp2_with (go_at_call 12; refine (implWantsOk_c _ l hl hg HS.out HW.out).mono ?_; rintro e w1 ⟨rfl, hb1⟩; rw [HOK.out])
    all_goals first
      | (exfalso; omega)
      | (go_ret; exact ⟨by simp [hll], hb1⟩)
  have HLL := Lib.hid hll
  have hnl : (((ls.length : Int) != (l.length : Int))) = false := by rw [hll]; simp
  clear hll
  go_upto_region 5 with (go_at_call 12; refine (implWantsOk_c _ l hl hg HS.out HW.out).mono ?_; rintro e w1 ⟨rfl, hb1⟩; rw [HOK.out])
  clear hnl
  generalize hR : mvN (l.zip ls) = R
  have HR := Lib.hid hR
  clear hR
  go_loopg [5, 25] l.length (fun g v5 v25 wr => ∃ (k n : Nat), k + g = l.length ∧ v25 = .int .i64 k ∧ v5 = .int .i64 n ∧ n ≤ k * 1048576 ∧ Below w.heap.size w wr ∧ Hid (n = mvN ((l.zip ls).take k)))
  case atStart => exact ⟨0, 0, by omega, rfl, rfl, by omega, hb1, Lib.hid rfl⟩
  case round =>
    clear hb1
    obtain ⟨k, n, hk, rfl, rfl, hn, hb, HN⟩ := hrel
    by_cases hlt : k < l.length
    case neg =>
      have HE : Hid (n = R) := Lib.hid (by rw [HN.out, ← HR.out, List.take_of_length_le (by rw [List.length_zip]; omega)])
      go_wp2
      go_ret
      exact ⟨by rw [HE.out]; simp [HLL.out, HR.out], hb⟩
    obtain ⟨ad, s, A1, c1, A2, c2, rfl, hx, p0, p1, p2, _, _, l2, g2⟩ := Want.at hg k hlt
    replace p0 := later hb p0
    replace p1 := later hb p1
    replace p2 := later hb p2
    have hlt3 : k < ls.length := by have := HLL.out; omega
    obtain ⟨bd, q, B1, d1, rfl, hx2, r0, m1, h1⟩ := rowSl hg2 k hlt3
    replace r0 := later hb r0
    have HOH := Lib.hid (HOW.out s (List.mem_of_getElem? hx)).2
    have hh : s.Has.length ≤ 1048576 := (HOW.out s (List.mem_of_getElem? hx)).1
    have hqq : q.length ≤ 1048576 := (HS2.out.2 q (List.mem_of_getElem? hx2)).1
    have HOK2 := Lib.hid (HOQ.out q (List.mem_of_getElem? hx2))
    have HST := Lib.hid (mv_step hx hx2)
    clear hx hx2
    obtain ⟨B7, hB7⟩ : ∃ n, n = wr.heap.size := ⟨_, rfl⟩
    have X8 := Box.new wr #[.string s.Name, .slice A1 s.Wants.length c1, .slice A2 s.Has.length c2] 73
    have hb8 := below_al wr (.cells #[.string s.Name, .slice A1 s.Wants.length c1, .slice A2 s.Has.length c2] 73)
    have HB8 := Lib.hid (below_tr hb hb8)
    go_upto_region 7 with fail
    generalize wr.alloc (.cells #[.string s.Name, .slice A1 s.Wants.length c1, .slice A2 s.Has.length c2] 73) = W8 at X8 hb8 HB8 ⊢
    rw [← hB7] at X8 ⊢
    replace r0 := later hb8 r0
    clear p0 p1 p2
    have hs8 := HB8.out.size
    have hown0 := World.ownsMap_made (H := Unit) W8 Try.prog 79 (plainElem Try.prog 4)
    have hb9 := below_al W8 (.map #[] 0)
    have X9 := X8.later hb9
    have HB9 := Lib.hid (below_tr HB8.out hb9)
    replace r0 := later hb9 r0
    have HBl := Lib.hid hB7
    clear hB7 hb8
    obtain ⟨bm, hbm⟩ : ∃ n, n = W8.heap.size := ⟨_, rfl⟩
    rw [← hbm] at hown0
    go_upto_region 9 with fail
    rw [← hbm]
    generalize W8.alloc (.map #[] 0) = W9 at hown0 hb9 X9 HB9 r0 ⊢
    have HBM := Lib.hid (show w.heap.size ≤ bm by omega)
    have HX9 := Lib.hid X9
    clear X8 X9 hbm hb9 r0 hb
    go_loopg [36] q.length (fun g v36 wi => ∃ (j : Nat) (D : DataW Unit), j + g = q.length ∧ v36 = .int .i64 j ∧ wi.ownsMap Try.prog 79 (plainElem Try.prog 4) bm j D ∧ HasS D (q.take j) ∧ Below w.heap.size w wi ∧ Hid (Box wi B7 #[.string s.Name, .slice A1 s.Wants.length c1, .slice A2 s.Has.length c2]))
    case atStart => exact ⟨0, _, by omega, rfl, hown0, HasS.nil, HB9.out, HX9⟩
    case round =>
      clear hown0 HX9
      obtain ⟨j, D, hj, rfl, hM, hD, hb, HX9⟩ := hrel
      have HD := Lib.hid hD
      clear hD
      have q2 : wr.cell? ⟨B7, 2, none⟩ = some (.slice A2 s.Has.length c2) := HX9.out 2 _ rfl
      by_cases hlt2 : j < q.length
      case neg =>
        have HD2 : Hid (HasS D q) := Lib.hid (by have h := HD.out; rwa [List.take_of_length_le (show q.length ≤ j by omega)] at h)
        go_upto_region 14 with fail
        go_loopg [5, 46] s.Has.length (fun g v5 v46 wi => ∃ (j2 m : Nat), j2 + g = s.Has.length ∧ v46 = .int .i64 j2 ∧ v5 = .int .i64 m ∧ m ≤ k * 1048576 + j2 ∧ wi.ownsMap Try.prog 79 (plainElem Try.prog 4) bm j D ∧ Below w.heap.size w wi ∧ Hid (m = mvN ((l.zip ls).take k) + missN (s.Has.take j2) q))
        case atStart => exact ⟨0, n, by omega, rfl, rfl, Nat.le_trans hn (Nat.le_add_right _ _), hM, hb, Lib.hid (by rw [List.take_zero, show missN [] q = 0 from rfl, Nat.add_zero]; exact HN.out)⟩
        case round =>
          clear HN hb hn hM q2 HX9
          obtain ⟨i, m, hi, rfl, rfl, hm, hM, hb, HN⟩ := hrel
          by_cases hlt4 : i < s.Has.length
          case neg =>
            have HE : Hid (m = mvN ((l.zip ls).take (k + 1))) := Lib.hid (by rw [HN.out, HST.out, List.take_of_length_le (show s.Has.length ≤ i by omega)])
            go_wp2
            go_roundg (l.length - k - 1)
            case rel => exact ⟨k + 1, m, by omega, by go_num, rfl, by omega, hb, HE⟩
            case measure => omega
          obtain ⟨ad2, y, rfl, hy, t0, t1⟩ := Slot.at (Row_below g2 hb) i hlt4
          have HYS := Lib.hid (HOH.out y (List.mem_of_getElem? hy))
          have HMS := Lib.hid (miss_step hy q)
          clear hy
          generalize hin : inF q y = bi at HMS
          have HI := Lib.hid hin
          clear hin
          have hM1 := ownsMap_belowS hM (below_al wr (.cells #[.string y.Topic, .int .i64 y.Part] 79))
          have hb1 := below_tr hb (below_al wr (.cells #[.string y.Topic, .int .i64 y.Part] 79))
          cases bi with
          | true =>
            have HE : Hid (m = mvN ((l.zip ls).take k) + missN (s.Has.take (i + 1)) q) := Lib.hid (by rw [HN.out, HMS.out]; rfl)
            go_wp2_with (first | (at_lookup; refine lookup_boolS _ rfl _ _ rfl bm j D rfl hM1 rfl HYS.out HD2.out ?_; rw [HI.out]) | go_in)
            go_roundg (s.Has.length - i - 1)
            case rel => exact ⟨i + 1, m, by omega, by go_num, rfl, by omega, hM1, hb1, HE⟩
            case measure => omega
          | false =>
            have HE : Hid (m + 1 = mvN ((l.zip ls).take k) + missN (s.Has.take (i + 1)) q) := Lib.hid (by rw [HN.out, HMS.out]; simp; omega)
            go_wp2_with (first | (at_lookup; refine lookup_boolS _ rfl _ _ rfl bm j D rfl hM1 rfl HYS.out HD2.out ?_; rw [HI.out]) | go_in)
            go_roundg (s.Has.length - i - 1)
            case rel => exact ⟨i + 1, m + 1, by omega, by go_num, by go_num, by omega, hM1, hb1, HE⟩
            case measure => omega
      obtain ⟨ad2, y, rfl, hy, t0, t1⟩ := Slot.at (Row_below h1 hb) j hlt2
      have HYS := Lib.hid (HOK2.out y (List.mem_of_getElem? hy))
      have HTK := Lib.hid (take_snocS hy)
      clear hy q2
      have hM1 := ownsMap_belowS hM (below_al wr (.cells #[.string y.Topic, .int .i64 y.Part] 79))
      have hb1 := below_tr hb (below_al wr (.cells #[.string y.Topic, .int .i64 y.Part] 79))
      have HX1 := Lib.hid (HX9.out.later (below_al wr (.cells #[.string y.Topic, .int .i64 y.Part] 79)))
      go_wp2_with (first | (at_mapUpdate; refine update_boolS _ rfl _ _ _ rfl bm j D rfl hM1 (by unfold maxLen; omega) rfl rfl HYS.out HD.out ?_; intro wm D' hM2 hD2 hg2; have hb2 := hb1.grown hg2 hb1.size (fun k hk => by injection hk with hk; have := HBM.out; omega); have HX2 := Lib.hid (box_grown HX1.out hM1 hg2)) | go_in)
      go_roundg (q.length - j - 1)
      case rel => exact ⟨j + 1, D', by omega, by go_num, hM2, by rw [← HTK.out]; exact hD2, hb2, HX2⟩
      case measure => omega
end Go.Proofs.Ytenldgbabcjjkaa.H
