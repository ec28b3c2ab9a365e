/-
The program's View. Conditions: each contract's own premises.
-/
import Derived.Test.YtiefpllmnmmdlaaHVwM
import Derived.Test.YtiefpllmnmmdlaaHSrt
import Derived.Test.YtiefpllmnmmdlaaHLog1
import Derived.IntWalk
import Derived.StringKeys
namespace Go.Proofs.Ytiefpllmnmmdlaa.H
open Go.RowKit Go.Maps
set_option linter.unusedVariables false
set_option linter.unusedSimpArgs false
set_option maxRecDepth 100000
theorem recs_le2 {b : Batch} (h : batchOk b = true) : b.Records.length ≤ 40 := by
  unfold batchOk bA bA0 inB at h
  simp only [Bool.and_eq_true, Bool.or_eq_true, decide_eq_true_eq, Bool.not_eq_true', decide_eq_false_iff_not, beq_iff_eq] at h
  omega
theorem map_keep {w w' : World} {k : TypeId} {b n : Nat} {D : DataW Unit} (h : w.ownsMap Try.prog k recR b n D) (hb : Below w.heap.size w w') : w'.ownsMap Try.prog k recR b n D := ownsMap_below h hb
/-- The map so far, and all that was read. -/
structure MI (w W3 wr : World) (MB n : Nat) (D : DataW Unit) (l : List Record) : Prop where
  mp : wr.ownsMap Try.prog 9 recR MB n D
  tl : MTells D l
  kp : Kp W3 wr
  bel : Below w.heap.size w wr
  ge : w.heap.size ≤ MB
theorem MI.below {w W3 wr w' : World} {MB n : Nat} {D : DataW Unit} {l : List Record} (h : MI w W3 wr MB n D l) (hb : Below wr.heap.size wr w') : MI w W3 w' MB n D l :=
  ⟨ownsMap_below h.mp hb, h.tl, h.kp.below hb, below_tr h.bel hb, h.ge⟩
theorem MI.put {w W3 wr w' : World} {MB n : Nat} {D : DataW Unit} {l : List Record} (h : MI w W3 wr MB n D l) (r : Record) (hm : w'.ownsMap Try.prog 9 recR MB (n + 1) (D.put (keyL r.Key) (encD r.Gone r.Value))) (hg : wr.grownBy w' (some MB)) : MI w W3 w' MB (n + 1) (D.put (keyL r.Key) (encD r.Gone r.Value)) (l ++ [r]) :=
  ⟨hm, h.tl.put (h.mp.tidy law_str).isMap r, h.kp.grown h.mp hg, h.bel.grown hg (by have := ownsMap_lt h.mp; have := h.ge; omega) (fun k hk => by injection hk with hk; have := h.ge; omega), h.ge⟩
theorem str_inv (key : Value) (kl : Lit) (h : keyOf Try.prog 9 key = some kl) : ∃ s : ByteArray, key = .string s := by
  obtain ⟨s, e, _⟩ := Go.WideMaps.string_of_keyOf Try.underlying9 h
  exact ⟨s, e⟩
/-- The range's rounds: what is left, and where all lies. -/
structure CI (w wr : World) (MB BS RB n : Nat) (D : DataW Unit) (left : Lit → Bool) (cnt : Nat) (ss : List Pair) (v : Value) : Prop where
  rg : wr.ranges Try.prog 9 recR MB RB n D left cnt
  pr : PR (RB + 1) wr ss v
  bx : Blk wr BS #[v] 35
  bel : Below w.heap.size w wr
theorem grown_set (w : World) (b j : Nat) (u : Value) : w.grownBy (w.setCell ⟨b, j, none⟩ u) (some b) :=
  ⟨rfl, rfl, rfl, by simp [World.setCell], fun i _ hne => Below.heap_setCell w ⟨b, j, none⟩ u i (fun e => hne (by rw [e]))⟩
section
variable {w wr w' : World} {MB BS RB n cnt cnt' : Nat} {D : DataW Unit} {left left' : Lit → Bool} {ss ss' : List Pair} {v v' : Value}
theorem CI.next (h : CI w wr MB BS RB n D left cnt ss v) (hr : w'.ranges Try.prog 9 recR MB RB n D left' cnt') (hg : wr.grownBy w' (some RB)) (h1 : BS < RB) (h2 : w.heap.size ≤ BS) : CI w w' MB BS RB n D left' cnt' ss v :=
  ⟨hr, h.pr.move (fun k hk => hg.block k (h.pr.lt k hk).2 (fun e => by injection e with e; have := (h.pr.lt k hk).1; omega)), h.bx.grown hg (fun e => by injection e with e; omega), h.bel.grown hg h.bel.size (fun k hk => by injection hk with hk; omega)⟩
theorem CI.al (h : CI w wr MB BS RB n D left cnt ss v) (o : Obj) : CI w (wr.alloc o) MB BS RB n D left cnt ss v :=
  ⟨h.rg.alloc o, h.pr.below (below_al _ _), h.bx.below (below_al _ _), below_tr h.bel (below_al _ _)⟩
theorem CI.app (h : CI w wr MB BS RB n D left cnt ss v) (hp : PR (RB + 1) w' ss' v') (hg : wr.grownBy w' v.ownBlock) (h0 : MB < BS) (h1 : BS < RB) (h2 : w.heap.size ≤ BS) : CI w (w'.setCell ⟨BS, 0, none⟩ v') MB BS RB n D left cnt ss' v' := by
  have hvk : ∀ k, v.ownBlock = some k → RB + 1 ≤ k := fun k hk => (h.pr.lt k hk).1
  have hs := grown_set w' BS 0 v'
  have hpk := hp.lt
  have r1 := h.rg.kept hg (fun e => by have := hvk _ e.symm; omega) (fun e => by have := hvk _ e.symm; omega)
  have b1 := h.bx.grown hg (fun e => by have := hvk _ e; omega)
  refine ⟨r1.kept hs (fun e => by injection e with e; omega) (fun e => by injection e with e; omega), hp.move (fun k hk => hs.block k (hpk k hk).2 (fun e => by injection e with e; have := (hpk k hk).1; omega)), b1.set 0 v', ?_⟩
  have c1 := h.bel.grown hg h.bel.size (fun k hk => by have := hvk k hk; omega)
  exact c1.grown hs c1.size (fun k hk => by injection hk with hk; omega)
end
set_option maxHeartbeats 16000000 in
theorem implView_c (w : World) (x : Log) {A : Option Addr} {c : Nat} (hc : x.Segments.length ≤ c) (hr : Row kSegment w A x.Segments) (hs : x.sm) :
    Calls Try.prog 13 #[.agg #[.int .i64 x.Start, .int .i64 x.Next, .int .i64 x.Roll, .slice A x.Segments.length c]] w (MadeS kPair 64 (viewL x) w) := by
  have HS := Lib.hid hs
  clear hs
  have hu := Try.underlying64
  have hu2 := Try.underlying35
  have hu3 := Try.underlying28
  have hu4 := Try.underlying48
  have hu5 := Try.underlying42
  have hu8 := Try.underlying46
  have hu9 := Try.underlying53
  have hmm := @run_makeMap Try.prog
  generalize hok : logOk x = ok
  have Hok := Lib.hid hok
  have B1 := Blk.new w #[.int .i64 x.Start, .int .i64 x.Next, .int .i64 x.Roll, .slice A x.Segments.length c] 28
  have hb := below_al w (.cells #[.int .i64 x.Start, .int .i64 x.Next, .int .i64 x.Roll, .slice A x.Segments.length c] 28)
  go_enter Try.func13, Try.ntmps13
  go_upto_region 1 with fail
  generalize w.alloc (.cells #[.int .i64 x.Start, .int .i64 x.Next, .int .i64 x.Roll, .slice A x.Segments.length c] 28) = W1 at B1 hb ⊢
  have a0 := B1.cell 0 _ rfl
  have a1 := B1.cell 1 _ rfl
  have a2 := B1.cell 2 _ rfl
  have a3 := B1.cell 3 _ rfl
  have HR1 := Lib.hid (Row_below hr hb)
  have HB1 := Lib.hid B1
  have Hh := Lib.hid hb
  clear B1 hb
  cases ok with
  | false =>
    have HL : Hid (viewL x = []) := Lib.hid (by unfold viewL; rw [hok]; rfl)
    clear hok
    go_upto_region 2 with (go_at_call 31; refine (implLogOk_c _ x hc HR1.out HS.out).mono ?_; rintro e W2 ⟨rfl, hb2⟩; rw [Hok.out])
    go_wp2
    go_ret
    rw [HL.out]
    exact ⟨_, [], rfl, TS_nil, Fresh.nil _, below_tr Hh.out hb2⟩
  | true =>
    have HL : Hid (viewL x = viewF (vL x (allB x))) := Lib.hid (by unfold viewL; rw [hok]; rfl)
    have hall := logOk_all hok
    have hll := hall.1
    have HFO := Lib.hid (fun b hb => fOk_of (hall.2 b hb) : ∀ b ∈ allB x, fOk b)
    have HRL := Lib.hid (fun b hb => recs_le2 (hall.2 b hb) : ∀ b ∈ allB x, b.Records.length ≤ 40)
    have HSM : Hid (∀ b ∈ allB x, b.sm) := Lib.hid (fun b hb => by
      unfold allB at hb
      obtain ⟨s, hs, hb⟩ := List.mem_flatMap.1 hb
      exact (HS.out.2 s hs).2 b hb)
    clear hok hall
    have hln : x.Segments.length ≤ 1048576 := HS.out.1
    go_upto_region 3 with (go_at_call 31; refine (implLogOk_c _ x hc HR1.out HS.out).mono ?_; rintro e W2 ⟨rfl, hb2⟩; rw [Hok.out])
    have C1 := Lib.hid (HB1.out.below hb2)
    have HR2 := Lib.hid (Row_below HR1.out hb2)
    have Hh2 := Lib.hid (below_tr Hh.out hb2)
    clear a0 a1 a2 a3 hb2 HB1 HR1 Hh
    have hm0 := World.ownsMap_made (H := Unit) W2 Try.prog 9 recR
    obtain ⟨MB, hMB⟩ : ∃ n, n = W2.heap.size := ⟨_, rfl⟩
    go_upto_region 4 with fail
    have hal := below_al W2 (.map #[] 0)
    have c0 := (C1.out.below hal).cell 0 _ rfl
    have c1 := (C1.out.below hal).cell 1 _ rfl
    have c2 := (C1.out.below hal).cell 2 _ rfl
    have c3 := (C1.out.below hal).cell 3 _ rfl
    have C2 := Lib.hid (C1.out.below hal)
    have HR2m := Lib.hid (Row_below HR2.out hal)
    have Hh2m := Lib.hid (below_tr Hh2.out hal)
    have hMBg : w.heap.size ≤ MB := by rw [hMB]; exact Hh2.out.size
    have hMBl : MB < (W2.alloc (.map #[] 0)).heap.size := by rw [hMB, size_al]; omega
    generalize hW2m : W2.alloc (.map #[] 0) = W2m at hm0 c0 c1 c2 c3 C2 HR2m Hh2m hMBl ⊢
    rw [← hMB] at hm0 ⊢
    clear hW2m hal C1 HR2 Hh2 hMB
    go_upto_region 5 with (go_at_call 25; refine (batches_c _ x hc HR2m.out hln (by omega)).mono ?_; rintro e W3 ⟨Ab, cb, rfl, hcb, hrb, hb3⟩)
    have HD1 := Lib.hid (C2.out.below hb3)
    have HRB := Lib.hid hrb
    have hMB3 : MB < W3.heap.size := Nat.lt_of_lt_of_le hMBl hb3.size
    have HMI : Hid (MI w W3 W3 MB ([] : List Record).length (.map []) []) := Lib.hid ⟨ownsMap_below hm0 hb3, MTells.nil, Kp.refl _, below_tr Hh2m.out hb3, hMBg⟩
    generalize hL : allB x = L at HL HFO HRL HSM hll hcb HRB ⊢
    have HLL := Lib.hid hL
    clear hL C2 c0 c1 c2 c3 HR2m Hh2m hb3 hrb hm0 hMBl
    go_loopg [18] L.length (fun g v18 wr => ∃ (i : Nat) (D : DataW Unit), i + g = L.length ∧ v18 = .int .i64 i ∧ Hid (MI w W3 wr MB (vL x (L.take i)).length D (vL x (L.take i))))
    case atStart => exact ⟨0, _, by omega, rfl, HMI⟩
    case round =>
      clear HMI
      obtain ⟨i, D, hi, rfl, HM⟩ := hrel
      by_cases hit : i < L.length
      case neg =>
        obtain rfl : i = L.length := by omega
        rw [List.take_length] at HM
        have hvl := vL_len x L (fun q hq => HRL.out q hq)
        have hvl : (vL x L).length ≤ 16000 := by omega
        generalize vL x L = V at HM HL hvl
        have BO := Blk.new wr #[.slice none 0 0] 35
        have hbo := below_al wr (.cells #[.slice none 0 0] 35)
        obtain ⟨BS, hBS⟩ : ∃ n, n = wr.heap.size := ⟨_, rfl⟩
        have hBSg : w.heap.size ≤ BS := by rw [hBS]; exact HM.out.bel.size
        have hMBl := ownsMap_lt HM.out.mp
        go_upto_region 16 with fail
        have HM2 := Lib.hid (HM.out.below hbo)
        have hBSl : BS < (wr.alloc (.cells #[.slice none 0 0] 35)).heap.size := by rw [hBS, size_al]; omega
        have hMBS : MB < BS := by rw [hBS]; exact hMBl
        generalize wr.alloc (.cells #[.slice none 0 0] 35) = Wa at BO hbo HM2 hBSl ⊢
        rw [← hBS] at BO ⊢
        clear hBS hMBl HM hbo
        have hown := HM2.out.mp
        obtain ⟨RB, hRB⟩ : ∃ n, n = Wa.heap.size := ⟨_, rfl⟩
        rw [← hRB] at hBSl
        go_upto_region 17 with (at_range; refine wpList_range_own _ rfl _ 65 rfl 9 53 law_str Try.underlying65 _ MB _ D rfl hown ?_; intro w0 hrg0 hg0 hs0)
        rw [← hRB] at hrg0 ⊢
        have HC0 : Hid (CI w w0 MB BS RB V.length D (Maps.has D) (Maps.size D) [] (.slice none 0 0)) := Lib.hid ⟨hrg0, PR.nil, BO.grown hg0 (by simp), HM2.out.bel.grown (hg0.but none) (by have := HM2.out.bel.size; omega) (fun k hk => by cases hk)⟩
        have HTL := Lib.hid HM2.out.tl
        have HCO0 := Lib.hid (Coll.start HM2.out.tl)
        clear hown hrg0 hg0 hs0 BO HM2 hRB hit
        go_frame
        go_loopw [] (fun wr => ∃ (left : Lit → Bool) (cnt : Nat) (ss : List Pair) (v : Value), Hid (CI w wr MB BS RB V.length D left cnt ss v) ∧ Hid (Coll V left ss)) (fun wr => wr.rangeLeft MB RB)
        case atStart => exact ⟨_, _, _, _, HC0, HCO0⟩
        case round =>
          clear HC0 HCO0
          obtain ⟨left, cnt, ss, v, HC, HCO⟩ := hrel
          have hrg := HC.out.rg
          go_wp2_with (first
            | (at_next; refine wpList_next_ranges _ rfl _ rfl 9 law_str recR (fun s : ByteArray => .string s) recMk str_inv recR_inv MB RB _ _ _ _ rfl hrg ?_ ?_)
            | go_in)
          · intro _ hl0
            have HDN := Lib.hid (HCO.out.done hl0)
            have hlen := Coll.len (D := D) HCO.out
            have hvf := viewF_len V.length V rfl
            have hlen : ss.length ≤ 1000000 := by omega
            obtain ⟨Av, cv, rfl, hcv, _⟩ := HC.out.pr.form
            have hbx := HC.out.bx
            have hc0 := hbx.cell 0 _ rfl
            have hvk : ∀ k, (Value.slice Av ss.length cv).ownBlock = some k → RB + 1 ≤ k := fun k hk => (HC.out.pr.lt k hk).1
            clear hl0 hrg HCO hvf
            go_upto_region 22 with (go_at_call 32; refine (sort_c (B := RB + 1) HC.out.pr hlen hc0 (fun k hk => by have := hvk k hk; omega)).mono ?_; rintro e W9 ⟨rfl, T, hT1, hT2, hT3, hT4⟩)
            have hb9 := hbx.grown hT4 (fun e => by have := hvk _ e; omega)
            have he9 := hb9.cell 0 _ rfl
            have hbel := HC.out.bel.grown hT4 HC.out.bel.size (fun k hk => by have := hvk k hk; omega)
            have hTv := view_of_perm hT1 HDN.out.1 HDN.out.2 hT2
            have HP9 := Lib.hid (PR.mono (B' := w.heap.size) hT3 (by omega))
            have HB9 := Lib.hid hbel
            clear hT3 hT4 hbx hc0 HC hbel
            go_wp2
            go_ret
            obtain ⟨F, h1, h2⟩ := HP9.out.own.fresh
            rw [HL.out, ← hTv]
            exact ⟨_, F, rfl, h1, h2, HB9.out⟩
          · intro ky rv kl yd yp w2 cnt2 hkey hlk hv hat hrg2 hlt hg2 hs2 hen
            obtain rfl : kl = keyL ky := by
              obtain ⟨s, e, h, _⟩ := Go.WideMaps.string_of_keyOf Try.underlying9 hkey
              injection e with e
              subst e
              exact h
            obtain ⟨t', kd', k', g', s', A', n', c'⟩ := rv
            rw [recR_mk] at hv
            obtain ⟨rfl, rfl⟩ : encD g' s' = yd ∧ [] = yp := by simpa using hv
            have HCO2 := Lib.hid (HCO.out.step HTL.out hlk hat)
            have hlen := Coll.len (D := D) HCO.out
            have hvf := viewF_len V.length V rfl
            have hlen : ss.length ≤ 16000 := by omega
            have HC2 := Lib.hid (HC.out.next hrg2 hg2 hBSl hBSg)
            have hcb0 := HC2.out.bx.cell 0 _ rfl
            have hcbf := HC2.out.bx.frz 0
            have HME : Hid (cnt2 < wr.rangeLeft MB RB) := Lib.hid (by rw [hrg.left_eq]; exact hlt)
            have BR := Blk.new w2 #[.int .i64 t', .bool kd', .string k', .bool g', .string s', .slice A' n' c'] 53
            have hbr := below_al w2 (.cells #[.int .i64 t', .bool kd', .string k', .bool g', .string s', .slice A' n' c'] 53)
            unfold recMk at hen ⊢
            simp only at hen ⊢
            clear hkey hlk hv hat hrg2 hlt hg2 hs2 hrg HC HCO hvf
            obtain ⟨HG, hHG⟩ : ∃ n, n = w2.heap.size := ⟨_, rfl⟩
            go_upto_region 19 with fail
            have HC3 := Lib.hid (HC2.out.al (.cells #[.int .i64 t', .bool kd', .string k', .bool g', .string s', .slice A' n' c'] 53))
            have hcb1 := later hbr hcb0
            generalize w2.alloc (.cells #[.int .i64 t', .bool kd', .string k', .bool g', .string s', .slice A' n' c'] 53) = W3' at BR hbr HC3 hcb1 ⊢
            rw [← hHG] at BR ⊢
            clear hcb0 hcbf hen hHG HC2
            have q3 := BR.cell 3 _ rfl
            have q4 := BR.cell 4 _ rfl
            have hcbf := HC3.out.bx.frz 0
            cases g' with
            | true =>
              clear hbr
              go_wp2
              go_roundw
              case rel => exact ⟨_, cnt2, ss, v, HC3, HCO2⟩
              case measure => rw [HC3.out.rg.left_eq]; exact HME.out
            | false =>
              obtain ⟨Av, cv, rfl, hcv, _⟩ := HC3.out.pr.form
              have hal := below_al W3' (.cells #[.string ky, .string s'] 64)
              have HC4 := Lib.hid (HC3.out.al (.cells #[.string ky, .string s'] 64))
              have hbx4 := HC4.out.bx
              have hRBs := HC4.out.rg.lt
              clear hbr
              have hvk : ∀ k, (Value.slice Av ss.length cv).ownBlock = some k → RB + 1 ≤ k := fun k hk => (HC4.out.pr.lt k hk).1
              go_wp2_with (at_builtin; refine list_pair (v := .slice Av ss.length cv) rfl _ _ _ rfl rfl ⟨ky, s'⟩ rfl HC4.out.pr _ _ rfl (Box.new W3' _ _) (by omega) (by omega) ?_; intro A8 c8 W8 hP8 hg8 hat8; have hb8 := hbx4.grown hg8 (fun e => by have := hvk _ e; omega); have he8 := hb8.cell 0 _ rfl; have hf8 := hb8.frz 0)
              have HC5 := Lib.hid (HC4.out.app (v' := .slice A8 (ss.length + 1) c8) hP8 hg8 hMBS hBSl hBSg)
              clear hP8 hg8 hat8 hb8 he8 hf8 hbx4
              go_roundw
              case rel => exact ⟨_, cnt2, ss ++ [⟨ky, s'⟩], _, HC5, HCO2⟩
              case measure => rw [HC5.out.rg.left_eq]; exact HME.out
      obtain ⟨b, hb⟩ : ∃ b, L[i]? = some b := ⟨_, List.getElem?_eq_getElem hit⟩
      have hbm := List.mem_of_getElem? hb
      obtain ⟨⟨_, _⟩, ⟨fb1, fb2⟩, ⟨ff1, ff2⟩, _, _⟩ := HFO.out b hbm
      have hrl := HRL.out b hbm
      have HBS := Lib.hid (HSM.out b hbm)
      have HVS := Lib.hid (vL_take (x := x) hb)
      have hvl := vL_len x (L.take i) (fun q hq => HRL.out q (List.mem_of_mem_take hq))
      rw [List.length_take] at hvl
      have hvl : (vL x (L.take i)).length ≤ 16000 := by omega
      obtain ⟨bd, b', A6, c6, rfl, hbx, r0, r1, r2, r3, r4, r5, r6, l6, g6⟩ := Batch.at (Row_kp HRB.out HM.out.kp) i hit
      obtain rfl : b = b' := by rw [hb] at hbx; exact Option.some.inj hbx
      clear hb hbm hbx
      have BX := Blk.new wr #[.int .i64 b.Base, .int .i64 b.Epoch, .int .i64 b.Producer, .int .i64 b.Turn, .int .i64 b.Seq, .int .i64 b.Flags, .slice A6 b.Records.length c6] 48
      have hbx := below_al wr (.cells #[.int .i64 b.Base, .int .i64 b.Epoch, .int .i64 b.Producer, .int .i64 b.Turn, .int .i64 b.Seq, .int .i64 b.Flags, .slice A6 b.Records.length c6] 48)
      obtain ⟨H5, hH5⟩ : ∃ n, n = wr.heap.size := ⟨_, rfl⟩
      have e4 : Go.bits .and .i64 b.Flags 4 = 4 * (b.Flags / 4) := and4 ff1 ff2
      go_upto_region 7 with fail
      clear r0 r1 r2 r3 r4 r5 r6
      have HM2 := Lib.hid (HM.out.below hbx)
      have HG6 := Lib.hid (Row_below g6 hbx)
      generalize wr.alloc (.cells #[.int .i64 b.Base, .int .i64 b.Epoch, .int .i64 b.Producer, .int .i64 b.Turn, .int .i64 b.Seq, .int .i64 b.Flags, .slice A6 b.Records.length c6] 48) = W5 at BX hbx HM2 HG6 ⊢
      rw [← hH5] at BX ⊢
      clear hH5 g6 HM
      have z0 := BX.cell 0 _ rfl
      have z5 := BX.cell 5 _ rfl
      have z6 := BX.cell 6 _ rfl
      by_cases h4 : b.Flags < 4
      case neg =>
        have h5 : b.Flags / 4 = 1 := by omega
        rw [h5] at e4
        have HVE : Hid (vL x (L.take (i + 1)) = vL x (L.take i)) := Lib.hid (by rw [HVS.out]; unfold vBat; rw [if_neg h4, List.append_nil])
        go_wp2
        go_roundg (L.length - (i + 1))
        case rel => exact ⟨i + 1, D, by omega, by go_num, by rw [HVE.out]; exact HM2⟩
        case measure => omega
      have h5 : b.Flags / 4 = 0 := by omega
      rw [h5] at e4
      have HVE : Hid (vL x (L.take (i + 1)) = vL x (L.take i) ++ vB x b b.Records 0) := Lib.hid (by rw [HVS.out]; unfold vBat; rw [if_pos h4])
      generalize vL x (L.take i) = V at HM2 HVE hvl
      clear HVS
      go_upto_region 9 with fail
      go_loopg [29] b.Records.length (fun g v29 wr2 => ∃ (k : Nat) (D : DataW Unit), k + g = b.Records.length ∧ v29 = .int .i64 k ∧ Hid (MI w W3 wr2 MB (V ++ vB x b (b.Records.take k) 0).length D (V ++ vB x b (b.Records.take k) 0)) ∧ Hid (Kp W5 wr2))
      case atStart =>
        have h0 : V ++ vB x b (b.Records.take 0) 0 = V := by simp [vB]
        exact ⟨0, D, by omega, rfl, by rw [h0]; exact HM2, Lib.hid (Kp.refl _)⟩
      case round =>
        clear HM2
        obtain ⟨k, D, hk, rfl, HM, HK⟩ := hrel
        by_cases hkt : k < b.Records.length
        case neg =>
          obtain rfl : k = b.Records.length := by omega
          rw [List.take_length, ← HVE.out] at HM
          go_wp2
          go_roundg (L.length - (i + 1))
          case rel => exact ⟨i + 1, D, by omega, by go_num, HM⟩
          case measure => omega
        obtain ⟨ad, r, A5, c5, rfl, hrk, p0, p1, p2, p3, p4, p5, l5, g5⟩ := Record.at (Row_kp HG6.out HK.out) k hkt
        have HRK := Lib.hid hrk
        have HSR := Lib.hid (HBS.out.2 r (List.mem_of_getElem? hrk))
        have hvb := vB_len x b (b.Records.take k) 0
        rw [List.length_take] at hvb
        have hlen : (V ++ vB x b (b.Records.take k) 0).length ≤ 16040 := by rw [List.length_append]; omega
        have HNX : Hid (V ++ vB x b (b.Records.take (k + 1)) 0 = (V ++ vB x b (b.Records.take k) 0) ++ (if vElig x b k r then [r] else [])) := Lib.hid (by rw [vB_take hrk, List.append_assoc])
        clear hrk hvb
        generalize V ++ vB x b (b.Records.take k) 0 = Vk at HM HNX hlen
        have BR := Blk.new wr #[.int .i64 r.Time, .bool r.Keyed, .string r.Key, .bool r.Gone, .string r.Value, .slice A5 r.Heads.length c5] 53
        have hbr := below_al wr (.cells #[.int .i64 r.Time, .bool r.Keyed, .string r.Key, .bool r.Gone, .string r.Value, .slice A5 r.Heads.length c5] 53)
        obtain ⟨H7, hH7⟩ : ∃ n, n = wr.heap.size := ⟨_, rfl⟩
        have hw1 : IntKind.i64.wrap (b.Base + (k : Int)) = b.Base + (k : Int) := IntWalk.i64_in _ (by omega)
        go_upto_region 11 with fail
        clear p0 p1 p2 p3 p4 p5
        have HM2 := Lib.hid (HM.out.below hbr)
        have HK2 := Lib.hid (HK.out.below hbr)
        have y0 : (wr.alloc (.cells #[.int .i64 r.Time, .bool r.Keyed, .string r.Key, .bool r.Gone, .string r.Value, .slice A5 r.Heads.length c5] 53)).cell? ⟨H5, 0, none⟩ = some (.int .i64 b.Base) := later hbr (HK.out _ _ z0)
        have y1 : (wr.alloc (.cells #[.int .i64 r.Time, .bool r.Keyed, .string r.Key, .bool r.Gone, .string r.Value, .slice A5 r.Heads.length c5] 53)).cell? ⟨w.heap.size, 0, none⟩ = some (.int .i64 x.Start) := later hbr (HM.out.kp _ _ (HD1.out.cell 0 _ rfl))
        generalize wr.alloc (.cells #[.int .i64 r.Time, .bool r.Keyed, .string r.Key, .bool r.Gone, .string r.Value, .slice A5 r.Heads.length c5] 53) = W7 at BR hbr HM2 HK2 y0 y1 ⊢
        rw [← hH7] at BR ⊢
        clear hH7 g5 HM HK
        have q0 := BR.cell 0 _ rfl
        have q1 := BR.cell 1 _ rfl
        have q2 := BR.cell 2 _ rfl
        have q3 := BR.cell 3 _ rfl
        have q4 := BR.cell 4 _ rfl
        have q5 := BR.cell 5 _ rfl
        generalize hky : r.Keyed = ky at BR q1 ⊢
        have HKY := Lib.hid hky
        clear hky
        by_cases hel : ky = true ∧ x.Start ≤ b.Base + (k : Int)
        case neg =>
          have HNE : Hid (V ++ vB x b (b.Records.take (k + 1)) 0 = Vk) := Lib.hid (by
            rw [HNX.out]
            unfold vElig
            rw [HKY.out]
            cases ky with
            | false => simp
            | true =>
              have : ¬ x.Start ≤ b.Base + (k : Int) := fun h => hel ⟨rfl, h⟩
              rw [show decide (x.Start ≤ b.Base + (k : Int)) = false by simpa using this]
              simp)
          cases ky with
          | false =>
            clear hel
            go_wp2
            go_roundg (b.Records.length - (k + 1))
            case rel => exact ⟨k + 1, D, by omega, by go_num, by rw [HNE.out]; exact HM2, HK2⟩
            case measure => omega
          | true =>
            have hns : ¬ x.Start ≤ b.Base + (k : Int) := fun h => hel ⟨rfl, h⟩
            clear hel
            go_wp2
            go_roundg (b.Records.length - (k + 1))
            case rel => exact ⟨k + 1, D, by omega, by go_num, by rw [HNE.out]; exact HM2, HK2⟩
            case measure => omega
        obtain ⟨rfl, hst⟩ := hel
        have HNE : Hid (V ++ vB x b (b.Records.take (k + 1)) 0 = Vk ++ [r]) := Lib.hid (by
          rw [HNX.out]
          unfold vElig
          rw [HKY.out, show decide (x.Start ≤ b.Base + (k : Int)) = true by simpa using hst]
          rfl)
        have hkey : keyOf Try.prog 9 (.string r.Key) = some (keyL r.Key) := Go.WideMaps.keyOf_string_mk Try.underlying9 (by have := HSR.out.1; unfold maxLen; omega)
        have HLN : Hid ((Vk ++ [r]).length = Vk.length + 1) := Lib.hid (by simp)
        go_wp2_with (at_mapUpdate; refine wpList_mapUpdate_own _ rfl _ _ _ 65 rfl 9 53 law_str Try.underlying65 recR MB _ D rfl HM2.out.mp (by unfold maxLen; omega) _ _ _ rfl rfl hkey (encD r.Gone r.Value) [] rfl ?_; intro wd hMd hturn)
        have HMn := Lib.hid (HM2.out.put r hMd hturn)
        have HKn := Lib.hid (HK2.out.grown HM2.out.mp hturn)
        go_roundg (b.Records.length - (k + 1))
        case rel => exact ⟨k + 1, _, by omega, by go_num, by rw [HNE.out, HLN.out]; exact HMn, HKn⟩
        case measure => omega
end Go.Proofs.Ytiefpllmnmmdlaa.H
