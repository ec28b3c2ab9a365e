/-
slices.Insert of one Seen into a table of the call's own. Conditions: each contract's own premises.
-/
import Derived.Test.YtipemgjgimpmbaaHIns1
import Derived.Deep.RegionLaw
import Derived.Shelf.Abstract
namespace Go.Proofs.Ytipemgjgimpmbaa.H
open Go.RowKit
set_option linter.unusedVariables false
set_option linter.unusedSimpArgs false
set_option maxRecDepth 100000
def newsS (p : Int) : List Value := [.int .i64 p, .int .i64 0, .int .i64 0, .slice none 0 0]
def newS (p : Int) : Seen := ⟨p, 0, 0, []⟩
theorem newS_T (w : World) (p : Int) : kSeenX.T w [] (newS p) (newsS p) := SeenX.mkT w (newS p) TS_nil Ex.nil
def Ins (xs : List Seen) (i : Nat) (p : Int) (v : Value) (B : Nat) (w : World) (en : Ending) (w' : World) : Prop :=
  ∃ A' c', en = .returned (.slice A' (xs.length + 1) c') ∧ OwnR kSeenX 101 B w' (xs.take i ++ newS p :: xs.drop i) (.slice A' (xs.length + 1) c') ∧ w.grownBy w' v.ownBlock
theorem blk_cells {w : World} {g : Nat} {cs : Array Value} {t : TypeId} (h : Blk w g cs t) : ∀ j u, cs.toList[j]? = some u → w.cell? ((⟨g, 0, none⟩ : Addr).add j) = some u := fun j u hj => by
  have hcj := h.cell j u (by simpa using hj)
  by_cases e0 : j = 0
  · subst e0; exact hcj
  · simpa [Addr.add, e0] using hcj
theorem add_lit (g o j : Nat) : (⟨g, o, none⟩ : Addr).add j = ⟨g, o + j, none⟩ := by
  unfold Addr.add
  split <;> simp_all
theorem blk_sub {w : World} {g o m : Nat} {cur : Array Value} {t : TypeId} {inner : List Value} (h : Blk w g cur t) (ht : cur.toList.take m = inner) : ∀ j u, (inner.drop o)[j]? = some u → w.cell? ((⟨g, o, none⟩ : Addr).add j) = some u := fun j u hj => by
  rw [add_lit]
  rw [List.getElem?_drop, ← ht, List.getElem?_take] at hj
  split at hj
  · exact h.cell _ _ (by simpa using hj)
  · cases hj
theorem inner_one {α : Type} {d : Ki α} {w : World} {xs : List α} {inner : List Value} {Fs : List (List Nat)} (hT : ∀ i x, xs[i]? = some x → ∃ Fi, Fs[i]? = some Fi ∧ d.T w Fi x ((inner.drop (i * d.sz)).take d.sz)) (hl : inner.length = xs.length * d.sz) (hsz : 0 < d.sz) : ∀ u ∈ inner, u.oneCell' = true := by
  intro u hu
  obtain ⟨q, hq, rfl⟩ := List.getElem_of_mem hu
  have h1 : q / d.sz < xs.length := by rw [Nat.div_lt_iff_lt_mul hsz, ← hl]; exact hq
  obtain ⟨Fi, _, h2⟩ := hT (q / d.sz) _ (List.getElem?_eq_getElem h1)
  refine d.one (d.T_K h2) _ (List.mem_of_getElem? (i := q % d.sz) ?_)
  rw [List.getElem?_take, if_pos (Nat.mod_lt _ hsz), List.getElem?_drop, show q / d.sz * d.sz + q % d.sz = q by rw [Nat.mul_comm]; exact Nat.div_add_mod _ _]
  exact List.getElem?_eq_getElem hq
theorem over_no (w : World) (p : Int) (vb g n1 o lb cb : Nat) (cur : Array Value) (t : TypeId) (hV : Blk w vb (newsS p).toArray 101) (hG : Blk w g cur t) (hne : vb ≠ g) (h0 : cur.size ≠ 0) :
    (callFunc 106 #[.slice (some ⟨vb, 0, none⟩) 1 1, .slice (some ⟨g, o, none⟩) lb cb]).run Try.prog w = .ok (.value (.bool false)) w := by
  rw [run_callFunc_extern Try.func106 (by kernel_rfl) (by kernel_rfl) (by kernel_rfl) (e := Extern.SlicesOverlaps.overlaps #[46, 46] #[4]) (by kernel_rfl),
    Lib.run_overlaps_apart w 46 4 101 Try.underlying46 4 (fun w => by obtain ⟨i0, hi0, _, h1, _⟩ := info_parts info_seen; simp [sizeOf, typeInfo, hi0, h1]) ⟨vb, 0, none⟩ ⟨g, o, none⟩ 1 1 lb cb hne 101 t 4 cur.size (by unfold Blk at hV; simp [World.shape?, hV, newsS]) (by unfold Blk at hG; simp [World.shape?, hG]) h0 (hV.frz 0) (hV.frz 4)]
  rfl
set_option maxHeartbeats 8000000 in
theorem insShift_c (w : World) (xs : List Seen) (i vb g c : Nat) (p : Int) {B : Nat} (hO : OwnR kSeenX 101 B w xs (.slice (some ⟨g, 0, none⟩) xs.length c)) (hBw : B ≤ w.heap.size) (hi : i < xs.length) (hl : xs.length ≤ 1000) (hr : xs.length + 1 ≤ c)
    (hV : Blk w vb (newsS p).toArray 101) (hvb : vb ≠ g) :
    Calls Try.prog 71 #[.slice (some ⟨g, 0, none⟩) xs.length c, .int .i64 i, .slice (some ⟨vb, 0, none⟩) 1 1] w (Ins xs i p (.slice (some ⟨g, 0, none⟩) xs.length c) B w) := by
  obtain ⟨F, ⟨inner, Fs, hol, hFl, _, hp, hT⟩, hN, hB, hE⟩ := hO
  have hown := hE.row hol (by decide)
  have hil := hown.1
  rcases hown.2 with ⟨e1, _⟩ | ⟨g', cap, cur, e1, _, hG, hnc, hcm, hcs, htk⟩
  · cases e1
  simp only [Value.slice.injEq, Option.some.injEq, Addr.mk.injEq, and_true, true_and] at e1
  obtain ⟨rfl, rfl⟩ := e1
  have hinfo : (Try.prog.info? 101).map (·.size) = some 4 := by obtain ⟨i0, hi0, _, h1, _⟩ := info_parts info_seen; rw [hi0]; simp [h1]
  have hG2 : Blk w g cur 101 := hG
  have hov : ∀ o lb cb, (callFunc 106 #[.slice (some ⟨vb, 0, none⟩) 1 1, .slice (some ⟨g, o, none⟩) lb cb]).run Try.prog w = .ok (.value (.bool false)) w := fun o lb cb => over_no w p vb g 0 o lb cb cur _ hV hG2 hvb (by have hcs' : cur.size = c * 4 := hcs; rw [hcs']; omega)
  have hcs' : cur.size = c * 4 := hcs
  have hil4 : inner.length = xs.length * 4 := hil
  have hcs4 : cur.toList.length = c * 4 := by simpa using hcs'
  have htk4 : cur.toList.take (xs.length * 4) = inner := htk
  have hdl : (inner.drop (i * 4)).length = (xs.length - i) * 4 := by rw [List.length_drop, hil4]; omega
  have hone : ∀ u ∈ inner, u.oneCell' = true := inner_one hT hil (by decide)
  have hrun1 : ∀ ty dc sc, (Builtin.copy_ #[46, 46] ty #[.slice (some ⟨g, (i + 1) * 4, none⟩) (xs.length - i) dc, .slice (some ⟨g, i * 4, none⟩) (xs.length + 1 - i) sc]).run Try.prog w.drew = .ok (goInt (Nat.min (xs.length + 1 - i) (xs.length - i))) (w.drew.setRow g (cur.toList.take ((i + 1) * 4) ++ inner.drop (i * 4) ++ cur.toList.drop ((i + 1) * 4 + (inner.drop (i * 4)).length)).toArray) := fun ty dc sc =>
    run_copy_rowK w.drew _ _ ty 101 4 g ((i + 1) * 4) (xs.length - i) dc ⟨g, i * 4, none⟩ (xs.length + 1 - i) sc cur 101 (inner.drop (i * 4)) Try.underlying46 hinfo hG (by rw [hdl]; simp only [Nat.min_def]; split <;> omega)
      (blk_sub (w := w.drew) hG2 htk4)
      (by rw [hdl]; simp at hcs4; omega) (fun u hu => hone u (List.mem_of_mem_drop hu))
  obtain ⟨C1, hC1⟩ : ∃ C1, C1 = cur.toList.take ((i + 1) * 4) ++ inner.drop (i * 4) ++ cur.toList.drop ((i + 1) * 4 + (inner.drop (i * 4)).length) := ⟨_, rfl⟩
  rw [← hC1] at hrun1
  have hC1l : C1.length = c * 4 := by rw [hC1]; simp only [List.length_append, List.length_take, List.length_drop, hcs4, hil4]; omega
  obtain ⟨W1, hW1⟩ : ∃ W1, W1 = w.drew.setRow g C1.toArray := ⟨_, rfl⟩
  rw [← hW1] at hrun1
  have hG1 : Blk W1 g C1.toArray 101 := by rw [hW1]; exact setRow_heap w.drew g cur _ _ _ hG
  have hV1 : Blk W1 vb (newsS p).toArray 101 := by rw [hW1]; exact (setRow_other w.drew g vb _ hvb).trans hV
  have hrun2 : ∀ ty dc, (Builtin.copy_ #[46, 46] ty #[.slice (some ⟨g, i * 4, none⟩) (xs.length + 1 - i) dc, .slice (some ⟨vb, 0, none⟩) 1 1]).run Try.prog W1 = .ok (goInt (Nat.min 1 (xs.length + 1 - i))) (W1.setRow g (C1.take (i * 4) ++ newsS p ++ C1.drop (i * 4 + (newsS p).length)).toArray) := fun ty dc =>
    run_copy_rowK W1 _ _ ty 101 4 g (i * 4) (xs.length + 1 - i) dc ⟨vb, 0, none⟩ 1 1 C1.toArray 101 (newsS p) Try.underlying46 hinfo hG1 (by simp only [Nat.min_def]; split <;> simp [newsS] <;> omega)
      (blk_cells hV1) (by simp [newsS, hC1l]; omega) (by intro u hu; simp [newsS] at hu; rcases hu with rfl | rfl | rfl <;> rfl)
  rw [hC1, ins_copies (n := xs.length) (cap := c) hil4 hcs4 htk4 rfl (by omega) hr] at hrun2
  obtain ⟨W2, hW2⟩ : ∃ W2, W2 = W1.setRow g (inner.take (i * 4) ++ (newsS p ++ (inner.drop (i * 4) ++ cur.toList.drop ((xs.length + 1) * 4)))).toArray := ⟨_, rfl⟩
  rw [← hW2] at hrun2
  have hgr : w.grownBy W2 (some g) := by
    rw [hW2, hW1, setRow_setRow]
    exact ⟨rfl, rfl, rfl, by simp [World.setRow], fun k _ hk => setRow_other w.drew g k _ (fun e => hk (by rw [e]))⟩
  have hW2r : W2.ownsRow 0 101 4 (.slice (some ⟨g, 0, none⟩) (xs.length + 1) c) (xs.length + 1) (inner.take (i * 4) ++ (newsS p ++ inner.drop (i * 4))) := by
    rw [hW2, hW1, setRow_setRow]
    exact ins_row (w := w.drew) (cur := cur.toList) hG hil4 hcs4 htk4 rfl (by omega) hr hcm
  have hfin : OwnR kSeenX 101 B W2 (xs.take i ++ newS p :: xs.drop i) (.slice (some ⟨g, 0, none⟩) (xs.length + 1) c) :=
    ins_own (v := .slice (some ⟨g, 0, none⟩) xs.length c) hil hFl (hp.nodup_iff.1 hN) (fun b hb => hB b (hp.mem_iff.2 hb)) hBw hT rfl (by omega) (newS_T _ _) hW2r hgr (.inl rfl)
  have H1 := Lib.hid hov
  have H2 := Lib.hid hrun1
  have H3 := Lib.hid hrun2
  have H4 := Lib.hid hfin
  have H5 := Lib.hid hgr
  clear hC1l hC1 hov hrun1 hrun2 hil4 hcs4 htk4 hG2 hV hT hp hFl hG hil hown hcs htk hE hol hone hinfo hdl hW1 hG1 hV1 hW2 hgr hW2r hfin hN hB hcs'
  have hu := Try.underlying101
  have hu2 := Try.underlying46
  have hii : (i : Int) ≤ (xs.length : Int) := by omega
  have hz2 : ¬ ((i : Int) = (xs.length : Int)) := by omega
  have hz3 : ¬ (c = i) := by omega
  have hz4 : ¬ (c = i + 1) := by omega
  have hz5 : ¬ ((c : Int) < (xs.length : Int) + 1) := by omega
  go_enter Try.func71, Try.ntmps71
  have hov := H1.out
  go_upto_region 15 with (simp only [hov])
  clear hov
  have hw1 : IntKind.i64.wrap ((i : Int) + 1) = (i : Int) + 1 := IntWalk.i64_in _ (by omega)
  have hb1 : (0 : Int) ≤ (i : Int) + 1 := by omega
  have htn : ((i : Int) + 1).toNat = i + 1 := by omega
  have hb3 : (i : Int) + 1 ≤ (xs.length : Int) + 1 := by omega
  have hb4 : (i : Int) ≤ (xs.length : Int) + 1 := by omega
  have hr9 := H2.out
  go_region_law ((refine step_copyR rfl (.tmp 73) (.tmp 76) 46 46 rfl _ _ (by simp [Act.eval, Act.put]; rfl) (by simp [Act.eval, Act.put]; rfl) (hr9 _ _ _) ?_))
  clear hr9
  clear hw1 hb1 htn hb3
  have hr9 := H3.out
  go_wp2
  go_ret
  exact ⟨some ⟨g, 0, none⟩, c, rfl, H4.out, H5.out⟩
theorem below_setR {B g : Nat} {w0 w : World} (hb : Below B w0 w) (hBg : B ≤ g) (cs : Array Value) : Below B w0 (w.setRow g cs) := hb.trans ⟨rfl, rfl, rfl, by simp [World.setRow], fun k hk => setRow_other w g k cs (by omega)⟩
theorem zc_size (z : Array Value) (n : Nat) : (Builtin.zeroCells z n).size = n * z.size := by simp [Builtin.zeroCells]
set_option maxHeartbeats 8000000 in
theorem insGrow_c (w : World) (xs : List Seen) (i vb g c : Nat) (p : Int) {B : Nat} (hO : OwnR kSeenX 101 B w xs (.slice (some ⟨g, 0, none⟩) xs.length c)) (hBw : B ≤ w.heap.size) (hi : i < xs.length) (hl : xs.length ≤ 1000) (hr : ¬ xs.length + 1 ≤ c)
    (hV : Blk w vb (newsS p).toArray 101) (hvb : vb ≠ g) :
    Calls Try.prog 71 #[.slice (some ⟨g, 0, none⟩) xs.length c, .int .i64 i, .slice (some ⟨vb, 0, none⟩) 1 1] w (Ins xs i p (.slice (some ⟨g, 0, none⟩) xs.length c) B w) := by
  obtain ⟨F, ⟨inner, Fs, hol, hFl, _, hp, hT⟩, hN, hB, hE⟩ := hO
  have hown := hE.row hol (by decide)
  have hil := hown.1
  rcases hown.2 with ⟨e1, _⟩ | ⟨g', cap, cur, e1, _, hG, hnc, hcm, hcs, htk⟩
  · cases e1
  simp only [Value.slice.injEq, Option.some.injEq, Addr.mk.injEq, and_true, true_and] at e1
  obtain ⟨rfl, rfl⟩ := e1
  have hinfo : (Try.prog.info? 101).map (·.size) = some 4 := by obtain ⟨i0, hi0, _, h1, _⟩ := info_parts info_seen; rw [hi0]; simp [h1]
  have hG2 : Blk w g cur 101 := hG
  have hcs' : cur.size = c * 4 := hcs
  have hil4 : inner.length = xs.length * 4 := hil
  have htk4 : cur.toList.take (xs.length * 4) = inner := htk
  have hdl : (inner.drop (i * 4)).length = (xs.length - i) * 4 := by rw [List.length_drop, hil4]; omega
  have hone : ∀ u ∈ inner, u.oneCell' = true := inner_one hT hil (by decide)
  obtain ⟨i0, hi0, hz0, hzs, hzb⟩ := info_parts info_seen
  have hsub : ∀ (w : World) (h : Blk w g cur 101) j u, (inner.take (i * 4))[j]? = some u → w.cell? ((⟨g, 0, none⟩ : Addr).add j) = some u := fun w h j u hj => by
    rw [List.getElem?_take] at hj
    split at hj
    · have := blk_sub (o := 0) h htk4 j u (by simpa using hj)
      exact this
    · cases hj
  have hold : (Builtin.firstCells i0.size i (.slice (some ⟨g, 0, none⟩) i c)).run Try.prog w.drew = .ok (inner.take (i * 4)).toArray w.drew := by
    rw [hzs]
    exact run_firstCells_some w.drew 4 i ⟨g, 0, none⟩ i c (inner.take (i * 4)) (by rw [List.length_take]; omega) (hsub w.drew hG2)
  have hkk : (xs.length : Int) + 1 - (i : Int) = ((xs.length + 1 - i : Nat) : Int) := by omega
  have hik : i + (xs.length + 1 - i) = xs.length + 1 := by omega
  have hrz : ∀ ty, (Builtin.append_ #[46, 3] ty #[.slice (some ⟨g, 0, none⟩) i c, .int .i64 ((xs.length : Int) + 1 - (i : Int))]).run Try.prog w =
      .ok (.slice (some ⟨w.heap.size, 0, none⟩) (xs.length + 1) (grownCap w (xs.length + 1) c 101)) (w.drew.alloc (.cells ((inner.take (i * 4)).toArray ++ Builtin.zeroCells (Value.agg #[.int .i64 0, .int .i64 0, .int .i64 0, .slice none 0 0]).cells (xs.length + 1 - i) ++ Builtin.zeroCells (Value.agg #[.int .i64 0, .int .i64 0, .int .i64 0, .slice none 0 0]).cells (grownCap w (xs.length + 1) c 101 - (xs.length + 1))) 101)) := fun ty => by
    have h := Lib.run_append_grow_zeros w 46 3 ty 101 i0 _ .i64 .i64 Try.underlying46 Try.underlying3 hi0 hz0 (some ⟨g, 0, none⟩) i c (inner.take (i * 4)) hold (xs.length + 1 - i) (by omega) (by omega) (by omega) (by omega) (by rw [hzb]; omega) (by rw [hzb, hik]; exact growslice_fits (by omega) (by omega))
    rw [hik] at h
    rw [hkk]
    exact h
  have hGn : xs.length + 1 ≤ grownCap w (xs.length + 1) c 101 := grownCap_ge w _ _ _
  have hGm : grownCap w (xs.length + 1) c 101 ≤ maxLen := grownCap_le_maxLen w (xs.length + 1) c 101 (by unfold maxLen; omega)
  generalize grownCap w (xs.length + 1) c 101 = G at hrz hGn hGm
  obtain ⟨ROW, hROW⟩ : ∃ ROW : List Value, ROW = ((inner.take (i * 4)).toArray ++ Builtin.zeroCells (Value.agg #[.int .i64 0, .int .i64 0, .int .i64 0, .slice none 0 0]).cells (xs.length + 1 - i) ++ Builtin.zeroCells (Value.agg #[.int .i64 0, .int .i64 0, .int .i64 0, .slice none 0 0]).cells (G - (xs.length + 1))).toList := ⟨_, rfl⟩
  have hROWa : ((inner.take (i * 4)).toArray ++ Builtin.zeroCells (Value.agg #[.int .i64 0, .int .i64 0, .int .i64 0, .slice none 0 0]).cells (xs.length + 1 - i) ++ Builtin.zeroCells (Value.agg #[.int .i64 0, .int .i64 0, .int .i64 0, .slice none 0 0]).cells (G - (xs.length + 1))) = ROW.toArray := by rw [hROW]
  have htl : (inner.take (i * 4)).length = i * 4 := by rw [List.length_take]; omega
  have hRl : ROW.length = G * 4 := by
    rw [hROW]
    simp only [Array.length_toList, Array.size_append, List.size_toArray, zc_size, htl, show (Value.agg #[.int .i64 0, .int .i64 0, .int .i64 0, .slice none 0 0]).cells.size = 4 from rfl]
    omega
  have hRt : ROW.take (i * 4) = inner.take (i * 4) := by
    rw [hROW]
    simp only [Array.toList_append, List.append_assoc]
    rw [List.take_append_of_le_length (by omega)]
    exact List.take_of_length_le (by omega)
  rw [hROWa] at hrz
  clear hROW hROWa
  obtain ⟨W1, hW1⟩ : ∃ W1, W1 = w.drew.alloc (.cells ROW.toArray 101) := ⟨_, rfl⟩
  rw [← hW1] at hrz
  obtain ⟨H, hH⟩ : ∃ H, H = w.heap.size := ⟨_, rfl⟩
  have hgl : g < H := by rw [hH]; exact hG2.lt
  have hvl : vb < H := by rw [hH]; exact hV.lt
  have hN1 : Blk W1 H ROW.toArray 101 := by rw [hW1, hH]; exact Blk.new w.drew ROW.toArray 101
  have hb1 : Below H w W1 := by
    have h := below_al w.drew (.cells ROW.toArray 101)
    rw [hW1, hH]
    exact ⟨h.os, h.tape, h.output, h.size, h.block⟩
  have hV1 : Blk W1 vb (newsS p).toArray 101 := (hb1.block vb hvl).trans hV
  have hG1 : Blk W1 g cur 101 := (hb1.block g hgl).trans hG
  have hrun1 : ∀ ty dc, (Builtin.copy_ #[46, 46] ty #[.slice (some ⟨H, i * 4, none⟩) (xs.length + 1 - i) dc, .slice (some ⟨vb, 0, none⟩) 1 1]).run Try.prog W1 = .ok (goInt (Nat.min 1 (xs.length + 1 - i))) (W1.setRow H (ROW.take (i * 4) ++ newsS p ++ ROW.drop (i * 4 + (newsS p).length)).toArray) := fun ty dc =>
    run_copy_rowK W1 _ _ ty 101 4 H (i * 4) (xs.length + 1 - i) dc ⟨vb, 0, none⟩ 1 1 ROW.toArray 101 (newsS p) Try.underlying46 hinfo hN1 (by simp only [Nat.min_def]; split <;> simp [newsS] <;> omega)
      (blk_cells hV1) (by simp [newsS, hRl]; omega) (by intro u hu; simp [newsS] at hu; rcases hu with rfl | rfl | rfl <;> rfl)
  obtain ⟨C1, hC1⟩ : ∃ C1, C1 = ROW.take (i * 4) ++ newsS p ++ ROW.drop (i * 4 + (newsS p).length) := ⟨_, rfl⟩
  rw [← hC1] at hrun1
  have hC1l : C1.length = G * 4 := by rw [hC1]; simp only [List.length_append, List.length_take, List.length_drop, hRl, newsS, List.length_cons, List.length_nil]; omega
  obtain ⟨W2, hW2⟩ : ∃ W2, W2 = W1.setRow H C1.toArray := ⟨_, rfl⟩
  rw [← hW2] at hrun1
  have hN2 : Blk W2.drew H C1.toArray 101 := by rw [hW2]; exact setRow_heap W1 H _ _ _ _ hN1
  have hG3 : Blk W2.drew g cur 101 := by rw [hW2]; exact (setRow_other W1 H g _ (by omega)).trans hG1
  have hrun2 : ∀ ty dc sc, (Builtin.copy_ #[46, 46] ty #[.slice (some ⟨H, (i + 1) * 4, none⟩) (xs.length - i) dc, .slice (some ⟨g, i * 4, none⟩) (xs.length - i) sc]).run Try.prog W2.drew = .ok (goInt (Nat.min (xs.length - i) (xs.length - i))) (W2.drew.setRow H (C1.take ((i + 1) * 4) ++ inner.drop (i * 4) ++ C1.drop ((i + 1) * 4 + (inner.drop (i * 4)).length)).toArray) := fun ty dc sc =>
    run_copy_rowK W2.drew _ _ ty 101 4 H ((i + 1) * 4) (xs.length - i) dc ⟨g, i * 4, none⟩ (xs.length - i) sc C1.toArray 101 (inner.drop (i * 4)) Try.underlying46 hinfo hN2 (by rw [hdl]; simp only [Nat.min_def]; split <;> omega)
      (blk_sub hG3 htk4) (by rw [hdl]; simp [hC1l]; omega) (fun u hu => hone u (List.mem_of_mem_drop hu))
  rw [hC1, ins_copies2 (n := xs.length) hil4 hRt rfl (by omega) (by rw [hRl]; omega)] at hrun2
  obtain ⟨W3, hW3⟩ : ∃ W3, W3 = W2.drew.setRow H (inner.take (i * 4) ++ (newsS p ++ (inner.drop (i * 4) ++ ROW.drop ((xs.length + 1) * 4)))).toArray := ⟨_, rfl⟩
  rw [← hW3] at hrun2
  have hgr0 : Below H w W3 := by
    rw [hW3, hW2]
    refine below_setR ?_ (Nat.le_refl _) _
    have h := below_setR hb1 (Nat.le_refl H) C1.toArray
    exact ⟨h.os, h.tape, h.output, h.size, h.block⟩
  have hgr : w.grownBy W3 (some g) := ⟨hgr0.os, hgr0.tape, hgr0.output, hgr0.size, fun k hk _ => hgr0.block k (by omega)⟩
  have hW3r : W3.ownsRow 0 101 4 (.slice (some ⟨H, 0, none⟩) (xs.length + 1) G) (xs.length + 1) (inner.take (i * 4) ++ (newsS p ++ inner.drop (i * 4))) := by
    have hlen : (inner.take (i * 4) ++ (newsS p ++ inner.drop (i * 4))).length = (xs.length + 1) * 4 := by simp [newsS]; omega
    refine ⟨hlen, .inr ⟨H, G, _, rfl, Nat.zero_le _, by rw [hW3]; exact setRow_heap W2.drew H _ _ _ _ hN2, hGn, hGm, ?_, ?_⟩⟩
    · simp [newsS]; omega
    · rw [show ∀ l : List Value, l.toArray.toList = l from fun l => rfl]
      have : (inner.take (i * 4) ++ (newsS p ++ (inner.drop (i * 4) ++ ROW.drop ((xs.length + 1) * 4)))) = (inner.take (i * 4) ++ (newsS p ++ inner.drop (i * 4))) ++ ROW.drop ((xs.length + 1) * 4) := by simp
      rw [this]
      generalize ROW.drop ((xs.length + 1) * 4) = R
      rw [← hlen]
      exact List.take_left
  have hfin : OwnR kSeenX 101 B W3 (xs.take i ++ newS p :: xs.drop i) (.slice (some ⟨H, 0, none⟩) (xs.length + 1) G) :=
    ins_own (v := .slice (some ⟨g, 0, none⟩) xs.length c) hil hFl (hp.nodup_iff.1 hN) (fun b hb => hB b (hp.mem_iff.2 hb)) hBw hT rfl (by omega) (newS_T _ _) hW3r hgr (.inr (by rw [hH]; rfl))
  have H1 := Lib.hid hrz
  have H2 := Lib.hid hrun1
  have H3 := Lib.hid hrun2
  have H4 := Lib.hid hfin
  have H5 := Lib.hid hgr
  have hgw : H = w.heap.size := hH
  rw [← hgw] at H1
  have HH := Lib.hid hgw
  clear hC1l hC1 hrz hrun1 hrun2 hil4 htk4 hG2 hV hT hp hFl hG hil hown hcs htk hE hol hone hinfo hdl hW1 hG1 hV1 hW2 hgr hW3r hfin hN hB hcs' hW3 hgr0 hN2 hG3 hN1 hb1 hRl hRt htl hold hsub hi0 hz0 hzs hzb hH hgw hkk hik
  have hu := Try.underlying101
  have hu2 := Try.underlying46
  have hii : (i : Int) ≤ (xs.length : Int) := by omega
  have hz2 : ¬ ((i : Int) = (xs.length : Int)) := by omega
  have hz3 : ¬ (c = i) := by omega
  have hz5 : (c : Int) < (xs.length : Int) + 1 := by omega
  have hz6 : i ≤ c := by omega
  have hz7 : (i : Int) ≤ (c : Int) := by omega
  go_enter Try.func71, Try.ntmps71
  go_upto_region 9 with fail
  go_upto_region 10 with (at_builtin; refine Lib.wpList_append_run _ rfl (.tmp 34) (.tmp 39) 46 3 rfl _ _ rfl rfl _ _ (H1.out _) ?_)
  have hG1' : ¬ (G = i) := by omega
  have hG2' : ¬ (G = i + 1) := by omega
  have hq1 : (i : Int) ≤ (G : Int) := by omega
  have hq2 : (i : Int) ≤ (xs.length : Int) + 1 := by omega
  have hr9 := H2.out
  go_upto_region 11 with fail
  clear hr9
  have hw1 : IntKind.i64.wrap (1 + (i : Int)) = (i : Int) + 1 := by rw [IntWalk.i64_in _ (by omega)]; omega
  have hw2 : IntKind.i64.wrap ((i : Int) + 1) = (i : Int) + 1 := IntWalk.i64_in _ (by omega)
  have hb1 : (0 : Int) ≤ (i : Int) + 1 := by omega
  have htn : ((i : Int) + 1).toNat = i + 1 := by omega
  have hb3 : (i : Int) + 1 ≤ (xs.length : Int) + 1 := by omega
  have hr9 := H3.out
  go_region_law ((refine step_copyR rfl (.tmp 50) (.tmp 53) 46 46 rfl _ _ (by simp [Act.eval, Act.put]; rfl) (by simp [Act.eval, Act.put]; rfl) (hr9 _ _ _) ?_))
  clear hr9 hw1 hw2 hb1 htn hb3
  go_wp2
  go_ret
  exact ⟨some ⟨H, 0, none⟩, G, rfl, H4.out, H5.out⟩
theorem own_none {w : World} {xs : List Seen} {B c : Nat} (h : OwnR kSeenX 101 B w xs (.slice none xs.length c)) : xs = [] ∧ c = 0 := by
  obtain ⟨F, ⟨inner, Fs, hol, _⟩, _⟩ := h
  rcases ownL_form hol with ⟨e1, e2⟩ | ⟨g, cap, e1, _⟩
  · simp only [Value.slice.injEq] at e1
    exact ⟨List.eq_nil_of_length_eq_zero e2, e1.2.2⟩
  · cases e1
theorem own_some {w : World} {xs : List Seen} {B c : Nat} {ad : Addr} (h : OwnR kSeenX 101 B w xs (.slice (some ad) xs.length c)) : ∃ g, ad = ⟨g, 0, none⟩ ∧ xs.length ≤ c := by
  obtain ⟨F, ⟨inner, Fs, hol, _⟩, _⟩ := h
  rcases ownL_form hol with ⟨e1, e2⟩ | ⟨g, cap, e1, h2, _⟩
  · cases e1
  · simp only [Value.slice.injEq, Option.some.injEq] at e1
    exact ⟨g, e1.1, by rw [e1.2.2]; exact h2⟩
set_option maxHeartbeats 8000000 in
theorem insEnd_c (w : World) (xs : List Seen) (vb c : Nat) (A : Option Addr) (p : Int) {B : Nat} (hO : OwnR kSeenX 101 B w xs (.slice A xs.length c)) (hBw : B ≤ w.heap.size) (hl : xs.length ≤ 1000)
    (hV : Blk w vb (newsS p).toArray 101) :
    Calls Try.prog 71 #[.slice A xs.length c, .int .i64 xs.length, .slice (some ⟨vb, 0, none⟩) 1 1] w (Ins xs xs.length p (.slice A xs.length c) B w) := by
  have HO := Lib.hid hO
  have HV := Lib.hid hV
  have hcc : xs.length ≤ c := by obtain ⟨A', c', e, h, _⟩ := hO.slice; simp only [Value.slice.injEq] at e; omega
  have hAc : A = none → c = 0 := fun e => by subst e; exact (own_none hO).2
  have hAg : ∀ ad, A = some ad → ∃ g, ad = ⟨g, 0, none⟩ := fun ad e => by subst e; obtain ⟨g, h, _⟩ := own_some hO; exact ⟨g, h⟩
  clear hO hV
  have hu := Try.underlying101
  have hu2 := Try.underlying46
  cases A with
  | none =>
    obtain ⟨rfl, rfl⟩ := own_none HO.out
    clear hAc hAg hcc
    go_enter Try.func71, Try.ntmps71
    go_wp2_with (at_builtin; refine list_el (v := .slice none 0 0) info_seen rfl (by decide) (by decide) rfl _ _ _ rfl Try.underlying46 rfl HO.out (Below.refl _ _) hBw vb 1 rfl (newS_T w p) (fun j u h => HV.out.cell j u h) (Fresh.nil w) (by simp) ?_; intro A7 c7 W4 hO7 hgr hvb)
    go_ret
    exact ⟨A7, c7, rfl, hO7, hgr⟩
  | some ad =>
    obtain ⟨g, rfl⟩ := hAg ad rfl
    clear hAc hAg
    go_enter Try.func71, Try.ntmps71
    by_cases hcl : c = xs.length
    · go_wp2_with (at_builtin; refine list_el (v := .slice (some ⟨g, 0, none⟩) xs.length c) info_seen rfl (by decide) (by decide) rfl _ _ _ rfl Try.underlying46 rfl HO.out (Below.refl _ _) hBw vb 1 rfl (newS_T w p) (fun j u h => HV.out.cell j u h) (Fresh.nil w) (by omega) ?_; intro A7 c7 W4 hO7 hgr hvb)
      go_ret
      exact ⟨A7, c7, rfl, by rw [List.take_length, List.drop_length]; exact hO7, hgr⟩
    · go_wp2_with (at_builtin; refine list_el (v := .slice (some ⟨g, 0, none⟩) xs.length c) info_seen rfl (by decide) (by decide) rfl _ _ _ rfl Try.underlying46 rfl HO.out (Below.refl _ _) hBw vb 1 rfl (newS_T w p) (fun j u h => HV.out.cell j u h) (Fresh.nil w) (by omega) ?_; intro A7 c7 W4 hO7 hgr hvb)
      go_ret
      exact ⟨A7, c7, rfl, by rw [List.take_length, List.drop_length]; exact hO7, hgr⟩
theorem insert_c (w : World) (xs : List Seen) (i vb c : Nat) (A : Option Addr) (p : Int) {B : Nat} (hO : OwnR kSeenX 101 B w xs (.slice A xs.length c)) (hBw : B ≤ w.heap.size) (hi : i ≤ xs.length) (hl : xs.length ≤ 1000)
    (hV : Blk w vb (newsS p).toArray 101) (hvb : ∀ k, (Value.slice A xs.length c).ownBlock = some k → vb ≠ k) :
    Calls Try.prog 71 #[.slice A xs.length c, .int .i64 i, .slice (some ⟨vb, 0, none⟩) 1 1] w (Ins xs i p (.slice A xs.length c) B w) := by
  by_cases h : i = xs.length
  · subst h
    exact insEnd_c w xs vb c A p hO hBw hl hV
  · cases A with
    | none => obtain ⟨rfl, _⟩ := own_none hO; simp at hi; simp at h; omega
    | some ad =>
      obtain ⟨g, rfl, _⟩ := own_some hO
      by_cases hr : xs.length + 1 ≤ c
      · exact insShift_c w xs i vb g c p hO hBw (by omega) hl hr hV (hvb g rfl)
      · exact insGrow_c w xs i vb g c p hO hBw (by omega) hl hr hV (hvb g rfl)
end Go.Proofs.Ytipemgjgimpmbaa.H
