/-
The program's goes, walked. Conditions: each contract's own premises.
-/
import Derived.Test.YtiefpllmnmmdlaaHD7
namespace Go.Proofs.Ytiefpllmnmmdlaa.H
open Go.RowKit Go.Maps
set_option linter.unusedVariables false
set_option linter.unusedSimpArgs false
set_option maxRecDepth 100000
theorem madeOne (z : Value) (n : Nat) : madeCells #[z] n = (List.replicate n z).toArray := by
  apply Array.ext_getElem?
  intro i
  unfold madeCells
  by_cases h : i < n <;> simp [h, Array.getElem?_replicate, List.getElem?_replicate, Nat.mod_one]
theorem zadd (O i : Nat) : (⟨O, 0, none⟩ : Addr).add i = ⟨O, i, none⟩ := by
  unfold Addr.add
  split <;> simp_all
/-- What stands behind block O stands still. -/
def MV (O : Nat) (wr wi : World) : Prop := ∀ (G : Nat) (a : Array Value) (t : TypeId), O < G → G < wr.heap.size → Blk wr G a t → Blk wi G a t
theorem soM_new {tt cut : Int} {L : List Batch} {O R i : Nat} {wr W : World} {cs : List Value} {b : Batch} (h : soM tt cut L O wr (i + 1) cs) (hb : L[i]? = some b) (hmv : MV O wr W) (hO : Blk W O (cs.set i (.slice (some ⟨R, 0, none⟩) b.Records.length b.Records.length)).toArray 58) (hR : O < R) (hr : Blk W R ((rowF tt cut b (kL tt (L.drop (i + 1))) b.Records 0).map Value.bool).toArray 4) :
    soM tt cut L O W i (cs.set i (.slice (some ⟨R, 0, none⟩) b.Records.length b.Records.length)) := by
  obtain ⟨h1, h2, h3⟩ := h
  refine ⟨by rw [List.length_set]; exact h1, hO, fun j x hj hx => ?_⟩
  by_cases e : j = i
  · subst e
    rw [hb] at hx
    cases hx
    refine ⟨R, ?_, hR, hr⟩
    rw [List.getElem?_set_self (by rw [h1]; exact (List.getElem?_eq_some_iff.1 hb).1)]
  · obtain ⟨G, e1, e2, e3⟩ := h3 j x (by omega) hx
    exact ⟨G, by rw [List.getElem?_set_ne (by omega)]; exact e1, e2, hmv G _ _ e2 e3.lt e3⟩
/-- A row that stands while the blocks made between two worlds stand. -/
def KeepR {α : Type} (d : Ki α) (w0 w1 : World) (A : Option Addr) (xs : List α) : Prop := ∀ W : World, (∀ b, w0.heap.size ≤ b → b < w1.heap.size → W.heap[b]? = w1.heap[b]?) → Row d W A xs
theorem soM.keep {tt cut : Int} {L : List Batch} {O g : Nat} {wr W : World} {cs : List Value} (h : soM tt cut L O wr g cs) (hW : ∀ b, O ≤ b → b < wr.heap.size → W.heap[b]? = wr.heap[b]?) : soM tt cut L O W g cs := by
  obtain ⟨h1, h2, h3⟩ := h
  refine ⟨h1, (hW _ (Nat.le_refl _) h2.lt).trans h2, fun j b hj hb => ?_⟩
  obtain ⟨G, e1, e2, e3⟩ := h3 j b hj hb
  exact ⟨G, e1, e2, (hW _ (Nat.le_of_lt e2) e3.lt).trans e3⟩
def GoesK : Prop := ∀ (w : World) (L : List Batch) (A : Option Addr) (c : Nat), L.length ≤ c → Row kBatch w A L → L.length ≤ 400 → (∀ b ∈ L, fOk b) → (∀ b ∈ L, b.sm) → ∀ (tt now keep : Int), (0 ≤ now ∧ now ≤ 1000000000000) → (0 ≤ keep ∧ keep ≤ 1000000000000) →
  Calls Try.prog 24 #[.slice A L.length c, .int .i64 tt, .int .i64 now, .int .i64 keep] w fun e w' => ∃ B d, e = .returned (.slice B L.length d) ∧ L.length ≤ d ∧ KeepR (Ki.slice 4 Ki.bool) w w' B (matF tt (now - keep) L) ∧ Below w.heap.size w w'
attribute [local irreducible] wpStill
set_option maxHeartbeats 8000000 in
theorem goes_k : GoesK := by
  intro w L A c hc hr hl hF hS tt now keep hn hk
  have HF := Lib.hid hF
  have HS := Lib.hid hS
  obtain ⟨hn0, hn1⟩ := hn
  obtain ⟨hk0, hk1⟩ := hk
  clear hF hS
  have hu := Try.underlying48
  have hu2 := Try.underlying42
  have hu3 := Try.underlying53
  have hu4 := Try.underlying46
  have hu5 := Try.underlying56
  have hu6 := Try.underlying58
  have hmm := @run_makeMap Try.prog
  have hmr := make_rows (w.alloc (.map #[] 0)) L.length (by omega)
  go_enter Try.func24, Try.ntmps24
  go_upto_region 4 with fail
  clear hmr
  have hown0 := ownsMap_below (World.ownsMap_made (H := Unit) w Try.prog 9 (plainElem Try.prog 4)) (below_al (w.alloc (.map #[] 0)) (.cells (madeCells #[.slice none 0 0] L.length) 58))
  have hO := Blk.new (w.alloc (.map #[] 0)) (madeCells #[.slice none 0 0] L.length) 58
  have hb0 := below_tr (below_al w (.map #[] 0)) (below_al (w.alloc (.map #[] 0)) (.cells (madeCells #[.slice none 0 0] L.length) 58))
  rw [size_al] at hO
  rw [madeOne] at hO hown0 hb0
  rw [madeOne]
  go_loopg [11] L.length (fun g v11 wr => g ≤ L.length ∧ v11 = .int .i64 ((g : Int) - 1) ∧ ∃ (n : Nat) (D : DataW Unit) (cs : List Value), wr.ownsMap Try.prog 9 (plainElem Try.prog 4) w.heap.size n D ∧ n ≤ (L.length - g) * 1048576 ∧ HasK D (kL tt (L.drop g)) ∧ soM tt (now - keep) L (w.heap.size + 1) wr g cs ∧ Below w.heap.size w wr)
  case atStart =>
    refine ⟨Nat.le_refl _, ?_, 0, _, _, hown0, by omega, ?_, ⟨?_, hO, fun j b hj hb => ?_⟩, hb0⟩
    · go_num
    · rw [List.drop_length]; exact HasK.nil
    · simp
    · have := (List.getElem?_eq_some_iff.1 hb).1; omega
  case round =>
    clear hown0 hO hb0
    obtain ⟨hg, rfl, n, D, cs, hM, hnn, hD, hSO, hb⟩ := hrel
    have HDK := Lib.hid hD
    have HSO := Lib.hid hSO
    clear hD hSO
    by_cases hg0 : gk = 0
    case pos =>
      subst hg0
      go_wp2
      go_ret
      exact ⟨_, _, rfl, Nat.le_refl _, fun W hW => (HSO.out.keep (fun b h1 h2 => hW b (by omega) h2)).read, hb⟩
    obtain ⟨i, rfl⟩ : ∃ i, gk = i + 1 := ⟨gk - 1, by omega⟩
    have hix : ((i + 1 : Nat) : Int) - 1 = (i : Int) := by omega
    rw [hix]
    clear hix
    have hil : i < L.length := by omega
    have hxb : L[i]? = some L[i] := List.getElem?_eq_getElem hil
    generalize L[i] = b at hxb
    have HXB := Lib.hid hxb
    obtain ⟨_, ⟨gb1, gb2⟩, ⟨gf1, gf2⟩, _, _⟩ := HF.out b (List.mem_of_getElem? hxb)
    have hbl := (HS.out b (List.mem_of_getElem? hxb)).1
    have HRS := Lib.hid (HS.out b (List.mem_of_getElem? hxb)).2
    have HKL := Lib.hid (kL_step (tt := tt) hxb)
    clear hxb
    obtain ⟨bd, A6, c6, rfl, r0, r1, r2, r3, r4, r5, r6, l6, g6⟩ := BatchAt hr HXB.out
    replace r0 := later hb r0
    replace r1 := later hb r1
    replace r2 := later hb r2
    replace r3 := later hb r3
    replace r4 := later hb r4
    replace r5 := later hb r5
    replace r6 := later hb r6
    have B8 := Blk.new wr #[.int .i64 b.Base, .int .i64 b.Epoch, .int .i64 b.Producer, .int .i64 b.Turn, .int .i64 b.Seq, .int .i64 b.Flags, .slice A6 b.Records.length c6] 48
    have hb8 := below_al wr (.cells #[.int .i64 b.Base, .int .i64 b.Epoch, .int .i64 b.Producer, .int .i64 b.Turn, .int .i64 b.Seq, .int .i64 b.Flags, .slice A6 b.Records.length c6] 48)
    obtain ⟨WR0, hWR0⟩ : ∃ q, q = wr := ⟨_, rfl⟩
    have HSO0 := Lib.hid (show soM tt (now - keep) L (w.heap.size + 1) WR0 (i + 1) cs by rw [hWR0]; exact HSO.out)
    have HWE := Lib.hid hWR0
    clear hWR0
    obtain ⟨B7, hB7⟩ : ∃ n, n = wr.heap.size := ⟨_, rfl⟩
    go_upto_region 7 with fail
    generalize wr.alloc (.cells #[.int .i64 b.Base, .int .i64 b.Epoch, .int .i64 b.Producer, .int .i64 b.Turn, .int .i64 b.Seq, .int .i64 b.Flags, .slice A6 b.Records.length c6] 48) = W8 at B8 hb8 ⊢
    have hs8 : wr.heap.size < W8.heap.size := B8.lt
    rw [← hB7] at B8 ⊢
    have a6 : W8.cell? ⟨B7, 6, none⟩ = some (.slice A6 b.Records.length c6) := B8.cell 6 _ rfl
    have hOlt := HSO.out.2.1.lt
    have hOB : w.heap.size + 1 < B7 := by omega
    have hB8 : B7 < W8.heap.size := B8.lt
    have HHB7 := Lib.hid hB7
    clear hB7
    clear r0 r1 r2 r3 r4 r5 r6
    have hmk := make_bools W8 b.Records.length hbl
    have HO8 := HSO.out.2.1.below hb8
    have hcl : i < cs.length := by rw [HSO.out.1]; exact hil
    have hbN := below_al W8 (.cells (madeCells #[.bool false] b.Records.length) 4)
    have HO9 := HO8.below hbN
    have o0 := HO9.cell i cs[i] (by simp [hcl])
    have o1 := HO9.frz i
    have oad := zadd (w.heap.size + 1) i
    have hRN := Blk.new W8 (madeCells #[.bool false] b.Records.length) 4
    have hM9 := ownsMap_below (ownsMap_below hM hb8) hbN
    have hbs := hb.size
    obtain ⟨R, hR⟩ : ∃ n, n = W8.heap.size := ⟨_, rfl⟩
    have B9 := (B8.below hbN).far (w.heap.size + 1) i (.slice (some ⟨R, 0, none⟩) b.Records.length b.Records.length) (by omega)
    have R9 := hRN.far (w.heap.size + 1) i (.slice (some ⟨R, 0, none⟩) b.Records.length b.Records.length) (by omega)
    have O9 := HO9.set i (.slice (some ⟨R, 0, none⟩) b.Records.length b.Records.length)
    have M9 := World.ownsMap.setCell hM9 (a := ⟨w.heap.size + 1, i, none⟩) (by simp) (.slice (some ⟨R, 0, none⟩) b.Records.length b.Records.length)
    have HB9 := ((below_tr hb (below_tr hb8 hbN)).setCell (p := ⟨w.heap.size + 1, i, none⟩) (by simp) (.slice (some ⟨R, 0, none⟩) b.Records.length b.Records.length))
    have MV9 : MV (w.heap.size + 1) wr ((W8.alloc (.cells (madeCells #[.bool false] b.Records.length) 4)).setCell ⟨w.heap.size + 1, i, none⟩ (.slice (some ⟨R, 0, none⟩) b.Records.length b.Records.length)) := fun G a t h1 h2 h3 => ((h3.below hb8).below hbN).far _ _ _ (by omega)
    have hOR : w.heap.size + 1 < R := by omega
    have hBR : B7 < R := by omega
    have HWR := Lib.hid (show wr.heap.size ≤ R by omega)
    rw [← hR] at R9
    have HR := Lib.hid hR
    clear hR
    go_upto_region 8 with fail
    rw [← HR.out]
    rw [List.setIfInBounds_toArray] at O9
    generalize (W8.alloc (.cells (madeCells #[.bool false] b.Records.length) 4)).setCell ⟨w.heap.size + 1, i, none⟩ (.slice (some ⟨R, 0, none⟩) b.Records.length b.Records.length) = W9 at B9 R9 O9 M9 HB9 MV9 ⊢
    rw [madeOne] at R9
    clear a6 hmk HO8 HO9 o0 o1 hRN hM9 hM hbN hb8 B8 hs8 hbs hOlt hB8
    have a5 : W9.cell? ⟨B7, 5, none⟩ = some (.int .i64 b.Flags) := B9.cell 5 _ rfl
    have e4 : Go.bits .and .i64 b.Flags 4 = 4 * (b.Flags / 4) := and4 gf1 gf2
    have HMV : Hid (MV (w.heap.size + 1) WR0 W9) := Lib.hid (by rw [HWE.out]; exact MV9)
    clear MV9
    by_cases h4 : 4 ≤ b.Flags
    case pos =>
      have h5 : b.Flags / 4 = 1 := by omega
      rw [h5] at e4
      obtain ⟨hrm, hkm⟩ := rowF_mark (tt := tt) (cut := now - keep) h4 (kL tt (L.drop (i + 1))) b.Records 0
      have HKE := Lib.hid (show kL tt (L.drop i) = kL tt (L.drop (i + 1)) by rw [HKL.out, hkm]; rfl)
      have HSN := Lib.hid (soM_new HSO0.out HXB.out HMV.out O9 hOR (by rw [hrm, List.map_replicate]; exact R9))
      clear hrm hkm
      go_wp2
      go_roundg i
      case rel => exact ⟨by omega, by go_num, n, D, _, M9, Nat.le_trans hnn (Nat.mul_le_mul_right _ (by omega)), by rw [HKE.out]; exact HDK.out, HSN.out, HB9⟩
      case measure => omega
    have h5 : b.Flags / 4 = 0 := by omega
    rw [h5] at e4
    have hfl : b.Flags < 4 := by omega
    have a6 : W9.cell? ⟨B7, 6, none⟩ = some (.slice A6 b.Records.length c6) := B9.cell 6 _ rfl
    have HT0 := Lib.hid (show soR tt (now - keep) b (kL tt (L.drop (i + 1))) b.Records.length = List.replicate b.Records.length (.bool false) by unfold soR; rw [List.drop_length]; simp [rowF])
    have HK0 := Lib.hid (show kB tt b (b.Records.drop b.Records.length) b.Records.length = [] by rw [List.drop_length]; rfl)
    have HB9h := Lib.hid HB9
    go_upto_region 10 with fail
    clear e4 h4 h5 a5 a6
    go_loopg [13] b.Records.length (fun g v13 wi => g ≤ b.Records.length ∧ v13 = .int .i64 ((g : Int) - 1) ∧ ∃ (m : Nat) (D : DataW Unit), wi.ownsMap Try.prog 9 (plainElem Try.prog 4) w.heap.size m D ∧ m ≤ (L.length - (i + 1)) * 1048576 + (b.Records.length - g) ∧ HasK D (kB tt b (b.Records.drop g) g ++ kL tt (L.drop (i + 1))) ∧ Blk wi R (soR tt (now - keep) b (kL tt (L.drop (i + 1))) g).toArray 4 ∧ Blk wi (w.heap.size + 1) (cs.set i (.slice (some ⟨R, 0, none⟩) b.Records.length b.Records.length)).toArray 58 ∧ Blk wi B7 #[.int .i64 b.Base, .int .i64 b.Epoch, .int .i64 b.Producer, .int .i64 b.Turn, .int .i64 b.Seq, .int .i64 b.Flags, .slice A6 b.Records.length c6] 48 ∧ Hid (MV (w.heap.size + 1) WR0 wi) ∧ Below w.heap.size w wi)
    case atStart => exact ⟨Nat.le_refl _, by go_num, n, D, M9, Nat.le_trans hnn (Nat.le_add_right _ _), by rw [HK0.out]; exact HDK.out, by rw [HT0.out]; exact R9, O9, B9, HMV, HB9h.out⟩
    case round =>
      clear M9 R9 O9 B9 HMV HB9 HB9h HT0 HK0 hnn HDK n D
      obtain ⟨hg, rfl, m, D, hM, hmm2, hD, hRb, hOb, hBb, HMV, hb2⟩ := hrel
      have HDK := Lib.hid hD
      clear hD
      by_cases hk0 : gk = 0
      case pos =>
        subst hk0
        have HDN := Lib.hid (show HasK D (kL tt (L.drop i)) by rw [HKL.out]; exact HDK.out)
        have HSN := Lib.hid (soM_new HSO0.out HXB.out HMV.out hOb hOR (by simpa [soR] using hRb))
        go_wp2
        go_roundg i
        case rel => exact ⟨by omega, by go_num, m, D, _, hM, Nat.le_trans hmm2 (by rw [show L.length - i = (L.length - (i + 1)) + 1 by omega, Nat.add_mul, Nat.one_mul]; exact Nat.add_le_add_left (by omega) _), HDN.out, HSN.out, hb2⟩
        case measure => omega
      obtain ⟨k, rfl⟩ : ∃ k, gk = k + 1 := ⟨gk - 1, by omega⟩
      have hix : ((k + 1 : Nat) : Int) - 1 = (k : Int) := by omega
      rw [hix]
      clear hix
      have hkl : k < b.Records.length := by omega
      obtain ⟨ad, y, A5, c5, rfl, hy, p0, p1, p2, p3, p4, p5, l5, g5⟩ := Record.at (Row_below g6 hb2) k hkl
      have HYS := Lib.hid (HRS.out y (List.mem_of_getElem? hy))
      have HYK := Lib.hid hy
      clear hy
      have a0 : wr.cell? ⟨B7, 0, none⟩ = some (.int .i64 b.Base) := hBb.cell 0 _ rfl
      have a6 : wr.cell? ⟨B7, 6, none⟩ = some (.slice (some ad) b.Records.length c6) := hBb.cell 6 _ rfl
      have hbY := below_al wr (.cells #[.int .i64 y.Time, .bool y.Keyed, .string y.Key, .bool y.Gone, .string y.Value, .slice A5 y.Heads.length c5] 53)
      have Y := Blk.new wr #[.int .i64 y.Time, .bool y.Keyed, .string y.Key, .bool y.Gone, .string y.Value, .slice A5 y.Heads.length c5] 53
      obtain ⟨B14, hB14⟩ : ∃ n, n = wr.heap.size := ⟨_, rfl⟩
      go_upto_region 13 with fail
      clear p0 p1 p2 p3 p4 p5 a0 a6
      have hM1 := ownsMap_below hM hbY
      have hR1 := hRb.below hbY
      have hO1 := hOb.below hbY
      have hB1 := hBb.below hbY
      have hb3 := below_tr hb2 hbY
      have HMV1 : Hid (MV (w.heap.size + 1) WR0 (wr.alloc (.cells #[.int .i64 y.Time, .bool y.Keyed, .string y.Key, .bool y.Gone, .string y.Value, .slice A5 y.Heads.length c5] 53))) := Lib.hid (fun G a t h1 h2 h3 => (HMV.out G a t h1 h2 h3).below hbY)
      have hRlt := hRb.lt
      generalize wr.alloc (.cells #[.int .i64 y.Time, .bool y.Keyed, .string y.Key, .bool y.Gone, .string y.Value, .slice A5 y.Heads.length c5] 53) = W10 at hM1 hR1 hO1 hB1 hb3 HMV1 Y ⊢
      rw [← hB14] at Y ⊢
      have hRB14 : R < B14 := by omega
      have HB14 := Lib.hid hB14
      clear hB14 hbY hM hRb hOb hBb HMV hb2
      have a0 : W10.cell? ⟨B7, 0, none⟩ = some (.int .i64 b.Base) := hB1.cell 0 _ rfl
      have y0 : W10.cell? ⟨B14, 0, none⟩ = some (.int .i64 y.Time) := Y.cell 0 _ rfl
      have y1 : W10.cell? ⟨B14, 1, none⟩ = some (.bool y.Keyed) := Y.cell 1 _ rfl
      have y2 : W10.cell? ⟨B14, 2, none⟩ = some (.string y.Key) := Y.cell 2 _ rfl
      have y3 : W10.cell? ⟨B14, 3, none⟩ = some (.bool y.Gone) := Y.cell 3 _ rfl
      have HKS := Lib.hid (kB_step (tt := tt) (b := b) HYK.out)
      by_cases h1 : b.Base + (k : Int) < tt
      case neg =>
        have HEL : Hid (eligF tt b k y = false) := Lib.hid (by simp [eligF, h1])
        have HDN := Lib.hid (show HasK D (kB tt b (b.Records.drop k) k ++ kL tt (L.drop (i + 1))) by rw [HKS.out, HEL.out]; exact HDK.out)
        have HRN := Lib.hid (soR_same (tt := tt) (cut := now - keep) (b := b) (T := kL tt (L.drop (i + 1))) HYK.out (by simp [goesF, HEL.out]))
        go_wp2
        go_roundg k
        case rel => exact ⟨by omega, by go_num, m, D, hM1, Nat.le_trans hmm2 (Nat.add_le_add_left (by omega) _), HDN.out, by rw [← HRN.out]; exact hR1, hO1, hB1, HMV1, hb3⟩
        case measure => omega
      cases hky : y.Keyed with
      | false =>
        have HEL : Hid (eligF tt b k y = false) := Lib.hid (by simp [eligF, hky])
        have HDN := Lib.hid (show HasK D (kB tt b (b.Records.drop k) k ++ kL tt (L.drop (i + 1))) by rw [HKS.out, HEL.out]; exact HDK.out)
        have HRN := Lib.hid (soR_same (tt := tt) (cut := now - keep) (b := b) (T := kL tt (L.drop (i + 1))) HYK.out (by simp [goesF, HEL.out]))
        go_wp2
        go_roundg k
        case rel => exact ⟨by omega, by go_num, m, D, hM1, Nat.le_trans hmm2 (Nat.add_le_add_left (by omega) _), HDN.out, by rw [← HRN.out]; exact hR1, hO1, hB1, HMV1, hb3⟩
        case measure => omega
      | true =>
        have HEL : Hid (eligF tt b k y = true) := Lib.hid (by simp [eligF, h1, hky, hfl])
        go_upto_region 14 with fail
        have hks : y.Key.size ≤ maxLen := Nat.le_trans HYS.out.1 (by simp [maxLen])
        generalize hh : hitF (kB tt b (b.Records.drop (k + 1)) (k + 1) ++ kL tt (L.drop (i + 1))) y.Key = hv
        have hlk : (Instr.lookup 79 (.map (some w.heap.size)) (.string y.Key) false).run Try.prog W10.drew = .ok (.bool hv) W10.drew := by rw [← hh]; exact look_str (w := W10.drew) hM1.drew hks HDK.out
        generalize hgo : goesF tt (now - keep) b (kB tt b (b.Records.drop (k + 1)) (k + 1) ++ kL tt (L.drop (i + 1))) k y = go
        have HGO := Lib.hid hgo
        have HGE : Hid (go = (hv || oldF (now - keep) y)) := Lib.hid (by rw [← hgo]; unfold goesF; rw [HEL.out, hh, Bool.true_and])
        clear hgo hh
        have o0 : W10.cell? ⟨w.heap.size + 1, i, none⟩ = some (.slice (some ⟨R, 0, none⟩) b.Records.length b.Records.length) := hO1.cell i _ (by simp [hcl])
        have oad := zadd (w.heap.size + 1) i
        have rad := zadd R k
        have r0 := hR1.cell k _ (by rw [List.getElem?_toArray]; exact List.getElem?_eq_getElem (by rw [soR_len (by omega)]; exact hkl))
        have r1 := hR1.frz k
        have hws : IntKind.i64.wrap (now - keep) = now - keep := IntWalk.i64_in _ (by omega)
        have HRN0 : Hid ((soR tt (now - keep) b (kL tt (L.drop (i + 1))) (k + 1)).set k (.bool go) = soR tt (now - keep) b (kL tt (L.drop (i + 1))) k) := Lib.hid (by rw [← HGO.out]; exact soR_set HYK.out)
        cases hv with
        | true =>
          have HG : Hid (go = true) := Lib.hid (by rw [HGE.out]; rfl)
          have R2 := Lib.hid ((show Blk W10.drew R _ _ from hR1).set k (.bool true))
          have O2 := Lib.hid ((show Blk W10.drew (w.heap.size + 1) _ _ from hO1).far R k (.bool true) (by omega))
          have B2 := Lib.hid ((show Blk W10.drew B7 _ _ from hB1).far R k (.bool true) (by omega))
          have Y2 := (show Blk W10.drew B14 _ _ from Y).far R k (.bool true) (by omega)
          have M2 := World.ownsMap.setCell hM1.drew (a := ⟨R, k, none⟩) (by simp; omega) (.bool true)
          have Hb4 := Lib.hid (hb3.drew.setCell (p := ⟨R, k, none⟩) (by simp; omega) (.bool true))
          have z2 : (W10.drew.setCell ⟨R, k, none⟩ (.bool true)).cell? ⟨B14, 2, none⟩ = some (.string y.Key) := Y2.cell 2 _ rfl
          have HMV2 : Hid (MV (w.heap.size + 1) WR0 (W10.drew.setCell ⟨R, k, none⟩ (.bool true))) := Lib.hid (fun G a t q1 q2 q3 => (show Blk W10.drew G a t from HMV1.out G a t q1 q2 q3).far R k (.bool true) (by rw [HWE.out] at q2; have := HWR.out; omega))
          have HRN := Lib.hid (show (soR tt (now - keep) b (kL tt (L.drop (i + 1))) (k + 1)).set k (.bool true) = soR tt (now - keep) b (kL tt (L.drop (i + 1))) k by rw [← HG.out]; exact HRN0.out)
          refine tailW 22 (by kernel_rfl) (by kernel_rfl) ?_
          simp only [List.take_succ_cons, List.take_zero, List.drop_succ_cons, List.drop_zero]
          iterate 22 still_step
          refine wpStill_nil ?_
          clear hlk
          go_wp2_with (first | (at_mapUpdate; refine update_strK _ rfl _ _ _ rfl w.heap.size m D rfl M2 (Nat.lt_of_le_of_lt hmm2 (by simp [maxLen]; omega)) rfl rfl hks HDK.out ?_; intro wm D' hM2 hD2 hg2) | go_in)
          go_roundg k
          case rel =>
            refine ⟨by omega, by go_num, m + 1, D', hM2, Nat.le_trans (Nat.succ_le_succ hmm2) (by rw [← Nat.add_one, Nat.add_assoc]; exact Nat.add_le_add_left (by omega) _), ?_, ?_, O2.out.grown hg2 (by simp), B2.out.grown hg2 (by simp; omega), Lib.hid (fun G a t q1 q2 q3 => (HMV2.out G a t q1 q2 q3).grown hg2 (by simp; omega)), Hb4.out.grown hg2 Hb4.out.size (fun k hk => by injection hk with hk; omega)⟩
            · rw [HKS.out, HEL.out]; exact hD2
            · have h := R2.out.grown hg2 (by simp; omega)
              rw [List.setIfInBounds_toArray, HRN.out] at h
              exact h
          case measure => omega
        | false =>
          cases hgn : y.Gone with
          | false =>
            have HG : Hid (go = false) := Lib.hid (by rw [HGE.out]; simp [oldF, hgn])
            have R2 := Lib.hid ((show Blk W10.drew R _ _ from hR1).set k (.bool false))
            have O2 := Lib.hid ((show Blk W10.drew (w.heap.size + 1) _ _ from hO1).far R k (.bool false) (by omega))
            have B2 := Lib.hid ((show Blk W10.drew B7 _ _ from hB1).far R k (.bool false) (by omega))
            have Y2 := (show Blk W10.drew B14 _ _ from Y).far R k (.bool false) (by omega)
            have M2 := World.ownsMap.setCell hM1.drew (a := ⟨R, k, none⟩) (by simp; omega) (.bool false)
            have Hb4 := Lib.hid (hb3.drew.setCell (p := ⟨R, k, none⟩) (by simp; omega) (.bool false))
            have z2 : (W10.drew.setCell ⟨R, k, none⟩ (.bool false)).cell? ⟨B14, 2, none⟩ = some (.string y.Key) := Y2.cell 2 _ rfl
            have HMV2 : Hid (MV (w.heap.size + 1) WR0 (W10.drew.setCell ⟨R, k, none⟩ (.bool false))) := Lib.hid (fun G a t q1 q2 q3 => (show Blk W10.drew G a t from HMV1.out G a t q1 q2 q3).far R k (.bool false) (by rw [HWE.out] at q2; have := HWR.out; omega))
            have HRN := Lib.hid (show (soR tt (now - keep) b (kL tt (L.drop (i + 1))) (k + 1)).set k (.bool false) = soR tt (now - keep) b (kL tt (L.drop (i + 1))) k by rw [← HG.out]; exact HRN0.out)
            refine tailW 22 (by kernel_rfl) (by kernel_rfl) ?_
            simp only [List.take_succ_cons, List.take_zero, List.drop_succ_cons, List.drop_zero]
            iterate 22 still_step
            refine wpStill_nil ?_
            clear hlk
            go_wp2_with (first | (at_mapUpdate; refine update_strK _ rfl _ _ _ rfl w.heap.size m D rfl M2 (Nat.lt_of_le_of_lt hmm2 (by simp [maxLen]; omega)) rfl rfl hks HDK.out ?_; intro wm D' hM2 hD2 hg2) | go_in)
            go_roundg k
            case rel =>
              refine ⟨by omega, by go_num, m + 1, D', hM2, Nat.le_trans (Nat.succ_le_succ hmm2) (by rw [← Nat.add_one, Nat.add_assoc]; exact Nat.add_le_add_left (by omega) _), ?_, ?_, O2.out.grown hg2 (by simp), B2.out.grown hg2 (by simp; omega), Lib.hid (fun G a t q1 q2 q3 => (HMV2.out G a t q1 q2 q3).grown hg2 (by simp; omega)), Hb4.out.grown hg2 Hb4.out.size (fun k hk => by injection hk with hk; omega)⟩
              · rw [HKS.out, HEL.out]; exact hD2
              · have h := R2.out.grown hg2 (by simp; omega)
                rw [List.setIfInBounds_toArray, HRN.out] at h
                exact h
            case measure => omega
          | true =>
            by_cases hto : y.Time < now - keep
            · have HG : Hid (go = true) := Lib.hid (by rw [HGE.out]; simp [oldF, hgn, hto])
              have R2 := Lib.hid ((show Blk W10.drew R _ _ from hR1).set k (.bool true))
              have O2 := Lib.hid ((show Blk W10.drew (w.heap.size + 1) _ _ from hO1).far R k (.bool true) (by omega))
              have B2 := Lib.hid ((show Blk W10.drew B7 _ _ from hB1).far R k (.bool true) (by omega))
              have Y2 := (show Blk W10.drew B14 _ _ from Y).far R k (.bool true) (by omega)
              have M2 := World.ownsMap.setCell hM1.drew (a := ⟨R, k, none⟩) (by simp; omega) (.bool true)
              have Hb4 := Lib.hid (hb3.drew.setCell (p := ⟨R, k, none⟩) (by simp; omega) (.bool true))
              have z2 : (W10.drew.setCell ⟨R, k, none⟩ (.bool true)).cell? ⟨B14, 2, none⟩ = some (.string y.Key) := Y2.cell 2 _ rfl
              have HMV2 : Hid (MV (w.heap.size + 1) WR0 (W10.drew.setCell ⟨R, k, none⟩ (.bool true))) := Lib.hid (fun G a t q1 q2 q3 => (show Blk W10.drew G a t from HMV1.out G a t q1 q2 q3).far R k (.bool true) (by rw [HWE.out] at q2; have := HWR.out; omega))
              have HRN := Lib.hid (show (soR tt (now - keep) b (kL tt (L.drop (i + 1))) (k + 1)).set k (.bool true) = soR tt (now - keep) b (kL tt (L.drop (i + 1))) k by rw [← HG.out]; exact HRN0.out)
              refine tailW 22 (by kernel_rfl) (by kernel_rfl) ?_
              simp only [List.take_succ_cons, List.take_zero, List.drop_succ_cons, List.drop_zero]
              iterate 22 still_step
              refine wpStill_nil ?_
              clear hlk
              go_wp2_with (first | (at_mapUpdate; refine update_strK _ rfl _ _ _ rfl w.heap.size m D rfl M2 (Nat.lt_of_le_of_lt hmm2 (by simp [maxLen]; omega)) rfl rfl hks HDK.out ?_; intro wm D' hM2 hD2 hg2) | go_in)
              go_roundg k
              case rel =>
                refine ⟨by omega, by go_num, m + 1, D', hM2, Nat.le_trans (Nat.succ_le_succ hmm2) (by rw [← Nat.add_one, Nat.add_assoc]; exact Nat.add_le_add_left (by omega) _), ?_, ?_, O2.out.grown hg2 (by simp), B2.out.grown hg2 (by simp; omega), Lib.hid (fun G a t q1 q2 q3 => (HMV2.out G a t q1 q2 q3).grown hg2 (by simp; omega)), Hb4.out.grown hg2 Hb4.out.size (fun k hk => by injection hk with hk; omega)⟩
                · rw [HKS.out, HEL.out]; exact hD2
                · have h := R2.out.grown hg2 (by simp; omega)
                  rw [List.setIfInBounds_toArray, HRN.out] at h
                  exact h
              case measure => omega
            · have HG : Hid (go = false) := Lib.hid (by rw [HGE.out]; simp [oldF, hgn]; omega)
              have R2 := Lib.hid ((show Blk W10.drew R _ _ from hR1).set k (.bool false))
              have O2 := Lib.hid ((show Blk W10.drew (w.heap.size + 1) _ _ from hO1).far R k (.bool false) (by omega))
              have B2 := Lib.hid ((show Blk W10.drew B7 _ _ from hB1).far R k (.bool false) (by omega))
              have Y2 := (show Blk W10.drew B14 _ _ from Y).far R k (.bool false) (by omega)
              have M2 := World.ownsMap.setCell hM1.drew (a := ⟨R, k, none⟩) (by simp; omega) (.bool false)
              have Hb4 := Lib.hid (hb3.drew.setCell (p := ⟨R, k, none⟩) (by simp; omega) (.bool false))
              have z2 : (W10.drew.setCell ⟨R, k, none⟩ (.bool false)).cell? ⟨B14, 2, none⟩ = some (.string y.Key) := Y2.cell 2 _ rfl
              have HMV2 : Hid (MV (w.heap.size + 1) WR0 (W10.drew.setCell ⟨R, k, none⟩ (.bool false))) := Lib.hid (fun G a t q1 q2 q3 => (show Blk W10.drew G a t from HMV1.out G a t q1 q2 q3).far R k (.bool false) (by rw [HWE.out] at q2; have := HWR.out; omega))
              have HRN := Lib.hid (show (soR tt (now - keep) b (kL tt (L.drop (i + 1))) (k + 1)).set k (.bool false) = soR tt (now - keep) b (kL tt (L.drop (i + 1))) k by rw [← HG.out]; exact HRN0.out)
              refine tailW 22 (by kernel_rfl) (by kernel_rfl) ?_
              simp only [List.take_succ_cons, List.take_zero, List.drop_succ_cons, List.drop_zero]
              iterate 22 still_step
              refine wpStill_nil ?_
              clear hlk
              go_wp2_with (first | (at_mapUpdate; refine update_strK _ rfl _ _ _ rfl w.heap.size m D rfl M2 (Nat.lt_of_le_of_lt hmm2 (by simp [maxLen]; omega)) rfl rfl hks HDK.out ?_; intro wm D' hM2 hD2 hg2) | go_in)
              go_roundg k
              case rel =>
                refine ⟨by omega, by go_num, m + 1, D', hM2, Nat.le_trans (Nat.succ_le_succ hmm2) (by rw [← Nat.add_one, Nat.add_assoc]; exact Nat.add_le_add_left (by omega) _), ?_, ?_, O2.out.grown hg2 (by simp), B2.out.grown hg2 (by simp; omega), Lib.hid (fun G a t q1 q2 q3 => (HMV2.out G a t q1 q2 q3).grown hg2 (by simp; omega)), Hb4.out.grown hg2 Hb4.out.size (fun k hk => by injection hk with hk; omega)⟩
                · rw [HKS.out, HEL.out]; exact hD2
                · have h := R2.out.grown hg2 (by simp; omega)
                  rw [List.setIfInBounds_toArray, HRN.out] at h
                  exact h
              case measure => omega
theorem goes_c : GoesC := by
  intro w L A c hc hr hl hF hS tt now keep hn hk
  refine (goes_k w L A c hc hr hl hF hS tt now keep hn hk).mono ?_
  rintro e w' ⟨B, d, rfl, hd, hrB, hb⟩
  exact ⟨B, d, rfl, hd, hrB w' (fun _ _ _ => rfl), hb⟩
end Go.Proofs.Ytiefpllmnmmdlaa.H
