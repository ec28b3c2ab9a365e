/-
FnExactExpand: for every byte slice and bound the law answers true: the program's Expand answers as the reference's, writes into no argument, and its answer owns its memory.
Conditions: none beyond the statement's own.
-/
import Derived.Test.YtoglalgbjobpkaaPFnExactExpandx4
namespace Go.Proofs.Ytoglalgbjobpkaa.Pure
set_option linter.unusedSimpArgs false
set_option linter.unusedVariables false
open Go.RowKit Go.Proofs.Ytoglalgbjobpkaa.PFnExactExpand Go.Proofs.YtoglalgbjobpkaaW.PrintWords Go.Proofs.YtoglalgbjobpkaaW.PrintLast Go.Proofs.YtoglalgbjobpkaaW.PrintMore

theorem wrapI {x : Int} (h0 : -9223372036854775808 ≤ x) (h : x ≤ 9223372036854775807) : wrap64 x = x := by
  unfold wrap64; omega

theorem rd_set_self (xs : List Int) (i v : Int) (h0 : 0 ≤ i) (h : i < xs.length) : rd (xs.set i.toNat v) i = v := by
  unfold rd; rw [List.getD_eq_getElem?_getD, List.getElem?_set_self (by omega)]; rfl
theorem rd_set_ne (xs : List Int) (i j v : Int) (h0 : 0 ≤ i) (hj : 0 ≤ j) (h : i ≠ j) : rd (xs.set i.toNat v) j = rd xs j := by
  unfold rd; rw [List.getD_eq_getElem?_getD, List.getElem?_set_ne (by omega), List.getD_eq_getElem?_getD]
theorem rd_ext (xs ys : List Int) (hl : xs.length = ys.length) (h : ∀ j : Int, 0 ≤ j → j < xs.length → rd xs j = rd ys j) : xs = ys := by
  apply List.ext_getElem hl
  intro i h1 h2
  have := h i (by omega) (by omega)
  unfold rd at this
  simpa [List.getD_eq_getElem?_getD, List.getElem?_eq_getElem h1, List.getElem?_eq_getElem h2] using this

theorem eqByteS_l (xs : List Int) (hn : xs.length ≤ 140737488355328) (d : Nat) : ∀ (i : Int), 0 ≤ i → (xs.length : Int) - i = d →
    Ev (fun k => laws_eqByteS.l0 k xs xs i) true := by
  induction d with
  | zero =>
    intro i h0 hd
    refine Ev.step (f := fun _ => some true) (fun k => ?_) (Ev.now _)
    rw [laws_eqByteS.l0, if_neg (by omega)]
  | succ d ih =>
    intro i h0 hd
    refine Ev.step (fun k => ?_) (ih (i + 1) (by omega) (by omega))
    rw [laws_eqByteS.l0, if_pos (by omega), if_pos h0, if_pos (by omega), if_pos rfl, wrapI (by omega) (by omega)]
theorem eqByteS_ev (xs : List Int) (hn : xs.length ≤ 140737488355328) : Ev (fun k => laws_eqByteS.f k xs xs) true := by
  refine Ev.congr (fun k => ?_) (eqByteS_l xs hn xs.length 0 (by omega) (by omega))
  unfold laws_eqByteS.f; rw [if_pos rfl]

theorem toByteS_l (xs : List Int) (hn : xs.length ≤ 140737488355328) (d : Nat) : ∀ (i : Int) (ys : List Int), 0 ≤ i → (xs.length : Int) - i = d → ys.length = xs.length → (∀ j : Int, 0 ≤ j → j < i → rd ys j = rd xs j) →
    Ev (fun k => laws_toByteS.l0 k xs ys i) xs := by
  induction d with
  | zero =>
    intro i ys h0 hd hl hy
    obtain rfl : ys = xs := rd_ext ys xs hl (fun j h1 h2 => hy j h1 (by omega))
    refine Ev.step (f := fun _ => some ys) (fun k => ?_) (Ev.now _)
    rw [laws_toByteS.l0, if_neg (by omega)]
  | succ d ih =>
    intro i ys h0 hd hl hy
    refine Ev.step (fun k => ?_) (ih (i + 1) (ys.set i.toNat (rd xs i)) (by omega) (by omega) (by simpa using hl) ?_)
    · rw [laws_toByteS.l0, if_pos (by omega), if_pos h0, if_pos (by omega), wrapI (by omega) (by omega)]
    · intro j h1 h2
      by_cases e : i = j
      · subst e; rw [rd_set_self _ _ _ h0 (by omega)]
      · rw [rd_set_ne _ _ _ _ h0 h1 e]; exact hy j h1 (by omega)
theorem toByteS_ev (xs : List Int) (hn : xs.length ≤ 140737488355328) : Ev (fun k => laws_toByteS.f k xs) xs := by
  refine Ev.congr (fun k => ?_) (toByteS_l xs hn xs.length 0 (List.replicate xs.length 0) (by omega) (by omega) (by simp) (fun j h1 h2 => by omega))
  unfold laws_toByteS.f; rw [if_pos (by omega), if_pos (by omega)]; rfl

/-- marks from a, laid over a list: what mark leaves, and held finds. -/
theorem markByteS_l (d : Nat) : ∀ (xs : List Int) (a i : Int), 0 ≤ i → (xs.length : Int) - i = d → 0 ≤ a → a + d ≤ 9223372036854775807 → xs.length ≤ 140737488355328 →
    ∃ ys : List Int, ys.length = xs.length ∧ (∀ j : Int, 0 ≤ j → j < i → rd ys j = rd xs j) ∧ (∀ j : Int, i ≤ j → j < xs.length → rd ys j = (a + (j - i)) % 256) ∧
      Ev (fun k => laws_markByteS.l0 k xs a i) (a + d, ys) := by
  induction d with
  | zero =>
    intro xs a i h0 hd ha hb hn
    refine ⟨xs, rfl, fun _ _ _ => rfl, fun j h1 h2 => absurd h2 (by omega), ?_⟩
    refine Ev.step (f := fun _ => some (a, xs)) (fun k => ?_) (by simpa using Ev.now (a, xs))
    rw [laws_markByteS.l0, if_neg (by omega)]
  | succ d ih =>
    intro xs a i h0 hd ha hb hn
    obtain ⟨ys, hl, h1, h2, h3⟩ := ih (xs.set i.toNat (a % 256)) (a + 1) (i + 1) (by omega) (by simp; omega) (by omega) (by omega) (by simpa using hn)
    simp only [List.length_set] at hl h2
    refine ⟨ys, hl, fun j j0 j1 => ?_, fun j j0 j1 => ?_, ?_⟩
    · rw [h1 j j0 (by omega), rd_set_ne _ _ _ _ h0 j0 (by omega)]
    · by_cases e : i = j
      · subst e; rw [h1 i h0 (by omega), rd_set_self _ _ _ h0 (by omega)]; congr 1; omega
      · rw [h2 j (by omega) j1]; congr 1; omega
    · refine Ev.step (fun k => ?_) (by rw [show a + ((d + 1 : Nat) : Int) = a + 1 + d by omega]; exact h3)
      rw [laws_markByteS.l0, if_pos (by omega), if_pos h0, wrapI (x := a + 1) (by omega) (by omega), wrapI (x := i + 1) (by omega) (by omega)]
theorem heldByteS_l (ys : List Int) (hn : ys.length ≤ 140737488355328) (d : Nat) : ∀ (a i : Int), 0 ≤ i → (ys.length : Int) - i = d → 0 ≤ a → a + d ≤ 9223372036854775807 → (∀ j : Int, i ≤ j → j < ys.length → rd ys j = (a + (j - i)) % 256) →
    Ev (fun k => laws_heldByteS.l0 k ys a i) (a + d) := by
  induction d with
  | zero =>
    intro a i h0 hd ha hb hy
    refine Ev.step (f := fun _ => some a) (fun k => ?_) (by simpa using Ev.now a)
    rw [laws_heldByteS.l0, if_neg (by omega)]
  | succ d ih =>
    intro a i h0 hd ha hb hy
    have h3 := ih (a + 1) (i + 1) (by omega) (by omega) (by omega) (by omega) (fun j j0 j1 => by rw [hy j (by omega) j1]; congr 1; omega)
    refine Ev.step (fun k => ?_) (by rw [show a + ((d + 1 : Nat) : Int) = a + 1 + d by omega]; exact h3)
    have e := hy i (by omega) (by omega)
    rw [show a + (i - i) = a by omega] at e
    rw [laws_heldByteS.l0, if_pos (by omega), if_pos h0, if_pos e, wrapI (x := a + 1) (by omega) (by omega), wrapI (x := i + 1) (by omega) (by omega)]
theorem markByteS_ev (xs : List Int) (hn : xs.length ≤ 140737488355328) : ∃ ys : List Int, Ev (fun k => laws_markByteS.f k xs 1) (1 + (xs.length : Int), ys) ∧ Ev (fun k => laws_heldByteS.f k ys 1) (1 + (xs.length : Int)) := by
  obtain ⟨ys, hl, _, h2, h3⟩ := markByteS_l xs.length xs 1 0 (by omega) (by omega) (by omega) (by omega) hn
  refine ⟨ys, Ev.congr (fun k => by unfold laws_markByteS.f; rfl) h3, Ev.congr (fun k => by unfold laws_heldByteS.f; rfl) (heldByteS_l ys (by omega) xs.length 1 0 (by omega) (by omega) (by omega) (by omega) (fun j j0 j1 => h2 j j0 (by omega)))⟩

theorem wraps_i64 (n : Int) (h0 : 0 ≤ n) (h : n < 2 ^ 63) : IntKind.i64.wrap n = n := by rw [IntKind.wrap_i64]; omega
theorem or256 {x y : Int} (hx0 : 0 ≤ x) (hx : x < 256) (hy0 : 0 ≤ y) (hy : y < 256) : Go.bits .or .i64 (x * 256) y = x * 256 + y :=
  bits_join .i64 63 (by decide) wraps_i64 8 (x * 256) y (by omega) (by omega) (by omega) hy0 (by omega) (by omega)

/-- The inner loops copy alike. -/
theorem expand_copy (xs : List Int) (most i c dist n : Int) (hc : n = c - 124) (hc0 : 124 ≤ c) (hc1 : c ≤ 255) (hd1 : 1 ≤ dist) (hdm : dist ≤ 1000000) (hm : most ≤ 60000) (d : Nat) : ∀ (out : List Int) (j : Int), 0 ≤ j → n - j = d → dist ≤ out.length → (out.length : Int) + (n - j) ≤ most →
    (∀ out' : List Int, (out'.length : Int) ≤ most → ∃ r : List Int × Bool, r.1.length ≤ 60000 ∧ Ev (fun k => impl_Expand.l0 k xs most out' i) r ∧ Ev (fun k => spec_Expand.l0 k xs most out' i) r) →
    ∃ r : List Int × Bool, r.1.length ≤ 60000 ∧ Ev (fun k => impl_Expand.l1 k xs most out i dist n j) r ∧ Ev (fun k => spec_Expand.l1 k xs most out i c dist j) r := by
  have ec : wrap64 (c - 124) = n := by rw [wrapI (by omega) (by omega), hc]
  induction d with
  | zero =>
    intro out j h0 hd hdo hl H
    obtain ⟨r, hr, h1, h2⟩ := H out (by omega)
    refine ⟨r, hr, Ev.step (fun k => ?_) h1, Ev.step (fun k => ?_) h2⟩
    · rw [impl_Expand.l1, if_neg (by omega)]
    · rw [spec_Expand.l1, ec, if_neg (by omega)]
  | succ d ih =>
    intro out j h0 hd hdo hl H
    have el : wrap64 ((out.length : Int) - dist) = (out.length : Int) - dist := wrapI (by omega) (by omega)
    have ej : wrap64 (j + 1) = j + 1 := wrapI (by omega) (by omega)
    obtain ⟨r, hr, h1, h2⟩ := ih (out ++ [rd out ((out.length : Int) - dist)]) (j + 1) (by omega) (by omega) (by simp; omega) (by simp; omega) H
    refine ⟨r, hr, Ev.step (fun k => ?_) h1, Ev.step (fun k => ?_) h2⟩
    · rw [impl_Expand.l1, if_pos (by omega), el, if_pos (by omega), if_pos (by omega), if_pos (by omega), ej]
    · rw [spec_Expand.l1, ec, if_pos (by omega), el, if_pos (by omega), if_pos (by omega), if_pos (by omega), ej]

theorem expand_l (xs : List Int) (most : Int) (hn : xs.length ≤ 1048576) (hx : ∀ i : Int, 0 ≤ i → i < xs.length → 0 ≤ rd xs i ∧ rd xs i < 256) (hm : most ≤ 60000) (d : Nat) : ∀ (out : List Int) (i : Int), 0 ≤ i → (xs.length : Int) - i ≤ d → (out.length : Int) ≤ most →
    ∃ r : List Int × Bool, r.1.length ≤ 60000 ∧ Ev (fun k => impl_Expand.l0 k xs most out i) r ∧ Ev (fun k => spec_Expand.l0 k xs most out i) r := by
  induction d with
  | zero =>
    intro out i h0 hd hl
    refine ⟨(out, true), (show out.length ≤ 60000 by omega), Ev.step (f := fun _ => some (out, true)) (fun k => ?_) (Ev.now _), Ev.step (f := fun _ => some (out, true)) (fun k => ?_) (Ev.now _)⟩
    · rw [impl_Expand.l0, if_neg (by omega)]
    · rw [spec_Expand.l0, if_neg (by omega)]
  | succ d ih =>
    intro out i h0 hd hl
    by_cases hi : i < xs.length
    · obtain ⟨c0, c1⟩ := hx i h0 hi
      generalize hc : rd xs i = c at c0 c1
      have ew : wrap64 c = c := wrapI (by omega) (by omega)
      have ei : wrap64 (i + 1) = i + 1 := wrapI (by omega) (by omega)
      by_cases h128 : c < 128
      · have e1 : wrap64 (wrap64 (i + 1 + c) + 1) = i + 1 + c + 1 := by rw [wrapI (x := i + 1 + c) (by omega) (by omega), wrapI (by omega) (by omega)]
        have e2 : wrap64 (wrap64 ((out.length : Int) + c) + 1) = (out.length : Int) + c + 1 := by rw [wrapI (x := (out.length : Int) + c) (by omega) (by omega), wrapI (by omega) (by omega)]
        have e3 : wrap64 (i + 1 + wrap64 (c + 1)) = i + 1 + c + 1 := by rw [wrapI (x := c + 1) (by omega) (by omega), wrapI (by omega) (by omega)]; omega
        by_cases ha : i + 1 + c + 1 > xs.length
        · refine ⟨([], false), by decide, Ev.step (f := fun _ => some ([], false)) (fun k => ?_) (Ev.now _), Ev.step (f := fun _ => some ([], false)) (fun k => ?_) (Ev.now _)⟩
          · rw [impl_Expand.l0, if_pos hi, if_pos h0, hc, ew, if_pos h128, ei, e1, if_pos ha]
          · rw [spec_Expand.l0, if_pos hi, if_pos h0, hc, ew, if_pos h128, ei, e1, if_pos ha]
        · by_cases hb : (out.length : Int) + c + 1 > most
          · refine ⟨([], false), by decide, Ev.step (f := fun _ => some ([], false)) (fun k => ?_) (Ev.now _), Ev.step (f := fun _ => some ([], false)) (fun k => ?_) (Ev.now _)⟩
            · rw [impl_Expand.l0, if_pos hi, if_pos h0, hc, ew, if_pos h128, ei, e1, if_neg ha, e2, if_pos hb]
            · rw [spec_Expand.l0, if_pos hi, if_pos h0, hc, ew, if_pos h128, ei, e1, if_neg ha, e2, if_pos hb]
          · have el : ((xs.take (i + 1 + c + 1).toNat).drop (i + 1).toNat).length = (c + 1).toNat := by simp; omega
            obtain ⟨r, hr, h1, h2⟩ := ih (out ++ ((xs.take (i + 1 + c + 1).toNat).drop (i + 1).toNat)) (i + 1 + c + 1) (by omega) (by omega) (by rw [List.length_append, el]; omega)
            refine ⟨r, hr, Ev.step (fun k => ?_) h1, Ev.step (fun k => ?_) h2⟩
            · rw [impl_Expand.l0, if_pos hi, if_pos h0, hc, ew, if_pos h128, ei, e1, if_neg ha, e2, if_neg hb, if_pos (by omega), if_pos (by omega), if_pos (by omega), if_pos (by rw [el]; omega), e3]
            · rw [spec_Expand.l0, if_pos hi, if_pos h0, hc, ew, if_pos h128, ei, e1, if_neg ha, e2, if_neg hb, if_pos (by omega), if_pos (by omega), if_pos (by omega), if_pos (by rw [el]; omega)]
      · have e4 : wrap64 (i + 1 + 2) = i + 1 + 2 := wrapI (by omega) (by omega)
        have s1 : ∀ k, impl_Expand.l0 (k + 1) xs most out i = impl_Expand.j2 k xs most out (i + 1) c (decide (c > 191 ∨ i + 1 + 2 > xs.length)) := by
          intro k; rw [impl_Expand.l0, if_pos hi, if_pos h0, hc, ew, if_neg h128, ei, e4]
          by_cases h : c > 191
          · rw [if_pos h, decide_eq_true (Or.inl h)]
          · rw [if_neg h]; congr 1; simp [h]
        have t1 : ∀ k, spec_Expand.l0 (k + 1) xs most out i = spec_Expand.j1 k xs most out (i + 1) c (decide (c > 191 ∨ i + 1 + 2 > xs.length)) := by
          intro k; rw [spec_Expand.l0, if_pos hi, if_pos h0, hc, ew, if_neg h128, ei, e4]
          by_cases h : c > 191
          · rw [if_pos h, decide_eq_true (Or.inl h)]
          · rw [if_neg h]; congr 1; simp [h]
        by_cases hbad : c > 191 ∨ i + 1 + 2 > xs.length
        · rw [decide_eq_true hbad] at s1 t1
          refine ⟨([], false), by decide, Ev.step s1 (Ev.step (f := fun _ => some ([], false)) (fun k => ?_) (Ev.now _)), Ev.step t1 (Ev.step (f := fun _ => some ([], false)) (fun k => ?_) (Ev.now _))⟩
          · rw [impl_Expand.j2, if_pos rfl]
          · rw [spec_Expand.j1, if_pos rfl]
        · rw [decide_eq_false hbad] at s1 t1
          obtain ⟨x0, x1⟩ := hx (i + 1) (by omega) (by omega)
          obtain ⟨y0, y1⟩ := hx (i + 1 + 1) (by omega) (by omega)
          generalize hxx : rd xs (i + 1) = x at x0 x1
          generalize hyy : rd xs (i + 1 + 1) = y at y0 y1
          have ei2 : wrap64 (i + 1 + 1) = i + 1 + 1 := wrapI (by omega) (by omega)
          have ex : wrap64 (wrap64 x * 256) = x * 256 := by rw [wrapI (x := x) (by omega) (by omega), wrapI (by omega) (by omega)]
          have ey : wrap64 y = y := wrapI (by omega) (by omega)
          have ed1 : wrap64 (Go.bits .or .i64 (x * 256) y + 1) = x * 256 + y + 1 := by rw [or256 x0 x1 y0 y1, wrapI (by omega) (by omega)]
          have ed2 : wrap64 (wrap64 (x * 256 + y) + 1) = x * 256 + y + 1 := by rw [wrapI (x := x * 256 + y) (by omega) (by omega), wrapI (by omega) (by omega)]
          have en : wrap64 (c - 124) = c - 124 := wrapI (by omega) (by omega)
          have ei3 : wrap64 (i + 1 + 2) = i + 1 + 2 := e4
          have el1 : wrap64 ((out.length : Int) + (c - 124)) = (out.length : Int) + c - 124 := by rw [wrapI (by omega) (by omega)]; omega
          have el2 : wrap64 (wrap64 ((out.length : Int) + c) - 124) = (out.length : Int) + c - 124 := by rw [wrapI (x := (out.length : Int) + c) (by omega) (by omega), wrapI (by omega) (by omega)]
          have s2 : ∀ k, impl_Expand.j2 (k + 1) xs most out (i + 1) c false = impl_Expand.j3 k xs most out (i + 1 + 2) (c - 124) (x * 256 + y + 1) (decide (x * 256 + y + 1 > out.length ∨ (out.length : Int) + c - 124 > most)) := by
            intro k; rw [impl_Expand.j2, if_neg (by decide), if_pos (by omega), if_pos (by omega), ei2, if_pos (by omega), if_pos (by omega), hxx, hyy, ex, ey, ed1, en, ei3, el1]
            by_cases h : x * 256 + y + 1 > out.length
            · rw [if_pos h, decide_eq_true (Or.inl h)]
            · rw [if_neg h]; congr 1; simp [h]
          have t2 : ∀ k, spec_Expand.j1 (k + 1) xs most out (i + 1) c false = spec_Expand.j2 k xs most out (i + 1 + 2) c (x * 256 + y + 1) (decide (x * 256 + y + 1 > out.length ∨ (out.length : Int) + c - 124 > most)) := by
            intro k; rw [spec_Expand.j1, if_neg (by decide), if_pos (by omega), if_pos (by omega), ei2, if_pos (by omega), if_pos (by omega), hxx, hyy, ex, ey, ed2, ei3, el2]
            by_cases h : x * 256 + y + 1 > out.length
            · rw [if_pos h, decide_eq_true (Or.inl h)]
            · rw [if_neg h]; congr 1; simp [h]
          by_cases hbad2 : x * 256 + y + 1 > out.length ∨ (out.length : Int) + c - 124 > most
          · rw [decide_eq_true hbad2] at s2 t2
            refine ⟨([], false), by decide, Ev.step s1 (Ev.step s2 (Ev.step (f := fun _ => some ([], false)) (fun k => ?_) (Ev.now _))), Ev.step t1 (Ev.step t2 (Ev.step (f := fun _ => some ([], false)) (fun k => ?_) (Ev.now _)))⟩
            · rw [impl_Expand.j3, if_pos rfl]
            · rw [spec_Expand.j2, if_pos rfl]
          · rw [decide_eq_false hbad2] at s2 t2
            obtain ⟨r, hr, h1, h2⟩ := expand_copy xs most (i + 1 + 2) c (x * 256 + y + 1) (c - 124) rfl (by omega) (by omega) (by omega) (by omega) hm (c - 124).toNat out 0 (by omega) (by omega) (by omega) (by omega) (fun out' hl' => ih out' (i + 1 + 2) (by omega) (by omega) hl')
            refine ⟨r, hr, Ev.step s1 (Ev.step s2 (Ev.step (fun k => ?_) h1)), Ev.step t1 (Ev.step t2 (Ev.step (fun k => ?_) h2))⟩
            · rw [impl_Expand.j3, if_neg (by decide)]
            · rw [spec_Expand.j2, if_neg (by decide)]
    · refine ⟨(out, true), (show out.length ≤ 60000 by omega), Ev.step (f := fun _ => some (out, true)) (fun k => ?_) (Ev.now _), Ev.step (f := fun _ => some (out, true)) (fun k => ?_) (Ev.now _)⟩
      · rw [impl_Expand.l0, if_neg hi]
      · rw [spec_Expand.l0, if_neg hi]

theorem expand_len (xs : List Int) (most : Int) (hn : xs.length ≤ 1048576) (hx : ∀ i : Int, 0 ≤ i → i < xs.length → 0 ≤ rd xs i ∧ rd xs i < 256) :
    ∃ r : List Int × Bool, r.1.length ≤ 60000 ∧ Ev (fun k => impl_Expand.f k xs most) r ∧ Ev (fun k => spec_Expand.f k xs most) r := by
  have es : spec_l1In.f most 0 60000 = some (decide (0 ≤ most ∧ most ≤ 60000)) := by
    unfold spec_l1In.f
    by_cases h : most ≥ 0
    · rw [if_pos h]; congr 1; simp; omega
    · rw [if_neg h, decide_eq_false (by omega)]
  have ei : ∀ k, impl_Expand.f k xs most = impl_Expand.j0 k xs most (!(decide (0 ≤ most ∧ most ≤ 60000))) := by
    intro k; unfold impl_Expand.f
    by_cases h : most < 0
    · rw [if_pos h, decide_eq_false (by omega)]; rfl
    · rw [if_neg h]; congr 1
      by_cases h2 : most > 60000
      · rw [decide_eq_true h2, decide_eq_false (by omega)]; rfl
      · rw [decide_eq_false h2, decide_eq_true (by omega)]; rfl
  have et : ∀ k, spec_Expand.f k xs most = if decide (0 ≤ most ∧ most ≤ 60000) = true then spec_Expand.l0 k xs most [] 0 else some ([], false) := by
    intro k; unfold spec_Expand.f; rw [es]; simp only [Option.bind_some]
  by_cases h : 0 ≤ most ∧ most ≤ 60000
  · rw [decide_eq_true h] at ei et
    obtain ⟨r, hr, h1, h2⟩ := expand_l xs most hn hx h.2 xs.length [] 0 (by omega) (by omega) (by simpa using h.1)
    refine ⟨r, hr, Ev.congr ei (Ev.step (fun k => ?_) h1), Ev.congr (fun k => ?_) h2⟩
    · rw [impl_Expand.j0, if_neg (by decide)]
    · rw [et, if_pos rfl]
  · rw [decide_eq_false h] at ei et
    refine ⟨([], false), by decide, Ev.congr ei (Ev.step (f := fun _ => some ([], false)) (fun k => ?_) (Ev.now _)), Ev.congr (f := fun _ => some ([], false)) (fun k => ?_) (Ev.now _)⟩
    · rw [impl_Expand.j0]; rfl
    · rw [et, if_neg (by decide)]


theorem FnExactExpand : laws_FnExactExpand.Pure := by
  intro xs most hn hm hx ha
  have hx' : ∀ i : Int, 0 ≤ i → i < xs.length → 0 ≤ rd xs i ∧ rd xs i < 256 := by
    intro i h0 h1
    have : rd xs i ∈ xs := by
      unfold rd
      rw [List.getD_eq_getElem?_getD, List.getElem?_eq_getElem (by omega)]
      exact List.getElem_mem _
    have := hx _ this
    simp [Lit.wf, IntKind.min, IntKind.max, IntKind.bits, IntKind.signed] at this
    omega
  refine Ev.rounds (?_ : Ev (fun k => laws_FnExactExpand.f k xs most) true)
  unfold laws_FnExactExpand.f
  by_cases hb : (xs.length : Int) > 1048576
  · simpa only [if_pos hb] using Ev.now true
  · simp only [if_neg hb]
    obtain ⟨r, hr, h1, h2⟩ := expand_len xs most (by omega) hx'
    obtain ⟨m1, a1, a2⟩ := markByteS_ev xs (by omega)
    obtain ⟨m2, b1, b2⟩ := markByteS_ev r.1 (by omega)
    have hto := toByteS_ev xs (by omega)
    have heq := eqByteS_ev xs (by omega)
    have her := eqByteS_ev r.1 (by omega)
    refine Ev.bind hto (Ev.bind h2 (Ev.bind hto (Ev.bind h1 (Ev.bind her ?_))))
    simp only [if_true, bne_self_eq_false]
    refine Ev.step (fun k => by rw [laws_FnExactExpand.j0, if_neg (by decide)]) (Ev.bind hto (Ev.bind heq ?_))
    simp only [if_true]
    refine Ev.bind a1 ?_
    simp only [if_neg (show ¬ (1 + (xs.length : Int) < 0) by omega)]
    refine Ev.bind her ?_
    simp only [if_true, bne_self_eq_false]
    refine Ev.step (fun k => by rw [laws_FnExactExpand.j1, if_neg (by decide)]) (Ev.bind b1 (Ev.bind b2 ?_))
    simp only [if_neg (show ¬ (1 + (r.1.length : Int) < 0) by omega), if_true]
    refine Ev.bind hto (Ev.bind h1 (Ev.bind her ?_))
    simp only [if_true, bne_self_eq_false]
    refine Ev.step (fun k => by rw [laws_FnExactExpand.j2, if_neg (by decide)]) (Ev.bind b2 ?_)
    simp only [if_neg (show ¬ (1 + (r.1.length : Int) < 0) by omega), if_true]
    exact Ev.now true

end Go.Proofs.Ytoglalgbjobpkaa.Pure
