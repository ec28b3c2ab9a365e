/-
FnExactGetInt: for every byte slice and place the law answers true: the program's GetInt answers as the reference's, and leaves its argument as it was.
Conditions: none beyond the statement's own.
-/
import Derived.Test.YtoglalgbjobpkaaPFnExactGetIntx2
namespace Go.Proofs.Ytoglalgbjobpkaa.Pure
set_option linter.unusedSimpArgs false
set_option linter.unusedVariables false
open Go.RowKit Go.Proofs.Ytoglalgbjobpkaa.PFnExactGetInt Go.Proofs.YtoglalgbjobpkaaW.PrintWords Go.Proofs.YtoglalgbjobpkaaW.PrintLast Go.Proofs.YtoglalgbjobpkaaW.PrintMore

theorem wrapI {x : Int} (h0 : -9223372036854775808 ≤ x) (h : x ≤ 9223372036854775807) : wrap64 x = x := by
  unfold wrap64; omega

theorem rd_set_self (xs : List Int) (i v : Int) (h0 : 0 ≤ i) (h : i < xs.length) : rd (xs.set i.toNat v) i = v := by
  unfold rd; rw [List.getD_eq_getElem?_getD, List.getElem?_set_self (by omega)]; rfl
theorem rd_set_ne (xs : List Int) (i j v : Int) (h0 : 0 ≤ i) (hj : 0 ≤ j) (h : i ≠ j) : rd (xs.set i.toNat v) j = rd xs j := by
  unfold rd; rw [List.getD_eq_getElem?_getD, List.getElem?_set_ne (by omega), List.getD_eq_getElem?_getD]
theorem rd_ext (xs ys : List Int) (hl : xs.length = ys.length) (h : ∀ j : Int, 0 ≤ j → j < xs.length → rd xs j = rd ys j) : xs = ys := by
  apply List.ext_getElem hl
  intro i h1 h2
  have := h i (by omega) (by omega)
  unfold rd at this
  simpa [List.getD_eq_getElem?_getD, List.getElem?_eq_getElem h1, List.getElem?_eq_getElem h2] using this

theorem eqByteS_l (xs : List Int) (hn : xs.length ≤ 140737488355328) (d : Nat) : ∀ (i : Int), 0 ≤ i → (xs.length : Int) - i = d →
    Ev (fun k => laws_eqByteS.l0 k xs xs i) true := by
  induction d with
  | zero =>
    intro i h0 hd
    refine Ev.step (f := fun _ => some true) (fun k => ?_) (Ev.now _)
    rw [laws_eqByteS.l0, if_neg (by omega)]
  | succ d ih =>
    intro i h0 hd
    refine Ev.step (fun k => ?_) (ih (i + 1) (by omega) (by omega))
    rw [laws_eqByteS.l0, if_pos (by omega), if_pos h0, if_pos (by omega), if_pos rfl, wrapI (by omega) (by omega)]
theorem eqByteS_ev (xs : List Int) (hn : xs.length ≤ 140737488355328) : Ev (fun k => laws_eqByteS.f k xs xs) true := by
  refine Ev.congr (fun k => ?_) (eqByteS_l xs hn xs.length 0 (by omega) (by omega))
  unfold laws_eqByteS.f; rw [if_pos rfl]

theorem toByteS_l (xs : List Int) (hn : xs.length ≤ 140737488355328) (d : Nat) : ∀ (i : Int) (ys : List Int), 0 ≤ i → (xs.length : Int) - i = d → ys.length = xs.length → (∀ j : Int, 0 ≤ j → j < i → rd ys j = rd xs j) →
    Ev (fun k => laws_toByteS.l0 k xs ys i) xs := by
  induction d with
  | zero =>
    intro i ys h0 hd hl hy
    obtain rfl : ys = xs := rd_ext ys xs hl (fun j h1 h2 => hy j h1 (by omega))
    refine Ev.step (f := fun _ => some ys) (fun k => ?_) (Ev.now _)
    rw [laws_toByteS.l0, if_neg (by omega)]
  | succ d ih =>
    intro i ys h0 hd hl hy
    refine Ev.step (fun k => ?_) (ih (i + 1) (ys.set i.toNat (rd xs i)) (by omega) (by omega) (by simpa using hl) ?_)
    · rw [laws_toByteS.l0, if_pos (by omega), if_pos h0, if_pos (by omega), wrapI (by omega) (by omega)]
    · intro j h1 h2
      by_cases e : i = j
      · subst e; rw [rd_set_self _ _ _ h0 (by omega)]
      · rw [rd_set_ne _ _ _ _ h0 h1 e]; exact hy j h1 (by omega)
theorem toByteS_ev (xs : List Int) (hn : xs.length ≤ 140737488355328) : Ev (fun k => laws_toByteS.f k xs) xs := by
  refine Ev.congr (fun k => ?_) (toByteS_l xs hn xs.length 0 (List.replicate xs.length 0) (by omega) (by omega) (by simp) (fun j h1 h2 => by omega))
  unfold laws_toByteS.f; rw [if_pos (by omega), if_pos (by omega)]; rfl

theorem tmod_pos {a b : Int} (h : 0 ≤ a) : Int.tmod a b = a % b := Int.tmod_eq_emod_of_nonneg h
theorem tdiv_pos {a b : Int} (h : 0 ≤ a) : Int.tdiv a b = a / b := Int.tdiv_eq_ediv_of_nonneg h
theorem wrapU {x : Int} (h0 : 0 ≤ x) (h : x < 18446744073709551616) : IntKind.u64.wrap x = x := by
  simp [IntKind.wrap, IntKind.bits, IntKind.signed]; omega
theorem and127 {c : Int} (h0 : 0 ≤ c) (h : c < 256) : Go.bits .and .u8 c 127 = c % 128 := bits_mask .u8 8 (by decide) wraps_u8 7 (by decide) c h0 h
theorem wraps_u64 (n : Int) (h0 : 0 ≤ n) (h : n < 2 ^ 64) : IntKind.u64.wrap n = n := wrapU h0 (by omega)
theorem and1 {u : Int} (h0 : 0 ≤ u) (h : u < 18446744073709551616) : Go.bits .and .u64 u 1 = u % 2 := bits_mask .u64 64 (by decide) wraps_u64 1 (by decide) u h0 (by omega)
/-- One group more, put in by or: the sum. -/
theorem or_join (i : Nat) (x c : Int) (hx0 : 0 ≤ x) (hx : x < 2 ^ i) (hc0 : 0 ≤ c) (hc : c * 2 ^ i < 2 ^ 64) (hi : i ≤ 64) : Go.bits .or .u64 x (c * 2 ^ i) = x + c * 2 ^ i := by
  have hp : (2 : Int) ^ i ≤ 2 ^ 64 := by
    have := Nat.pow_le_pow_right (n := 2) (by decide) hi
    exact_mod_cast this
  obtain ⟨a, rfl⟩ := Int.eq_ofNat_of_zero_le hx0
  obtain ⟨b, rfl⟩ := Int.eq_ofNat_of_zero_le hc0
  have ha : a < 2 ^ i := by exact_mod_cast hx
  have hb : b * 2 ^ i < 2 ^ 64 := by exact_mod_cast hc
  have hp' : 2 ^ i ≤ 2 ^ 64 := Nat.pow_le_pow_right (by decide) hi
  have h := (bits_nat .u64 64 (by decide) wraps_u64 a (b * 2 ^ i) (by omega) hb).2
  have h2 : a ||| b * 2 ^ i = a + b * 2 ^ i := by
    rw [Nat.or_comm, Nat.mul_comm, ← Nat.two_pow_add_eq_or_of_lt ha b, Nat.add_comm]
  rw [h2] at h
  push_cast at h ⊢
  exact h
theorem xor_neg {n : Int} (h0 : 0 ≤ n) (h : n < 9223372036854775808) : Go.bits .xor .i64 (-1) n = -n - 1 := by
  obtain ⟨a, rfl⟩ := Int.eq_ofNat_of_zero_le h0
  have e : (BitVec.ofInt 64 (-1) ^^^ BitVec.ofInt 64 (a : Int)) = ~~~ (BitVec.ofNat 64 a) := by
    rw [show BitVec.ofInt 64 (-1) = BitVec.allOnes 64 by decide, BitVec.ofInt_natCast, BitVec.allOnes_xor]
  show IntKind.i64.wrap (((BitVec.ofInt 64 (-1) ^^^ BitVec.ofInt 64 (a : Int)).toNat : Nat) : Int) = _
  rw [e, BitVec.toNat_not, BitVec.toNat_ofNat, IntKind.wrap_i64]
  omega

theorem pow7 (m : Nat) (hm : m ≤ 8) : (128 : Int) * 2 ^ (7 * m) = 2 ^ (7 * (m + 1)) ∧ (1 : Int) ≤ 2 ^ (7 * m) ∧ (2 : Int) ^ (7 * (m + 1)) ≤ 9223372036854775808 := by
  refine ⟨?_, ?_, ?_⟩
  · rw [Nat.mul_add, Int.pow_add]; omega
  · have := Nat.two_pow_pos (7 * m); exact_mod_cast this
  · have h := Nat.pow_le_pow_right (n := 2) (by decide) (show 7 * (m + 1) ≤ 63 by omega)
    have h2 : (2 : Nat) ^ 63 = 9223372036854775808 := by decide
    rw [h2] at h
    have h3 : ((2 ^ (7 * (m + 1)) : Nat) : Int) ≤ ((9223372036854775808 : Nat) : Int) := Int.ofNat_le.2 h
    rw [Int.natCast_pow] at h3
    exact h3

def p7 (m : Nat) : Int := 2 ^ (7 * m)

/-- The group at place m, put in: what the program and the reference reckon, and how much it is. -/
theorem group (m : Nat) (u c : Int) (hm : m ≤ 9) (hu0 : 0 ≤ u) (hu' : u < p7 m) (hc0 : 0 ≤ c) (hc : c < 256) (h9 : m = 9 → c ≤ 1) :
    ∃ u', 0 ≤ u' ∧ u' < 18446744073709551616 ∧ (m ≤ 8 → u' < p7 (m + 1)) ∧
      Go.bits .or .u64 u (shl .u64 (IntKind.u64.wrap (Go.bits .and .u8 c 127)) (wrap64 (7 * (m : Int)))) = u' ∧
      IntKind.u64.wrap (u + (shl .u64 (IntKind.u64.wrap (Int.tmod c 128)) (IntKind.u64.wrap (wrap64 (7 * (m : Int)))))) = u' := by
  have hu : u < 2 ^ (7 * m) := hu'
  have e7 : wrap64 (7 * (m : Int)) = ((7 * m : Nat) : Int) := by rw [wrapI (by omega) (by omega)]; omega
  have v0 : 0 ≤ c % 128 := by omega
  have ew : IntKind.u64.wrap (c % 128) = c % 128 := wrapU v0 (by omega)
  have ew7 : IntKind.u64.wrap ((7 * m : Nat) : Int) = ((7 * m : Nat) : Int) := wrapU (by omega) (by omega)
  have hmin : min (7 * m) IntKind.u64.bits = 7 * m := Nat.min_eq_left (show 7 * m ≤ 64 by omega)
  have key : 0 ≤ c % 128 * 2 ^ (7 * m) ∧ u + c % 128 * 2 ^ (7 * m) < 18446744073709551616 ∧ (m ≤ 8 → u + c % 128 * 2 ^ (7 * m) < 2 ^ (7 * (m + 1))) := by
    by_cases h8 : m ≤ 8
    · obtain ⟨p1, p2, p3⟩ := pow7 m h8
      have h1 : c % 128 * 2 ^ (7 * m) ≤ 127 * 2 ^ (7 * m) := Int.mul_le_mul_of_nonneg_right (by omega) (by omega)
      have h0 : 0 ≤ c % 128 * 2 ^ (7 * m) := Int.mul_nonneg v0 (by omega)
      refine ⟨h0, by omega, fun _ => by omega⟩
    · obtain rfl : m = 9 := by omega
      have := h9 rfl
      refine ⟨by omega, by omega, fun h => absurd h (by omega)⟩
  refine ⟨u + c % 128 * 2 ^ (7 * m), by omega, key.2.1, key.2.2, ?_, ?_⟩
  · rw [and127 hc0 hc, ew, e7]
    unfold shl
    rw [Int.toNat_natCast, hmin, wrapU key.1 (by omega)]
    exact or_join (7 * m) u (c % 128) hu0 hu v0 (by have := key.2.1; omega) (by omega)
  · rw [tmod_pos hc0, ew, e7, ew7]
    unfold shl
    rw [Int.toNat_natCast, hmin, wrapU key.1 (by omega), wrapU (by omega) key.2.1]

theorem back_same (u : Int) (hu0 : 0 ≤ u) (hu : u < 18446744073709551616) (n : Int) :
    (if Go.bits .and .u64 u 1 = 1 then some (Go.bits .xor .i64 (-1) (wrap64 (u / 2)), n, true) else some (wrap64 (u / 2), n, true)) =
    (if Int.tmod u 2 = 1 then some (wrap64 ((wrap64 (-(wrap64 (IntKind.u64.wrap (Int.tdiv u 2))))) - 1), n, true) else some (wrap64 (IntKind.u64.wrap (Int.tdiv u 2)), n, true)) := by
  rw [and1 hu0 hu, tmod_pos hu0, tdiv_pos hu0, wrapU (by omega) (by omega), wrapI (x := u / 2) (by omega) (by omega), xor_neg (by omega) (by omega), wrapI (x := -(u / 2)) (by omega) (by omega), wrapI (x := -(u / 2) - 1) (by omega) (by omega)]

theorem getint_l (xs : List Int) (a : Int) (ha : 0 ≤ a) (hn : xs.length ≤ 140737488355328) (hx : ∀ x ∈ xs, 0 ≤ x ∧ x < 256) (hal : a ≤ xs.length) (d : Nat) : ∀ (m : Nat) (u : Int), m + d = 10 → 0 ≤ u → (m ≤ 9 → u < p7 m) →
    ∃ r, Ev (fun k => impl_GetInt.l0 k xs a u m) r ∧ Ev (fun k => spec_GetInt.l0 k xs a u m) r := by
  induction d with
  | zero =>
    intro m u hm hu0 hu
    refine ⟨(0, 0, false), ?_, ?_⟩
    · refine Ev.step (fun k => ?_) (Ev.step (f := fun _ => some (0, 0, false)) (g := fun k => impl_GetInt.j2 k xs a u m false) (fun k => ?_) (Ev.now _))
      · rw [impl_GetInt.l0, if_neg (by omega)]
      · rw [impl_GetInt.j2, if_neg (by decide)]
    · refine Ev.step (f := fun _ => some (0, 0, false)) (fun k => ?_) (Ev.now _)
      rw [spec_GetInt.l0, if_neg (by omega)]
  | succ d ih =>
    intro m u hm hu0 hu
    have ew : wrap64 (a + (m : Int)) = a + m := wrapI (by omega) (by omega)
    have e70 : (0 : Int) ≤ 7 * (m : Int) := by omega
    by_cases hlt : a + (m : Int) < xs.length
    · -- there is a byte
      have hc : 0 ≤ rd xs (a + m) ∧ rd xs (a + m) < 256 := by
        unfold rd
        rw [List.getD_eq_getElem?_getD, List.getElem?_eq_getElem (by omega)]
        exact hx _ (List.getElem_mem _)
      generalize hcc : rd xs (a + m) = c at hc
      have s1 : ∀ k, impl_GetInt.l0 (k + 1) xs a u m = impl_GetInt.j2 k xs a u m true := by
        intro k; rw [impl_GetInt.l0, if_pos (by omega), ew, decide_eq_true hlt]
      have s2 : ∀ k, impl_GetInt.j2 (k + 1) xs a u m true = impl_GetInt.j3 k xs a u m c (decide ((m : Int) = 9 ∧ c > 1)) := by
        intro k; rw [impl_GetInt.j2, if_pos rfl, ew, if_pos (by omega), if_pos hlt, hcc]
        by_cases h9 : (m : Int) = 9 <;> simp [h9]
      have t1 : ∀ k, spec_GetInt.l0 (k + 1) xs a u m = spec_GetInt.j2 k xs a u m c (decide ((m : Int) = 9 ∧ c > 1)) := by
        intro k; rw [spec_GetInt.l0, if_pos (by omega), ew, if_neg (by omega), if_pos (by omega), if_pos hlt, hcc]
        by_cases h9 : (m : Int) = 9 <;> simp [h9]
      by_cases hbad : (m : Int) = 9 ∧ c > 1
      · rw [decide_eq_true hbad] at s2 t1
        refine ⟨(0, 0, false), ?_, ?_⟩
        · refine Ev.step s1 (Ev.step s2 (Ev.step (f := fun _ => some (0, 0, false)) (fun k => ?_) (Ev.now _)))
          rw [impl_GetInt.j3, if_pos rfl]
        · refine Ev.step t1 (Ev.step (f := fun _ => some (0, 0, false)) (fun k => ?_) (Ev.now _))
          rw [spec_GetInt.j2, if_pos rfl]
      · rw [decide_eq_false hbad] at s2 t1
        obtain ⟨u', hu'0, hu'64, hu'n, e1, e2⟩ := group m u c (by omega) hu0 (hu (by omega)) hc.1 hc.2 (by omega)
        have e7 : wrap64 (7 * (m : Int)) = 7 * m := wrapI (by omega) (by omega)
        have e7' : IntKind.u64.wrap (7 * (m : Int)) = 7 * m := wrapU (by omega) (by omega)
        by_cases hlow : c < 128
        · have s3 : ∀ k, impl_GetInt.j3 (k + 1) xs a u m c false = impl_GetInt.j4 k a u' m (decide ((m : Int) > 0 ∧ c = 0)) := by
            intro k; rw [impl_GetInt.j3, if_neg (by decide), if_pos (by rw [e7]; exact e70), if_pos hlow, e1]
            by_cases h : (m : Int) > 0
            · rw [if_pos h]; congr 1
              by_cases h0 : c = 0
              · rw [decide_eq_true (show (m : Int) > 0 ∧ c = 0 from ⟨h, h0⟩)]; simp [h0]
              · rw [decide_eq_false (by omega)]; simp [h0]
            · rw [if_neg h, decide_eq_false (by omega)]
          have t2 : ∀ k, spec_GetInt.j2 (k + 1) xs a u m c false = spec_GetInt.j3 k a u' m (decide ((m : Int) > 0 ∧ c = 0)) := by
            intro k; rw [spec_GetInt.j2, if_neg (by decide), if_pos (by rw [e7, e7']; exact e70), if_pos hlow, e2]
            by_cases h : c = 0
            · rw [if_pos h]; congr 1
              by_cases h0 : (m : Int) > 0
              · rw [decide_eq_true h0, decide_eq_true ⟨h0, h⟩]
              · rw [decide_eq_false h0, decide_eq_false (fun x => h0 x.1)]
            · rw [if_neg h, decide_eq_false (fun x => h x.2)]
          by_cases hz : (m : Int) > 0 ∧ c = 0
          · rw [decide_eq_true hz] at s3 t2
            refine ⟨(0, 0, false), Ev.step s1 (Ev.step s2 (Ev.step s3 (Ev.step (f := fun _ => some (0, 0, false)) (fun k => ?_) (Ev.now _)))), Ev.step t1 (Ev.step t2 (Ev.step (f := fun _ => some (0, 0, false)) (fun k => ?_) (Ev.now _)))⟩
            · rw [impl_GetInt.j4, if_pos rfl]
            · rw [spec_GetInt.j3, if_pos rfl]
          · rw [decide_eq_false hz] at s3 t2
            have hb := back_same u' hu'0 hu'64 (wrap64 ((wrap64 (a + m)) + 1))
            obtain ⟨r, hr⟩ : ∃ r, (if Int.tmod u' 2 = 1 then some (wrap64 ((wrap64 (-(wrap64 (IntKind.u64.wrap (Int.tdiv u' 2))))) - 1), wrap64 ((wrap64 (a + m)) + 1), true) else some (wrap64 (IntKind.u64.wrap (Int.tdiv u' 2)), wrap64 ((wrap64 (a + m)) + 1), true)) = some r := by split <;> exact ⟨_, rfl⟩
            refine ⟨r, Ev.step s1 (Ev.step s2 (Ev.step s3 (Ev.step (f := fun _ => some r) (fun k => ?_) (Ev.now _)))), Ev.step t1 (Ev.step t2 (Ev.step (f := fun _ => some r) (fun k => ?_) (Ev.now _)))⟩
            · rw [impl_GetInt.j4, if_neg (by decide), hb, hr]
            · rw [spec_GetInt.j3, if_neg (by decide), hr]
        · have em : wrap64 ((m : Int) + 1) = ((m + 1 : Nat) : Int) := by rw [wrapI (by omega) (by omega)]; omega
          obtain ⟨r, h1, h2⟩ := ih (m + 1) u' (by omega) hu'0 (fun h => hu'n (Nat.le_of_succ_le_succ h))
          refine ⟨r, Ev.step s1 (Ev.step s2 (Ev.step (fun k => ?_) h1)), Ev.step t1 (Ev.step (fun k => ?_) h2)⟩
          · rw [impl_GetInt.j3, if_neg (by decide), if_pos (by rw [e7]; exact e70), if_neg hlow, e1, em]
          · rw [spec_GetInt.j2, if_neg (by decide), if_pos (by rw [e7, e7']; exact e70), if_neg hlow, e2, em]
    · refine ⟨(0, 0, false), ?_, ?_⟩
      · refine Ev.step (fun k => ?_) (Ev.step (f := fun _ => some (0, 0, false)) (g := fun k => impl_GetInt.j2 k xs a u m false) (fun k => ?_) (Ev.now _))
        · rw [impl_GetInt.l0, if_pos (by omega), ew, decide_eq_false hlt]
        · rw [impl_GetInt.j2, if_neg (by decide)]
      · refine Ev.step (f := fun _ => some (0, 0, false)) (fun k => ?_) (Ev.now _)
        rw [spec_GetInt.l0, if_pos (by omega), ew, if_pos (by omega)]

theorem getint (xs : List Int) (a : Int) (hn : xs.length ≤ 140737488355328) (hx : ∀ x ∈ xs, 0 ≤ x ∧ x < 256) :
    ∃ r, Ev (fun k => impl_GetInt.f k xs a) r ∧ Ev (fun k => spec_GetInt.f k xs a) r := by
  by_cases hb : a < 0 ∨ a > xs.length
  · refine ⟨(0, 0, false), ?_, ?_⟩
    · refine Ev.congr (f := fun k => impl_GetInt.j0 k xs a true) (fun k => ?_) (Ev.step (f := fun _ => some (0, 0, false)) (fun k => ?_) (Ev.now _))
      · unfold impl_GetInt.f
        by_cases h : a < 0
        · rw [if_pos h]
        · rw [if_neg h, decide_eq_true (by omega)]
      · rw [impl_GetInt.j0, if_pos rfl]
    · refine Ev.congr (f := fun k => spec_GetInt.j0 k xs a true) (fun k => ?_) (Ev.step (f := fun _ => some (0, 0, false)) (fun k => ?_) (Ev.now _))
      · unfold spec_GetInt.f
        by_cases h : a < 0
        · rw [if_pos h]
        · rw [if_neg h, decide_eq_true (by omega)]
      · rw [spec_GetInt.j0, if_pos rfl]
  · obtain ⟨r, h1, h2⟩ := getint_l xs a (by omega) hn hx (by omega) 10 0 0 rfl (by decide) (by decide)
    refine ⟨r, ?_, ?_⟩
    · refine Ev.congr (f := fun k => impl_GetInt.j0 k xs a false) (fun k => ?_) (Ev.step (fun k => ?_) h1)
      · unfold impl_GetInt.f; rw [if_neg (by omega), decide_eq_false (by omega)]
      · rw [impl_GetInt.j0, if_neg (by decide)]; rfl
    · refine Ev.congr (f := fun k => spec_GetInt.j0 k xs a false) (fun k => ?_) (Ev.step (fun k => ?_) h2)
      · unfold spec_GetInt.f; rw [if_neg (by omega), decide_eq_false (by omega)]
      · rw [spec_GetInt.j0, if_neg (by decide)]; rfl

theorem FnExactGetInt : laws_FnExactGetInt.Pure := by
  intro xs a hn hm hx ha
  have hx' : ∀ x ∈ xs, 0 ≤ x ∧ x < 256 := by
    intro x h
    have := hx x h
    simp [Lit.wf, IntKind.min, IntKind.max, IntKind.bits, IntKind.signed] at this
    omega
  refine Ev.rounds (?_ : Ev (fun k => laws_FnExactGetInt.f k xs a) true)
  unfold laws_FnExactGetInt.f
  by_cases hb : (xs.length : Int) > 1048576
  · simpa only [if_pos hb] using Ev.now true
  · simp only [if_neg hb]
    obtain ⟨r, h1, h2⟩ := getint xs a (by omega) hx'
    refine Ev.bind (toByteS_ev xs (by omega)) (Ev.bind h2 (Ev.bind (toByteS_ev xs (by omega)) (Ev.bind h1 ?_)))
    simp only [if_true, bne_self_eq_false]
    refine Ev.step (f := fun k => (laws_toByteS.f k xs).bind fun t122 => ((laws_eqByteS.f k xs t122).bind fun t125 => (if t125 = true then (some true) else (some false)))) (fun k => ?_) (Ev.bind (toByteS_ev xs (by omega)) (Ev.bind (eqByteS_ev xs (by omega)) ?_))
    · rw [laws_FnExactGetInt.j0, if_neg (by decide)]
    · simpa using Ev.now true

end Go.Proofs.Ytoglalgbjobpkaa.Pure
