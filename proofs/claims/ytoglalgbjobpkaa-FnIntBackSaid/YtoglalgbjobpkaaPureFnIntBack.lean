/-
FnIntBack: for every code the drawn number comes back from its groups: GetInt reads behind two other bytes what PutInt has written, all of it, in at most ten bytes.
Conditions: none beyond the statement's own.
-/
import Derived.Test.YtoglalgbjobpkaaKindsFnIntBack
import Derived.Test.YtoglalgbjobpkaaGdraw
import Derived.Test.YtoglalgbjobpkaaGputInt
import Derived.Test.YtoglalgbjobpkaaFimplGetInt
import Derived.Test.YtoglalgbjobpkaaFspecDrawPutInt
namespace Go.Proofs.Ytoglalgbjobpkaa.Pure
open Go.RowKit Go.Proofs.Ytoglalgbjobpkaa.F Go.Proofs.Ytoglalgbjobpkaa.G Go.Proofs.Ytoglalgbjobpkaa Go.Proofs.YtoglalgbjobpkaaW.PrintWords Go.Proofs.YtoglalgbjobpkaaW.PrintLast Go.Proofs.YtoglalgbjobpkaaW.PrintMore
set_option linter.unusedVariables false

/-- The drawn number is an int. -/
theorem l1Int_l (b : List Int) (d : Nat) : ∀ (x : Int) (i : Nat) (at_ h : Int), 9 ≤ i + d → i ≤ 9 → CurOk b at_ → -9223372036854775808 ≤ x ∧ x ≤ 9223372036854775807 → ∃ r : Int × Int × Int, Ev (fun k => spec_l1Int.l0 k x i b at_ h) r ∧ (-9223372036854775808 ≤ r.1 ∧ r.1 ≤ 9223372036854775807) := by
  induction d with
  | zero =>
    intro x i at_ h hi h9 c hx
    obtain ⟨y, a1, h1, e1, y0, y1, c1⟩ := below_ok b at_ h 9 c (by omega) (by omega)
    obtain ⟨z, a2, h2, e2, c2⟩ := once_ok b a1 h1 3 c1 (by omega) (by omega)
    refine ⟨if z = true then (wrap64 (-x), a2, h2) else (x, a2, h2), Ev.step (f := fun _ => some (if z = true then (wrap64 (-x), a2, h2) else (x, a2, h2))) (fun k => ?_) (Ev.now _), ?_⟩
    · rw [spec_l1Int.l0, e1]
      simp only [Option.bind_some]
      rw [if_neg (by omega), e2]
      simp only [Option.bind_some]
      cases z <;> rfl
    · cases z
      · exact hx
      · exact wrap_in _
  | succ d ih =>
    intro x i at_ h hi h9 c hx
    obtain ⟨y, a1, h1, e1, y0, y1, c1⟩ := below_ok b at_ h 9 c (by omega) (by omega)
    by_cases hy : (i : Int) ≤ y
    · obtain ⟨u, a2, h2, e2, u0, u1, c2⟩ := byte_ok b a1 h1 c1
      obtain ⟨r, p, q⟩ := ih (wrap64 ((wrap64 (x * 256)) + u)) (i + 1) a2 h2 (by omega) (by omega) c2 (wrap_in _)
      refine ⟨r, Ev.step (fun k => ?_) p, q⟩
      rw [spec_l1Int.l0, e1]
      simp only [Option.bind_some]
      rw [if_pos hy, e2]
      simp only [Option.bind_some]
      rw [wrapI (x := (i : Int) + 1) (by omega) (by omega)]; rfl
    · obtain ⟨z, a2, h2, e2, c2⟩ := once_ok b a1 h1 3 c1 (by omega) (by omega)
      refine ⟨if z = true then (wrap64 (-x), a2, h2) else (x, a2, h2), Ev.step (f := fun _ => some (if z = true then (wrap64 (-x), a2, h2) else (x, a2, h2))) (fun k => ?_) (Ev.now _), ?_⟩
      · rw [spec_l1Int.l0, e1]
        simp only [Option.bind_some]
        rw [if_neg hy, e2]
        simp only [Option.bind_some]
        cases z <;> rfl
      · cases z
        · exact hx
        · exact wrap_in _
theorem l1Int_ok (b : List Int) (i h : Int) (c : CurOk b i) : ∃ r : Int × Int × Int, Ev (fun k => spec_l1Int.f k b i h) r ∧ (-9223372036854775808 ≤ r.1 ∧ r.1 ≤ 9223372036854775807) := by
  obtain ⟨y, a1, h1, e1, y0, y1, c1⟩ := below_ok b i h 6 c (by omega) (by omega)
  unfold spec_l1Int.f
  rw [e1]
  simp only [Option.bind_some]
  by_cases k0 : y = 0
  · obtain ⟨z, a2, h2, e2, z0, z1, c2⟩ := below_ok b a1 h1 300 c1 (by omega) (by omega)
    simp only [if_pos k0, e2, Option.bind_some]
    exact ⟨_, Ev.now _, wrap_in _⟩
  · simp only [if_neg k0]
    by_cases k1 : y = 1
    · obtain ⟨z, a2, h2, e2, z0, c2⟩ := pickInt_ok b a1 h1 [0, (-1), 63, 64, (-64), (-65), 8191, 8192, 9223372036854775807, (-9223372036854775808), 4611686018427387904, 1000000000000, 1000000000001, 1000000000, 1000000001, (-1)] c1 (by decide) (by decide)
      simp only [if_pos k1, e2, Option.bind_some]
      refine ⟨_, Ev.now _, ?_⟩
      simp only [List.mem_cons, List.not_mem_nil, or_false] at z0
      show -9223372036854775808 ≤ z ∧ z ≤ 9223372036854775807
      omega
    · simp only [if_neg k1]
      obtain ⟨r, p, q⟩ := l1Int_l b 9 0 0 a1 h1 (by omega) (by omega) c1 (by omega)
      exact ⟨r, p, q⟩
theorem drawPutInt_ok (b : List Int) (hb : b.length ≤ 1048576) : ∃ n, Ev (fun k => spec_DrawPutInt.f k b) n ∧ -9223372036854775808 ≤ n ∧ n ≤ 9223372036854775807 := by
  obtain ⟨h, p⟩ := new_ok b hb
  obtain ⟨r, q, q1⟩ := l1Int_ok b 0 h ⟨by omega, by omega, hb⟩
  exact ⟨r.1, by unfold spec_DrawPutInt.f; exact Ev.bind p (Ev.bind q (Ev.now _)), q1⟩

theorem or_join (i : Nat) (x c : Int) (hx0 : 0 ≤ x) (hx : x < 2 ^ i) (hc0 : 0 ≤ c) (hc : c * 2 ^ i < 2 ^ 64) (hi : i ≤ 64) : Go.bits .or .u64 x (c * 2 ^ i) = x + c * 2 ^ i := by
  obtain ⟨a, rfl⟩ := Int.eq_ofNat_of_zero_le hx0
  obtain ⟨b, rfl⟩ := Int.eq_ofNat_of_zero_le hc0
  have ha : a < 2 ^ i := by exact_mod_cast hx
  have hb : b * 2 ^ i < 2 ^ 64 := by exact_mod_cast hc
  have hp' : 2 ^ i ≤ 2 ^ 64 := Nat.pow_le_pow_right (by decide) hi
  have h := (bits_nat .u64 64 (by decide) wraps_u64 a (b * 2 ^ i) (by omega) hb).2
  have h2 : a ||| b * 2 ^ i = a + b * 2 ^ i := by
    rw [Nat.or_comm, Nat.mul_comm, ← Nat.two_pow_add_eq_or_of_lt ha b, Nat.add_comm]
  rw [h2] at h
  push_cast at h ⊢
  exact h
def p7 (m : Nat) : Int := 2 ^ (7 * m)
theorem p7_step (m : Nat) : p7 (m + 1) = 128 * p7 m := by unfold p7; rw [Nat.mul_add, Int.pow_add]; omega
theorem p7_pos (m : Nat) : 1 ≤ p7 m := by
  induction m with
  | zero => decide
  | succ m ih => rw [p7_step]; omega
theorem group_or (m : Nat) (u c : Int) (hm : m ≤ 9) (hu0 : 0 ≤ u) (hu : u < p7 m) (hc0 : 0 ≤ c) (hc : c < 256) (hb : c % 128 * p7 m < 18446744073709551616) :
    Go.bits .or .u64 u (shl .u64 (IntKind.u64.wrap (Go.bits .and .u8 c 127)) (wrap64 (7 * (m : Int)))) = u + c % 128 * p7 m := by
  have e7 : wrap64 (7 * (m : Int)) = ((7 * m : Nat) : Int) := by rw [wrapI (by omega) (by omega)]; omega
  have hmin : min (7 * m) IntKind.u64.bits = 7 * m := Nat.min_eq_left (show 7 * m ≤ 64 by omega)
  have h0 : 0 ≤ c % 128 * p7 m := Int.mul_nonneg (by omega) (by have := p7_pos m; omega)
  rw [and127 hc0 hc, wrapU (by omega) (by omega), e7]
  unfold shl
  have ep : (2 : Int) ^ (7 * m) = p7 m := rfl
  rw [Int.toNat_natCast, hmin, ep, wrapU h0 hb]
  exact or_join (7 * m) u (c % 128) hu0 hu (by omega) hb (by omega)

theorem wrap_m (m : Nat) (h : m ≤ 9) : wrap64 ((m : Int) + 1) = ((m + 1 : Nat) : Int) := by rw [wrapI (x := (m : Int) + 1) (by omega) (by omega)]; omega
theorem wrap_7 (m : Nat) (h : m ≤ 9) : 0 ≤ wrap64 (7 * (m : Int)) := by rw [wrapI (x := 7 * (m : Int)) (by omega) (by omega)]; omega
theorem split7 (P v u z : Int) (hP : 1 ≤ P) (hv : 128 ≤ v) (hu0 : 0 ≤ u) (hu : u < P) (hs : u + v * P = z) (hz : z < 18446744073709551616) :
    0 ≤ v / 128 ∧ 1 ≤ v / 128 ∧ 0 ≤ v % 128 + 128 ∧ v % 128 + 128 < 256 ∧ (v % 128 + 128) % 128 = v % 128 ∧ ¬ (v % 128 + 128 < 128) ∧ v % 128 * P < 18446744073709551616 ∧ 0 ≤ u + v % 128 * P ∧ u + v % 128 * P < 128 * P ∧ u + v % 128 * P + v / 128 * (128 * P) = z := by
  obtain ⟨q, hq⟩ : ∃ q, v / 128 = q := ⟨_, rfl⟩
  obtain ⟨c, hc⟩ : ∃ c, v % 128 = c := ⟨_, rfl⟩
  have h1 : v = 128 * q + c := by omega
  have h2 : 0 ≤ c := by omega
  have h3 : c ≤ 127 := by omega
  have h4 : 1 ≤ q := by omega
  rw [hq, hc]
  clear hq hc hv
  subst h1
  have e : (128 * q + c) * P = q * (128 * P) + c * P := by rw [Int.add_mul, Int.mul_comm 128 q, Int.mul_assoc]
  rw [e] at hs
  have g1 : 0 ≤ q * (128 * P) := Int.mul_nonneg (by omega) (by omega)
  have g2 : 0 ≤ c * P := Int.mul_nonneg h2 (by omega)
  have g3 : c * P ≤ 127 * P := Int.mul_le_mul_of_nonneg_right h3 (by omega)
  clear e
  generalize q * (128 * P) = Q at *
  generalize c * P = C at *
  refine ⟨by omega, h4, by omega, by omega, by omega, by omega, by omega, by omega, by omega, by omega⟩
/-- Read from group m on: what stands there is the rest v of the number. -/
theorem back_l (xs : List Int) (n : Int) (hz : 0 ≤ zig n ∧ zig n < 18446744073709551616) (hr : -9223372036854775808 ≤ n ∧ n ≤ 9223372036854775807) (hlen : xs.length ≤ 1000) (d : Nat) : ∀ (m : Nat) (u v : Int), m + d = 9 → 0 ≤ u → u < p7 m → 0 ≤ v → (m > 0 → 1 ≤ v) → u + v * p7 m = zig n → (∀ j : Nat, j < (grp d v).length → rd xs ((2 : Int) + m + j) = (grp d v).getD j 0) → 2 + m + (grp d v).length ≤ xs.length →
    Ev (fun k => impl_GetInt.l0 k xs 2 u m) (n, (2 : Int) + m + (grp d v).length, true) := by
  have fin : ∀ (m : Nat) (v u : Int) (L : Int), m ≤ 9 → u = zig n → L = (2 : Int) + m + 1 → Ev (fun k => impl_GetInt.j4 k 2 u m false) (n, L, true) := by
    intro m v u L hm hu hL
    refine Ev.step (f := fun _ => some (n, L, true)) (fun k => ?_) (Ev.now _)
    rw [impl_GetInt.j4, if_neg (by decide), hu, and1 hz.1 hz.2, wrapI (x := (2 : Int) + m) (by omega) (by omega), wrapI (x := (2 : Int) + m + 1) (by omega) (by omega), wrapI (x := zig n / 2) (by omega) (by omega)]
    by_cases hn : n < 0
    · have e : zig n = -2 * n - 1 := by unfold zig; rw [if_pos hn]
      rw [if_pos (by omega), xor_neg (by omega) (by omega), hL, show -(zig n / 2) - 1 = n by omega]
    · have e : zig n = 2 * n := by unfold zig; rw [if_neg hn]
      rw [if_neg (by omega), hL, show zig n / 2 = n by omega]
  induction d with
  | zero =>
    intro m u v hm hu0 hu hv0 hv1 hs hx hl
    obtain rfl : m = 9 := by omega
    have hp : p7 9 = 9223372036854775808 := by decide
    rw [hp] at hs hu
    have h1 := hx 0 (by simp [grp])
    simp only [grp, List.length_singleton] at hl ⊢
    have h1' : rd xs ((2 : Int) + (9 : Nat)) = v := by simpa [grp] using h1
    have eo := group_or 9 u v (by omega) hu0 (by rw [hp]; exact hu) hv0 (by omega) (by rw [hp]; omega)
    rw [hp, show v % 128 = v by omega] at eo
    have ew : wrap64 ((2 : Int) + (9 : Nat)) = (2 : Int) + (9 : Nat) := wrapI (by omega) (by omega)
    refine Ev.step (g := fun k => impl_GetInt.l0 k xs 2 u (9 : Nat)) (fun k => by rw [impl_GetInt.l0, if_pos (by omega), ew, decide_eq_true (by omega)]) ?_
    refine Ev.step (fun k => by rw [impl_GetInt.j2, if_pos rfl, ew, if_pos (by omega), if_pos (by omega), h1', if_pos (by decide), decide_eq_false (by omega)]) ?_
    refine Ev.step (fun k => by rw [impl_GetInt.j3, if_neg (by decide), if_pos (by rw [wrapI (by omega) (by omega)]; omega), if_pos (by omega), if_pos (by omega), eo, beq_false_of_ne (by have := hv1 (by omega); omega)]) ?_
    exact fin 9 v _ _ (by omega) hs (by omega)
  | succ d ih =>
    intro m u v hm hu0 hu hv0 hv1 hs hx hl
    have ew : wrap64 ((2 : Int) + m) = (2 : Int) + m := wrapI (by omega) (by omega)
    have hpp := p7_pos m
    have hps := p7_step m
    by_cases h : v < 128
    · have eg : grp (d + 1) v = [v] := by rw [grp, if_pos h]
      rw [eg] at hx hl ⊢
      simp only [List.length_singleton] at hl ⊢
      have h1' : rd xs ((2 : Int) + m) = v := by simpa using hx 0 (by simp)
      have hvm : v % 128 = v := by omega
      have hlt : v * p7 m < 18446744073709551616 := by omega
      have eo := group_or m u v (by omega) hu0 hu hv0 (by omega) (by rw [hvm]; exact hlt)
      rw [hvm] at eo
      have hz0 : (decide ((m : Int) > 0) && (v == 0)) = false := by
        by_cases hm0 : m > 0
        · have := hv1 hm0
          rw [beq_false_of_ne (show v ≠ 0 by omega), Bool.and_false]
        · rw [decide_eq_false (by omega)]; rfl
      refine Ev.step (g := fun k => impl_GetInt.l0 k xs 2 u m) (fun k => by rw [impl_GetInt.l0, if_pos (by omega), ew, decide_eq_true (by omega)]) ?_
      refine Ev.step (fun k => by rw [impl_GetInt.j2, if_pos rfl, ew, if_pos (by omega), if_pos (by omega), h1', if_neg (by omega)]) ?_
      refine Ev.step (f := fun k => impl_GetInt.j4 k 2 (u + v * p7 m) m false) (fun k => ?_) (fin m v _ _ (by omega) hs (by omega))
      rw [impl_GetInt.j3, if_neg (by decide), if_pos (by rw [wrapI (by omega) (by omega)]; omega), if_pos h, eo]
      by_cases hm0 : (m : Int) > 0
      · rw [if_pos hm0]; congr 1
        have := hv1 (by omega)
        exact beq_false_of_ne (by omega)
      · rw [if_neg hm0]
    · obtain ⟨q0, q1, c3, c2, hmod, a6, hb, n0, hu', hs'⟩ := split7 (p7 m) v u (zig n) hpp (by clear hs; omega) hu0 hu hs hz.2
      clear hs
      have eg : grp (d + 1) v = (v % 128 + 128) :: grp d (v / 128) := by rw [grp, if_neg h]
      rw [eg] at hx hl ⊢
      simp only [List.length_cons] at hl ⊢
      have h1' : rd xs ((2 : Int) + m) = v % 128 + 128 := by simpa using hx 0 (by simp)
      have m9 : m ≤ 9 := by clear hb hu' hs' hx hz hr; omega
      have em := wrap_m m m9
      have a5 := wrap_7 m m9
      have eo := group_or m u (v % 128 + 128) m9 hu0 hu c3 c2 (by rw [hmod]; exact hb)
      rw [hmod] at eo
      rw [← hps] at hu' hs'
      generalize v % 128 + 128 = c at *
      generalize v / 128 = q at *
      generalize u + v % 128 * p7 m = u' at *
      clear hb hmod hpp hps
      have hx' : ∀ j : Nat, j < (grp d q).length → rd xs ((2 : Int) + ((m + 1 : Nat) : Int) + j) = (grp d q).getD j 0 := fun j hj => by
        have := hx (j + 1) (by simpa using hj)
        rw [show (2 : Int) + m + ((j + 1 : Nat) : Int) = (2 : Int) + ((m + 1 : Nat) : Int) + j by omega] at this
        simpa using this
      have hrec := ih (m + 1) u' q (by clear hs' hu' hx hx' hz hr; omega) n0 hu' q0 (fun _ => q1) hs' hx' (by clear hs' hu' hx hx' hz hr; omega)
      rw [show (2 : Int) + ((m + 1 : Nat) : Int) + ((grp d q).length : Int) = (2 : Int) + m + (((grp d q).length + 1 : Nat) : Int) by clear hs' hu' hx hx' hz hr; omega] at hrec
      have a1 : (m : Int) < 10 := by clear hs' hu' hx hx' hz hr; omega
      have a2 : (2 : Int) + m < (xs.length : Int) := by clear hs' hu' hx hx' hz hr; omega
      have a3 : (0 : Int) ≤ (2 : Int) + m := by clear hs' hu' hx hx' hz hr; omega
      have a4 : ¬ ((m : Int) = 9) := by clear hs' hu' hx hx' hz hr; omega
      refine Ev.step (g := fun k => impl_GetInt.l0 k xs 2 u m) (fun k => by rw [impl_GetInt.l0, if_pos a1, ew, decide_eq_true a2]) ?_
      refine Ev.step (fun k => by rw [impl_GetInt.j2, if_pos rfl, ew, if_pos a3, if_pos a2, h1', if_neg a4]) ?_
      refine Ev.step (fun k => ?_) hrec
      rw [impl_GetInt.j3, if_neg (by decide), if_pos a5, if_neg a6, eo, em]

theorem FnIntBack (a0 : List (Int)) (w0 : Open.wfList (Open.wfInt .u8) a0) : Ev (fun k => laws_FnIntBack.f k a0) true := by
  unfold laws_FnIntBack.f
  have eb : laws_big.f a0 = some (decide ((a0.length : Int) > 1048576)) := rfl
  rw [eb]
  simp only [Option.bind_some]
  by_cases hb : (a0.length : Int) > 1048576
  · simp only [decide_eq_true hb, if_true]; exact Ev.now _
  simp only [decide_eq_false hb, Bool.false_eq_true, if_false]
  obtain ⟨n, p, n0, n1⟩ := drawPutInt_ok a0 (by omega)
  have hl := put_length n
  refine Ev.bind p (Ev.bind (implPutInt_ev n n0 n1) ?_)
  simp only [List.length_cons, List.length_nil, List.length_append, if_pos (show 0 + 1 + 1 + (put n).length < 140737488355328 by omega)]
  have hz := zig_range n0 n1
  have hg : Ev (fun k => impl_GetInt.f k ([77, 200] ++ put n ++ [9]) 2) (n, 2 + ((put n).length : Int), true) := by
    have hlen : ([77, 200] ++ put n ++ [9]).length = (put n).length + 3 := by simp
    have hback := back_l ([77, 200] ++ put n ++ [9]) n hz ⟨n0, n1⟩ (by omega) 9 0 0 (zig n) rfl (by omega) (by decide) hz.1 (fun h => absurd h (by omega)) (by rw [show p7 0 = 1 by decide]; omega) (fun j hj => by
      rw [show (2 : Int) + ((0 : Nat) : Int) + (j : Int) = ((2 + j : Nat) : Int) by omega, rd_getD]
      have hj' : j < (put n).length := hj
      show ([77, 200] ++ put n ++ [9]).getD (2 + j) 0 = (put n).getD j 0
      rw [List.getD_eq_getElem?_getD, List.append_assoc, List.getElem?_append_right (by simp), List.getElem?_append_left (by simpa using hj'), List.getD_eq_getElem?_getD]
      simp) (by rw [hlen]; show 2 + 0 + (put n).length ≤ _; omega)
    refine Ev.congr (f := fun k => impl_GetInt.j0 k ([77, 200] ++ put n ++ [9]) 2 false) (fun k => ?_) (Ev.step (fun k => ?_) hback)
    · unfold impl_GetInt.f
      rw [if_neg (by omega), decide_eq_false (by rw [hlen]; omega)]
    · rw [impl_GetInt.j0, if_neg (by decide)]; rfl
  refine Ev.bind hg ?_
  simp only [if_true, wrapI (x := ((put n).length : Int) + 2) (by omega) (by omega), if_pos (show (2 : Int) + ((put n).length : Int) = ((put n).length : Int) + 2 by omega), if_pos (show ((put n).length : Int) > 0 by omega), decide_eq_true (show ((put n).length : Int) ≤ 10 by omega)]
  exact Ev.now _
end Go.Proofs.Ytoglalgbjobpkaa.Pure
