/-
Plain lemmas on loops with rounds, on wrap64, on lists. No program in sight. Conditions: none.
-/
import Derived.Test.YtoglalgbjobpkaaWWords
import Derived.Test.YtoglalgbjobpkaaWLast
import Derived.Test.YtoglalgbjobpkaaWMore
import Derived.Laws.BitsLemmas
namespace Go.Proofs.Ytoglalgbjobpkaa.G
open Go.RowKit Go.Proofs.YtoglalgbjobpkaaW.PrintWords Go.Proofs.YtoglalgbjobpkaaW.PrintLast Go.Proofs.YtoglalgbjobpkaaW.PrintMore
set_option linter.unusedVariables false

theorem wrapI {x : Int} (h0 : -9223372036854775808 ≤ x) (h : x ≤ 9223372036854775807) : wrap64 x = x := by
  unfold wrap64; omega
theorem wrapU {x : Int} (h0 : 0 ≤ x) (h : x < 18446744073709551616) : IntKind.u64.wrap x = x := by
  simp [IntKind.wrap, IntKind.bits, IntKind.signed]; omega
theorem tmod_pos {a b : Int} (h : 0 ≤ a) : Int.tmod a b = a % b := Int.tmod_eq_emod_of_nonneg h
theorem tdiv_pos {a b : Int} (h : 0 ≤ a) : Int.tdiv a b = a / b := Int.tdiv_eq_ediv_of_nonneg h
theorem wraps_i64 (n : Int) (h0 : 0 ≤ n) (h : n < 2 ^ 63) : IntKind.i64.wrap n = n := by rw [IntKind.wrap_i64]; omega
theorem wraps_u64 (n : Int) (h0 : 0 ≤ n) (h : n < 2 ^ 64) : IntKind.u64.wrap n = n := wrapU h0 (by omega)
theorem wfI {n : Int} (h : (Lit.int .i64 n).wf = true) : -9223372036854775808 ≤ n ∧ n ≤ 9223372036854775807 := by
  simp [Lit.wf, IntKind.min, IntKind.max, IntKind.bits, IntKind.signed] at h
  omega
theorem wf8 {n : Int} (h : (Lit.int .u8 n).wf = true) : 0 ≤ n ∧ n < 256 := by
  simp [Lit.wf, IntKind.min, IntKind.max, IntKind.bits, IntKind.signed] at h
  omega

/-- Bits: what stays of a byte's mask, of a number's last bit. -/
theorem and127 {c : Int} (h0 : 0 ≤ c) (h : c < 256) : Go.bits .and .u8 c 127 = c % 128 := bits_mask .u8 8 (by decide) wraps_u8 7 (by decide) c h0 h
theorem and1 {u : Int} (h0 : 0 ≤ u) (h : u < 18446744073709551616) : Go.bits .and .u64 u 1 = u % 2 := bits_mask .u64 64 (by decide) wraps_u64 1 (by decide) u h0 (by omega)
theorem xor_neg {n : Int} (h0 : 0 ≤ n) (h : n < 9223372036854775808) : Go.bits .xor .i64 (-1) n = -n - 1 := by
  obtain ⟨a, rfl⟩ := Int.eq_ofNat_of_zero_le h0
  have e : (BitVec.ofInt 64 (-1) ^^^ BitVec.ofInt 64 (a : Int)) = ~~~ (BitVec.ofNat 64 a) := by
    rw [show BitVec.ofInt 64 (-1) = BitVec.allOnes 64 by decide, BitVec.ofInt_natCast, BitVec.allOnes_xor]
  show IntKind.i64.wrap (((BitVec.ofInt 64 (-1) ^^^ BitVec.ofInt 64 (a : Int)).toNat : Nat) : Int) = _
  rw [e, BitVec.toNat_not, BitVec.toNat_ofNat, IntKind.wrap_i64]
  omega
theorem xor_all {u : Int} (h0 : 0 ≤ u) (h : u < 18446744073709551616) : Go.bits .xor .u64 18446744073709551615 u = 18446744073709551615 - u := by
  obtain ⟨a, rfl⟩ := Int.eq_ofNat_of_zero_le h0
  have e : (BitVec.ofInt 64 18446744073709551615 ^^^ BitVec.ofInt 64 (a : Int)) = ~~~ (BitVec.ofNat 64 a) := by
    rw [show BitVec.ofInt 64 18446744073709551615 = BitVec.allOnes 64 by decide, BitVec.ofInt_natCast, BitVec.allOnes_xor]
  show IntKind.u64.wrap (((BitVec.ofInt 64 18446744073709551615 ^^^ BitVec.ofInt 64 (a : Int)).toNat : Nat) : Int) = _
  rw [e, BitVec.toNat_not, BitVec.toNat_ofNat, wrapU (by omega) (by omega)]
  omega
set_option maxRecDepth 100000 in
theorem or128 {x : Int} (h0 : 0 ≤ x) (h : x < 256) : Go.bits .or .u8 x 128 = x % 128 + 128 := by
  obtain ⟨a, rfl⟩ := Int.eq_ofNat_of_zero_le h0
  have ha : a < 256 := by omega
  have h2 := (bits_nat .u8 8 (by decide) wraps_u8 a 128 (by omega) (by omega)).2
  have h3 : ∀ n, n < 256 → n ||| 128 = n % 128 + 128 := by decide
  rw [h3 a ha] at h2
  have h4 : Go.bits .or .u8 (a : Int) 128 = ((a % 128 + 128 : Nat) : Int) := h2
  rw [h4]
  omega

theorem getD_map {α β : Type} (f : α → β) (xs : List α) (i : Nat) (a : α) (b : β) (hi : i < xs.length) : (xs.map f).getD i b = f (xs.getD i a) := by
  rw [List.getD_eq_getElem?_getD, List.getD_eq_getElem?_getD, List.getElem?_map, List.getElem?_eq_getElem hi]; rfl
theorem getD_mem {α : Type} (xs : List α) (i : Nat) (a : α) (hi : i < xs.length) : xs.getD i a ∈ xs := by
  rw [List.getD_eq_getElem?_getD, List.getElem?_eq_getElem hi]; exact List.getElem_mem hi
theorem getD_set_self {α : Type} (xs : List α) (i : Nat) (v a : α) (hi : i < xs.length) : (xs.set i v).getD i a = v := by
  rw [List.getD_eq_getElem?_getD, List.getElem?_set_self hi]; rfl
theorem getD_set_ne {α : Type} (xs : List α) (i j : Nat) (v a : α) (h : i ≠ j) : (xs.set i v).getD j a = xs.getD j a := by
  rw [List.getD_eq_getElem?_getD, List.getElem?_set_ne h, List.getD_eq_getElem?_getD]
theorem ext_getD {α : Type} (xs ys : List α) (a : α) (hl : xs.length = ys.length) (h : ∀ j, j < xs.length → xs.getD j a = ys.getD j a) : xs = ys := by
  apply List.ext_getElem hl
  intro i h1 h2
  have := h i h1
  simpa [List.getD_eq_getElem?_getD, List.getElem?_eq_getElem h1, List.getElem?_eq_getElem h2] using this
theorem drop_cons {α : Type} (xs : List α) (i : Nat) (a : α) (hi : i < xs.length) : xs.drop i = xs.getD i a :: xs.drop (i + 1) := by
  rw [List.drop_eq_getElem_cons hi, List.getD_eq_getElem?_getD, List.getElem?_eq_getElem hi]; rfl
theorem take_snoc {α : Type} (xs : List α) (i : Nat) (a : α) (hi : i < xs.length) : xs.take (i + 1) = xs.take i ++ [xs.getD i a] := by
  rw [List.take_succ_eq_append_getElem hi, List.getD_eq_getElem?_getD, List.getElem?_eq_getElem hi]; rfl
theorem rd_getD (xs : List Int) (i : Nat) : rd xs (i : Int) = xs.getD i 0 := by unfold rd; rw [Int.toNat_natCast]

theorem ev_bind_ex {α β : Type} {g : Nat → Option α} {f : Nat → α → Option β} {a : α} {P : β → Prop} (h : Ev g a) (k : ∃ r, Ev (fun n => f n a) r ∧ P r) : ∃ r, Ev (fun n => (g n).bind (f n)) r ∧ P r := by
  obtain ⟨r, h1, h2⟩ := k
  exact ⟨r, Ev.bind h h1, h2⟩
theorem ev_step_ex {α : Type} {g f : Nat → Option α} {P : α → Prop} (h : ∀ k, g (k + 1) = f k) (k : ∃ r, Ev f r ∧ P r) : ∃ r, Ev g r ∧ P r := by
  obtain ⟨r, h1, h2⟩ := k
  exact ⟨r, Ev.step h h1, h2⟩
theorem ev_congr_ex {α : Type} {g f : Nat → Option α} {P : α → Prop} (h : ∀ k, g k = f k) (k : ∃ r, Ev f r ∧ P r) : ∃ r, Ev g r ∧ P r := by
  obtain ⟨r, h1, h2⟩ := k
  exact ⟨r, Ev.congr h h1, h2⟩
theorem allFrom {α : Type} (a : α) (xs : List α) (P : α → Prop) (h : ∀ j : Nat, j < xs.length → P (xs.getD j a)) : ∀ x ∈ xs, P x := by
  intro x hx
  obtain ⟨i, hi, rfl⟩ := List.getElem_of_mem hx
  have := h i hi
  rwa [List.getD_eq_getElem?_getD, List.getElem?_eq_getElem hi] at this

/-- A loop over places i, i + 1, .., n - 1, then the end. -/
theorem loop_up {ρ : Type} (n : Nat) (l : Int → Nat → Option ρ) (r : ρ) (step : ∀ i : Nat, i < n → Ev (l (i + 1 : Nat)) r → Ev (l i) r) (fin : Ev (l n) r) (i : Nat) (hi : i ≤ n) : Ev (l i) r := by
  obtain ⟨d, hd⟩ : ∃ d, i + d = n := ⟨n - i, by omega⟩
  induction d generalizing i with
  | zero => obtain rfl : i = n := by omega
            exact fin
  | succ d ih => exact step i (by omega) (ih (i + 1) (by omega) (by omega))
/-- A loop that lays one element after the other. -/
theorem loop_set {α β : Type} (a : α) (b : β) (conv : α → β) (xs : List α) (l : List β → Int → Nat → Option (List β))
    (step : ∀ (ys : List β) (i : Nat) (r : List β), i < xs.length → ys.length = xs.length → Ev (l (ys.set i (conv (xs.getD i a))) (i + 1 : Nat)) r → Ev (l ys i) r)
    (fin : ∀ ys : List β, ys.length = xs.length → Ev (l ys xs.length) ys) (ys : List β) (hl : ys.length = xs.length) : Ev (l ys (0 : Nat)) (xs.map conv) := by
  have key : ∀ (d : Nat) (ys : List β) (i : Nat), i + d = xs.length → ys.length = xs.length → (∀ j, j < i → ys.getD j b = conv (xs.getD j a)) → Ev (l ys i) (xs.map conv) := by
    intro d
    induction d with
    | zero =>
      intro ys i hi hl hy
      obtain rfl : i = xs.length := by omega
      have : ys = xs.map conv := ext_getD _ _ b (by simpa using hl) (fun j hj => by rw [hy j (by omega), getD_map conv xs j a b (by omega)])
      rw [← this]; exact fin ys hl
    | succ d ih =>
      intro ys i hi hl hy
      refine step ys i _ (by omega) hl (ih _ (i + 1) (by omega) (by simpa using hl) (fun j hj => ?_))
      by_cases e : i = j
      · subst e; rw [getD_set_self _ _ _ _ (by omega)]
      · rw [getD_set_ne _ _ _ _ _ e]; exact hy j (by omega)
  exact key xs.length ys 0 (by omega) hl (fun j hj => absurd hj (by omega))
/-- A loop that writes marks: whatever each element becomes, the number goes up. -/
theorem loop_mark {α : Type} (a : α) (cost : α → Nat) (Ok : α → α → Int → Prop) (xs : List α) (l : List α → Int → Int → Nat → Option (Int × List α))
    (step : ∀ (ys : List α) (i : Nat) (m : Int), i < xs.length → ys.length = xs.length → ys.getD i a = xs.getD i a → 0 ≤ m → ∃ y, Ok (xs.getD i a) y m ∧ ∀ r : Int × List α, Ev (l (ys.set i y) (m + cost (xs.getD i a)) (i + 1 : Nat)) r → Ev (l ys m i) r)
    (fin : ∀ (ys : List α) (m : Int), ys.length = xs.length → Ev (l ys m xs.length) (m, ys)) (m : Int) (hm : 0 ≤ m) :
    ∃ ys : List α, ys.length = xs.length ∧ (∀ j, j < xs.length → Ok (xs.getD j a) (ys.getD j a) (m + ((xs.take j).map cost).sum)) ∧ Ev (l xs m (0 : Nat)) (m + (xs.map cost).sum, ys) := by
  have key : ∀ (d : Nat) (ys : List α) (i : Nat), i + d = xs.length → ys.length = xs.length → (∀ j, i ≤ j → ys.getD j a = xs.getD j a) → (∀ j, j < i → Ok (xs.getD j a) (ys.getD j a) (m + ((xs.take j).map cost).sum)) →
      ∃ zs : List α, zs.length = xs.length ∧ (∀ j, j < xs.length → Ok (xs.getD j a) (zs.getD j a) (m + ((xs.take j).map cost).sum)) ∧ Ev (l ys (m + ((xs.take i).map cost).sum) i) (m + (xs.map cost).sum, zs) := by
    intro d
    induction d with
    | zero =>
      intro ys i hi hl hs hy
      obtain rfl : i = xs.length := by omega
      refine ⟨ys, hl, hy, ?_⟩
      rw [List.take_length]; exact fin ys _ hl
    | succ d ih =>
      intro ys i hi hl hs hy
      obtain ⟨y, hok, hst⟩ := step ys i (m + ((xs.take i).map cost).sum) (by omega) hl (hs i (Nat.le_refl _)) (by omega)
      obtain ⟨zs, h1, h2, h3⟩ := ih (ys.set i y) (i + 1) (by omega) (by simpa using hl) (fun j hj => by rw [getD_set_ne _ _ _ _ _ (by omega)]; exact hs j (by omega)) (fun j hj => by
        by_cases e : i = j
        · subst e; rw [getD_set_self _ _ _ _ (by omega)]; exact hok
        · rw [getD_set_ne _ _ _ _ _ e]; exact hy j (by omega))
      refine ⟨zs, h1, h2, hst _ ?_⟩
      rw [take_snoc xs i a (by omega)] at h3
      simpa [Int.add_assoc] using h3
  obtain ⟨zs, h1, h2, h3⟩ := key xs.length xs 0 (by omega) rfl (fun _ _ => rfl) (fun j hj => absurd hj (by omega))
  exact ⟨zs, h1, h2, by simpa using h3⟩
end Go.Proofs.Ytoglalgbjobpkaa.G
