/-
Names in order: the program's namesOk, the reference's l9Names. Conditions: each contract's own premises.
-/
import Derived.Test.YtenldgbabcjjkaaHName
import Derived.Test.YtenldgbabcjjkaaHTypes
import Derived.Test.YtenldgbabcjjkaaHRg
import Derived.Lib.Bytealg
namespace Go.Proofs.Ytenldgbabcjjkaa.H
open Go.RowKit
set_option linter.unusedVariables false
set_option linter.unusedSimpArgs false
set_option maxRecDepth 100000
def lessB (a b : List UInt8) : Bool := Op.bytesLess a b
theorem less_nil (a : List UInt8) : Op.bytesLess a [] = false := by cases a <;> rfl
theorem less_cons (a b : UInt8) (x y : List UInt8) : Op.bytesLess (a :: x) (b :: y) = (decide (a < b) || (a == b && Op.bytesLess x y)) := rfl
/-- Three ways. -/
theorem triB : ∀ (a b : List UInt8), (Op.bytesLess a b = true ∧ Op.bytesLess b a = false ∧ (a == b) = false ∧ (b == a) = false) ∨ (Op.bytesLess a b = false ∧ Op.bytesLess b a = false ∧ (a == b) = true ∧ (b == a) = true) ∨ (Op.bytesLess a b = false ∧ Op.bytesLess b a = true ∧ (a == b) = false ∧ (b == a) = false)
  | [], [] => .inr (.inl ⟨rfl, rfl, rfl, rfl⟩)
  | [], b :: y => .inl ⟨rfl, rfl, rfl, rfl⟩
  | a :: x, [] => .inr (.inr ⟨rfl, rfl, rfl, rfl⟩)
  | a :: x, b :: y => by
    rw [less_cons, less_cons]
    rcases Nat.lt_trichotomy a.toNat b.toNat with h | h | h
    · have h1 : a < b := UInt8.lt_iff_toNat_lt.2 h
      have h2 : ¬ b < a := fun hh => by have := UInt8.lt_iff_toNat_lt.1 hh; omega
      have h3 : a ≠ b := fun e => by subst e; omega
      left
      simp [h1, h2, h3, h3.symm]
    · have h3 : a = b := UInt8.toNat_inj.1 h
      subst h3
      have h2 : ¬ a < a := fun hh => by have := UInt8.lt_iff_toNat_lt.1 hh; omega
      rcases triB x y with ⟨p, q, r, s⟩ | ⟨p, q, r, s⟩ | ⟨p, q, r, s⟩
      · exact .inl ⟨by simp [p], by simp [h2, q], by simp at r ⊢; exact r, by simp at s ⊢; exact s⟩
      · simp at r
        subst r
        exact .inr (.inl ⟨by simp [h2, p], by simp [h2, p], by simp, by simp⟩)
      · exact .inr (.inr ⟨by simp [h2, p], by simp [q], by simp at r ⊢; exact r, by simp at s ⊢; exact s⟩)
    · have h1 : b < a := UInt8.lt_iff_toNat_lt.2 h
      have h2 : ¬ a < b := fun hh => by have := UInt8.lt_iff_toNat_lt.1 hh; omega
      have h3 : a ≠ b := fun e => by subst e; omega
      right; right
      simp [h1, h2, h3, h3.symm]
theorem less_irr (a : List UInt8) : Op.bytesLess a a = false := by
  rcases triB a a with h | h | h
  · simp at h
  · exact h.1
  · simp at h
theorem less_trans : ∀ {a b c : List UInt8}, Op.bytesLess a b = true → Op.bytesLess b c = true → Op.bytesLess a c = true
  | _, [], _, h, _ => by rw [less_nil] at h; cases h
  | _, _ :: _, [], _, h => by rw [less_nil] at h; cases h
  | [], _ :: _, _ :: _, _, _ => rfl
  | a :: x, b :: y, c :: z, h1, h2 => by
    rw [less_cons] at h1 h2 ⊢
    simp only [Bool.or_eq_true, decide_eq_true_eq, Bool.and_eq_true, beq_iff_eq, UInt8.lt_iff_toNat_lt] at h1 h2 ⊢
    rcases h1 with h1 | ⟨rfl, h1⟩
    · rcases h2 with h2 | ⟨rfl, h2⟩
      · left; omega
      · left; exact h1
    · rcases h2 with h2 | ⟨rfl, h2⟩
      · left; exact h2
      · right; exact ⟨rfl, less_trans h1 h2⟩
def ltS (a b : ByteArray) : Bool := Op.bytesLess a.toList b.toList
def prevO {α : Type} (l : List α) (k : Nat) : Option α := if k = 0 then none else l[k - 1]?
theorem prevO_succ {α : Type} {l : List α} {k : Nat} {x : α} (h : l[k]? = some x) : prevO l (k + 1) = some x := by simp [prevO, h]
/-- In order, from what came last on. -/
def ordF {α : Type} (ok : α → Bool) (lt : α → α → Bool) : Option α → List α → Bool
  | _, [] => true
  | p, s :: r => ok s && (match p with | none => true | some q => lt q s) && ordF ok lt (some s) r
theorem ordF_step {α : Type} {ok : α → Bool} {lt : α → α → Bool} {l : List α} {k : Nat} {s : α} (h : l[k]? = some s) : ordF ok lt (prevO l k) (l.drop k) = (ok s && (match prevO l k with | none => true | some q => lt q s) && ordF ok lt (prevO l (k + 1)) (l.drop (k + 1))) := by
  obtain ⟨hk, rfl⟩ := List.getElem?_eq_some_iff.1 h
  rw [List.drop_eq_getElem_cons hk, prevO_succ h]
  rfl
theorem ordF_end {α : Type} {ok : α → Bool} {lt : α → α → Bool} {l : List α} {k : Nat} (h : l.length ≤ k) (p : Option α) : ordF ok lt p (l.drop k) = true := by
  rw [List.drop_eq_nil_of_le h]
  cases p <;> rfl
def namesF (l : List ByteArray) (most : Int) : Bool := decide ((l.length : Int) ≤ most) && ordF nameOk ltS none l
theorem strAt {w : World} {A : Option Addr} {xs : List ByteArray} (h : Row Ki.str w A xs) (i : Nat) (hi : i < xs.length) : ∃ ad x, A = some ad ∧ xs[i]? = some x ∧ w.cell? (ad.add i) = some (.string x) := by
  obtain ⟨ad, x, cs, rfl, hx, hk, hc⟩ := Row_get h i hi
  have hk' : cs = [.string x] := hk
  subst hk'
  refine ⟨ad, x, rfl, hx, ?_⟩
  have := hc 0 _ rfl
  simpa [show Ki.str.sz = 1 from rfl] using this
set_option maxHeartbeats 4000000 in
theorem implNamesOk_c (w : World) (l : List ByteArray) (n : Int) {A : Option Addr} {c : Nat} (hl : l.length ≤ c) (hg : Row Ki.str w A l) (hs : l.length ≤ 1048576 ∧ ∀ s ∈ l, s.size ≤ 1048576) :
    Calls Try.prog 43 #[.slice A l.length c, .int .i64 n] w fun e w' => e = .returned (.bool (namesF l n)) ∧ w = w' := by
  unfold namesF
  have HS := Lib.hid hs.2
  have hln := hs.1
  clear hs
  generalize hR : ordF nameOk ltS none l = R
  have HR : Hid (ordF nameOk ltS (prevO l 0) (l.drop 0) = R) := Lib.hid (by rw [← hR]; rfl)
  clear hR
  have hu2 := Try.underlying67
  go_enter Try.func43, Try.ntmps43
  go_wp2
  go_loopg [9] l.length (fun g v9 wr => ∃ k : Nat, k + g = l.length ∧ v9 = .int .i64 k ∧ wr = w ∧ Hid (ordF nameOk ltS (prevO l k) (l.drop k) = R))
  case atStart => exact ⟨0, by omega, rfl, rfl, HR⟩
  case round =>
    clear HR
    obtain ⟨k, hk, rfl, rfl, HD⟩ := hrel
    by_cases hlt : k < l.length
    case neg =>
      have HE : Hid (true = R) := Lib.hid (by rw [← HD.out, ordF_end (by omega)])
      by_cases hn : (l.length : Int) ≤ n
      · go_wp2
        go_ret
        exact ⟨by rw [← HE.out]; simp [hn], rfl⟩
      · go_wp2
        go_ret
        exact ⟨by rw [← HE.out]; simp [hn], rfl⟩
    obtain ⟨ad, s, rfl, hx, p0⟩ := strAt hg k hlt
    have hss := HS.out s (List.mem_of_getElem? hx)
    have HX := Lib.hid (ordF_step (ok := nameOk) (lt := ltS) hx)
    clear hx
    generalize hnm : nameOk s = bn at HX
    have HN := Lib.hid hnm
    clear hnm
    cases bn with
    | false =>
      have HE : Hid (false = R) := Lib.hid (by rw [← HD.out, HX.out]; simp)
      go_wp2_with (go_at_call 42; refine (implNameOk_c _ _ hss).mono ?_; rintro e w' ⟨rfl, rfl⟩; rw [HN.out])
      go_ret
      exact ⟨by rw [← HE.out]; simp, rfl⟩
    | true =>
      by_cases hk0 : 0 < k
      case neg =>
        have hki : ¬ (0 : Int) < (k : Int) := by omega
        have HE : Hid (ordF nameOk ltS (prevO l (k + 1)) (l.drop (k + 1)) = R) := Lib.hid (by rw [← HD.out, HX.out, show prevO l k = none by simp [prevO]; omega]; simp)
        go_wp2_with (go_at_call 42; refine (implNameOk_c _ _ hss).mono ?_; rintro e w' ⟨rfl, rfl⟩; rw [HN.out])
        go_roundg (gk - 1)
        case rel => exact ⟨k + 1, by omega, by go_num, rfl, HE⟩
        case measure => omega
      case pos =>
        have hki : (0 : Int) < (k : Int) := by omega
        obtain ⟨_, q, he, hq, p1⟩ := strAt hg (k - 1) (by omega)
        cases he
        have HP : Hid (prevO l k = some q) := Lib.hid (by have h := prevO_succ hq; rwa [show k - 1 + 1 = k by omega] at h)
        clear hq
        have hk2 : IntKind.i64.wrap ((k : Int) - 1) = ((k - 1 : Nat) : Int) := by rw [IntWalk.i64_in _ (by omega)]; omega
        rcases triB q.toList s.toList with ⟨h1, h2, h3, h4⟩ | ⟨h1, h2, h3, h4⟩ | ⟨h1, h2, h3, h4⟩
        · have HE : Hid (ordF nameOk ltS (prevO l (k + 1)) (l.drop (k + 1)) = R) := Lib.hid (by rw [← HD.out, HX.out, HP.out]; simp [ltS, h1])
          go_wp2_with (go_at_call 42; refine (implNameOk_c _ _ hss).mono ?_; rintro e w' ⟨rfl, rfl⟩; rw [HN.out])
          go_roundg (gk - 1)
          case rel => exact ⟨k + 1, by omega, by go_num, rfl, HE⟩
          case measure => omega
        · have HE : Hid (false = R) := Lib.hid (by rw [← HD.out, HX.out, HP.out]; simp [ltS, h1])
          go_wp2_with (go_at_call 42; refine (implNameOk_c _ _ hss).mono ?_; rintro e w' ⟨rfl, rfl⟩; rw [HN.out])
          go_ret
          exact ⟨by rw [← HE.out]; simp, rfl⟩
        · have HE : Hid (false = R) := Lib.hid (by rw [← HD.out, HX.out, HP.out]; simp [ltS, h1])
          go_wp2_with (go_at_call 42; refine (implNameOk_c _ _ hss).mono ?_; rintro e w' ⟨rfl, rfl⟩; rw [HN.out])
          go_ret
          exact ⟨by rw [← HE.out]; simp, rfl⟩
theorem specNameOk_v (s : ByteArray) (w : World) (hs : s.size ≤ 1048576) (b : Bool) (hb : nameOk s = b) : Calls Try.prog 37 #[.string s] w fun e w' => e = .returned (.bool b) ∧ w' = w :=
  (specNameOk_c s w hs).mono (by rintro e w' ⟨rfl, rfl⟩; exact ⟨by rw [hb], rfl⟩)
set_option maxHeartbeats 4000000 in
theorem l9Names_c (w : World) (l : List ByteArray) {A : Option Addr} {c : Nat} (hl : l.length ≤ c) (hg : Row Ki.str w A l) (hs : l.length ≤ 1048576 ∧ ∀ s ∈ l, s.size ≤ 1048576) :
    Calls Try.prog 38 #[.slice A l.length c] w fun e w' => e = .returned (.bool (namesF l 20)) ∧ Below w.heap.size w w' := by
  unfold namesF
  have HS := Lib.hid hs.2
  have hln := hs.1
  clear hs
  generalize hR : ordF nameOk ltS none l = R
  have HR : Hid (ordF nameOk ltS (prevO l 0) (l.drop 0) = R) := Lib.hid (by rw [← hR]; rfl)
  clear hR
  have hu2 := Try.underlying67
  go_enter Try.func38, Try.ntmps38
  by_cases hn : (20 : Int) < (l.length : Int)
  · go_wp2
    go_ret
    exact ⟨ret_bool (by simp; omega), Below.refl _ _⟩
  have HN20 := Lib.hid hn
  go_upto_region 4 with fail
  go_loopg [3] l.length (fun g v3 wr => ∃ k : Nat, k + g = l.length ∧ v3 = .int .i64 k ∧ Below w.heap.size w wr ∧ Hid (ordF nameOk ltS (prevO l k) (l.drop k) = R))
  case atStart => exact ⟨0, by omega, rfl, Below.refl _ _, HR⟩
  case round =>
    clear HR
    obtain ⟨k, hk, rfl, hb, HD⟩ := hrel
    by_cases hlt : k < l.length
    case neg =>
      have HE : Hid (true = R) := Lib.hid (by rw [← HD.out, ordF_end (by omega)])
      go_wp2
      go_ret
      exact ⟨ret_bool (by rw [← HE.out]; simp; omega), hb⟩
    obtain ⟨ad, s, rfl, hx, p0⟩ := strAt (Row_below hg hb) k hlt
    have hss := HS.out s (List.mem_of_getElem? hx)
    have HX := Lib.hid (ordF_step (ok := nameOk) (lt := ltS) hx)
    clear hx
    have Hb := fun n => below_dn hb n
    generalize hnm : nameOk s = bn at HX
    have HN := Lib.hid hnm
    clear hnm
    cases bn with
    | false =>
      have HE : Hid (false = R) := Lib.hid (by rw [← HD.out, HX.out]; simp)
      go_upto_region 6 with fail
      go_quiet ((go_at_call 37; exact Calls.quiet_of_same (specNameOk_v _ _ hss false HN.out)))
      go_wp2
      go_ret
      exact ⟨by rw [← HE.out]; simp, Hb _⟩
    | true =>
      by_cases hk0 : 0 < k
      case neg =>
        have hki : decide ((0 : Int) < (k : Int)) = false := by simp; omega
        have hkn : decide (0 < k) = false := by simp; omega
        have HE : Hid (ordF nameOk ltS (prevO l (k + 1)) (l.drop (k + 1)) = R) := Lib.hid (by rw [← HD.out, HX.out, show prevO l k = none by simp [prevO]; omega]; simp)
        clear hk0
        go_upto_region 6 with fail
        go_quiet ((go_at_call 37; exact Calls.quiet_of_same (specNameOk_v _ _ hss true HN.out)))
        go_wp2
        go_roundg (gk - 1)
        case rel => exact ⟨k + 1, by omega, by go_num, Hb _, HE⟩
        case measure => omega
      case pos =>
        have hki : decide ((0 : Int) < (k : Int)) = true := by simp; omega
        have hkn : decide (0 < k) = true := by simp; omega
        obtain ⟨_, q, he, hq, p1⟩ := strAt (Row_below hg hb) (k - 1) (by omega)
        cases he
        have HP : Hid (prevO l k = some q) := Lib.hid (by have h := prevO_succ hq; rwa [show k - 1 + 1 = k by omega] at h)
        clear hq
        have HK2 := Lib.hid (show IntKind.i64.wrap ((k : Int) - 1) = ((k - 1 : Nat) : Int) by rw [IntWalk.i64_in _ (by omega)]; omega)
        rcases triB q.toList s.toList with ⟨h1, h2, h3, h4⟩ | ⟨h1, h2, h3, h4⟩ | ⟨h1, h2, h3, h4⟩
        · have HE : Hid (ordF nameOk ltS (prevO l (k + 1)) (l.drop (k + 1)) = R) := Lib.hid (by rw [← HD.out, HX.out, HP.out]; simp [ltS, h1])
          go_upto_region 6 with fail
          have hk2 := HK2.out
          go_quiet ((go_at_call 37; exact Calls.quiet_of_same (specNameOk_v _ _ hss true HN.out)))
          clear hk2
          go_wp2
          go_roundg (gk - 1)
          case rel => exact ⟨k + 1, by omega, by go_num, Hb _, HE⟩
          case measure => omega
        · have HE : Hid (false = R) := Lib.hid (by rw [← HD.out, HX.out, HP.out]; simp [ltS, h1])
          go_upto_region 6 with fail
          have hk2 := HK2.out
          go_quiet ((go_at_call 37; exact Calls.quiet_of_same (specNameOk_v _ _ hss true HN.out)))
          clear hk2
          go_wp2
          go_ret
          exact ⟨by rw [← HE.out]; simp, Hb _⟩
        · have HE : Hid (false = R) := Lib.hid (by rw [← HD.out, HX.out, HP.out]; simp [ltS, h1])
          go_upto_region 6 with fail
          have hk2 := HK2.out
          go_quiet ((go_at_call 37; exact Calls.quiet_of_same (specNameOk_v _ _ hss true HN.out)))
          clear hk2
          go_wp2
          go_ret
          exact ⟨by rw [← HE.out]; simp, Hb _⟩
end Go.Proofs.Ytenldgbabcjjkaa.H
