/-
A number among numbers: slices.Index, slices.Contains, the reference's l5Has; the Epoch of a log's last batch. Conditions: each contract's own premises.
-/
import Derived.Test.YtpnjgmgnhkhapaaHQ1
import Derived.Test.YtpnjgmgnhkhapaaHAll2
import Derived.Test.YtpnjgmgnhkhapaaHFacts
namespace Go.Proofs.Ytpnjgmgnhkhapaa.H
open Go.RowKit
set_option linter.unusedVariables false
set_option linter.unusedSimpArgs false
set_option maxRecDepth 100000
def idxI (x : Int) : List Int → Nat → Int
  | [], _ => -1
  | y :: r, i => if x = y then i else idxI x r (i + 1)
theorem idxI_cons (x y : Int) (r : List Int) (i : Nat) : idxI x (y :: r) i = if x = y then (i : Int) else idxI x r (i + 1) := by rw [idxI]
theorem idxI_has (x : Int) : ∀ (l : List Int) (i : Nat), decide (0 ≤ idxI x l i) = l.contains x
  | [], i => by simp [idxI]
  | y :: r, i => by
    rw [idxI_cons, List.contains_cons]
    by_cases h : x = y
    · simp [h]
    · rw [if_neg h, idxI_has x r (i + 1)]; simp [h]
theorem idxI_lo (x : Int) : ∀ (l : List Int) (i : Nat), -1 ≤ idxI x l i
  | [], i => by simp [idxI]
  | y :: r, i => by
    rw [idxI_cons]; split
    · omega
    · exact idxI_lo x r (i + 1)
set_option maxHeartbeats 2000000 in
theorem index_c (w : World) (l : List Int) (x : Int) {A : Option Addr} {c : Nat} (hl : l.length ≤ c) (hg : Row (Ki.int .i64) w A l) (hs : l.length ≤ 1048576) :
    Calls Try.prog 86 #[.slice A l.length c, .int .i64 x] w fun e w' => e = .returned (.int .i64 (idxI x l 0)) ∧ Below w.heap.size w w' := by
  generalize hR : idxI x l 0 = R
  have HR := Lib.hid hR
  clear hR
  have hu2 := Try.underlying41
  go_enter Try.func86, Try.ntmps86
  go_wp2
  go_loopg [8] l.length (fun g v8 wr => ∃ k : Nat, k + g = l.length ∧ v8 = .int .i64 k ∧ Below w.heap.size w wr ∧ Hid (idxI x (l.drop k) k = R))
  case atStart => exact ⟨0, by omega, rfl, Below.refl _ _, HR⟩
  case round =>
    clear HR
    obtain ⟨k, hk, rfl, hb, HD⟩ := hrel
    by_cases hlt : k < l.length
    case neg =>
      have HE : Hid (-1 = R) := Lib.hid (by have h := HD.out; rw [List.drop_eq_nil_of_le (by omega)] at h; simpa [idxI] using h)
      go_wp2
      go_ret
      exact ⟨ret_int HE.out, hb⟩
    obtain ⟨ad, y, rfl, hx, p0⟩ := rowInt (Row_below hg hb) k hlt
    have HX := Lib.hid (dropQ_cons hx)
    clear hx
    have HD2 : Hid ((if x = y then (k : Int) else idxI x (l.drop (k + 1)) (k + 1)) = R) := Lib.hid (by rw [← idxI_cons, ← HX.out]; exact HD.out)
    clear HX HD
    by_cases he : x = y
    · have HE : Hid ((k : Int) = R) := Lib.hid (by rw [← HD2.out, if_pos he])
      have he2 : (x == y) = true := by simpa using he
      clear he
      go_wp2
      go_ret
      exact ⟨ret_int HE.out, hb⟩
    · have HE : Hid (idxI x (l.drop (k + 1)) (k + 1) = R) := Lib.hid (by rw [← HD2.out, if_neg he])
      have he2 : (x == y) = false := by simpa using he
      clear he
      go_wp2
      go_roundg (gk - 1)
      case rel => exact ⟨k + 1, by omega, by go_num, hb, HE⟩
      case measure => omega
theorem contains_c (w : World) (l : List Int) (x : Int) {A : Option Addr} {c : Nat} (hl : l.length ≤ c) (hg : Row (Ki.int .i64) w A l) (hs : l.length ≤ 1048576) :
    Calls Try.prog 58 #[.slice A l.length c, .int .i64 x] w fun e w' => e = .returned (.bool (l.contains x)) ∧ Below w.heap.size w w' := by
  have H : Hid (decide (0 ≤ idxI x l 0) = l.contains x) := Lib.hid (idxI_has x l 0)
  go_enter Try.func58, Try.ntmps58
  go_wp2_with (go_at_call 86; refine (index_c _ l x hl hg hs).mono ?_; rintro e w1 ⟨rfl, hb1⟩)
  go_ret
  exact ⟨ret_bool H.out, hb1⟩
set_option maxHeartbeats 2000000 in
theorem l5Has_c (w : World) (l : List Int) (x : Int) {A : Option Addr} {c : Nat} (hl : l.length ≤ c) (hg : Row (Ki.int .i64) w A l) (hs : l.length ≤ 1048576) :
    Calls Try.prog 52 #[.slice A l.length c, .int .i64 x] w fun e w' => e = .returned (.bool (l.contains x)) ∧ Below w.heap.size w w' := by
  generalize hR : l.contains x = R
  have HR : Hid (decide (0 ≤ idxI x l 0) = R) := Lib.hid (by rw [idxI_has]; exact hR)
  clear hR
  have hu2 := Try.underlying41
  go_enter Try.func52, Try.ntmps52
  go_wp2
  go_loopg [5] l.length (fun g v5 wr => ∃ k : Nat, k + g = l.length ∧ v5 = .int .i64 k ∧ Below w.heap.size w wr ∧ Hid (decide (0 ≤ idxI x (l.drop k) k) = R))
  case atStart => exact ⟨0, by omega, rfl, Below.refl _ _, HR⟩
  case round =>
    clear HR
    obtain ⟨k, hk, rfl, hb, HD⟩ := hrel
    by_cases hlt : k < l.length
    case neg =>
      have HE : Hid (false = R) := Lib.hid (by have h := HD.out; rw [List.drop_eq_nil_of_le (by omega)] at h; simpa [idxI] using h)
      go_wp2
      go_ret
      exact ⟨ret_bool HE.out, hb⟩
    obtain ⟨ad, y, rfl, hx, p0⟩ := rowInt (Row_below hg hb) k hlt
    have HX := Lib.hid (dropQ_cons hx)
    clear hx
    have HD2 : Hid (decide (0 ≤ if x = y then (k : Int) else idxI x (l.drop (k + 1)) (k + 1)) = R) := Lib.hid (by rw [← idxI_cons, ← HX.out]; exact HD.out)
    clear HX HD
    by_cases he : x = y
    · have HE : Hid (true = R) := Lib.hid (by rw [← HD2.out, if_pos he]; simp)
      have he2 : (y == x) = true := by simpa using he.symm
      clear he
      go_wp2
      go_ret
      exact ⟨ret_bool HE.out, hb⟩
    · have HE : Hid (decide (0 ≤ idxI x (l.drop (k + 1)) (k + 1)) = R) := Lib.hid (by rw [← HD2.out, if_neg he])
      have he2 : (y == x) = false := by simpa using (fun h : y = x => he h.symm)
      clear he
      go_wp2
      go_roundg (gk - 1)
      case rel => exact ⟨k + 1, by omega, by go_num, hb, HE⟩
      case measure => omega
set_option maxHeartbeats 2000000 in
theorem l5Epoch_c (w : World) (x : Log) {A3 : Option Addr} {c3 : Nat} (l3 : x.Segments.length ≤ c3) (g3 : Row kSegment w A3 x.Segments) (hn : x.Segments.length ≤ 1048576) (hb0 : (allB x).length ≤ 1000000) :
    Calls Try.prog 51 #[.agg #[.int .i64 x.Start, .int .i64 x.Next, .int .i64 x.Roll, .slice A3 x.Segments.length c3]] w fun e w' => e = .returned (.int .i64 (lastE (allB x) 0)) ∧ Below w.heap.size w w' := by
  have hu2 := Try.underlying97
  generalize hbs : allB x = bs at hb0
  have HBS := Lib.hid hbs
  clear hbs
  go_enter Try.func51, Try.ntmps51
  go_upto_region 2 with (go_at_call 82; refine (l3All_c _ x l3 (Row_below g3 (below_al _ _)) hn (by rw [HBS.out]; exact hb0)).mono ?_; rintro e w1 ⟨A, c, rfl, hc, hr, hb1⟩; rw [HBS.out] at hc hr ⊢)
  by_cases h0 : bs.length = 0
  · have h1 : ((bs.length : Int) == 0) = true := beq_iff_eq.2 (by omega)
    have H0 := Lib.hid h0
    clear h0
    go_wp2
    go_ret
    exact ⟨ret_int (by rw [List.length_eq_zero_iff.1 H0.out]; rfl), below_tr (below_al _ _) hb1⟩
  · have h1 : ((bs.length : Int) == 0) = false := beq_eq_false_iff_ne.2 (by omega)
    obtain ⟨bd, b, A6, c6, rfl, hbx, r0, r1, r2, r3, r4, r5, r6, l6, g6⟩ := Batch.at hr (bs.length - 1) (by omega)
    have HX := Lib.hid hbx
    clear hbx
    have h2 : (bs.length : Int) - 1 = ((bs.length - 1 : Nat) : Int) := by omega
    go_wp2
    go_ret
    exact ⟨ret_int (lastE_last _ _ _ HX.out).symm, below_tr (below_al _ _) hb1⟩
end Go.Proofs.Ytpnjgmgnhkhapaa.H
