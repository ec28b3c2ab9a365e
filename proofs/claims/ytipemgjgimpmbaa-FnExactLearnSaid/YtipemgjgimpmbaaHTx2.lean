/-
The program's Stable answers stable. Conditions: each contract's own premises.
-/
import Derived.Test.YtipemgjgimpmbaaHTx1
import Derived.Test.YtipemgjgimpmbaaHLog2
import Derived.Test.YtipemgjgimpmbaaHLog1
import Derived.Maps.RangeWalk
namespace Go.Proofs.Ytipemgjgimpmbaa.H
open Go.RowKit Go.Maps
set_option linter.unusedVariables false
set_option linter.unusedSimpArgs false
set_option maxRecDepth 100000
def leastOf (os : List Gone) (n : Int) : Int := os.foldl (fun m g => min m g.First) n
def stable (x : Log) : Int := if logOk x = true then leastOf (txF (allB x)).1 x.Next else -1
theorem leastOf_le : ∀ (os : List Gone) (n : Int), leastOf os n ≤ n ∧ ∀ g ∈ os, leastOf os n ≤ g.First
  | [], n => ⟨Int.le_refl _, fun g h => by cases h⟩
  | g :: r, n => by
    obtain ⟨h1, h2⟩ := leastOf_le r (min n g.First)
    have e : leastOf (g :: r) n = leastOf r (min n g.First) := rfl
    rw [e]
    refine ⟨by omega, fun y hy => ?_⟩
    rcases List.mem_cons.1 hy with rfl | hy
    · omega
    · exact h2 y hy
theorem leastOf_mem : ∀ (os : List Gone) (n : Int), leastOf os n = n ∨ ∃ g ∈ os, leastOf os n = g.First
  | [], n => .inl rfl
  | g :: r, n => by
    have e : leastOf (g :: r) n = leastOf r (min n g.First) := rfl
    rw [e]
    rcases leastOf_mem r (min n g.First) with h | ⟨y, hy, h⟩
    · rcases (show min n g.First = n ∨ min n g.First = g.First by omega) with h2 | h2
      · exact .inl (by rw [h, h2])
      · exact .inr ⟨g, by simp, by rw [h, h2]⟩
    · exact .inr ⟨y, by simp [hy], h⟩
/-- So far: the least of what has come. -/
def SoFar (os : List Gone) (n m : Int) (left : Lit → Bool) : Prop := m ≤ n ∧ (m = n ∨ ∃ g ∈ os, m = g.First) ∧ ∀ g ∈ os, left (.int .i64 g.Producer) = false → m ≤ g.First
theorem SoFar.done {os : List Gone} {n m : Int} {left : Lit → Bool} (h : SoFar os n m left) (hl : ∀ k, left k = false) : m = leastOf os n := by
  obtain ⟨h1, h2, h3⟩ := h
  obtain ⟨q1, q2⟩ := leastOf_le os n
  have a1 : leastOf os n ≤ m := by
    rcases h2 with h2 | ⟨g, hg, h2⟩
    · omega
    · have := q2 g hg; omega
  have a2 : m ≤ leastOf os n := by
    rcases leastOf_mem os n with h | ⟨g, hg, h⟩
    · omega
    · have := h3 g hg (hl _); omega
  omega
theorem SoFar.step {os : List Gone} {n m x c : Int} {left : Lit → Bool} {g0 : Gone} (h : SoFar os n m left) (ho : Once os) (hg : opGet os x = some g0) (hc : c = g0.First) : SoFar os n (min m c) (fun z => left z && !z.sameKey (.int .i64 x)) := by
  obtain ⟨h1, h2, h3⟩ := h
  obtain ⟨hm, hp⟩ := opGet_some hg
  refine ⟨by omega, ?_, fun g hgm hl => ?_⟩
  · rcases (show min m c = m ∨ min m c = c by omega) with e | e
    · rw [e]; exact h2
    · rw [e]; exact .inr ⟨g0, hm, hc⟩
  · simp only [Bool.and_eq_false_iff, Bool.not_eq_false'] at hl
    rcases hl with hl | hl
    · have := h3 g hgm hl; omega
    · by_cases e : g.Producer = x
      · obtain ⟨i, hi, he, _⟩ := atOf_some ho hg
        have : opGet os x = some g := by
          obtain ⟨j, hj, hje⟩ := List.mem_iff_getElem.1 hgm
          by_cases hij : i = j
          · subst hij
            rw [List.getElem?_eq_getElem hj, hje] at he
            rw [hg, he]
          · exfalso
            have hi2 : os[i] = g0 := by rw [List.getElem?_eq_getElem hi] at he; exact Option.some.inj he
            have hpw := List.pairwise_iff_getElem.1 ho
            rcases Nat.lt_or_gt_of_ne hij with hh | hh
            · have := hpw i j hi hj hh; rw [hi2, hje, hp, e] at this; exact this rfl
            · have := hpw j i hj hi hh; rw [hi2, hje, hp, e] at this; exact this rfl
        rw [hg] at this
        cases this
        omega
      · rw [sameKey_ne (key_ne e)] at hl
        cases hl
theorem has_open {H : Type} {D : DataW H} {os : List Gone} (h : Tells D os) {x c : Int} (hl : Go.Maps.has D (.int .i64 x) = true) (hat : ∀ zd, D.atKey (.int .i64 x) zd = .lit (.int .i64 c)) : ∃ g, opGet os x = some g ∧ c = g.First := by
  obtain ⟨h1, h2⟩ := h x
  rw [hl] at h1
  obtain ⟨g, hg⟩ := Option.isSome_iff_exists.1 h1.symm
  exact ⟨g, hg, first_of (h2 g hg) (hat _)⟩
set_option maxHeartbeats 4000000 in
theorem implStable_c (w : World) (x : Log) {A3 : Option Addr} {c3 : Nat} (l3 : x.Segments.length ≤ c3) (g3 : Row kSegment w A3 x.Segments) (hs : x.sm) :
    Calls Try.prog 79 #[.agg #[.int .i64 x.Start, .int .i64 x.Next, .int .i64 x.Roll, .slice A3 x.Segments.length c3]] w fun e w' => e = .returned (.int .i64 (stable x)) ∧ Below w.heap.size w w' := by
  unfold stable
  have HS := Lib.hid hs
  have hlen := hs.1
  clear hs
  generalize hok : logOk x = ok
  have Hok := Lib.hid hok
  clear hok
  cases ok with
  | false =>
    go_enter Try.func79, Try.ntmps79
    go_wp2_with (go_at_call 46; refine (implLogOk_c _ x l3 (Row_below g3 (below_al _ _)) HS.out).mono ?_; rintro e w' ⟨rfl, hb2⟩; rw [Hok.out])
    go_ret
    exact ⟨rfl, below_tr (below_al _ _) hb2⟩
  | true =>
    have hF := (logOk_chain Hok.out).2.2
    have HO := Lib.hid (txF_once (allB x))
    generalize hL : txF (allB x) = L at HO
    have HL := Lib.hid hL
    clear hL
    go_enter Try.func79, Try.ntmps79
    go_upto_region 6 with (first
      | (go_at_call 46; refine (implLogOk_c _ x l3 (Row_below g3 (below_al _ _)) HS.out).mono ?_; rintro e w1 ⟨rfl, hb1⟩; rw [Hok.out]; have X := (Box.new w _ _).later hb1; have z0 := X 0 _ rfl; have z1 := X 1 _ rfl; have z2 := X 2 _ rfl; have z3 := X 3 _ rfl; have hgz := X.lt rfl; have HX := Lib.hid X; clear X)
      | (go_at_call 47; refine (implTx_c _ x l3 (Row_below (Row_below g3 (below_al _ _)) hb1) HS.out Hok.out).mono ?_; rintro e w2 ⟨bm, D, v4, rfl, hown, hT, -, hb2⟩; have q1 := later hb2 z1; have hbb := below_tr (below_tr (below_al _ _) hb1) hb2; clear hb1 hb2 z0 z1 z2 z3 HX)
      | (at_range; refine wpList_range_own _ rfl _ 73 rfl 3 3 law_int Try.underlying73 _ bm 400 D rfl hown ?_; intro w0 hrg0 hg0 hs0))
    replace hT : Tells D L.1 := by rw [← HL.out]; exact hT
    have hbs : w.heap.size < w2.heap.size := World.block_lt_of_cell? w2 _ q1
    have hS0 : SoFar L.1 x.Next x.Next (Maps.has D) := ⟨Int.le_refl _, .inl rfl, fun g hg hl => absurd hl (by
      obtain ⟨h1, _⟩ := hT g.Producer
      rw [h1]
      cases ho : opGet L.1 g.Producer with
      | none => exact absurd rfl (opGet_none ho g hg)
      | some _ => simp)⟩
    go_frame
    go_loopw [5] (fun v5 wr => ∃ (left : Lit → Bool) (cnt : Nat) (m : Int), v5 = .int .i64 m ∧ wr.ranges Try.prog 3 (plainElem Try.prog 3) bm w2.heap.size 400 D left cnt ∧ SoFar L.1 x.Next m left ∧ Below w.heap.size w wr) (fun _ wr => wr.rangeLeft bm w2.heap.size)
    case atStart => exact ⟨_, _, _, rfl, hrg0, hS0, hbb.grown (hg0.but none) (by omega) (fun k hk => by cases hk)⟩
    case round =>
      clear hS0 hbb hrg0 hg0 hs0 q1
      obtain ⟨left, cnt, m, rfl, hrg, hS, hb⟩ := hrel
      go_wp2_with (first
        | (at_next; refine wpList_next_ranges_ii _ rfl _ rfl 3 3 .i64 .i64 law_int Try.underlying3 Try.underlying3 bm w2.heap.size 400 _ _ _ rfl hrg ?_ ?_)
        | go_in)
      · intro _ hl0
        have he := Lib.hid (hS.done hl0)
        go_wp2
        go_ret
        exact ⟨by rw [he.out]; rfl, hb⟩
      · intro a b w1 cnt1 hwx hwc hlx hat hrg1 hlt hg1 hs1 hen
        obtain ⟨g0, hg0, hc0⟩ := has_open hT (Maps.has_true_of_atKey hat) hat
        have HS2 := Lib.hid (hS.step HO.out hg0 hc0)
        clear hc0
        go_wp2
        go_roundw
        case rel => exact ⟨_, cnt1, min m b, by rw [show (if b < m then b else m) = min m b by omega], hrg1, HS2.out, hb.grown hg1 (by have := hb.size; omega) (fun k hk => by cases hk; omega)⟩
        case measure => rw [hrg1.left_eq, hrg.left_eq]; exact hlt
end Go.Proofs.Ytipemgjgimpmbaa.H
