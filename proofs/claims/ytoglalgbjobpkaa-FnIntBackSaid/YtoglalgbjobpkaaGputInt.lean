/-
The groups of a number: what PutInt writes, by the program and by the reference. Conditions: the number is an int64.
-/
import Derived.Test.YtoglalgbjobpkaaGlib
import Derived.Test.YtoglalgbjobpkaaFimplPutInt
namespace Go.Proofs.Ytoglalgbjobpkaa.G
open Go.RowKit Go.Proofs.Ytoglalgbjobpkaa.F Go.Proofs.YtoglalgbjobpkaaW.PrintWords Go.Proofs.YtoglalgbjobpkaaW.PrintLast Go.Proofs.YtoglalgbjobpkaaW.PrintMore
set_option linter.unusedVariables false

/-- The groups of u, at most d + 1. -/
def grp : Nat → Int → List Int
  | 0, u => [u]
  | d + 1, u => if u < 128 then [u] else (u % 128 + 128) :: grp d (u / 128)
/-- Zigzag. -/
def zig (n : Int) : Int := if n < 0 then -2 * n - 1 else 2 * n
def put (n : Int) : List Int := grp 9 (zig n)
/-- 128 ^ d, by hand. -/
def top : Nat → Int
  | 0 => 128
  | d + 1 => 128 * top d
theorem top9 : top 9 = 1180591620717411303424 := by decide
theorem grp_length : ∀ (d : Nat) (u : Int), 1 ≤ (grp d u).length ∧ (grp d u).length ≤ d + 1
  | 0, u => by simp [grp]
  | d + 1, u => by
    have := grp_length d (u / 128)
    unfold grp
    split
    · simp
    · simp; omega
theorem put_length (n : Int) : 1 ≤ (put n).length ∧ (put n).length ≤ 10 := grp_length 9 _
theorem zig_range {n : Int} (h0 : -9223372036854775808 ≤ n) (h1 : n ≤ 9223372036854775807) : 0 ≤ zig n ∧ zig n < 18446744073709551616 := by
  unfold zig; split <;> omega

theorem implPutInt_l : ∀ (d : Nat) (u : Int) (out : List Int), 0 ≤ u → u < top d → out.length + d ≤ 100 → Ev (fun k => impl_PutInt.l0 k u out) (out ++ grp d u) := by
  intro d
  induction d with
  | zero =>
    intro u out h0 h1 hl
    have h1' : u < 128 := h1
    refine Ev.step (f := fun _ => some (out ++ [u])) (fun k => ?_) (Ev.now _)
    rw [impl_PutInt.l0, if_neg (by omega), if_pos (by omega), show u % 256 = u by omega]
  | succ d ih =>
    intro u out h0 h1 hl
    have h1' : u < 128 * top d := h1
    by_cases h : u < 128
    · refine Ev.step (f := fun _ => some (out ++ grp (d + 1) u)) (fun k => ?_) (Ev.now _)
      rw [impl_PutInt.l0, if_neg (by omega), if_pos (by omega), show u % 256 = u by omega, grp, if_pos h]
    · have e := or128 (x := u % 256) (by omega) (by omega)
      have h3 := ih (u / 128) (out ++ [u % 128 + 128]) (by omega) (by omega) (by simp; omega)
      rw [grp, if_neg h]
      rw [List.append_assoc, List.singleton_append] at h3
      refine Ev.step (fun k => ?_) h3
      rw [impl_PutInt.l0, if_pos (by omega), if_pos (by omega), e, show u % 256 % 128 = u % 128 by omega]
theorem implPutInt_ev (n : Int) (h0 : -9223372036854775808 ≤ n) (h1 : n ≤ 9223372036854775807) : Ev (fun k => impl_PutInt.f k n) (put n) := by
  have hz := zig_range h0 h1
  have ht := top9
  refine Ev.congr (f := fun k => impl_PutInt.j0 k (zig n)) (fun k => ?_) (Ev.step (fun k => ?_) (implPutInt_l 9 (zig n) [] hz.1 (by omega) (by simp)))
  · unfold impl_PutInt.f
    by_cases h : n < 0
    · have e1 : IntKind.u64.wrap n = n + 18446744073709551616 := by simp [IntKind.wrap, IntKind.bits, IntKind.signed]; omega
      have e2 : IntKind.u64.wrap ((n + 18446744073709551616) * 2) = 2 * n + 18446744073709551616 := by simp [IntKind.wrap, IntKind.bits, IntKind.signed]; omega
      rw [if_pos h, e1, e2, xor_all (by omega) (by omega)]
      congr 1; unfold zig; rw [if_pos h]; omega
    · have e1 : IntKind.u64.wrap n = n := wrapU (by omega) (by omega)
      have e2 : IntKind.u64.wrap (n * 2) = 2 * n := by rw [wrapU (by omega) (by omega)]; omega
      rw [if_neg h, e1, e2]
      congr 1; unfold zig; rw [if_neg h]
  · rw [impl_PutInt.j0]
end Go.Proofs.Ytoglalgbjobpkaa.G
