/-
FnExactPutInt: for every int the law answers true: the program's PutInt writes the bytes that the reference's writes, and its answer owns its memory.
Conditions: none beyond the statement's own.
-/
import Derived.Test.YtoglalgbjobpkaaKindsFnExactPutInt
import Derived.Test.YtoglalgbjobpkaaGputInt
import Derived.Test.YtoglalgbjobpkaaGbyteS
import Derived.Test.YtoglalgbjobpkaaFspecPutInt
namespace Go.Proofs.Ytoglalgbjobpkaa.Pure
open Go.RowKit Go.Proofs.Ytoglalgbjobpkaa.F Go.Proofs.Ytoglalgbjobpkaa.G Go.Proofs.Ytoglalgbjobpkaa Go.Proofs.YtoglalgbjobpkaaW.PrintWords Go.Proofs.YtoglalgbjobpkaaW.PrintLast Go.Proofs.YtoglalgbjobpkaaW.PrintMore
set_option linter.unusedVariables false

theorem specPutInt_l : ∀ (d : Nat) (u : Int) (out : List Int), 0 ≤ u → u < top d → u < 18446744073709551616 → out.length + d ≤ 100 → Ev (fun k => spec_PutInt.l0 k u out) (out ++ grp d u) := by
  intro d
  induction d with
  | zero =>
    intro u out h0 h1 h2 hl
    have h1' : u < 128 := h1
    refine Ev.step (f := fun _ => some (out ++ [u])) (fun k => ?_) (Ev.now _)
    rw [spec_PutInt.l0, if_neg (by omega), if_pos (by omega), show u % 256 = u by omega]
  | succ d ih =>
    intro u out h0 h1 h2 hl
    have h1' : u < 128 * top d := h1
    by_cases h : u < 128
    · refine Ev.step (f := fun _ => some (out ++ grp (d + 1) u)) (fun k => ?_) (Ev.now _)
      rw [spec_PutInt.l0, if_neg (by omega), if_pos (by omega), show u % 256 = u by omega, grp, if_pos h]
    · have h3 := ih (u / 128) (out ++ [u % 128 + 128]) (by omega) (by omega) (by omega) (by simp; omega)
      rw [grp, if_neg h]
      rw [List.append_assoc, List.singleton_append] at h3
      refine Ev.step (fun k => ?_) h3
      rw [spec_PutInt.l0, if_pos (by omega), if_pos (by omega), tmod_pos h0, tdiv_pos h0, wrapU (by omega) (by omega), show (u % 128 + 128) % 256 = u % 128 + 128 by omega]
theorem specPutInt_ev (n : Int) (h0 : -9223372036854775808 ≤ n) (h1 : n ≤ 9223372036854775807) : Ev (fun k => spec_PutInt.f k n) (put n) := by
  have hz := zig_range h0 h1
  have ht := top9
  refine Ev.congr (f := fun k => spec_PutInt.j0 k (zig n)) (fun k => ?_) (Ev.step (fun k => ?_) (specPutInt_l 9 (zig n) [] hz.1 (by omega) hz.2 (by simp)))
  · unfold spec_PutInt.f
    by_cases h : n < 0
    · have e1 : wrap64 (n + 1) = n + 1 := wrapI (by omega) (by omega)
      have e2 : wrap64 (-(n + 1)) = -(n + 1) := wrapI (by omega) (by omega)
      rw [if_pos h, e1, e2, wrapU (x := -(n + 1)) (by omega) (by omega), wrapU (x := -(n + 1) * 2) (by omega) (by omega), wrapU (by omega) (by omega)]
      congr 1; unfold zig; rw [if_pos h]; omega
    · have e1 : IntKind.u64.wrap n = n := wrapU (by omega) (by omega)
      have e2 : IntKind.u64.wrap (n * 2) = 2 * n := by rw [wrapU (by omega) (by omega)]; omega
      rw [if_neg h, e1, e2]
      congr 1; unfold zig; rw [if_neg h]
  · rw [spec_PutInt.j0]

theorem FnExactPutInt (a0 : Int) (w0 : Open.wfInt .i64 a0) : Ev (fun k => laws_FnExactPutInt.f k a0) true := by
  obtain ⟨h0, h1⟩ := wfI w0
  have hl := put_length a0
  have hi := implPutInt_ev a0 h0 h1
  have heq := eqByteS_ev (put a0) (by omega)
  obtain ⟨ys, m1, m2⟩ := marked (put a0) (by omega)
  unfold laws_FnExactPutInt.f
  refine Ev.bind (specPutInt_ev a0 h0 h1) (Ev.bind hi (Ev.bind heq ?_))
  simp only [if_true]
  refine Ev.bind m1 (Ev.bind m2 ?_)
  simp only [if_neg (show ¬ (1 + ((put a0).length : Int) < 0) by omega), if_true]
  refine Ev.bind hi (Ev.bind heq ?_)
  simp only [if_true]
  refine Ev.bind m2 ?_
  simp only [if_neg (show ¬ (1 + ((put a0).length : Int) < 0) by omega), if_true]
  exact Ev.now true
end Go.Proofs.Ytoglalgbjobpkaa.Pure
