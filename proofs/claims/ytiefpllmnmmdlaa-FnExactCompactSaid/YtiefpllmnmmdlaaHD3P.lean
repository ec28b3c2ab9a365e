/-
What Dirt counts, in plain Lean. No program in sight. Conditions: none.
-/
import Derived.Test.YtiefpllmnmmdlaaHD2
namespace Go.Proofs.Ytiefpllmnmmdlaa.H
open Go.RowKit
set_option linter.unusedVariables false
set_option linter.unusedSimpArgs false
set_option maxRecDepth 100000
def haveB (tt : Int) (b : Batch) : List Record → Nat → Nat
  | [], _ => 0
  | r :: rs, n => (if b.Base + n < tt then 1 else 0) + haveB tt b rs (n + 1)
def goB (tt cut : Int) (b : Batch) (T : List ByteArray) : List Record → Nat → Nat
  | [], _ => 0
  | r :: rs, n => (if goesF tt cut b (kB tt b rs (n + 1) ++ T) n r = true then 1 else 0) + goB tt cut b T rs (n + 1)
def haveL (tt : Int) : List Batch → Nat
  | [] => 0
  | b :: bs => haveB tt b b.Records 0 + haveL tt bs
def goL (tt cut : Int) : List Batch → Nat
  | [] => 0
  | b :: bs => goB tt cut b (kL tt bs) b.Records 0 + goL tt cut bs
def dirtF (x : Log) (tt now keep : Int) : Int × Int := if argsF x tt now keep = true then ((haveL tt (allB x) : Int), (goL tt (now - keep) (allB x) : Int)) else (0, 0)
theorem haveB_step {tt : Int} {b : Batch} {n : Nat} {y : Record} {l : List Record} (h : l[n]? = some y) : haveB tt b (l.drop n) n = (if b.Base + n < tt then 1 else 0) + haveB tt b (l.drop (n + 1)) (n + 1) := by
  obtain ⟨hk, rfl⟩ := List.getElem?_eq_some_iff.1 h
  rw [List.drop_eq_getElem_cons hk]; rfl
theorem goB_step {tt cut : Int} {b : Batch} {T : List ByteArray} {n : Nat} {y : Record} {l : List Record} (h : l[n]? = some y) : goB tt cut b T (l.drop n) n = (if goesF tt cut b (kB tt b (l.drop (n + 1)) (n + 1) ++ T) n y = true then 1 else 0) + goB tt cut b T (l.drop (n + 1)) (n + 1) := by
  obtain ⟨hk, rfl⟩ := List.getElem?_eq_some_iff.1 h
  rw [List.drop_eq_getElem_cons hk]; rfl
theorem haveL_step {tt : Int} {L : List Batch} {j : Nat} {b : Batch} (h : L[j]? = some b) : haveL tt (L.drop j) = haveB tt b b.Records 0 + haveL tt (L.drop (j + 1)) := by
  obtain ⟨hk, rfl⟩ := List.getElem?_eq_some_iff.1 h
  rw [List.drop_eq_getElem_cons hk]; rfl
theorem goL_step {tt cut : Int} {L : List Batch} {j : Nat} {b : Batch} (h : L[j]? = some b) : goL tt cut (L.drop j) = goB tt cut b (kL tt (L.drop (j + 1))) b.Records 0 + goL tt cut (L.drop (j + 1)) := by
  obtain ⟨hk, rfl⟩ := List.getElem?_eq_some_iff.1 h
  rw [List.drop_eq_getElem_cons hk]; rfl
theorem all_recs {x : Log} (h : x.sm) : ∀ b ∈ allB x, b.Records.length ≤ 1048576 := fun b hb => by
  unfold allB at hb
  obtain ⟨s, hs, hb⟩ := List.mem_flatMap.1 hb
  exact ((h.2 s hs).2 b hb).1
end Go.Proofs.Ytiefpllmnmmdlaa.H
