/-
The program's goes. Conditions: each contract's own premises.
-/
import Derived.Test.YtiefpllmnmmdlaaHD6
namespace Go.Proofs.Ytiefpllmnmmdlaa.H
open Go.RowKit Go.Maps
set_option linter.unusedVariables false
set_option linter.unusedSimpArgs false
set_option maxRecDepth 100000
theorem rowF_cons (tt cut : Int) (b : Batch) (T : List ByteArray) {l : List Record} {n : Nat} {y : Record} (h : l[n]? = some y) : rowF tt cut b T (l.drop n) n = goesF tt cut b (kB tt b (l.drop (n + 1)) (n + 1) ++ T) n y :: rowF tt cut b T (l.drop (n + 1)) (n + 1) := by
  obtain ⟨hk, rfl⟩ := List.getElem?_eq_some_iff.1 h
  rw [List.drop_eq_getElem_cons hk]; rfl
theorem rowF_mark {tt cut : Int} {b : Batch} (h : 4 ≤ b.Flags) (T : List ByteArray) : ∀ (l : List Record) (n : Nat), rowF tt cut b T l n = List.replicate l.length false ∧ kB tt b l n = []
  | [], _ => ⟨rfl, rfl⟩
  | r :: rs, n => by
    obtain ⟨h1, h2⟩ := rowF_mark (cut := cut) h T rs (n + 1)
    have he : eligF tt b n r = false := by simp [eligF]; intro _ h4; omega
    refine ⟨?_, ?_⟩
    · rw [rowF, h1]
      simp [goesF, he, List.replicate_succ]
    · rw [kB, h2, he]; rfl
/-- A row so far: what is yet to come is false. -/
def soR (tt cut : Int) (b : Batch) (T : List ByteArray) (k : Nat) : List Value := (List.replicate k false ++ rowF tt cut b T (b.Records.drop k) k).map Value.bool
theorem soR_len {tt cut : Int} {b : Batch} {T : List ByteArray} {k : Nat} (hk : k ≤ b.Records.length) : (soR tt cut b T k).length = b.Records.length := by
  unfold soR
  rw [List.length_map, List.length_append, List.length_replicate, rowF_len, List.length_drop]
  omega
theorem soR_set {tt cut : Int} {b : Batch} {T : List ByteArray} {k : Nat} {y : Record} (h : b.Records[k]? = some y) : (soR tt cut b T (k + 1)).set k (.bool (goesF tt cut b (kB tt b (b.Records.drop (k + 1)) (k + 1) ++ T) k y)) = soR tt cut b T k := by
  unfold soR
  rw [rowF_cons tt cut b T h, List.replicate_succ', List.map_append, List.map_append, List.map_append, List.map_cons, List.set_append_left _ _ (by simp)]
  rw [List.set_append_right _ _ (by simp)]
  simp
theorem soR_same {tt cut : Int} {b : Batch} {T : List ByteArray} {k : Nat} {y : Record} (h : b.Records[k]? = some y) (hg : goesF tt cut b (kB tt b (b.Records.drop (k + 1)) (k + 1) ++ T) k y = false) : soR tt cut b T (k + 1) = soR tt cut b T k := by
  unfold soR
  rw [rowF_cons tt cut b T h, hg, List.replicate_succ']
  simp
/-- The rows so far. -/
def soM (tt cut : Int) (L : List Batch) (O : Nat) (wr : World) (g : Nat) (cs : List Value) : Prop := cs.length = L.length ∧ Blk wr O cs.toArray 58 ∧
  ∀ j b, g ≤ j → L[j]? = some b → ∃ G, cs[j]? = some (.slice (some ⟨G, 0, none⟩) b.Records.length b.Records.length) ∧ O < G ∧ Blk wr G ((rowF tt cut b (kL tt (L.drop (j + 1))) b.Records 0).map Value.bool).toArray 4
theorem soM.read {tt cut : Int} {L : List Batch} {O : Nat} {wr : World} {cs : List Value} (h : soM tt cut L O wr 0 cs) : Row (Ki.slice 4 Ki.bool) wr (some ⟨O, 0, none⟩) (matF tt cut L) := fun _ => by
  obtain ⟨h1, h2, h3⟩ := h
  refine ⟨_, rfl, fun i x hi => ?_⟩
  have hil : i < L.length := by have := (List.getElem?_eq_some_iff.1 hi).1; rwa [matF_len] at this
  have hb := List.getElem?_eq_getElem hil
  rw [matF_get tt cut L i _ hb] at hi
  cases hi
  obtain ⟨G, e1, _, e3⟩ := h3 i _ (Nat.zero_le _) hb
  refine ⟨[_], ⟨some ⟨G, 0, none⟩, L[i].Records.length, rfl, by rw [rowF_len]; exact Nat.le_refl _, fun _ => ⟨_, rfl, fun k y hk => ⟨[.bool y], rfl, fun j u hj => ?_⟩⟩⟩, fun j u hj => ?_⟩
  · have hj0 : j = 0 := by have := (List.getElem?_eq_some_iff.1 hj).1; simp at this; omega
    subst hj0
    simp at hj
    subst hj
    have := e3.cell k (.bool y) (by simp [hk])
    by_cases hk0 : k = 0
    · subst hk0; simpa [Addr.add] using this
    · simpa [Addr.add, hk0, show Ki.bool.sz = 1 from rfl] using this
  · have hj0 : j = 0 := by have := (List.getElem?_eq_some_iff.1 hj).1; simp at this; omega
    subst hj0
    simp at hj
    subst hj
    have := h2.cell i _ (by rw [List.getElem?_toArray]; exact e1)
    rw [rowF_len]
    by_cases hi0 : i = 0
    · subst hi0; simpa [Addr.add] using this
    · simpa [Addr.add, hi0, show (Ki.slice 4 Ki.bool).sz = 1 from rfl] using this
end Go.Proofs.Ytiefpllmnmmdlaa.H
