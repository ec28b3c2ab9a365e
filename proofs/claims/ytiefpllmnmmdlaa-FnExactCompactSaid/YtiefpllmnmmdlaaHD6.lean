/-
Which keys have come: a map of strings. Conditions: each contract's own premises.
-/
import Derived.Test.YtiefpllmnmmdlaaHD4
import Derived.Maps.OwnSet
namespace Go.Proofs.Ytiefpllmnmmdlaa.H
open Go.RowKit Go.Maps
set_option linter.unusedVariables false
set_option linter.unusedSimpArgs false
set_option maxRecDepth 100000
theorem law_str : Keyed Try.prog 9 := string_keyed Try.underlying9
theorem keyOf_str {s : ByteArray} (h : s.size ≤ maxLen) : keyOf Try.prog 9 (.string s) = some (.string s.data.toList) := keyOf_of_mapKey (by simp [mapKey, Try.underlying9, h])
def HasK {H : Type} (D : DataW H) (ks : List ByteArray) : Prop := ∀ s : ByteArray, s.size ≤ maxLen → D.atKey (.string s.data.toList) (.lit (.bool false)) = .lit (.bool (hitF ks s))
theorem HasK.nil {H : Type} : HasK (.map [] : DataW H) [] := fun s _ => rfl
theorem HasK.put {H : Type} {D : DataW H} {ks : List ByteArray} (h : HasK D ks) (hD : IsMap D) {s : ByteArray} (hs : s.size ≤ maxLen) : HasK (D.put (.string s.data.toList) (.lit (.bool true))) ([s] ++ ks) := fun q hq => by
  rw [hit_app]
  by_cases he : (Lit.string q.data.toList) = .string s.data.toList
  · rw [he, atKey_put_same hD (law_str.key (keyOf_str hs))]
    injection he with he
    simp [hitF, ByteArray.toList_eq, he]
  · rw [atKey_put_other he, h q hq]
    have : hitF [s] q = false := by
      simp only [hitF, List.any_cons, List.any_nil, Bool.or_false, beq_eq_false_iff_ne, ne_eq, ByteArray.toList_eq]
      exact fun e => he (by rw [e])
    rw [this, Bool.false_or]
theorem zero_boolK (w : World) : (zeroValue 4).run Try.prog w = .ok (.bool false) w := by kernel_rfl
/-- The look-up, as an equation: for a region that draws. -/
theorem look_str {H : Type} {w : World} {b n : Nat} {D : DataW H} {ks : List ByteArray} {s : ByteArray} (hown : w.ownsMap Try.prog 9 (plainElem Try.prog 4) b n D) (hs : s.size ≤ maxLen) (hD : HasK D ks) :
    (Instr.lookup 79 (.map (some b)) (.string s) false).run Try.prog w = .ok (.bool (hitF ks s)) w := by
  obtain ⟨v, ps, hrun, hv⟩ := hown.lookup law_str Try.underlying79 (zero_boolK w) (plainElem_bool Try.underlying4 false) (keyOf_str hs)
  rw [hD s hs] at hv
  have hv2 : v = .bool (hitF ks s) := by
    unfold plainElem at hv
    rw [Try.underlying4] at hv
    cases v <;> simp at hv
    rw [hv.1]
  rw [hrun, hv2]
theorem update_strK {H : Type} (w : World) {ops : Array Oper} {rest : List Oper} {o : Oper} {a : Act} {Q : Exit → Act → World → Prop}
    (hg : o.guard = none) (m x v : Operand) (hop : o.op = Op.mapUpdate 79 m x v) (b n : Nat) (D : DataW H) {ks : List ByteArray} {s : ByteArray}
    (hm : a.eval m = .map (some b)) (hown : w.ownsMap Try.prog 9 (plainElem Try.prog 4) b n D) (hn : n < maxLen) (hx : a.eval x = .string s) (hv : a.eval v = .bool true) (hs : s.size ≤ maxLen) (hD : HasK D ks)
    (hK : ∀ (w' : World) (D' : DataW H), w'.ownsMap Try.prog 9 (plainElem Try.prog 4) b (n + 1) D' → HasK D' ([s] ++ ks) → w.grownBy w' (some b) → wpList Try.prog ops Q rest (a.put o.dst undef) w') : wpList Try.prog ops Q (o :: rest) a w :=
  wpList_mapUpdate_own w hg m x v _ hop 9 4 law_str Try.underlying79 _ b n D hm hown hn _ _ _ hx hv (keyOf_str hs) _ [] (plainElem_bool Try.underlying4 true) (fun w' h1 h2 => hK w' _ h1 (hD.put hown.isMap hs) h2)
theorem info_bool : (Try.prog.info? 4).map (fun i => (i.zero, i.size, i.bytes)) = some (some (.bool false), 1, 1) := by kernel_rfl
theorem info_bools : (Try.prog.info? 58).map (fun i => (i.zero, i.size, i.bytes)) = some (some (.slice none 0 0), 1, 24) := by kernel_rfl
/-- 'make([]bool, n)', 'make([][]bool, n)': equations for the walk. -/
theorem make_bools (w : World) (n : Nat) (hn : n ≤ 1048576) : (Instr.makeSlice 58 (.int .i64 n) (.int .i64 n)).run Try.prog w = .ok (.slice (some ⟨w.heap.size, 0, none⟩) n n) (w.alloc (.cells (madeCells #[.bool false] n) 4)) := by
  obtain ⟨i0, hi, hz0, hz1, hz2⟩ := info_parts info_bool
  have h := run_makeSlice (P := Try.prog) w 58 4 i0 (.bool false) Try.underlying58 hi hz0 .i64 .i64 n n (by omega) (Int.le_refl _) (by rw [hz1]; simp; omega) (by rw [hz2]; omega) (by omega)
  rw [hz1] at h
  simpa [Value.cells] using h
theorem make_rows (w : World) (n : Nat) (hn : n ≤ 1048576) : (Instr.makeSlice 56 (.int .i64 n) (.int .i64 n)).run Try.prog w = .ok (.slice (some ⟨w.heap.size, 0, none⟩) n n) (w.alloc (.cells (madeCells #[.slice none 0 0] n) 58)) := by
  obtain ⟨i0, hi, hz0, hz1, hz2⟩ := info_parts info_bools
  have h := run_makeSlice (P := Try.prog) w 56 58 i0 (.slice none 0 0) Try.underlying56 hi hz0 .i64 .i64 n n (by omega) (Int.le_refl _) (by rw [hz1]; simp; omega) (by rw [hz2]; omega) (by omega)
  rw [hz1] at h
  simpa [Value.cells] using h
end Go.Proofs.Ytiefpllmnmmdlaa.H
