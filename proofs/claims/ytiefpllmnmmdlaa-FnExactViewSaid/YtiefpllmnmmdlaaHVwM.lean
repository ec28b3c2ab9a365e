/-
The map of the last records: how its elements read, what it tells; what a range over it collects. Conditions: none.
-/
import Derived.Test.YtiefpllmnmmdlaaHVw0
import Derived.Maps.OwnSet
import Derived.Maps.RangeWalk
import Derived.Sort.KeysCollected
namespace Go.Proofs.Ytiefpllmnmmdlaa.H
open Go.RowKit Go.Maps
set_option linter.unusedVariables false
set_option linter.unusedSimpArgs false
theorem law_str : Keyed Try.prog 9 := string_keyed Try.underlying9
def encD (g : Bool) (s : ByteArray) : DataW Unit := .agg [.lit (.bool g), .lit (.string s.data.toList)]
/-- How a record reads as an element of the map: whether it is gone, and its value. -/
def recR : Value → Option (DataW Unit × List MemPlace)
  | .agg cs => match cs.toList with
    | [.int .i64 _, .bool _, .string _, .bool g, .string s, .slice _ _ _] => some (encD g s, [])
    | _ => none
  | _ => none
structure RecV where
  t : Int
  kd : Bool
  k : ByteArray
  g : Bool
  s : ByteArray
  A : Option Addr
  n : Nat
  c : Nat
def recMk (x : RecV) : Value := .agg #[.int .i64 x.t, .bool x.kd, .string x.k, .bool x.g, .string x.s, .slice x.A x.n x.c]
theorem recR_mk (x : RecV) : recR (recMk x) = some (encD x.g x.s, []) := rfl
theorem recR_inv (v : Value) (y : DataW Unit × List MemPlace) (h : recR v = some y) : ∃ x : RecV, v = recMk x := by
  unfold recR at h
  split at h
  · rename_i cs
    split at h
    · rename_i t kd k g s A n c he
      refine ⟨⟨t, kd, k, g, s, A, n, c⟩, ?_⟩
      unfold recMk
      congr 1
      exact Array.toList_inj.1 he
    · cases h
  · cases h
def keyL (k : ByteArray) : Lit := .string k.data.toList
theorem keyL_inj {a b : ByteArray} (h : keyL a = keyL b) : a = b := by
  unfold keyL at h
  injection h with h
  exact Go.WideShapes.bytes_inj h
theorem keyL_ok (k : ByteArray) : WideAt.IsKeyLit (keyL k) := trivial
theorem toList_iff (a b : ByteArray) : a.toList = b.toList ↔ a = b := ⟨ba_inj, fun h => by rw [h]⟩
/-- The map tells the last record of each key. -/
def MTells (D : DataW Unit) (l : List Record) : Prop := ∀ k : ByteArray, has D (keyL k) = (lastR l k).isSome ∧ ∀ r, lastR l k = some r → ∀ z, D.atKey (keyL k) z = encD r.Gone r.Value
theorem MTells.nil : MTells (.map []) [] := fun k => ⟨rfl, fun r h => by cases h⟩
theorem MTells.put {D : DataW Unit} {l : List Record} (h : MTells D l) (hD : IsMap D) (r : Record) : MTells (D.put (keyL r.Key) (encD r.Gone r.Value)) (l ++ [r]) := fun k => by
  rw [lastR_snoc]
  by_cases hk : r.Key.toList = k.toList
  · obtain rfl := ba_inj hk
    rw [if_pos rfl]
    exact ⟨by rw [has_put_same hD (keyL_ok _)]; rfl, fun q hq z => by cases hq; exact atKey_put_same hD (keyL_ok _) _ _⟩
  · rw [if_neg hk, has_put_other (fun e => hk (by rw [keyL_inj e]))]
    refine ⟨(h k).1, fun q hq z => ?_⟩
    rw [atKey_put_other (fun e => hk (by rw [keyL_inj e]))]
    exact (h k).2 q hq z
/-- What the range has collected. -/
def Coll (l : List Record) (left : Lit → Bool) (ss : List Pair) : Prop := ss.Pairwise (fun a b => a.Key ≠ b.Key) ∧ ∀ p, p ∈ ss ↔ (left (keyL p.Key) = false ∧ Lives l p)
theorem Coll.start {D : DataW Unit} {l : List Record} (h : MTells D l) : Coll l (has D) [] := by
  refine ⟨List.Pairwise.nil, fun p => ⟨(fun h => by cases h), fun hh => ?_⟩⟩
  obtain ⟨h1, r, h2, _⟩ := hh
  have := (h p.Key).1
  rw [h1, h2] at this
  cases this
theorem Coll.done {l : List Record} {left : Lit → Bool} {ss : List Pair} (h : Coll l left ss) (hl : ∀ k, left k = false) : ss.Pairwise (fun a b => a.Key ≠ b.Key) ∧ ∀ p, p ∈ ss ↔ Lives l p := ⟨h.1, fun p => (h.2 p).trans ⟨fun h => h.2, fun h => ⟨hl _, h⟩⟩⟩
theorem encD_inj {a b : Bool} {s t : ByteArray} (h : encD a s = encD b t) : a = b ∧ s = t := by
  unfold encD at h
  simp only [DataW.agg.injEq, List.cons.injEq, DataW.lit.injEq, Lit.bool.injEq, Lit.string.injEq, and_true] at h
  exact ⟨h.1, Go.WideShapes.bytes_inj h.2⟩
theorem Coll.step {D : DataW Unit} {l : List Record} {left : Lit → Bool} {ss : List Pair} (h : Coll l left ss) (hM : MTells D l) {k : ByteArray} {g : Bool} {s : ByteArray} (hl : left (keyL k) = true) (hat : ∀ z, D.atKey (keyL k) z = encD g s) :
    Coll l (fun z => left z && !z.sameKey (keyL k)) (if g = true then ss else ss ++ [⟨k, s⟩]) := by
  have hhas := has_true_of_atKey hat
  obtain ⟨r, hr⟩ : ∃ r, lastR l k = some r := by
    have := (hM k).1
    rw [hhas] at this
    exact Option.isSome_iff_exists.1 this.symm
  have he := ((hM k).2 r hr .nil).symm.trans (hat .nil)
  obtain ⟨rfl, rfl⟩ := encD_inj he
  have hnew : ∀ p : Pair, ((fun z : Lit => left z && !z.sameKey (keyL k)) (keyL p.Key) = false) ↔ (left (keyL p.Key) = false ∨ p.Key = k) := fun p => by
    simp only [Bool.and_eq_false_iff, Bool.not_eq_false']
    constructor
    · rintro (h | h)
      · exact .inl h
      · exact .inr (keyL_inj (WideAt.sameKey_eq h))
    · rintro (h | h)
      · exact .inl h
      · rw [h]; exact .inr (WideAt.sameKey_self (keyL_ok _))
  have hlive : ∀ p : Pair, p.Key = k → (Lives l p ↔ (r.Gone = false ∧ p.Value = r.Value)) := fun p hp => by
    unfold Lives
    rw [hp, hr]
    exact ⟨fun ⟨q, h1, h2, h3⟩ => by cases h1; exact ⟨h2, h3.symm⟩, fun ⟨h1, h2⟩ => ⟨r, rfl, h1, h2.symm⟩⟩
  have hnk : ∀ p ∈ ss, p.Key ≠ k := fun p hp e => by
    have := ((h.2 p).1 hp).1
    rw [e, hl] at this
    cases this
  by_cases hg : r.Gone = true
  · rw [if_pos hg]
    refine ⟨h.1, fun p => ?_⟩
    rw [hnew p]
    constructor
    · intro hp
      exact ⟨.inl ((h.2 p).1 hp).1, ((h.2 p).1 hp).2⟩
    · rintro ⟨h1 | h1, h2⟩
      · exact (h.2 p).2 ⟨h1, h2⟩
      · have := ((hlive p h1).1 h2).1
        rw [hg] at this
        cases this
  · have hg' : r.Gone = false := by simpa using hg
    rw [if_neg hg]
    refine ⟨List.pairwise_append.2 ⟨h.1, List.pairwise_singleton _ _, fun a ha b hb => by rw [List.mem_singleton.1 hb]; exact hnk a ha⟩, fun p => ?_⟩
    rw [hnew p, List.mem_append, List.mem_singleton]
    constructor
    · rintro (hp | rfl)
      · exact ⟨.inl ((h.2 p).1 hp).1, ((h.2 p).1 hp).2⟩
      · exact ⟨.inr rfl, (hlive _ rfl).2 ⟨hg', rfl⟩⟩
    · rintro ⟨h1 | h1, h2⟩
      · exact .inl ((h.2 p).2 ⟨h1, h2⟩)
      · have := ((hlive p h1).1 h2).2
        right
        cases p
        simp at h1 this
        rw [h1, this]
theorem Coll.len {D : DataW Unit} {l : List Record} {left : Lit → Bool} {ss : List Pair} (h : Coll l left ss) : ss.length ≤ (viewF l).length := by
  have h1 : ss.Nodup := h.1.imp (fun {a b} hne e => hne (by rw [e]))
  exact h1.length_le_of_subset (fun p hp => ((viewF_srt l).2 p).2 ((h.2 p).1 hp).2)
end Go.Proofs.Ytiefpllmnmmdlaa.H
