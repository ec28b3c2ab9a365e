/-
Take in plain Lean; an element laid open and closed with other blocks. Conditions: none.
-/
import Derived.Test.YtipemgjgimpmbaaHIns2
namespace Go.Proofs.Ytipemgjgimpmbaa.H
open Go.RowKit
set_option linter.unusedVariables false
set_option linter.unusedSimpArgs false
def dupOf (b : Batch) : List Recent → Option Int
  | [] => none
  | r :: l => if r.Seq = b.Seq ∧ r.Many = b.Records.length then some r.Offset else dupOf b l
theorem dupOf_cons (b : Batch) (r : Recent) (l : List Recent) : dupOf b (r :: l) = if r.Seq = b.Seq ∧ r.Many = b.Records.length then some r.Offset else dupOf b l := by rw [dupOf]
def last5 {α : Type} (l : List α) : List α := l.drop (l.length - 5)
def newR (b : Batch) : Recent := ⟨b.Seq, b.Records.length, b.Base⟩
def takeNew (s : Seen) (fresh : Bool) (b : Batch) : Seen := ⟨s.Producer, b.Turn, b.Seq + b.Records.length, last5 ((if fresh = true then [] else s.Recent) ++ [newR b])⟩
def takeHas (l : List Seen) (b : Batch) (i : Nat) (s : Seen) : List Seen × Int × Int :=
  if b.Turn < s.Turn then (l, 3, -1)
  else if s.Turn = b.Turn then
    match dupOf b s.Recent with
    | some o => (l, 1, o)
    | none => if b.Seq = s.Next then (l.set i (takeNew s false b), 0, b.Base) else (l, 2, -1)
  else if b.Seq = 0 then (l.set i (takeNew s true b), 0, b.Base) else (l, 2, -1)
def insS (l : List Seen) (i : Nat) (p : Int) : List Seen := l.take i ++ newS p :: l.drop i
def takeNo (l : List Seen) (b : Batch) (i : Nat) : List Seen × Int × Int :=
  if b.Seq = 0 then (if 100 ≤ l.length then ([], 4, -1) else ((insS l i b.Producer).set i (takeNew (newS b.Producer) true b), 0, b.Base)) else (l, 2, -1)
def seenGet (p : Int) (l : List Seen) : Option Seen := match l[seenAt p l]? with
  | some s => if s.Producer = p then some s else none
  | none => none
def takeR (l : List Seen) (b : Batch) : List Seen × Int × Int :=
  if (tableOk l && batchOk b) = true then
    if b.Producer = -1 ∨ 4 ≤ b.Flags then (l, 0, -1)
    else match seenGet b.Producer l with
      | some s => takeHas l b (seenAt b.Producer l) s
      | none => takeNo l b (seenAt b.Producer l)
  else ([], 4, -1)
def takeL (l : List Seen) (b : Batch) : List Seen := (takeR l b).1
def takeC (l : List Seen) (b : Batch) : Int := (takeR l b).2.1
def takeO (l : List Seen) (b : Batch) : Int := (takeR l b).2.2
theorem hasAt_get (p : Int) (l : List Seen) : hasAt p l = (seenGet p l).isSome := by
  unfold hasAt seenGet
  cases l[seenAt p l]? with
  | none => rfl
  | some s => by_cases h : s.Producer = p <;> simp [h]
theorem seenGet_some {p : Int} {l : List Seen} {s : Seen} (h : seenGet p l = some s) : l[seenAt p l]? = some s ∧ s.Producer = p := by
  unfold seenGet at h
  cases h2 : l[seenAt p l]? with
  | none => rw [h2] at h; cases h
  | some t =>
    rw [h2] at h
    simp only at h
    split at h
    · cases h
      exact ⟨rfl, by assumption⟩
    · cases h
theorem insS_len (l : List Seen) (i : Nat) (p : Int) (h : i ≤ l.length) : (insS l i p).length = l.length + 1 := by unfold insS; simp; omega
theorem insS_get (l : List Seen) (i : Nat) (p : Int) (h : i ≤ l.length) : (insS l i p)[i]? = some (newS p) := by
  unfold insS
  rw [List.getElem?_append_right (by simp; omega), List.length_take, Nat.min_eq_left h, Nat.sub_self]
  rfl
theorem Foc.close2 {α : Type} {d : Ki α} {e : Nat} {w : World} {F Fi Fi' : List Nat} {g n cap i : Nat} {xs : List α} {cs : List Value} {x' : α} (h : Foc d e w F Fi g n cap xs i cs) (hT : d.T w Fi' x' cs) (hnd : Fi'.Nodup) (hdis : ∀ b ∈ Fi', b ∈ Fi ∨ b ∉ F) :
    ∃ F', TS d e w F' (xs.set i x') (.slice (some ⟨g, 0, none⟩) n cap) ∧ F'.Nodup ∧ ∀ b ∈ F', b ∈ F ∨ b ∈ Fi' := by
  have hgF := h.mem
  obtain ⟨inner, Fs, ho, hl, hn, hp, hi, hF, rfl, hx⟩ := h
  have hlen : (xs.set i x').length = n := by simp [hn]
  have hil : i < Fs.length := (List.getElem?_eq_some_iff.1 hi).1
  have hnd0 := hp.nodup_iff.1 hF
  rw [List.nodup_cons] at hnd0
  have hmemF : ∀ b ∈ Fs.flatten, b ∈ F := fun b hb => hp.mem_iff.2 (List.mem_cons_of_mem _ hb)
  have key : ∀ (Gs : List (List Nat)), Gs.flatten.Nodup → ∀ j < Gs.length, (∀ b ∈ Fi', b ∈ Gs[j]?.getD [] ∨ b ∉ Gs.flatten) → (Gs.set j Fi').flatten.Nodup ∧ ∀ b ∈ (Gs.set j Fi').flatten, b ∈ Gs.flatten ∨ b ∈ Fi' := by
    intro Gs
    induction Gs with
    | nil => intro _ j hj; simp at hj
    | cons G r ih =>
      intro hGs j hj hd
      rw [List.flatten_cons, List.nodup_append] at hGs
      obtain ⟨h1, h2, h3⟩ := hGs
      cases j with
      | zero =>
        simp only [List.set_cons_zero, List.flatten_cons, List.getElem?_cons_zero, Option.getD_some] at hd ⊢
        refine ⟨List.nodup_append.2 ⟨hnd, h2, fun a ha b hb e => ?_⟩, fun b hb => ?_⟩
        · subst e
          rcases hd a ha with hh | hh
          · exact h3 a hh a hb rfl
          · exact hh (List.mem_append_right _ hb)
        · rcases List.mem_append.1 hb with hb | hb
          · exact .inr hb
          · exact .inl (List.mem_append_right _ hb)
      | succ j =>
        simp only [List.set_cons_succ, List.flatten_cons, List.getElem?_cons_succ] at hd ⊢
        obtain ⟨k1, k2⟩ := ih h2 j (by simpa using hj) (fun b hb => by
          rcases hd b hb with hh | hh
          · exact .inl hh
          · exact .inr (fun h => hh (List.mem_append_right _ h)))
        refine ⟨List.nodup_append.2 ⟨h1, k1, fun a ha b hb e => ?_⟩, fun b hb => ?_⟩
        · subst e
          rcases k2 a hb with hh | hh
          · exact h3 a ha a hh rfl
          · rcases hd a hh with hq | hq
            · have hjl : j < r.length := by simpa using hj
              rw [List.getElem?_eq_getElem hjl, Option.getD_some] at hq
              exact h3 a ha a (List.mem_flatten.2 ⟨_, List.getElem_mem hjl, hq⟩) rfl
            · exact hq (List.mem_append_left _ ha)
        · rcases List.mem_append.1 hb with hb | hb
          · exact .inl (List.mem_append_left _ hb)
          · rcases k2 b hb with hh | hh
            · exact .inl (List.mem_append_right _ hh)
            · exact .inr hh
  obtain ⟨k1, k2⟩ := key Fs hnd0.2 i hil (fun b hb => by
    rw [hi, Option.getD_some]
    rcases hdis b hb with hh | hh
    · exact .inl hh
    · exact .inr (fun hq => hh (hmemF b hq)))
  refine ⟨g :: (Fs.set i Fi').flatten, ?_, ?_, ?_⟩
  · unfold TS
    rw [hlen]
    refine ⟨inner, Fs.set i Fi', ho, by simp; omega, by omega, by simp [Value.ownBlock], fun k x hk => ?_⟩
    by_cases e1 : k = i
    · subst e1
      rw [List.getElem?_set_self (by omega)] at hk
      cases hk
      exact ⟨Fi', by rw [List.getElem?_set_self hil], hT⟩
    · rw [List.getElem?_set_ne (fun h => e1 h.symm)] at hk
      obtain ⟨Fj, h1, h2⟩ := hx k x e1 hk
      exact ⟨Fj, by rw [List.getElem?_set_ne (fun h => e1 h.symm)]; exact h1, h2⟩
  · rw [List.nodup_cons]
    refine ⟨fun hh => ?_, k1⟩
    rcases k2 g hh with hq | hq
    · exact hnd0.1 hq
    · rcases hdis g hq with h1 | h1
      · exact hgF.2.1 h1
      · exact h1 hgF.1
  · intro b hb
    rcases List.mem_cons.1 hb with rfl | hb
    · exact .inl hgF.1
    · rcases k2 b hb with hq | hq
      · exact .inl (hmemF b hq)
      · exact .inr hq
theorem Foc.frame {α : Type} {d : Ki α} {e : Nat} {w w1 : World} {F Fi : List Nat} {g n cap i : Nat} {xs : List α} {cs : List Value} (h : Foc d e w F Fi g n cap xs i cs) (hb : Below w.heap.size w w1) : Foc d e w1 F Fi g n cap xs i cs := h.upd (Upd.of_below hb)
theorem Foc.map {α : Type} {d d' : Ki α} {e : Nat} {w : World} {F Fi : List Nat} {g n cap i : Nat} {xs : List α} {cs : List Value} (h : Foc d e w F Fi g n cap xs i cs) (hsz : d'.sz = d.sz) (hm : ∀ w F x cs, d.T w F x cs → d'.T w F x cs) : Foc d' e w F Fi g n cap xs i cs := by
  obtain ⟨inner, Fs, ho, hl, hn, hp, hi, hF, hc, hx⟩ := h
  refine ⟨inner, Fs, by rw [hsz]; exact ho, hl, hn, hp, hi, hF, by rw [hsz]; exact hc, fun j x hj hjx => ?_⟩
  obtain ⟨Fj, h1, h2⟩ := hx j x hj hjx
  exact ⟨Fj, h1, by rw [hsz]; exact hm _ _ _ _ h2⟩
theorem bt_facts {b : Batch} (h : batchOk b = true) : (0 ≤ b.Turn ∧ b.Turn ≤ 1000) ∧ (0 ≤ b.Seq ∧ b.Seq ≤ 1000000000) ∧ b.Records.length ≤ 40 := by
  unfold batchOk bA bA0 inB at h
  simp only [Bool.and_eq_true, decide_eq_true_eq] at h
  omega
theorem gen_wp {P : Program} {c : Code} {Q : Exit → Act → World → Prop} {a : Act} {w0 w : World} (h : Below w0.heap.size w0 w) (k : ∀ W, Below w0.heap.size w0 W → c.wp P Q a W) : c.wp P Q a w := k w h
end Go.Proofs.Ytipemgjgimpmbaa.H
