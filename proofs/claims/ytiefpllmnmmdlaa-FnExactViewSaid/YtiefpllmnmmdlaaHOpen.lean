/-
WHAT A VALUE READS AS, kind by kind: out of the form's reading of an argument (any nesting of structs, slices, strings, whole numbers, bools) the kind's own fact. No program in sight.
Conditions: none.
-/
import Derived.Test.YtiefpllmnmmdlaaH0
import Derived.Deep.Slices
import Derived.WalkKit
import Derived.ProofKit
import Derived.OpenShut
import Derived.ShutString
import Derived.ChangeOld
import Derived.Below
import Derived.SizedLaws
namespace Go.Proofs.Ytiefpllmnmmdlaa.H
open Go.RowKit
set_option linter.unusedVariables false

/-- Whatever is read at type t is of the kind d, and Wf is known of it. -/
structure Rd {α : Type} (P : Program) (d : Ki α) (Wf : α → Prop) (t : TypeId) : Prop where
  cells : P.cellsOf t = d.sz
  out : ∀ {H : Type} {enc : TypeId × Value → H} {W : World} {sp : Nat → Bool} {fuel : Nat} {cs : List Value} {x : DataW H × List MemPlace}, DataW.trod enc P W 0 sp true fuel t cs = some x → ∃ y, d.K W y cs ∧ Wf y

def wfInt (k : IntKind) (n : Int) : Prop := (Lit.int k n).wf = true
def wfStr (s : ByteArray) : Prop := s.size ≤ maxLen
def wfBool (_ : Bool) : Prop := True
def wfList {α : Type} (Wf : α → Prop) (xs : List α) : Prop := xs.length ≤ maxLen ∧ ∀ x ∈ xs, Wf x
def wfPair {α β : Type} (Wa : α → Prop) (Wb : β → Prop) (x : α × β) : Prop := Wa x.1 ∧ Wb x.2

section
variable {P : Program}
theorem Rd.int {t : TypeId} {k : IntKind} (hc : P.cellsOf t = 1) (ht : P.underlying t = some (.int k)) : Rd P (Ki.int k) (wfInt k) t := by
  refine ⟨hc, fun {H enc W sp fuel cs x} h => ?_⟩
  cases fuel with
  | zero => simp [DataW.trod] at h
  | succ fuel =>
    rw [DataW.trod.eq_def] at h
    simp only [ht] at h
    split at h <;> simp_all
    obtain ⟨⟨rfl, hw⟩, _⟩ := h
    exact ⟨_, rfl, hw⟩
theorem Rd.bool {t : TypeId} (hc : P.cellsOf t = 1) (ht : P.underlying t = some .bool) : Rd P Ki.bool wfBool t := by
  refine ⟨hc, fun {H enc W sp fuel cs x} h => ?_⟩
  cases fuel with
  | zero => simp [DataW.trod] at h
  | succ fuel =>
    rw [DataW.trod.eq_def] at h
    simp only [ht] at h
    split at h <;> simp_all
    rename_i b
    cases b
    · exact Or.inl ⟨rfl, trivial⟩
    · exact Or.inr ⟨rfl, trivial⟩
theorem Rd.string {t : TypeId} (hc : P.cellsOf t = 1) (ht : P.underlying t = some .string) : Rd P Ki.str wfStr t := by
  refine ⟨hc, fun {H enc W sp fuel cs x} h => ?_⟩
  cases fuel with
  | zero => simp [DataW.trod] at h
  | succ fuel =>
    rw [DataW.trod.eq_def] at h
    simp only [ht] at h
    split at h <;> simp_all
    rename_i s
    exact ⟨s, rfl, h.1⟩
theorem Rd.slice {α : Type} [Inhabited α] {d : Ki α} {Wf : α → Prop} {t e e' : TypeId} (hc : P.cellsOf t = 1) (ht : P.underlying t = some (.slice e)) (h : Rd P d Wf e) : Rd P (Ki.slice e' d) (wfList Wf) t := by
  refine ⟨hc, fun {H enc W sp fuel cs x} h0 => ?_⟩
  rcases Go.Deep.open_slice ht h0 with ⟨rfl, _⟩ | ⟨a, len, cap, m, n, D, Pl, rfl, hb, hl, hm, hmm, _, hx⟩
  · exact ⟨[], ⟨none, 0, rfl, Nat.le_refl _, fun h => absurd h (Nat.lt_irrefl _)⟩, by simp, by simp⟩
  · have hlm : len ≤ m := by rw [hmm]; split <;> omega
    obtain ⟨f, hf⟩ := Go.Deep.choose_lt (n := len) (p := fun i y => ∃ cs', W.cells? 0 (a.add (i * P.cellsOf e)) (P.cellsOf e) = some cs' ∧ d.K W y cs' ∧ Wf y) (fun i hi => by
      obtain ⟨cs', h1, h2⟩ := hx i (by omega)
      obtain ⟨y, hy⟩ := h.out h2
      exact ⟨y, cs', h1, hy⟩)
    have hlen : ((List.range len).map f).length = len := by simp
    refine ⟨(List.range len).map f, ⟨some a, cap, by rw [hlen], by rw [hlen]; exact hl, fun hp => ⟨a, rfl, ?_⟩⟩, by rw [hlen]; exact Nat.le_trans hl hm, ?_⟩
    · intro j p hj
      have hjl : j < len := by have := (List.getElem?_eq_some_iff.1 hj).1; simpa using this
      obtain rfl : f j = p := by simpa [hjl] using hj
      obtain ⟨cs', h1, h2, _⟩ := hf j hjl
      rw [h.cells] at h1
      obtain ⟨_, hlc, hcell⟩ := World.cells?_some h1
      refine ⟨cs', h2, fun i u hu => ?_⟩
      have hi : i < d.sz := by have := (List.getElem?_eq_some_iff.1 hu).1; omega
      have := hcell i hi
      rw [Go.Deep.add_add] at this
      rw [this, hu]
    · intro x hx2
      obtain ⟨i, hi, rfl⟩ := List.mem_map.1 hx2
      obtain ⟨_, _, _, hw⟩ := hf i (List.mem_range.1 hi)
      exact hw

/-- Fields from place off on, one behind the other. -/
structure RdF {α : Type} (P : Program) (d : Ki α) (Wf : α → Prop) (fs : List Field) (off : Nat) : Prop where
  out : ∀ {H : Type} {enc : TypeId × Value → H} {W : World} {sp : Nat → Bool} {fuel : Nat} {cs : List Value} {xs : List (DataW H × List MemPlace)}, cs.length = off + d.sz →
    fs.mapM (fun f => DataW.trod enc P W 0 sp true fuel f.type ((cs.drop f.offset).take (P.cellsOf f.type))) = some xs → ∃ y, d.K W y (cs.drop off) ∧ Wf y
theorem RdF.last {α : Type} {d : Ki α} {Wf : α → Prop} {f : Field} {off : Nat} (ho : f.offset = off) (h : Rd P d Wf f.type) : RdF P d Wf [f] off := by
  refine ⟨fun {H enc W sp fuel cs xs} hl h0 => ?_⟩
  simp only [List.mapM_cons, List.mapM_nil] at h0
  obtain ⟨x, hx, _⟩ := Option.bind_eq_some_iff.1 h0
  rw [ho, h.cells, List.take_of_length_le (by simp; omega)] at hx
  exact h.out hx
theorem RdF.cons {α β : Type} {d : Ki α} {d' : Ki β} {Wf : α → Prop} {Wf' : β → Prop} {f : Field} {fs : List Field} {off : Nat} (ho : f.offset = off) (h : Rd P d Wf f.type) (h' : RdF P d' Wf' fs (off + d.sz)) : RdF P (Ki.pair d d') (wfPair Wf Wf') (f :: fs) off := by
  refine ⟨fun {H enc W sp fuel cs xs} hl h0 => ?_⟩
  have hl' : cs.length = off + (d.sz + d'.sz) := hl
  simp only [List.mapM_cons] at h0
  obtain ⟨x, hx, h1⟩ := Option.bind_eq_some_iff.1 h0
  obtain ⟨ys, hy, _⟩ := Option.bind_eq_some_iff.1 h1
  rw [ho, h.cells] at hx
  obtain ⟨a, ha, hwa⟩ := h.out hx
  obtain ⟨b, hb, hwb⟩ := h'.out (by omega) hy
  refine ⟨(a, b), ⟨(cs.drop off).take d.sz, cs.drop (off + d.sz), ?_, ha, hb⟩, hwa, hwb⟩
  rw [← List.drop_drop, List.take_append_drop]
theorem Rd.struct {α : Type} {d : Ki α} {Wf : α → Prop} {t : TypeId} {fs : Array Field} (hc : P.cellsOf t = d.sz) (ht : P.underlying t = some (.struct fs)) (h : RdF P d Wf fs.toList 0) : Rd P d Wf t := by
  refine ⟨hc, fun {H enc W sp fuel cs x} h0 => ?_⟩
  cases fuel with
  | zero => simp [DataW.trod] at h0
  | succ fuel =>
    rw [DataW.trod.eq_def] at h0
    simp only [ht] at h0
    by_cases hl : cs.length = P.cellsOf t
    · simp only [hl, if_true] at h0
      obtain ⟨xs, hxs, _⟩ := Option.map_eq_some_iff.1 h0
      have := h.out (by rw [hl, hc]; omega) hxs
      simpa using this
    · simp [hl] at h0
theorem Rd.iso {α β : Type} {d : Ki α} {Wf : α → Prop} {t : TypeId} (f : β → α) (g : α → β) (hfg : ∀ y, f (g y) = y) (h : Rd P d Wf t) : Rd P (Ki.iso d f) (fun x => Wf (f x)) t :=
  ⟨h.cells, fun h0 => by
    obtain ⟨y, h1, h2⟩ := h.out h0
    exact ⟨g y, by show d.K _ (f (g y)) _; rw [hfg]; exact h1, by show Wf (f (g y)); rw [hfg]; exact h2⟩⟩
end
end Go.Proofs.Ytiefpllmnmmdlaa.H
