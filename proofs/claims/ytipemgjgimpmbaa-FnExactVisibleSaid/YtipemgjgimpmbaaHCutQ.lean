/-
CutTo in plain Lean; rows cut short. No program in sight. Conditions: none.
-/
import Derived.Test.YtipemgjgimpmbaaHMv
import Derived.Test.YtipemgjgimpmbaaHCutP
namespace Go.Proofs.Ytipemgjgimpmbaa.H
open Go.RowKit
set_option linter.unusedVariables false
set_option linter.unusedSimpArgs false
def cutR (tt : Int) (b : Batch) : Batch := ⟨b.Base, b.Epoch, b.Producer, b.Turn, b.Seq, b.Flags, b.Records.take (tt - b.Base).toNat⟩
def cutB (tt : Int) (b : Batch) : List Batch := if b.Base < tt then [cutR tt b] else []
def cutBs (tt : Int) : List Batch → List Batch
  | [] => []
  | b :: r => cutB tt b ++ cutBs tt r
def cutG (tt : Int) (s : Segment) : List Segment := if (cutBs tt s.Batches).length = 0 then [] else [⟨s.Base, cutBs tt s.Batches⟩]
def cutGs (tt : Int) : List Segment → List Segment
  | [] => []
  | s :: r => cutG tt s ++ cutGs tt r
def cutToL (x : Log) (tt : Int) : Log := if cutOk x tt then ⟨x.Start, tt, x.Roll, cutGs tt x.Segments⟩ else zLog
theorem cutBs_snoc (tt : Int) : ∀ (l : List Batch) (b : Batch), cutBs tt (l ++ [b]) = cutBs tt l ++ cutB tt b
  | [], b => by simp [cutBs]
  | c :: r, b => by rw [List.cons_append, cutBs, cutBs_snoc tt r b, cutBs, List.append_assoc]
theorem cutGs_snoc (tt : Int) : ∀ (l : List Segment) (b : Segment), cutGs tt (l ++ [b]) = cutGs tt l ++ cutG tt b
  | [], b => by simp [cutGs]
  | c :: r, b => by rw [List.cons_append, cutGs, cutGs_snoc tt r b, cutGs, List.append_assoc]
theorem cutB_len (tt : Int) (b : Batch) : (cutB tt b).length ≤ 1 := by unfold cutB; split <;> simp
theorem cutBs_len (tt : Int) : ∀ l : List Batch, (cutBs tt l).length ≤ l.length
  | [] => Nat.le_refl _
  | b :: r => by rw [cutBs, List.length_append, List.length_cons]; have := cutB_len tt b; have := cutBs_len tt r; omega
theorem cutGs_len (tt : Int) : ∀ l : List Segment, (cutGs tt l).length ≤ l.length
  | [] => Nat.le_refl _
  | b :: r => by
    rw [cutGs, List.length_append, List.length_cons]
    have : (cutG tt b).length ≤ 1 := by unfold cutG; split <;> simp
    have := cutGs_len tt r
    omega
theorem cutBs_take {tt : Int} {l : List Batch} {k : Nat} {b : Batch} (h : l[k]? = some b) : cutBs tt (l.take (k + 1)) = cutBs tt (l.take k) ++ cutB tt b := by rw [take_snoc h, cutBs_snoc]
theorem cutGs_take {tt : Int} {l : List Segment} {k : Nat} {b : Segment} (h : l[k]? = some b) : cutGs tt (l.take (k + 1)) = cutGs tt (l.take k) ++ cutG tt b := by rw [take_snoc h, cutGs_snoc]
section
variable {α : Type} {d : Ki α} {e : Nat} {w : World} {F : List Nat} {xs : List α} {A : Option Addr} {c n c' : Nat}
theorem own_take {base : Nat} {sz : Nat} {inner : List Value} {m : Nat} (h : w.ownsRow base e sz (.slice A m c) m inner) (hn : n ≤ m) (hm : 0 < m) : w.ownsRow base e sz (.slice A n c) n (inner.take (n * sz)) := by
  have hle : n * sz ≤ m * sz := Nat.mul_le_mul_right _ hn
  refine ⟨by rw [List.length_take, h.1]; omega, ?_⟩
  rcases h.2 with ⟨e1, h0⟩ | ⟨g, cap, cur, e1, hg, hh, hc, hmx, hs, ht⟩
  · omega
  · simp only [Value.slice.injEq, true_and] at e1
    obtain ⟨rfl, rfl⟩ := e1
    exact .inr ⟨g, c, cur, rfl, hg, hh, by omega, hmx, hs, by rw [← ht, List.take_take, Nat.min_eq_left hle]⟩
/-- The first n elements, the cap as it was or less. -/
theorem TS_take (h : TS d e w F xs (.slice A xs.length c)) (hn : n ≤ xs.length) (h0 : 0 < xs.length) (hc : n ≤ c') (hcc : c' ≤ c) : ∃ F', TS d e w F' (xs.take n) (.slice A n c') ∧ (F.Nodup → F'.Nodup) ∧ ∀ b ∈ F', b ∈ F := by
  obtain ⟨inner, Fs, ⟨hl0, v0, ho, hcap⟩, hl, _, hp, hx⟩ := h
  have hlt : (xs.take n).length = n := by rw [List.length_take]; omega
  have hv : ∃ c0, v0 = .slice A xs.length c0 ∧ c ≤ c0 := by
    rcases hcap with rfl | ⟨g, n', c0, c1, rfl, e1, q1, q2⟩
    · exact ⟨c, rfl, Nat.le_refl _⟩
    · simp only [Value.slice.injEq] at e1
      obtain ⟨rfl, rfl, rfl⟩ := e1
      exact ⟨c0, rfl, q2⟩
  obtain ⟨c0, rfl, hc0⟩ := hv
  have ho' := own_take ho hn h0
  have hA : ∃ g, A = some ⟨g, 0, none⟩ := by
    rcases ho.2 with ⟨_, h1⟩ | ⟨g, cap, cur, e1, _⟩
    · omega
    · simp only [Value.slice.injEq] at e1
      exact ⟨g, e1.1⟩
  obtain ⟨g, rfl⟩ := hA
  refine ⟨(Value.slice (some ⟨g, 0, none⟩) n c').ownBlock.toList ++ (Fs.take n).flatten, ⟨inner.take (n * d.sz), Fs.take n, ⟨by rw [hlt]; exact ho'.1, .slice (some ⟨g, 0, none⟩) n c0, by rw [hlt]; exact ho', .inr ⟨g, n, c0, c', rfl, rfl, hc, Nat.le_trans hcc hc0⟩⟩, by rw [hlt, List.length_take]; omega, Nat.le_refl _, List.Perm.refl _, fun i x hi => ?_⟩, fun hF => ?_, fun b hb => ?_⟩
  · rw [List.getElem?_take] at hi
    split at hi
    · rename_i hin
      obtain ⟨Fi, h1, h2⟩ := hx i x hi
      refine ⟨Fi, by rw [List.getElem?_take, if_pos hin]; exact h1, ?_⟩
      have hle : (i + 1) * d.sz ≤ n * d.sz := Nat.mul_le_mul_right _ hin
      rw [Nat.add_mul, Nat.one_mul] at hle
      rw [List.drop_take, List.take_take, Nat.min_eq_left (by omega)]
      exact h2
    · cases hi
  · have hnd := hp.nodup_iff.1 hF
    refine List.Sublist.nodup (List.Sublist.append_left ?_ _) hnd
    have h := List.sublist_append_left (Fs.take n).flatten (Fs.drop n).flatten
    rwa [← List.flatten_append, List.take_append_drop] at h
  · refine hp.mem_iff.2 ?_
    rcases List.mem_append.1 hb with h | h
    · exact List.mem_append_left _ h
    · obtain ⟨Fi, h1, h2⟩ := List.mem_flatten.1 h
      exact List.mem_append_right _ (List.mem_flatten.2 ⟨Fi, List.mem_of_mem_take h1, h2⟩)
end
end Go.Proofs.Ytipemgjgimpmbaa.H
