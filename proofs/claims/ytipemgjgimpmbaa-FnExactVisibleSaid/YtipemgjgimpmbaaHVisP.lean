/-
Visible in plain Lean: as the program reckons it, as the reference does. No program in sight. Conditions: none.
-/
import Derived.Test.YtipemgjgimpmbaaHAbort
import Derived.Test.YtipemgjgimpmbaaHCutP
namespace Go.Proofs.Ytipemgjgimpmbaa.H
open Go.RowKit
set_option linter.unusedVariables false
set_option linter.unusedSimpArgs false
/-- The program's test of one that was given up, the reference's. -/
def hitG (b : Batch) (g : Gone) : Bool := decide (g.Producer = b.Producer) && (decide (g.First ≤ b.Base) && decide (lastB b ≤ g.Last))
def hitS (b : Batch) (g : Gone) : Bool := decide (b.Producer = g.Producer) && (decide (g.First ≤ b.Base) && decide (b.Base ≤ g.Last))
def abG (b : Batch) (gs : List Gone) : Bool := bit2 b.Flags && gs.any (hitG b)
def readB (fr en : Int) (b : Batch) (k : Nat) (r : Record) : List Read := if fr ≤ b.Base + k ∧ b.Base + k < en then [⟨b.Base + k, r⟩] else []
def readsB (fr en : Int) (b : Batch) : List Record → Nat → List Read
  | [], _ => []
  | r :: rs, k => readB fr en b k r ++ readsB fr en b rs (k + 1)
def visB (st : Bool) (gs : List Gone) (fr en : Int) (b : Batch) : List Read := if 4 ≤ b.Flags then [] else if (st && abG b gs) = true then [] else readsB fr en b b.Records 0
def visL (st : Bool) (gs : List Gone) (fr en : Int) : List Batch → List Read
  | [] => []
  | b :: r => visB st gs fr en b ++ visL st gs fr en r
def visEnd (x : Log) (st : Bool) : Int := if st = true then stable x else x.Next
def visF (x : Log) (fr : Int) (st : Bool) : List Read := if cutOk x fr = true then visL st (aborted x) fr (visEnd x st) (allB x) else []
def visN (x : Log) (fr : Int) (st : Bool) : Int := if cutOk x fr = true then (if visEnd x st < fr then fr else visEnd x st) else -1
theorem readsB_snoc (fr en : Int) (b : Batch) : ∀ (l : List Record) (r : Record) (k : Nat), readsB fr en b (l ++ [r]) k = readsB fr en b l k ++ readB fr en b (k + l.length) r
  | [], r, k => by simp [readsB]
  | q :: l, r, k => by
    rw [List.cons_append, readsB, readsB_snoc fr en b l r (k + 1), readsB, List.append_assoc, List.length_cons, show k + 1 + l.length = k + (l.length + 1) by omega]
theorem readsB_take {fr en : Int} {b : Batch} {l : List Record} {k : Nat} {r : Record} (h : l[k]? = some r) : readsB fr en b (l.take (k + 1)) 0 = readsB fr en b (l.take k) 0 ++ readB fr en b k r := by
  have hk := (List.getElem?_eq_some_iff.1 h).1
  rw [take_snoc h, readsB_snoc, Nat.zero_add, List.length_take, Nat.min_eq_left (Nat.le_of_lt hk)]
theorem visL_snoc (st : Bool) (gs : List Gone) (fr en : Int) : ∀ (l : List Batch) (b : Batch), visL st gs fr en (l ++ [b]) = visL st gs fr en l ++ visB st gs fr en b
  | [], b => by simp [visL]
  | q :: l, b => by rw [List.cons_append, visL, visL_snoc st gs fr en l b, visL, List.append_assoc]
theorem visL_take {st : Bool} {gs : List Gone} {fr en : Int} {l : List Batch} {k : Nat} {b : Batch} (h : l[k]? = some b) : visL st gs fr en (l.take (k + 1)) = visL st gs fr en (l.take k) ++ visB st gs fr en b := by rw [take_snoc h, visL_snoc]
theorem readB_len (fr en : Int) (b : Batch) (k : Nat) (r : Record) : (readB fr en b k r).length ≤ 1 := by unfold readB; split <;> simp
theorem readsB_len (fr en : Int) (b : Batch) : ∀ (l : List Record) (k : Nat), (readsB fr en b l k).length ≤ l.length
  | [], _ => Nat.le_refl _
  | r :: l, k => by rw [readsB, List.length_append, List.length_cons]; have := readB_len fr en b k r; have := readsB_len fr en b l (k + 1); omega
theorem vis_len (st : Bool) (gs : List Gone) (fr en : Int) : ∀ l : List Batch, (visL st gs fr en l).length ≤ sumF Batch.sz l
  | [] => Nat.le_refl _
  | b :: r => by
    have e : sumF Batch.sz (b :: r) = b.sz + sumF Batch.sz r := by simp only [sumF, List.map_cons, List.sum_cons]
    rw [visL, List.length_append, e]
    have h1 := vis_len st gs fr en r
    have h2 : b.Records.length ≤ b.sz := szL_len _ _
    have h3 : (visB st gs fr en b).length ≤ b.Records.length := by
      unfold visB
      split
      · simp
      · split
        · simp
        · exact readsB_len _ _ _ _ _
    omega
theorem sumF_app {α : Type} (f : α → Nat) : ∀ (l r : List α), sumF f (l ++ r) = sumF f l + sumF f r
  | l, r => by simp [sumF]
theorem allB_sz (x : Log) : sumF Batch.sz (allB x) ≤ x.sz := by
  unfold allB Log.sz
  generalize x.Segments = l
  induction l with
  | nil => exact Nat.le_refl _
  | cons s r ih =>
    rw [List.flatMap_cons, sumF_app]
    have e : szL Segment.sz (s :: r) = 1 + s.sz + szL Segment.sz r := by simp only [szL, sumF, List.map_cons, List.sum_cons, List.length_cons]; omega
    have h2 : sumF Batch.sz s.Batches ≤ s.sz := by unfold Segment.sz szL; omega
    omega
theorem vis_room {x : Log} (hz : x.sz ≤ 1048576) (st : Bool) (gs : List Gone) (fr en : Int) {k : Nat} {b : Batch} (h : (allB x)[k]? = some b) : (visL st gs fr en ((allB x).take k)).length + b.Records.length ≤ 1048576 := by
  have h1 := vis_len st gs fr en ((allB x).take k)
  have h2 := sumF_take (f := Batch.sz) h
  have h3 := sumF_app Batch.sz ((allB x).take (k + 1)) ((allB x).drop (k + 1))
  rw [List.take_append_drop] at h3
  have h4 := allB_sz x
  have h5 : b.Records.length ≤ b.sz := szL_len _ _
  omega
/-- Batches of a right log lie apart, one behind the other. -/
theorem chain_ge : ∀ (l : List Batch) (p e : Int), chainB l p e → ∀ b ∈ l, p < b.Base
  | [], _, _, _, b, hb => by cases hb
  | c :: r, p, e, h, b, hb => by
    rw [chainB_cons] at h
    rcases List.mem_cons.1 hb with rfl | hb
    · exact h.2.1
    · have h1 := chain_ge r _ _ h.2.2.2 b hb
      have h2 := lastB_ge h.1
      omega
theorem chain_pair : ∀ (l : List Batch) (p e : Int), chainB l p e → l.Pairwise (fun a b => lastB a < b.Base)
  | [], _, _, _ => List.Pairwise.nil
  | c :: r, p, e, h => by
    rw [chainB_cons] at h
    exact List.Pairwise.cons (fun b hb => chain_ge r _ _ h.2.2.2 b hb) (chain_pair r _ _ h.2.2.2)
theorem pair_two {l : List Batch} (hp : l.Pairwise (fun a b => lastB a < b.Base)) {a b : Batch} (ha : a ∈ l) (hb : b ∈ l) : a = b ∨ lastB a < b.Base ∨ lastB b < a.Base := by
  induction l with
  | nil => cases ha
  | cons c r ih =>
    obtain ⟨h1, h2⟩ := List.pairwise_cons.1 hp
    rcases List.mem_cons.1 ha with ea | ha
    · rcases List.mem_cons.1 hb with eb | hb
      · exact .inl (ea.trans eb.symm)
      · rw [ea]; exact .inr (.inl (h1 b hb))
    · rcases List.mem_cons.1 hb with eb | hb
      · rw [eb]; exact .inr (.inr (h1 a ha))
      · exact ih h2 ha hb
/-- What is told as given up ends at a mark. -/
theorem gone_mark : ∀ (bs : List Batch) (s : List Gone × List Gone) (M : Batch → Prop), (∀ b ∈ bs, M b) → (∀ g ∈ s.2, ∃ m, M m ∧ 4 ≤ m.Flags ∧ g.Last = m.Base) → ∀ g ∈ (bs.foldl txB s).2, ∃ m, M m ∧ 4 ≤ m.Flags ∧ g.Last = m.Base
  | [], s, M, _, hs => hs
  | b :: r, s, M, hM, hs => by
    rw [List.foldl_cons]
    refine gone_mark r _ M (fun q hq => hM q (List.mem_cons_of_mem _ hq)) (fun g hg => ?_)
    unfold txB at hg
    split at hg
    · split at hg
      · exact hs g hg
      · split at hg <;> exact hs g hg
    · split at hg
      · rename_i h4
        simp only at hg
        split at hg
        · rcases List.mem_append.1 hg with hg | hg
          · exact hs g hg
          · rw [List.mem_singleton] at hg
            subst hg
            exact ⟨b, hM b List.mem_cons_self, h4, rfl⟩
        · exact hs g hg
      · exact hs g hg
theorem hit_same {x : Log} (hok : logOk x = true) {b : Batch} (hb : b ∈ allB x) (h4 : ¬ 4 ≤ b.Flags) : (aborted x).any (hitS b) = (aborted x).any (hitG b) := by
  have hc := chain_pair _ _ _ (logOk_chain hok).1
  have hg := gone_mark (allB x) ([], []) (fun m => m ∈ allB x) (fun m hm => hm) (fun g hg => by cases hg)
  have hA : aborted x = ((allB x).foldl txB ([], [])).2 := by unfold aborted; rw [if_pos hok]; rfl
  rw [← hA] at hg
  have hall := (logOk_all hok).2
  have hpt : ∀ g ∈ aborted x, hitS b g = hitG b g := fun g hgm => by
    obtain ⟨m, hm, hm4, hL⟩ := hg g hgm
    have hlb := lastB_ge (hall b hb)
    have hlm := lastB_ge (hall m hm)
    have h3 : b.Base ≤ g.Last ↔ lastB b ≤ g.Last := by
      rw [hL]
      rcases pair_two hc hb hm with e | e | e
      · subst e; exact absurd hm4 h4
      · omega
      · omega
    unfold hitS hitG
    rw [Bool.eq_iff_iff]
    simp only [Bool.and_eq_true, decide_eq_true_eq]
    constructor
    · rintro ⟨h1, h2, h5⟩; exact ⟨h1.symm, h2, h3.1 h5⟩
    · rintro ⟨h1, h2, h5⟩; exact ⟨h1.symm, h2, h3.2 h5⟩
  rw [Bool.eq_iff_iff]
  simp only [List.any_eq_true]
  constructor
  · rintro ⟨g, h1, h2⟩; exact ⟨g, h1, by rw [← hpt g h1]; exact h2⟩
  · rintro ⟨g, h1, h2⟩; exact ⟨g, h1, by rw [hpt g h1]; exact h2⟩
end Go.Proofs.Ytipemgjgimpmbaa.H
