/-
What a right log's batches are: at most 400, each right, their places and Epochs rise. No program in sight. Conditions: none.
-/
import Derived.Test.YtiefpllmnmmdlaaHAll
namespace Go.Proofs.Ytiefpllmnmmdlaa.H
set_option linter.unusedVariables false
set_option linter.unusedSimpArgs false
theorem iB_all : ∀ (bs : List Batch) (l e : Int) (q : Int × Int), iB bs l e = some q → ∀ b ∈ bs, batchOk b = true
  | [], l, e, q, h => by simp
  | b :: r, l, e, q, h => by
    simp only [iB] at h
    split at h
    · rename_i hc
      simp only [Bool.and_eq_true, decide_eq_true_eq] at hc
      intro b' hb'
      rcases List.mem_cons.1 hb' with rfl | hb'
      · exact hc.1.1
      · exact iB_all r _ _ q h b' hb'
    · cases h
theorem iS_all (next : Int) : ∀ (ss : List Segment) (fst : Bool) (l e : Int) (m : Nat) (q : Int), m ≤ 400 → iS next fst ss l e m = some q → m + (ss.flatMap (·.Batches)).length ≤ 400 ∧ ∀ b ∈ ss.flatMap (·.Batches), batchOk b = true
  | [], fst, l, e, m, q, hm, h => by simp [hm]
  | s :: r, fst, l, e, m, q, hm, h => by
    simp only [iS] at h
    split at h
    · cases h
    · rename_i hc
      have hm2 : m + s.Batches.length ≤ 400 := by simp at hc; omega
      simp only [List.flatMap_cons, List.length_append, List.mem_append]
      split at h
      · rename_i hbs
        split at h
        · cases h
        · obtain ⟨h1, h2⟩ := iS_all next r _ _ _ _ q hm2 h
          rw [hbs] at h1 ⊢
          simp only [List.length_nil] at *
          exact ⟨by omega, fun b hb => by rcases hb with hb | hb; (cases hb); exact h2 b hb⟩
      · rename_i b0 bs hbs
        split at h
        · cases h
        · obtain ⟨p, hp, h⟩ := Option.bind_eq_some_iff.1 h
          obtain ⟨h1, h2⟩ := iS_all next r _ _ _ _ q hm2 h
          have h3 := iB_all _ _ _ _ hp
          rw [hbs] at h1 ⊢
          exact ⟨by omega, fun b hb => by
            rcases hb with hb | hb
            · exact h3 b (by rw [hbs]; exact hb)
            · exact h2 b hb⟩
theorem logOk_all {x : Log} (h : logOk x = true) : (allB x).length ≤ 400 ∧ ∀ b ∈ allB x, batchOk b = true := by
  unfold logOk at h
  simp only [Bool.and_eq_true] at h
  obtain ⟨_, h⟩ := h
  split at h
  · rename_i q hq
    have := iS_all _ _ _ _ _ _ _ (by omega) hq
    unfold allB
    exact ⟨by omega, this.2⟩
  · cases h
/-- Batches behind place l and Epoch e. -/
def chainB : List Batch → Int → Int → Prop
  | [], _, _ => True
  | b :: r, l, e => batchOk b = true ∧ l < b.Base ∧ e ≤ b.Epoch ∧ chainB r (lastB b) b.Epoch
def endL : List Batch → Int → Int
  | [], l => l
  | b :: r, _ => endL r (lastB b)
def lastE : List Batch → Int → Int
  | [], e => e
  | b :: r, _ => lastE r b.Epoch
theorem chainB_cons (b : Batch) (r : List Batch) (l e : Int) : chainB (b :: r) l e = (batchOk b = true ∧ l < b.Base ∧ e ≤ b.Epoch ∧ chainB r (lastB b) b.Epoch) := by rw [chainB]
theorem iB_chain : ∀ (bs : List Batch) (l e : Int) (q : Int × Int) (rest : List Batch), iB bs l e = some q → endL (bs ++ rest) l = endL rest q.1 ∧ (chainB rest q.1 q.2 → chainB (bs ++ rest) l e)
  | [], l, e, q, rest, h => by simp [iB] at h; subst h; simp
  | b :: r, l, e, q, rest, h => by
    simp only [iB] at h
    split at h
    · rename_i hc
      simp only [Bool.and_eq_true, decide_eq_true_eq] at hc
      obtain ⟨h1, h2⟩ := iB_chain r _ _ q rest h
      simp only [List.cons_append, endL, chainB_cons]
      exact ⟨h1, fun hr => ⟨hc.1.1, hc.1.2, hc.2, h2 hr⟩⟩
    · cases h
theorem iS_chain (next : Int) : ∀ (ss : List Segment) (fst : Bool) (l e : Int) (m : Nat) (q : Int), iS next fst ss l e m = some q → chainB (ss.flatMap (·.Batches)) l e ∧ endL (ss.flatMap (·.Batches)) l = q
  | [], fst, l, e, m, q, h => by simp [iS] at h; subst h; simp [chainB, endL]
  | s :: r, fst, l, e, m, q, h => by
    simp only [iS] at h
    split at h
    · cases h
    · simp only [List.flatMap_cons]
      split at h
      · rename_i hbs
        split at h
        · cases h
        · rw [hbs]; exact iS_chain next r _ _ _ _ q h
      · rename_i b0 bs hbs
        split at h
        · cases h
        · obtain ⟨p, hp, h⟩ := Option.bind_eq_some_iff.1 h
          obtain ⟨h1, h2⟩ := iS_chain next r _ _ _ _ q h
          obtain ⟨h3, h4⟩ := iB_chain _ _ _ _ (r.flatMap (·.Batches)) hp
          exact ⟨h4 h1, by rw [h3, h2]⟩
theorem logOk_chain {x : Log} (h : logOk x = true) : chainB (allB x) (-1) 0 ∧ endL (allB x) (-1) < x.Next ∧ logHdr x = true := by
  unfold logOk at h
  simp only [Bool.and_eq_true] at h
  obtain ⟨h0, h⟩ := h
  split at h
  · rename_i q hq
    have := iS_chain _ _ _ _ _ _ _ hq
    unfold allB
    refine ⟨this.1, ?_, h0⟩
    rw [this.2]
    simpa using h
  · cases h
theorem lastE_cons (b : Batch) (r : List Batch) (e : Int) : lastE (b :: r) e = lastE r b.Epoch := by rw [lastE]
theorem lastE_ge : ∀ (bs : List Batch) (l e : Int), chainB bs l e → e ≤ lastE bs e
  | [], l, e, _ => Int.le_refl _
  | b :: r, l, e, h => by
    rw [chainB_cons] at h
    have := lastE_ge r _ _ h.2.2.2
    simp only [lastE]
    omega
theorem chain_all (E : Int) : ∀ (bs : List Batch) (l e : Int), chainB bs l e → e ≤ E → bs.all (fun b => decide (b.Epoch ≤ E)) = decide (lastE bs e ≤ E)
  | [], l, e, _, he => by simp [lastE, he]
  | b :: r, l, e, h, he => by
    rw [chainB_cons] at h
    rw [lastE_cons, List.all_cons]
    by_cases hb : b.Epoch ≤ E
    · rw [chain_all E r _ _ h.2.2.2 hb]; simp [hb]
    · have := lastE_ge r _ _ h.2.2.2
      have h1 : decide (b.Epoch ≤ E) = false := by simp; omega
      have h2 : decide (lastE r b.Epoch ≤ E) = false := by simp; omega
      rw [h1, h2]; rfl
theorem lastE_last : ∀ (bs : List Batch) (e : Int) (b : Batch), bs[bs.length - 1]? = some b → lastE bs e = b.Epoch
  | [], e, b, h => by simp at h
  | [c], e, b, h => by simp at h; subst h; rfl
  | c :: d :: r, e, b, h => by
    simp only [lastE]
    exact lastE_last (d :: r) c.Epoch b (by simpa using h)
end Go.Proofs.Ytiefpllmnmmdlaa.H
