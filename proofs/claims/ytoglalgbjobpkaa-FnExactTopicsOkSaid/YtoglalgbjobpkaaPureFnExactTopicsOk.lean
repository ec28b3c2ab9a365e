/-
FnExactTopicsOk: for every list of topics the law answers true: the program's TopicsOk answers as the reference's, and leaves its argument as it was.
Conditions: none beyond the statement's own.
-/
import Derived.Test.YtoglalgbjobpkaaKindsFnExactTopicsOk
import Derived.Test.YtoglalgbjobpkaaGTopic
import Derived.Test.YtoglalgbjobpkaaGnameOk
import Derived.Test.YtoglalgbjobpkaaGsmall
import Derived.Test.YtoglalgbjobpkaaFspecTopicsOk
import Derived.Test.YtoglalgbjobpkaaFimplTopicsOk
namespace Go.Proofs.Ytoglalgbjobpkaa.Pure
open Go.RowKit Go.Proofs.Ytoglalgbjobpkaa.F Go.Proofs.Ytoglalgbjobpkaa.G Go.Proofs.Ytoglalgbjobpkaa Go.Proofs.YtoglalgbjobpkaaW.PrintWords Go.Proofs.YtoglalgbjobpkaaW.PrintLast Go.Proofs.YtoglalgbjobpkaaW.PrintMore
set_option linter.unusedVariables false

theorem topics_l (xs : List S50) (hn : xs.length ≤ 20) (d : Nat) : ∀ (i : Nat) (a : Int), i + d = xs.length → 0 ≤ a → a ≤ 50 * i →
    ∃ r, Ev (fun k => spec_TopicsOk.l0 k xs a i) r ∧ Ev (fun k => impl_TopicsOk.l0 k xs a xs (xs.length : Int) i) r := by
  induction d with
  | zero =>
    intro i a hi h0 h1
    refine ⟨decide (a ≤ 400), Ev.step (f := fun _ => some (decide (a ≤ 400))) (fun k => ?_) (Ev.now _), Ev.step (f := fun _ => some (decide (a ≤ 400))) (fun k => ?_) (Ev.now _)⟩
    · rw [spec_TopicsOk.l0, if_neg (by omega)]
    · rw [impl_TopicsOk.l0, if_neg (by omega), if_pos (by omega)]
  | succ d ih =>
    intro i a hi h0 h1
    have ew : wrap64 ((i : Int) + 1) = ((i + 1 : Nat) : Int) := by rw [wrapI (by omega) (by omega)]; omega
    generalize hx : rd_T50 xs (i : Int) = x
    have n1 := specNameOk_ev x.f0
    have n2 := implNameOk_ev x.f0
    have e1 := l1In_eq x.f1 0 50
    have e2 := within_eq x.f1 0 50
    -- what stands ahead
    obtain ⟨b, hb1, hb2⟩ : ∃ b : Bool, (∀ {ρ : Type} (f g : Option ρ), (if (i : Int) > 0 then (if 0 ≤ (wrap64 ((i : Int) - 1)) then (if (wrap64 ((i : Int) - 1)) < (xs.length : Int) then (if ((Op.bytesLess (((rd_T50 xs (wrap64 ((i : Int) - 1))).f0).toList) (x.f0.toList)) = true) then f else g) else none) else none) else f) = if b = true then f else g) ∧ (∀ {ρ : Type} (f g h : Option ρ), (if (i : Int) > 0 then (if 0 ≤ (wrap64 ((i : Int) - 1)) then (if (wrap64 ((i : Int) - 1)) < (xs.length : Int) then (if ((Op.bytesLess (((rd_T50 xs (wrap64 ((i : Int) - 1))).f0).toList) (x.f0.toList)) = true) then f else g) else none) else none) else h) = if b = true then (if (i : Int) > 0 then f else h) else g) := by
      by_cases hp : (i : Int) > 0
      · have ep : wrap64 ((i : Int) - 1) = (i : Int) - 1 := wrapI (by omega) (by omega)
        refine ⟨Op.bytesLess (((rd_T50 xs ((i : Int) - 1)).f0).toList) (x.f0.toList), fun f g => ?_, fun f g h => ?_⟩
        · rw [if_pos hp, ep, if_pos (by omega), if_pos (by omega)]
        · rw [if_pos hp, ep, if_pos (by omega), if_pos (by omega), if_pos hp]
      · exact ⟨true, fun f g => by rw [if_neg hp, if_pos rfl], fun f g h => by rw [if_neg hp, if_pos rfl, if_neg hp]⟩
    by_cases hok : 0 ≤ x.f1 ∧ x.f1 ≤ 50
    · have ea : wrap64 (a + x.f1) = a + x.f1 := wrapI (by omega) (by omega)
      obtain ⟨r, p, q⟩ := ih (i + 1) (a + x.f1) (by omega) (by omega) (by omega)
      rw [decide_eq_true hok] at e1 e2
      refine ⟨if nameOk x.f0 = true then (if b = true then r else false) else false, ?_, ?_⟩
      · refine Ev.step (fun k => by rw [spec_TopicsOk.l0, if_pos (by omega), if_pos (by omega), hx]) (Ev.bind n1 ?_)
        simp only [e1, Option.bind_some, if_true, hb1, ea, ew]
        cases nameOk x.f0 <;> cases b <;> simp only [if_true, Bool.false_eq_true, if_false] <;> first | exact p | exact Ev.now _
      · refine Ev.step (fun k => by rw [impl_TopicsOk.l0, if_pos (by omega), if_pos (by omega), if_pos (by omega), hx]) (Ev.bind n2 ?_)
        simp only [hb2]
        simp only [e2, Option.bind_some, if_true, ea, ew, ite_self]
        cases nameOk x.f0 <;> cases b <;> simp only [if_true, Bool.false_eq_true, if_false] <;> first | exact q | exact Ev.now _
    · rw [decide_eq_false hok] at e1 e2
      refine ⟨false, ?_, ?_⟩
      · refine Ev.step (fun k => by rw [spec_TopicsOk.l0, if_pos (by omega), if_pos (by omega), hx]) (Ev.bind n1 ?_)
        simp only [e1, Option.bind_some, Bool.false_eq_true, if_false, ite_self]
        exact Ev.now _
      · refine Ev.step (fun k => by rw [impl_TopicsOk.l0, if_pos (by omega), if_pos (by omega), if_pos (by omega), hx]) (Ev.bind n2 ?_)
        simp only [hb2]
        simp only [e2, Option.bind_some, Bool.false_eq_true, if_false, ite_self]
        exact Ev.now _
/-- More than twenty: the program goes on to the end, and says no. -/
theorem topics_many (xs : List S50) (hn : xs.length > 20) (hb : xs.length ≤ 1048576) (d : Nat) : ∀ (i : Nat) (a : Int), i + d = xs.length → 0 ≤ a → a ≤ 50 * i →
    Ev (fun k => impl_TopicsOk.l0 k xs a xs (xs.length : Int) i) false := by
  induction d with
  | zero =>
    intro i a hi h0 h1
    refine Ev.step (f := fun _ => some false) (fun k => ?_) (Ev.now _)
    rw [impl_TopicsOk.l0, if_neg (by omega), if_neg (by omega)]
  | succ d ih =>
    intro i a hi h0 h1
    have ew : wrap64 ((i : Int) + 1) = ((i + 1 : Nat) : Int) := by rw [wrapI (by omega) (by omega)]; omega
    generalize hx : rd_T50 xs (i : Int) = x
    have n2 := implNameOk_ev x.f0
    have e2 := within_eq x.f1 0 50
    refine Ev.step (fun k => by rw [impl_TopicsOk.l0, if_pos (by omega), if_pos (by omega), if_pos (by omega), hx]) (Ev.bind n2 ?_)
    have hrest : Ev (fun k => (impl_within.f x.f1 0 50).bind fun t165 => if t165 = true then impl_TopicsOk.l0 k xs (wrap64 (a + x.f1)) xs (xs.length : Int) (wrap64 ((i : Int) + 1)) else some false) false := by
      by_cases hok : 0 ≤ x.f1 ∧ x.f1 ≤ 50
      · have ea : wrap64 (a + x.f1) = a + x.f1 := wrapI (by omega) (by omega)
        rw [decide_eq_true hok] at e2
        simp only [e2, Option.bind_some, if_true, ea, ew]
        exact ih (i + 1) (a + x.f1) (by omega) (by omega) (by omega)
      · rw [decide_eq_false hok] at e2
        simp only [e2, Option.bind_some, Bool.false_eq_true, if_false]
        exact Ev.now _
    cases nameOk x.f0
    · simp only [Bool.false_eq_true, if_false]; exact Ev.now _
    · simp only [if_true]
      by_cases hp : (i : Int) > 0
      · have ep : wrap64 ((i : Int) - 1) = (i : Int) - 1 := wrapI (by omega) (by omega)
        simp only [if_pos hp, ep, if_pos (show 0 ≤ (i : Int) - 1 by omega), if_pos (show (i : Int) - 1 < (xs.length : Int) by omega)]
        cases Op.bytesLess (((rd_T50 xs ((i : Int) - 1)).f0).toList) (x.f0.toList)
        · simp only [Bool.false_eq_true, if_false]; exact Ev.now _
        · simp only [if_true]; exact hrest
      · simp only [if_neg hp]; exact hrest
theorem topics (xs : List S50) (hb : xs.length ≤ 1048576) : ∃ r, Ev (fun k => spec_TopicsOk.f k xs) r ∧ Ev (fun k => impl_TopicsOk.f k xs) r := by
  by_cases h : (xs.length : Int) > 20
  · exact ⟨false, Ev.congr (f := fun _ => some false) (fun k => by unfold spec_TopicsOk.f; rw [if_pos h]) (Ev.now _), Ev.congr (fun k => by unfold impl_TopicsOk.f; rfl) (topics_many xs (by omega) hb xs.length 0 0 (by omega) (by omega) (by omega))⟩
  · obtain ⟨r, p, q⟩ := topics_l xs (by omega) xs.length 0 0 (by omega) (by omega) (by omega)
    exact ⟨r, Ev.congr (fun k => by unfold spec_TopicsOk.f; rw [if_neg h]; rfl) p, Ev.congr (fun k => by unfold impl_TopicsOk.f; rfl) q⟩

theorem FnExactTopicsOk (a0 : List (S114)) (w0 : Open.wfList Kinds.Wf114 a0) : Ev (fun k => laws_FnExactTopicsOk.f k a0) true := by
  obtain ⟨r, q, l, s⟩ := szTopicS_ev a0 1048576 (by omega) (by omega) ⟨by have := w0.1; simp only [maxLen] at this; omega, fun y hy => by have := (w0.2 y hy).1; simp only [Open.wfStr, maxLen] at this; show y.f0.size ≤ _; omega⟩
  unfold laws_FnExactTopicsOk.f
  refine Ev.bind q ?_
  by_cases c : r < 0
  · simp only [if_pos c]; exact Ev.now _
  simp only [if_neg c]
  have hs := s (by omega)
  have ht := toTopicS_ev a0 hs
  obtain ⟨t, p1, p2⟩ := topics (a0.map convTopic) (by simpa using hs.1)
  refine Ev.bind ht (Ev.bind p1 (Ev.bind ht (Ev.bind p2 ?_)))
  simp only [bne_self_eq_false, Bool.false_eq_true, if_false]
  refine Ev.bind ht (Ev.bind (eqTopicS_ev _ ⟨by simpa using hs.1, fun y hy => ?_⟩) ?_)
  · obtain ⟨z, hz, rfl⟩ := List.mem_map.1 hy
    exact hs.2 z hz
  simp only [if_true]
  exact Ev.now _
end Go.Proofs.Ytoglalgbjobpkaa.Pure
