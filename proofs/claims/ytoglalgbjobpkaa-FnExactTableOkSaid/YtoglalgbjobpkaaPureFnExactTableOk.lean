/-
FnExactTableOk: for every table the law answers true: the program's TableOk answers as the reference's, and leaves its argument as it was.
Conditions: none beyond the statement's own.
-/
import Derived.Test.YtoglalgbjobpkaaKindsFnExactTableOk
import Derived.Test.YtoglalgbjobpkaaLSeen
import Derived.Test.YtoglalgbjobpkaaGsmall
import Derived.Test.YtoglalgbjobpkaaFspecTableOk
import Derived.Test.YtoglalgbjobpkaaFimplTableOk
namespace Go.Proofs.Ytoglalgbjobpkaa.Pure
open Go.RowKit Go.Proofs.Ytoglalgbjobpkaa.F Go.Proofs.Ytoglalgbjobpkaa.G Go.Proofs.Ytoglalgbjobpkaa Go.Proofs.YtoglalgbjobpkaaW.PrintWords Go.Proofs.YtoglalgbjobpkaaW.PrintLast Go.Proofs.YtoglalgbjobpkaaW.PrintMore
set_option linter.unusedVariables false
set_option linter.unusedSimpArgs false

theorem off_eq (n : Int) : impl_offsetOk.f n = some (decide (0 ≤ n ∧ n ≤ 1000000000)) := by
  unfold impl_offsetOk.f
  by_cases h : n ≥ 0
  · rw [if_pos h]; congr 1
    by_cases h2 : n ≤ 1000000000
    · rw [decide_eq_true h2, decide_eq_true ⟨h, h2⟩]
    · rw [decide_eq_false h2, decide_eq_false (fun x => h2 x.2)]
  · rw [if_neg h, decide_eq_false (fun x => h x.1)]

theorem recents_l (xs : List S134) (i : Nat) (hb : i < 1000) (p t n : Int) (rs : List S136) (hr : rs.length ≤ 5)
    (H : ∃ r, Ev (fun k => spec_TableOk.l0 k xs ((i + 1 : Nat) : Int)) r ∧ Ev (fun k => impl_TableOk.l0 k xs xs (xs.length : Int) ((i + 1 : Nat) : Int)) r) (d : Nat) : ∀ j : Nat, j + d = rs.length →
    ∃ r, Ev (fun k => spec_TableOk.l1 k xs i j p t n rs) r ∧ Ev (fun k => impl_TableOk.l1 k xs xs (xs.length : Int) i rs (rs.length : Int) j p t n rs) r := by
  have ei : wrap64 ((i : Int) + 1) = ((i + 1 : Nat) : Int) := by rw [wrapI (by omega) (by omega)]; omega
  induction d with
  | zero =>
    intro j hj
    obtain ⟨r, h1, h2⟩ := H
    exact ⟨r, Ev.step (fun k => by rw [spec_TableOk.l1, if_neg (by omega), ei]) h1, Ev.step (fun k => by rw [impl_TableOk.l1, if_neg (by omega), ei]) h2⟩
  | succ d ih =>
    intro j hj
    have ej : wrap64 ((j : Int) + 1) = ((j + 1 : Nat) : Int) := by rw [wrapI (by omega) (by omega)]; omega
    generalize he : rd_T136 rs (j : Int) = e
    have js : Ev (fun k => spec_TableOk.j3 k xs i j true p t n rs e.f0 e.f1 e.f2) false := Ev.step (f := fun _ => some false) (fun k => by rw [spec_TableOk.j3, if_pos rfl]) (Ev.now _)
    have ji : Ev (fun k => impl_TableOk.j3 k xs j xs (xs.length : Int) i rs (rs.length : Int) j true p t n rs e.f0 e.f1 e.f2) false := Ev.step (f := fun _ => some false) (fun k => by rw [impl_TableOk.j3, if_pos rfl]) (Ev.now _)
    have s0 : ∀ k, spec_TableOk.l1 (k + 1) xs i j p t n rs = (if 0 ≤ e.f0 ∧ e.f0 ≤ 1000000000 then (if 1 ≤ e.f1 ∧ e.f1 ≤ 40 then spec_TableOk.j3 k xs i j (!(decide (0 ≤ e.f2 ∧ e.f2 ≤ 1000000000))) p t n rs e.f0 e.f1 e.f2 else spec_TableOk.j3 k xs i j true p t n rs e.f0 e.f1 e.f2) else spec_TableOk.j3 k xs i j true p t n rs e.f0 e.f1 e.f2) := by
      intro k
      rw [spec_TableOk.l1, if_pos (by omega), if_pos (by omega), he]
      simp only [l1In_eq, Option.bind_some, decide_eq_true_eq]
    have i0 : ∀ k, impl_TableOk.l1 (k + 1) xs xs (xs.length : Int) i rs (rs.length : Int) j p t n rs = (if 0 ≤ e.f0 ∧ e.f0 ≤ 1000000000 then (if 1 ≤ e.f1 ∧ e.f1 ≤ 40 then impl_TableOk.j3 k xs j xs (xs.length : Int) i rs (rs.length : Int) j (!(decide (0 ≤ e.f2 ∧ e.f2 ≤ 1000000000))) p t n rs e.f0 e.f1 e.f2 else impl_TableOk.j3 k xs j xs (xs.length : Int) i rs (rs.length : Int) j true p t n rs e.f0 e.f1 e.f2) else impl_TableOk.j3 k xs j xs (xs.length : Int) i rs (rs.length : Int) j true p t n rs e.f0 e.f1 e.f2) := by
      intro k
      rw [impl_TableOk.l1, if_pos (by omega), if_pos (by omega), if_pos (by omega), he]
      simp only [off_eq, within_eq, Option.bind_some, decide_eq_true_eq]
    by_cases c0 : 0 ≤ e.f0 ∧ e.f0 ≤ 1000000000
    case neg => exact ⟨false, Ev.step (fun k => by rw [s0, if_neg c0]) js, Ev.step (fun k => by rw [i0, if_neg c0]) ji⟩
    by_cases c1 : 1 ≤ e.f1 ∧ e.f1 ≤ 40
    case neg => exact ⟨false, Ev.step (fun k => by rw [s0, if_pos c0, if_neg c1]) js, Ev.step (fun k => by rw [i0, if_pos c0, if_neg c1]) ji⟩
    by_cases c2 : 0 ≤ e.f2 ∧ e.f2 ≤ 1000000000
    case neg => exact ⟨false, Ev.step (fun k => by rw [s0, if_pos c0, if_pos c1, decide_eq_false c2]; rfl) js, Ev.step (fun k => by rw [i0, if_pos c0, if_pos c1, decide_eq_false c2]; rfl) ji⟩
    obtain ⟨r, h1, h2⟩ := ih (j + 1) (by omega)
    have step : ∃ r, Ev (fun k => spec_TableOk.j3 k xs i j false p t n rs e.f0 e.f1 e.f2) r ∧ Ev (fun k => impl_TableOk.j3 k xs j xs (xs.length : Int) i rs (rs.length : Int) j false p t n rs e.f0 e.f1 e.f2) r := by
      by_cases hl : ((j + 1 : Nat) : Int) < (rs.length : Int)
      · by_cases hq : wrap64 (e.f0 + e.f1) = (rd_T136 rs ((j + 1 : Nat) : Int)).f0
        · exact ⟨r, Ev.step (fun k => by rw [spec_TableOk.j3, if_neg (by decide), ej, if_pos hl, if_pos (by omega), if_pos hq]) h1, Ev.step (fun k => by rw [impl_TableOk.j3, if_neg (by decide), ej, if_pos hl, if_pos (by omega), if_pos hq]) h2⟩
        · exact ⟨false, Ev.step (f := fun _ => some false) (fun k => by rw [spec_TableOk.j3, if_neg (by decide), ej, if_pos hl, if_pos (by omega), if_neg hq]) (Ev.now _), Ev.step (f := fun _ => some false) (fun k => by rw [impl_TableOk.j3, if_neg (by decide), ej, if_pos hl, if_pos (by omega), if_neg hq]) (Ev.now _)⟩
      · by_cases hq : wrap64 (e.f0 + e.f1) = n
        · exact ⟨r, Ev.step (fun k => by rw [spec_TableOk.j3, if_neg (by decide), ej, if_neg hl, if_pos hq]) h1, Ev.step (fun k => by rw [impl_TableOk.j3, if_neg (by decide), ej, if_neg hl, if_pos hq]) h2⟩
        · exact ⟨false, Ev.step (f := fun _ => some false) (fun k => by rw [spec_TableOk.j3, if_neg (by decide), ej, if_neg hl, if_neg hq]) (Ev.now _), Ev.step (f := fun _ => some false) (fun k => by rw [impl_TableOk.j3, if_neg (by decide), ej, if_neg hl, if_neg hq]) (Ev.now _)⟩
    obtain ⟨q, g1, g2⟩ := step
    exact ⟨q, Ev.step (fun k => by rw [s0, if_pos c0, if_pos c1, decide_eq_true c2]; rfl) g1, Ev.step (fun k => by rw [i0, if_pos c0, if_pos c1, decide_eq_true c2]; rfl) g2⟩

theorem table_l (xs : List S134) (hn : xs.length ≤ 100) (d : Nat) : ∀ i : Nat, i + d = xs.length →
    ∃ r, Ev (fun k => spec_TableOk.l0 k xs i) r ∧ Ev (fun k => impl_TableOk.l0 k xs xs (xs.length : Int) i) r := by
  induction d with
  | zero =>
    intro i hi
    exact ⟨true, Ev.step (f := fun _ => some true) (fun k => by rw [spec_TableOk.l0, if_neg (by omega)]) (Ev.now _), Ev.step (f := fun _ => some true) (fun k => by rw [impl_TableOk.l0, if_neg (by omega)]) (Ev.now _)⟩
  | succ d ih =>
    intro i hi
    have H := ih (i + 1) (by omega)
    generalize he : rd_T134 xs (i : Int) = e
    have js : Ev (fun k => spec_TableOk.j1 k xs i true e.f0 e.f1 e.f2 e.f3) false := Ev.step (f := fun _ => some false) (fun k => by rw [spec_TableOk.j1, if_pos rfl]) (Ev.now _)
    have ji : Ev (fun k => impl_TableOk.j1 k xs xs (xs.length : Int) i true e.f0 e.f1 e.f2 e.f3) false := Ev.step (f := fun _ => some false) (fun k => by rw [impl_TableOk.j1, if_pos rfl]) (Ev.now _)
    -- is what stands ahead below?
    obtain ⟨b, hs, hm⟩ : ∃ b : Bool, (∀ {ρ : Type} (f g : Option ρ), (if (i : Int) > 0 then (if 0 ≤ (wrap64 ((i : Int) - 1)) then (if (wrap64 ((i : Int) - 1)) < (xs.length : Int) then (if ((rd_T134 xs (wrap64 ((i : Int) - 1))).f0) ≥ e.f0 then f else g) else none) else none) else g) = if b = true then f else g) ∧ (∀ {ρ : Type} (f g : Option ρ), (if (i : Int) > 0 then (if 0 ≤ (wrap64 ((i : Int) - 1)) then (if (wrap64 ((i : Int) - 1)) < (xs.length : Int) then (if e.f0 ≤ ((rd_T134 xs (wrap64 ((i : Int) - 1))).f0) then f else g) else none) else none) else g) = if b = true then f else g) := by
      by_cases hp : (i : Int) > 0
      · have ep : wrap64 ((i : Int) - 1) = (i : Int) - 1 := wrapI (by omega) (by omega)
        refine ⟨decide ((rd_T134 xs ((i : Int) - 1)).f0 ≥ e.f0), fun f g => ?_, fun f g => ?_⟩
        · rw [if_pos hp, ep, if_pos (by omega), if_pos (by omega)]; simp only [decide_eq_true_eq]
        · rw [if_pos hp, ep, if_pos (by omega), if_pos (by omega)]; simp only [decide_eq_true_eq, ge_iff_le]
      · exact ⟨false, fun f g => by rw [if_neg hp, if_neg (by decide)], fun f g => by rw [if_neg hp, if_neg (by decide)]⟩
    have s0 : ∀ k, spec_TableOk.l0 (k + 1) xs i = (if 0 ≤ e.f0 ∧ e.f0 ≤ 1000000000 then (if b = true then spec_TableOk.j1 k xs i true e.f0 e.f1 e.f2 e.f3 else (if 0 ≤ e.f1 ∧ e.f1 ≤ 1000 then (if 0 ≤ e.f2 ∧ e.f2 ≤ 1000000001 then spec_TableOk.j1 k xs i (decide ((e.f3.length : Int) > 5)) e.f0 e.f1 e.f2 e.f3 else spec_TableOk.j1 k xs i true e.f0 e.f1 e.f2 e.f3) else spec_TableOk.j1 k xs i true e.f0 e.f1 e.f2 e.f3)) else spec_TableOk.j1 k xs i true e.f0 e.f1 e.f2 e.f3) := by
      intro k
      rw [spec_TableOk.l0, if_pos (by omega), if_pos (by omega), he]
      simp only [l1In_eq, Option.bind_some, decide_eq_true_eq]
      rw [hs]
    have i0 : ∀ k, impl_TableOk.l0 (k + 1) xs xs (xs.length : Int) i = (if 0 ≤ e.f0 ∧ e.f0 ≤ 1000000000 then (if b = true then impl_TableOk.j1 k xs xs (xs.length : Int) i true e.f0 e.f1 e.f2 e.f3 else (if 0 ≤ e.f1 ∧ e.f1 ≤ 1000 then (if 0 ≤ e.f2 ∧ e.f2 ≤ 1000000001 then impl_TableOk.j1 k xs xs (xs.length : Int) i (decide ((e.f3.length : Int) > 5)) e.f0 e.f1 e.f2 e.f3 else impl_TableOk.j1 k xs xs (xs.length : Int) i true e.f0 e.f1 e.f2 e.f3) else impl_TableOk.j1 k xs xs (xs.length : Int) i true e.f0 e.f1 e.f2 e.f3)) else impl_TableOk.j1 k xs xs (xs.length : Int) i true e.f0 e.f1 e.f2 e.f3) := by
      intro k
      rw [impl_TableOk.l0, if_pos (by omega), if_pos (by omega), if_pos (by omega), he]
      simp only [off_eq, within_eq, Option.bind_some, decide_eq_true_eq]
      rw [hm]
    by_cases c0 : 0 ≤ e.f0 ∧ e.f0 ≤ 1000000000
    case neg => exact ⟨false, Ev.step (fun k => by rw [s0, if_neg c0]) js, Ev.step (fun k => by rw [i0, if_neg c0]) ji⟩
    cases b
    case true => exact ⟨false, Ev.step (fun k => by rw [s0, if_pos c0, if_pos rfl]) js, Ev.step (fun k => by rw [i0, if_pos c0, if_pos rfl]) ji⟩
    by_cases c1 : 0 ≤ e.f1 ∧ e.f1 ≤ 1000
    case neg => exact ⟨false, Ev.step (fun k => by rw [s0, if_pos c0, if_neg (by decide), if_neg c1]) js, Ev.step (fun k => by rw [i0, if_pos c0, if_neg (by decide), if_neg c1]) ji⟩
    by_cases c2 : 0 ≤ e.f2 ∧ e.f2 ≤ 1000000001
    case neg => exact ⟨false, Ev.step (fun k => by rw [s0, if_pos c0, if_neg (by decide), if_pos c1, if_neg c2]) js, Ev.step (fun k => by rw [i0, if_pos c0, if_neg (by decide), if_pos c1, if_neg c2]) ji⟩
    by_cases c3 : (e.f3.length : Int) > 5
    · exact ⟨false, Ev.step (fun k => by rw [s0, if_pos c0, if_neg (by decide), if_pos c1, if_pos c2, decide_eq_true c3]) js, Ev.step (fun k => by rw [i0, if_pos c0, if_neg (by decide), if_pos c1, if_pos c2, decide_eq_true c3]) ji⟩
    obtain ⟨r, h1, h2⟩ := recents_l xs i (by omega) e.f0 e.f1 e.f2 e.f3 (by omega) H e.f3.length 0 (by omega)
    exact ⟨r, Ev.step (fun k => by rw [s0, if_pos c0, if_neg (by decide), if_pos c1, if_pos c2, decide_eq_false c3]) (Ev.step (fun k => by rw [spec_TableOk.j1, if_neg (by decide)]; rfl) h1), Ev.step (fun k => by rw [i0, if_pos c0, if_neg (by decide), if_pos c1, if_pos c2, decide_eq_false c3]) (Ev.step (fun k => by rw [impl_TableOk.j1, if_neg (by decide)]; rfl) h2)⟩
theorem table (xs : List S134) : ∃ r, Ev (fun k => spec_TableOk.f k xs) r ∧ Ev (fun k => impl_TableOk.f k xs) r := by
  by_cases h : (xs.length : Int) > 100
  · exact ⟨false, Ev.congr (f := fun _ => some false) (fun k => by unfold spec_TableOk.f; rw [if_pos h]) (Ev.now _), Ev.congr (f := fun _ => some false) (fun k => by unfold impl_TableOk.f; rw [if_pos h]) (Ev.now _)⟩
  · obtain ⟨r, p, q⟩ := table_l xs (by omega) xs.length 0 (by omega)
    exact ⟨r, Ev.congr (fun k => by unfold spec_TableOk.f; rw [if_neg h]; rfl) p, Ev.congr (fun k => by unfold impl_TableOk.f; rw [if_neg h]; rfl) q⟩

theorem FnExactTableOk (a0 : List (S131)) (w0 : Open.wfList Kinds.Wf131 a0) : Ev (fun k => laws_FnExactTableOk.f k a0) true := by
  obtain ⟨r, q, l, s⟩ := szSeenS_ev a0 1048576 (by omega) (by omega) (limS_Seen w0)
  unfold laws_FnExactTableOk.f
  refine Ev.bind q ?_
  by_cases c : r < 0
  · simp only [if_pos c]; exact Ev.now _
  simp only [if_neg c]
  have hs := s (by omega)
  have ht := toSeenS_ev a0 hs
  obtain ⟨t, p1, p2⟩ := table (a0.map convSeen)
  refine Ev.bind ht (Ev.bind p1 (Ev.bind ht (Ev.bind p2 ?_)))
  simp only [bne_self_eq_false, Bool.false_eq_true, if_false]
  refine Ev.bind ht (Ev.bind (eqSeenS_ev _ (smS_Seen hs)) ?_)
  simp only [if_true]
  exact Ev.now _
end Go.Proofs.Ytoglalgbjobpkaa.Pure
