/-
The laws' own functions over Topic: sz, to, eq. Conditions: sizes, as each says.
-/
import Derived.Test.YtoglalgbjobpkaaGlib
import Derived.Test.YtoglalgbjobpkaaFlawseqTopic
import Derived.Test.YtoglalgbjobpkaaFlawseqTopicS
import Derived.Test.YtoglalgbjobpkaaFlawsszTopic
import Derived.Test.YtoglalgbjobpkaaFlawsszTopicS
import Derived.Test.YtoglalgbjobpkaaFlawstoTopic
import Derived.Test.YtoglalgbjobpkaaFlawstoTopicS
namespace Go.Proofs.Ytoglalgbjobpkaa.G
open Go.RowKit Go.Proofs.Ytoglalgbjobpkaa.F Go.Proofs.YtoglalgbjobpkaaW.PrintWords Go.Proofs.YtoglalgbjobpkaaW.PrintLast Go.Proofs.YtoglalgbjobpkaaW.PrintMore
set_option linter.unusedVariables false
set_option linter.unusedSimpArgs false

theorem rdt114 (xs : List S114) (i : Nat) : rd_T114 xs (i : Int) = xs.getD i z114 := rfl
def Lim114 (x : S114) : Prop := x.f0.size ≤ 9223372036854775807
def Sm114 (x : S114) : Prop := x.f0.size ≤ 1048576
theorem rdt50 (xs : List S50) (i : Nat) : rd_T50 xs (i : Int) = xs.getD i z50 := rfl
def Lim50 (x : S50) : Prop := x.f0.size ≤ 9223372036854775807
def Sm50 (x : S50) : Prop := x.f0.size ≤ 1048576
def convTopic (x : S114) : S50 := ⟨x.f0, x.f1⟩
theorem szTopic_ev (v0 : ByteArray) (v1 : Int) (left : Int) (h0 : 0 ≤ left) (h1 : left ≤ 1048576) (wv0 : v0.size ≤ 9223372036854775807) : ∃ r, Ev (fun k => laws_szTopic.f v0 v1 left) r ∧ r ≤ left ∧ (0 ≤ r → v0.size ≤ 1048576) := by
  unfold laws_szTopic.f
  have ec1 : wrap64 (left - (v0.size : Int)) = left - (v0.size : Int) := wrapI (by omega) (by omega)
  by_cases c1 : left - (v0.size : Int) < 0
  · simp only [ec1, if_pos c1]; exact ⟨-1, Ev.now _, by omega, fun h => absurd h (by omega)⟩
  simp only [ec1, if_neg c1]
  exact ⟨_, Ev.now _, by omega, fun h => (by omega)⟩
theorem szTopicS_l (xs : List (S114)) (w : xs.length ≤ 9223372036854775807 ∧ ∀ y ∈ xs, Lim114 y) (hn : xs.length ≤ 1048576) (d : Nat) : ∀ (i : Nat) (left : Int), i + d = xs.length → 0 ≤ left → left ≤ 1048576 → ∃ r, Ev (fun k => laws_szTopicS.l0 k xs left i) r ∧ r ≤ left ∧ (0 ≤ r → ∀ j : Nat, i ≤ j → j < xs.length → Sm114 (xs.getD j z114)) := by
  induction d with
  | zero =>
    intro i left hi h0 h1
    refine ev_step_ex (f := fun _ => some left) (fun k => by rw [laws_szTopicS.l0, if_neg (by omega)]) ⟨left, Ev.now _, Int.le_refl _, fun _ j h2 h3 => absurd h3 (by omega)⟩
  | succ d ih =>
    intro i left hi h0 h1
    have hw := w.2 (xs.getD i z114) (getD_mem xs i _ (by omega))
    obtain ⟨t, q, l, s⟩ := szTopic_ev (xs.getD i z114).f0 (xs.getD i z114).f1 left h0 h1 hw
    refine ev_step_ex (fun k => by rw [laws_szTopicS.l0, if_pos (by omega), if_pos (by omega)]) ?_
    refine ev_bind_ex q ?_
    by_cases c : t < 0
    · simp only [if_pos c]; exact ⟨-1, Ev.now _, by omega, fun h => absurd h (by omega)⟩
    simp only [if_neg c, wrapI (x := (i : Int) + 1) (by omega) (by omega)]
    obtain ⟨r, a, b, g⟩ := ih (i + 1) t (by omega) (by omega) (by omega)
    refine ⟨r, a, by omega, fun h j h2 h3 => ?_⟩
    by_cases e : i = j
    · subst e; exact (s (by omega))
    · exact g h j (by omega) h3
theorem szTopicS_ev (xs : List (S114)) (left : Int) (h0 : 0 ≤ left) (h1 : left ≤ 1048576) (w : xs.length ≤ 9223372036854775807 ∧ ∀ y ∈ xs, Lim114 y) : ∃ r, Ev (fun k => laws_szTopicS.f k xs left) r ∧ r ≤ left ∧ (0 ≤ r → xs.length ≤ 1048576 ∧ ∀ y ∈ xs, Sm114 y) := by
  have hl := w.1
  have e : wrap64 (left - (xs.length : Int)) = left - (xs.length : Int) := wrapI (by omega) (by omega)
  unfold laws_szTopicS.f
  by_cases c : left - (xs.length : Int) < 0
  · simp only [e, if_pos c]; exact ⟨-1, Ev.now _, by omega, fun h => absurd h (by omega)⟩
  simp only [e, if_neg c]
  obtain ⟨r, a, b, g⟩ := szTopicS_l xs w (by omega) xs.length 0 (left - (xs.length : Int)) (by omega) (by omega) (by omega)
  exact ⟨r, a, by omega, fun h => ⟨by omega, allFrom z114 xs _ (fun j hj => g h j (Nat.zero_le _) hj)⟩⟩
theorem toTopic_ev (v0 : ByteArray) (v1 : Int) (wv0 : v0.size ≤ 1048576) : Ev (fun k => laws_toTopic.f v0 v1) (v0, v1) := by
  unfold laws_toTopic.f
  exact Ev.now _
theorem toTopicS_ev (xs : List (S114)) (w : xs.length ≤ 1048576 ∧ ∀ y ∈ xs, Sm114 y) : Ev (fun k => laws_toTopicS.f k xs) (xs.map convTopic) := by
  have hl := w.1
  refine Ev.congr (f := fun k => laws_toTopicS.l0 k xs (List.replicate xs.length z50) ((0 : Nat) : Int)) (fun k => by unfold laws_toTopicS.f; rw [if_pos (by omega), if_pos (by omega)]; rfl) ?_
  refine loop_set z114 z50 convTopic xs (fun ys i k => laws_toTopicS.l0 k xs ys i) (fun ys i r hi hl h => ?_) (fun ys hl => ?_) _ (by simp)
  · have hw := w.2 (xs.getD i z114) (getD_mem xs i _ hi)
    refine Ev.step (fun k => by rw [laws_toTopicS.l0, if_pos (by omega), if_pos (by omega), rdt114]) (Ev.bind (toTopic_ev (xs.getD i z114).f0 (xs.getD i z114).f1 hw) ?_)
    simp only [if_pos (show (i : Int) < (ys.length : Int) by omega), wrapI (x := (i : Int) + 1) (by omega) (by omega), Int.toNat_natCast]
    exact h
  · exact Ev.step (f := fun _ => some ys) (fun k => by rw [laws_toTopicS.l0, if_neg (by omega)]) (Ev.now _)
theorem eqTopic_ev (v0 : ByteArray) (v1 : Int)  : Ev (fun k => laws_eqTopic.f v0 v1 v0 v1) true := by
  unfold laws_eqTopic.f
  simp only [if_true, bne_self_eq_false, Bool.false_eq_true, if_false]
  exact Ev.now _
theorem eqTopicS_ev (xs : List (S50)) (w : xs.length ≤ 1048576 ∧ ∀ y ∈ xs, Sm50 y) : Ev (fun k => laws_eqTopicS.f k xs xs) true := by
  have hl := w.1
  refine Ev.congr (f := fun k => laws_eqTopicS.l0 k xs xs ((0 : Nat) : Int)) (fun k => by unfold laws_eqTopicS.f; rw [if_pos rfl]; rfl) ?_
  refine loop_up xs.length (fun i k => laws_eqTopicS.l0 k xs xs i) true (fun i hi h => ?_) ?_ 0 (Nat.zero_le _)
  · have hw := w.2 (xs.getD i z50) (getD_mem xs i _ hi)
    refine Ev.step (fun k => by rw [laws_eqTopicS.l0, if_pos (by omega), if_pos (by omega), if_pos (by omega), rdt50]) (Ev.bind (eqTopic_ev (xs.getD i z50).f0 (xs.getD i z50).f1 ) ?_)
    simp only [if_true, wrapI (x := (i : Int) + 1) (by omega) (by omega)]
    exact h
  · exact Ev.step (f := fun _ => some true) (fun k => by rw [laws_eqTopicS.l0, if_neg (by omega)]) (Ev.now _)

end Go.Proofs.Ytoglalgbjobpkaa.G
