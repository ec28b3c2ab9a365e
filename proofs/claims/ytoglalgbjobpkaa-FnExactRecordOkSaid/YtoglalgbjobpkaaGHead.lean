/-
The laws' own functions over Head: sz, to, eq. Conditions: sizes, as each says.
-/
import Derived.Test.YtoglalgbjobpkaaGlib
import Derived.Test.YtoglalgbjobpkaaFlawseqHead
import Derived.Test.YtoglalgbjobpkaaFlawseqHeadS
import Derived.Test.YtoglalgbjobpkaaFlawsszHead
import Derived.Test.YtoglalgbjobpkaaFlawsszHeadS
import Derived.Test.YtoglalgbjobpkaaFlawstoHead
import Derived.Test.YtoglalgbjobpkaaFlawstoHeadS
namespace Go.Proofs.Ytoglalgbjobpkaa.G
open Go.RowKit Go.Proofs.Ytoglalgbjobpkaa.F Go.Proofs.YtoglalgbjobpkaaW.PrintWords Go.Proofs.YtoglalgbjobpkaaW.PrintLast Go.Proofs.YtoglalgbjobpkaaW.PrintMore
set_option linter.unusedVariables false
set_option linter.unusedSimpArgs false

theorem rdt148 (xs : List S148) (i : Nat) : rd_T148 xs (i : Int) = xs.getD i z148 := rfl
def Lim148 (x : S148) : Prop := x.f0.size ≤ 9223372036854775807 ∧ x.f1.size ≤ 9223372036854775807
def Sm148 (x : S148) : Prop := x.f0.size ≤ 1048576 ∧ x.f1.size ≤ 1048576
theorem rdt119 (xs : List S119) (i : Nat) : rd_T119 xs (i : Int) = xs.getD i z119 := rfl
def Lim119 (x : S119) : Prop := x.f0.size ≤ 9223372036854775807 ∧ x.f1.size ≤ 9223372036854775807
def Sm119 (x : S119) : Prop := x.f0.size ≤ 1048576 ∧ x.f1.size ≤ 1048576
def convHead (x : S148) : S119 := ⟨x.f0, x.f1⟩
theorem szHead_ev (v0 : ByteArray) (v1 : ByteArray) (left : Int) (h0 : 0 ≤ left) (h1 : left ≤ 1048576) (wv0 : v0.size ≤ 9223372036854775807) (wv1 : v1.size ≤ 9223372036854775807) : ∃ r, Ev (fun k => laws_szHead.f v0 v1 left) r ∧ r ≤ left ∧ (0 ≤ r → v0.size ≤ 1048576 ∧ v1.size ≤ 1048576) := by
  unfold laws_szHead.f
  have ec1 : wrap64 (left - (v0.size : Int)) = left - (v0.size : Int) := wrapI (by omega) (by omega)
  by_cases c1 : left - (v0.size : Int) < 0
  · simp only [ec1, if_pos c1]; exact ⟨-1, Ev.now _, by omega, fun h => absurd h (by omega)⟩
  simp only [ec1, if_neg c1]
  have ec2 : wrap64 (left - (v0.size : Int) - (v1.size : Int)) = left - (v0.size : Int) - (v1.size : Int) := wrapI (by omega) (by omega)
  by_cases c2 : left - (v0.size : Int) - (v1.size : Int) < 0
  · simp only [ec2, if_pos c2]; exact ⟨-1, Ev.now _, by omega, fun h => absurd h (by omega)⟩
  simp only [ec2, if_neg c2]
  exact ⟨_, Ev.now _, by omega, fun h => ⟨(by omega), (by omega)⟩⟩
theorem szHeadS_l (xs : List (S148)) (w : xs.length ≤ 9223372036854775807 ∧ ∀ y ∈ xs, Lim148 y) (hn : xs.length ≤ 1048576) (d : Nat) : ∀ (i : Nat) (left : Int), i + d = xs.length → 0 ≤ left → left ≤ 1048576 → ∃ r, Ev (fun k => laws_szHeadS.l0 k xs left i) r ∧ r ≤ left ∧ (0 ≤ r → ∀ j : Nat, i ≤ j → j < xs.length → Sm148 (xs.getD j z148)) := by
  induction d with
  | zero =>
    intro i left hi h0 h1
    refine ev_step_ex (f := fun _ => some left) (fun k => by rw [laws_szHeadS.l0, if_neg (by omega)]) ⟨left, Ev.now _, Int.le_refl _, fun _ j h2 h3 => absurd h3 (by omega)⟩
  | succ d ih =>
    intro i left hi h0 h1
    have hw := w.2 (xs.getD i z148) (getD_mem xs i _ (by omega))
    obtain ⟨t, q, l, s⟩ := szHead_ev (xs.getD i z148).f0 (xs.getD i z148).f1 left h0 h1 hw.1 hw.2
    refine ev_step_ex (fun k => by rw [laws_szHeadS.l0, if_pos (by omega), if_pos (by omega)]) ?_
    refine ev_bind_ex q ?_
    by_cases c : t < 0
    · simp only [if_pos c]; exact ⟨-1, Ev.now _, by omega, fun h => absurd h (by omega)⟩
    simp only [if_neg c, wrapI (x := (i : Int) + 1) (by omega) (by omega)]
    obtain ⟨r, a, b, g⟩ := ih (i + 1) t (by omega) (by omega) (by omega)
    refine ⟨r, a, by omega, fun h j h2 h3 => ?_⟩
    by_cases e : i = j
    · subst e; exact ⟨(s (by omega)).1, (s (by omega)).2⟩
    · exact g h j (by omega) h3
theorem szHeadS_ev (xs : List (S148)) (left : Int) (h0 : 0 ≤ left) (h1 : left ≤ 1048576) (w : xs.length ≤ 9223372036854775807 ∧ ∀ y ∈ xs, Lim148 y) : ∃ r, Ev (fun k => laws_szHeadS.f k xs left) r ∧ r ≤ left ∧ (0 ≤ r → xs.length ≤ 1048576 ∧ ∀ y ∈ xs, Sm148 y) := by
  have hl := w.1
  have e : wrap64 (left - (xs.length : Int)) = left - (xs.length : Int) := wrapI (by omega) (by omega)
  unfold laws_szHeadS.f
  by_cases c : left - (xs.length : Int) < 0
  · simp only [e, if_pos c]; exact ⟨-1, Ev.now _, by omega, fun h => absurd h (by omega)⟩
  simp only [e, if_neg c]
  obtain ⟨r, a, b, g⟩ := szHeadS_l xs w (by omega) xs.length 0 (left - (xs.length : Int)) (by omega) (by omega) (by omega)
  exact ⟨r, a, by omega, fun h => ⟨by omega, allFrom z148 xs _ (fun j hj => g h j (Nat.zero_le _) hj)⟩⟩
theorem toHead_ev (v0 : ByteArray) (v1 : ByteArray) (wv0 : v0.size ≤ 1048576) (wv1 : v1.size ≤ 1048576) : Ev (fun k => laws_toHead.f v0 v1) (v0, v1) := by
  unfold laws_toHead.f
  exact Ev.now _
theorem toHeadS_ev (xs : List (S148)) (w : xs.length ≤ 1048576 ∧ ∀ y ∈ xs, Sm148 y) : Ev (fun k => laws_toHeadS.f k xs) (xs.map convHead) := by
  have hl := w.1
  refine Ev.congr (f := fun k => laws_toHeadS.l0 k xs (List.replicate xs.length z119) ((0 : Nat) : Int)) (fun k => by unfold laws_toHeadS.f; rw [if_pos (by omega), if_pos (by omega)]; rfl) ?_
  refine loop_set z148 z119 convHead xs (fun ys i k => laws_toHeadS.l0 k xs ys i) (fun ys i r hi hl h => ?_) (fun ys hl => ?_) _ (by simp)
  · have hw := w.2 (xs.getD i z148) (getD_mem xs i _ hi)
    refine Ev.step (fun k => by rw [laws_toHeadS.l0, if_pos (by omega), if_pos (by omega), rdt148]) (Ev.bind (toHead_ev (xs.getD i z148).f0 (xs.getD i z148).f1 hw.1 hw.2) ?_)
    simp only [if_pos (show (i : Int) < (ys.length : Int) by omega), wrapI (x := (i : Int) + 1) (by omega) (by omega), Int.toNat_natCast]
    exact h
  · exact Ev.step (f := fun _ => some ys) (fun k => by rw [laws_toHeadS.l0, if_neg (by omega)]) (Ev.now _)
theorem eqHead_ev (v0 : ByteArray) (v1 : ByteArray)  : Ev (fun k => laws_eqHead.f v0 v1 v0 v1) true := by
  unfold laws_eqHead.f
  simp only [if_true, bne_self_eq_false, Bool.false_eq_true, if_false]
  exact Ev.now _
theorem eqHeadS_ev (xs : List (S119)) (w : xs.length ≤ 1048576 ∧ ∀ y ∈ xs, Sm119 y) : Ev (fun k => laws_eqHeadS.f k xs xs) true := by
  have hl := w.1
  refine Ev.congr (f := fun k => laws_eqHeadS.l0 k xs xs ((0 : Nat) : Int)) (fun k => by unfold laws_eqHeadS.f; rw [if_pos rfl]; rfl) ?_
  refine loop_up xs.length (fun i k => laws_eqHeadS.l0 k xs xs i) true (fun i hi h => ?_) ?_ 0 (Nat.zero_le _)
  · have hw := w.2 (xs.getD i z119) (getD_mem xs i _ hi)
    refine Ev.step (fun k => by rw [laws_eqHeadS.l0, if_pos (by omega), if_pos (by omega), if_pos (by omega), rdt119]) (Ev.bind (eqHead_ev (xs.getD i z119).f0 (xs.getD i z119).f1 ) ?_)
    simp only [if_true, wrapI (x := (i : Int) + 1) (by omega) (by omega)]
    exact h
  · exact Ev.step (f := fun _ => some true) (fun k => by rw [laws_eqHeadS.l0, if_neg (by omega)]) (Ev.now _)

end Go.Proofs.Ytoglalgbjobpkaa.G
