/-
The laws' own functions over Seen: sz, to, eq. Conditions: sizes, as each says.
-/
import Derived.Test.YtoglalgbjobpkaaGlib
import Derived.Test.YtoglalgbjobpkaaGRecent
import Derived.Test.YtoglalgbjobpkaaFlawseqSeen
import Derived.Test.YtoglalgbjobpkaaFlawseqSeenS
import Derived.Test.YtoglalgbjobpkaaFlawsszSeen
import Derived.Test.YtoglalgbjobpkaaFlawsszSeenS
import Derived.Test.YtoglalgbjobpkaaFlawstoSeen
import Derived.Test.YtoglalgbjobpkaaFlawstoSeenS
namespace Go.Proofs.Ytoglalgbjobpkaa.G
open Go.RowKit Go.Proofs.Ytoglalgbjobpkaa.F Go.Proofs.YtoglalgbjobpkaaW.PrintWords Go.Proofs.YtoglalgbjobpkaaW.PrintLast Go.Proofs.YtoglalgbjobpkaaW.PrintMore
set_option linter.unusedVariables false
set_option linter.unusedSimpArgs false

theorem rdt131 (xs : List S131) (i : Nat) : rd_T131 xs (i : Int) = xs.getD i z131 := rfl
def Lim131 (x : S131) : Prop := x.f3.length ≤ 9223372036854775807
def Sm131 (x : S131) : Prop := x.f3.length ≤ 1048576
theorem rdt134 (xs : List S134) (i : Nat) : rd_T134 xs (i : Int) = xs.getD i z134 := rfl
def Lim134 (x : S134) : Prop := x.f3.length ≤ 9223372036854775807
def Sm134 (x : S134) : Prop := x.f3.length ≤ 1048576
def convSeen (x : S131) : S134 := ⟨x.f0, x.f1, x.f2, (x.f3.map convRecent)⟩
theorem szSeen_ev (v0 : Int) (v1 : Int) (v2 : Int) (v3 : List (S157)) (left : Int) (h0 : 0 ≤ left) (h1 : left ≤ 1048576) (wv3 : v3.length ≤ 9223372036854775807) : ∃ r, Ev (fun k => laws_szSeen.f v0 v1 v2 v3 left) r ∧ r ≤ left ∧ (0 ≤ r → v3.length ≤ 1048576) := by
  unfold laws_szSeen.f
  obtain ⟨rc1, qc1, lc1, sc1⟩ := szRecentS_ev v3 (left) (by omega) (by omega) wv3
  refine ev_bind_ex qc1 ?_
  by_cases c1 : rc1 < 0
  · simp only [if_pos c1]; exact ⟨-1, Ev.now _, by omega, fun h => absurd h (by omega)⟩
  simp only [if_neg c1]
  exact ⟨_, Ev.now _, by omega, fun h => (sc1 (by omega))⟩
theorem szSeenS_l (xs : List (S131)) (w : xs.length ≤ 9223372036854775807 ∧ ∀ y ∈ xs, Lim131 y) (hn : xs.length ≤ 1048576) (d : Nat) : ∀ (i : Nat) (left : Int), i + d = xs.length → 0 ≤ left → left ≤ 1048576 → ∃ r, Ev (fun k => laws_szSeenS.l0 k xs left i) r ∧ r ≤ left ∧ (0 ≤ r → ∀ j : Nat, i ≤ j → j < xs.length → Sm131 (xs.getD j z131)) := by
  induction d with
  | zero =>
    intro i left hi h0 h1
    refine ev_step_ex (f := fun _ => some left) (fun k => by rw [laws_szSeenS.l0, if_neg (by omega)]) ⟨left, Ev.now _, Int.le_refl _, fun _ j h2 h3 => absurd h3 (by omega)⟩
  | succ d ih =>
    intro i left hi h0 h1
    have hw := w.2 (xs.getD i z131) (getD_mem xs i _ (by omega))
    obtain ⟨t, q, l, s⟩ := szSeen_ev (xs.getD i z131).f0 (xs.getD i z131).f1 (xs.getD i z131).f2 (xs.getD i z131).f3 left h0 h1 hw
    refine ev_step_ex (fun k => by rw [laws_szSeenS.l0, if_pos (by omega), if_pos (by omega)]) ?_
    refine ev_bind_ex q ?_
    by_cases c : t < 0
    · simp only [if_pos c]; exact ⟨-1, Ev.now _, by omega, fun h => absurd h (by omega)⟩
    simp only [if_neg c, wrapI (x := (i : Int) + 1) (by omega) (by omega)]
    obtain ⟨r, a, b, g⟩ := ih (i + 1) t (by omega) (by omega) (by omega)
    refine ⟨r, a, by omega, fun h j h2 h3 => ?_⟩
    by_cases e : i = j
    · subst e; exact (s (by omega))
    · exact g h j (by omega) h3
theorem szSeenS_ev (xs : List (S131)) (left : Int) (h0 : 0 ≤ left) (h1 : left ≤ 1048576) (w : xs.length ≤ 9223372036854775807 ∧ ∀ y ∈ xs, Lim131 y) : ∃ r, Ev (fun k => laws_szSeenS.f k xs left) r ∧ r ≤ left ∧ (0 ≤ r → xs.length ≤ 1048576 ∧ ∀ y ∈ xs, Sm131 y) := by
  have hl := w.1
  have e : wrap64 (left - (xs.length : Int)) = left - (xs.length : Int) := wrapI (by omega) (by omega)
  unfold laws_szSeenS.f
  by_cases c : left - (xs.length : Int) < 0
  · simp only [e, if_pos c]; exact ⟨-1, Ev.now _, by omega, fun h => absurd h (by omega)⟩
  simp only [e, if_neg c]
  obtain ⟨r, a, b, g⟩ := szSeenS_l xs w (by omega) xs.length 0 (left - (xs.length : Int)) (by omega) (by omega) (by omega)
  exact ⟨r, a, by omega, fun h => ⟨by omega, allFrom z131 xs _ (fun j hj => g h j (Nat.zero_le _) hj)⟩⟩
theorem toSeen_ev (v0 : Int) (v1 : Int) (v2 : Int) (v3 : List (S157)) (wv3 : v3.length ≤ 1048576) : Ev (fun k => laws_toSeen.f k v0 v1 v2 v3) (v0, v1, v2, (v3.map convRecent)) := by
  unfold laws_toSeen.f
  refine Ev.bind (toRecentS_ev v3 wv3) ?_
  exact Ev.now _
theorem toSeenS_ev (xs : List (S131)) (w : xs.length ≤ 1048576 ∧ ∀ y ∈ xs, Sm131 y) : Ev (fun k => laws_toSeenS.f k xs) (xs.map convSeen) := by
  have hl := w.1
  refine Ev.congr (f := fun k => laws_toSeenS.l0 k xs (List.replicate xs.length z134) ((0 : Nat) : Int)) (fun k => by unfold laws_toSeenS.f; rw [if_pos (by omega), if_pos (by omega)]; rfl) ?_
  refine loop_set z131 z134 convSeen xs (fun ys i k => laws_toSeenS.l0 k xs ys i) (fun ys i r hi hl h => ?_) (fun ys hl => ?_) _ (by simp)
  · have hw := w.2 (xs.getD i z131) (getD_mem xs i _ hi)
    refine Ev.step (fun k => by rw [laws_toSeenS.l0, if_pos (by omega), if_pos (by omega), rdt131]) (Ev.bind (toSeen_ev (xs.getD i z131).f0 (xs.getD i z131).f1 (xs.getD i z131).f2 (xs.getD i z131).f3 hw) ?_)
    simp only [if_pos (show (i : Int) < (ys.length : Int) by omega), wrapI (x := (i : Int) + 1) (by omega) (by omega), Int.toNat_natCast]
    exact h
  · exact Ev.step (f := fun _ => some ys) (fun k => by rw [laws_toSeenS.l0, if_neg (by omega)]) (Ev.now _)
theorem eqSeen_ev (v0 : Int) (v1 : Int) (v2 : Int) (v3 : List (S136)) (wv3 : v3.length ≤ 1048576) : Ev (fun k => laws_eqSeen.f k v0 v1 v2 v3 v0 v1 v2 v3) true := by
  unfold laws_eqSeen.f
  simp only [if_true, bne_self_eq_false, Bool.false_eq_true, if_false]
  refine Ev.bind (eqRecentS_ev v3 wv3) ?_
  simp only [if_true, bne_self_eq_false, Bool.false_eq_true, if_false]
  exact Ev.now _
theorem eqSeenS_ev (xs : List (S134)) (w : xs.length ≤ 1048576 ∧ ∀ y ∈ xs, Sm134 y) : Ev (fun k => laws_eqSeenS.f k xs xs) true := by
  have hl := w.1
  refine Ev.congr (f := fun k => laws_eqSeenS.l0 k xs xs ((0 : Nat) : Int)) (fun k => by unfold laws_eqSeenS.f; rw [if_pos rfl]; rfl) ?_
  refine loop_up xs.length (fun i k => laws_eqSeenS.l0 k xs xs i) true (fun i hi h => ?_) ?_ 0 (Nat.zero_le _)
  · have hw := w.2 (xs.getD i z134) (getD_mem xs i _ hi)
    refine Ev.step (fun k => by rw [laws_eqSeenS.l0, if_pos (by omega), if_pos (by omega), if_pos (by omega), rdt134]) (Ev.bind (eqSeen_ev (xs.getD i z134).f0 (xs.getD i z134).f1 (xs.getD i z134).f2 (xs.getD i z134).f3 hw) ?_)
    simp only [if_true, wrapI (x := (i : Int) + 1) (by omega) (by omega)]
    exact h
  · exact Ev.step (f := fun _ => some true) (fun k => by rw [laws_eqSeenS.l0, if_neg (by omega)]) (Ev.now _)

end Go.Proofs.Ytoglalgbjobpkaa.G
