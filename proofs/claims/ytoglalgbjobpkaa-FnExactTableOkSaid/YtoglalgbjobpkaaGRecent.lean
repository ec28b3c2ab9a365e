/-
The laws' own functions over Recent: sz, to, eq. Conditions: sizes, as each says.
-/
import Derived.Test.YtoglalgbjobpkaaGlib
import Derived.Test.YtoglalgbjobpkaaFlawseqRecent
import Derived.Test.YtoglalgbjobpkaaFlawseqRecentS
import Derived.Test.YtoglalgbjobpkaaFlawsszRecentS
import Derived.Test.YtoglalgbjobpkaaFlawstoRecent
import Derived.Test.YtoglalgbjobpkaaFlawstoRecentS
namespace Go.Proofs.Ytoglalgbjobpkaa.G
open Go.RowKit Go.Proofs.Ytoglalgbjobpkaa.F Go.Proofs.YtoglalgbjobpkaaW.PrintWords Go.Proofs.YtoglalgbjobpkaaW.PrintLast Go.Proofs.YtoglalgbjobpkaaW.PrintMore
set_option linter.unusedVariables false
set_option linter.unusedSimpArgs false

theorem rdt157 (xs : List S157) (i : Nat) : rd_T157 xs (i : Int) = xs.getD i z157 := rfl
theorem rdt136 (xs : List S136) (i : Nat) : rd_T136 xs (i : Int) = xs.getD i z136 := rfl
def convRecent (x : S157) : S136 := ⟨x.f0, x.f1, x.f2⟩
theorem szRecentS_ev (xs : List (S157)) (left : Int) (h0 : 0 ≤ left) (h1 : left ≤ 1048576) (w : xs.length ≤ 9223372036854775807) : ∃ r, Ev (fun k => laws_szRecentS.f xs left) r ∧ r ≤ left ∧ (0 ≤ r → xs.length ≤ 1048576) := by
  have e : wrap64 (left - (xs.length : Int)) = left - (xs.length : Int) := wrapI (by omega) (by omega)
  unfold laws_szRecentS.f
  by_cases c : left - (xs.length : Int) < 0
  · simp only [e, if_pos c]; exact ⟨-1, Ev.now _, by omega, fun h => absurd h (by omega)⟩
  simp only [e, if_neg c]
  exact ⟨_, Ev.now _, by omega, fun h => by omega⟩
theorem toRecent_ev (v0 : Int) (v1 : Int) (v2 : Int)  : Ev (fun k => laws_toRecent.f v0 v1 v2) (v0, v1, v2) := by
  unfold laws_toRecent.f
  exact Ev.now _
theorem toRecentS_ev (xs : List (S157)) (w : xs.length ≤ 1048576) : Ev (fun k => laws_toRecentS.f k xs) (xs.map convRecent) := by
  have hl := w
  refine Ev.congr (f := fun k => laws_toRecentS.l0 k xs (List.replicate xs.length z136) ((0 : Nat) : Int)) (fun k => by unfold laws_toRecentS.f; rw [if_pos (by omega), if_pos (by omega)]; rfl) ?_
  refine loop_set z157 z136 convRecent xs (fun ys i k => laws_toRecentS.l0 k xs ys i) (fun ys i r hi hl h => ?_) (fun ys hl => ?_) _ (by simp)
  · refine Ev.step (fun k => by rw [laws_toRecentS.l0, if_pos (by omega), if_pos (by omega), rdt157]) (Ev.bind (toRecent_ev (xs.getD i z157).f0 (xs.getD i z157).f1 (xs.getD i z157).f2 ) ?_)
    simp only [if_pos (show (i : Int) < (ys.length : Int) by omega), wrapI (x := (i : Int) + 1) (by omega) (by omega), Int.toNat_natCast]
    exact h
  · exact Ev.step (f := fun _ => some ys) (fun k => by rw [laws_toRecentS.l0, if_neg (by omega)]) (Ev.now _)
theorem eqRecent_ev (v0 : Int) (v1 : Int) (v2 : Int)  : Ev (fun k => laws_eqRecent.f v0 v1 v2 v0 v1 v2) true := by
  unfold laws_eqRecent.f
  simp only [if_true, bne_self_eq_false, Bool.false_eq_true, if_false]
  exact Ev.now _
theorem eqRecentS_ev (xs : List (S136)) (w : xs.length ≤ 1048576) : Ev (fun k => laws_eqRecentS.f k xs xs) true := by
  have hl := w
  refine Ev.congr (f := fun k => laws_eqRecentS.l0 k xs xs ((0 : Nat) : Int)) (fun k => by unfold laws_eqRecentS.f; rw [if_pos rfl]; rfl) ?_
  refine loop_up xs.length (fun i k => laws_eqRecentS.l0 k xs xs i) true (fun i hi h => ?_) ?_ 0 (Nat.zero_le _)
  · refine Ev.step (fun k => by rw [laws_eqRecentS.l0, if_pos (by omega), if_pos (by omega), if_pos (by omega), rdt136]) (Ev.bind (eqRecent_ev (xs.getD i z136).f0 (xs.getD i z136).f1 (xs.getD i z136).f2 ) ?_)
    simp only [if_true, wrapI (x := (i : Int) + 1) (by omega) (by omega)]
    exact h
  · exact Ev.step (f := fun _ => some true) (fun k => by rw [laws_eqRecentS.l0, if_neg (by omega)]) (Ev.now _)

end Go.Proofs.Ytoglalgbjobpkaa.G
