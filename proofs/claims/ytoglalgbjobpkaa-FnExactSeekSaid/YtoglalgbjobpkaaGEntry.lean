/-
The laws' own functions over Entry: sz, to, eq. Conditions: sizes, as each says.
-/
import Derived.Test.YtoglalgbjobpkaaGlib
import Derived.Test.YtoglalgbjobpkaaFlawseqEntry
import Derived.Test.YtoglalgbjobpkaaFlawseqEntryS
import Derived.Test.YtoglalgbjobpkaaFlawsszEntryS
import Derived.Test.YtoglalgbjobpkaaFlawstoEntry
import Derived.Test.YtoglalgbjobpkaaFlawstoEntryS
namespace Go.Proofs.Ytoglalgbjobpkaa.G
open Go.RowKit Go.Proofs.Ytoglalgbjobpkaa.F Go.Proofs.YtoglalgbjobpkaaW.PrintWords Go.Proofs.YtoglalgbjobpkaaW.PrintLast Go.Proofs.YtoglalgbjobpkaaW.PrintMore
set_option linter.unusedVariables false
set_option linter.unusedSimpArgs false

theorem rdt92 (xs : List S92) (i : Nat) : rd_T92 xs (i : Int) = xs.getD i z92 := rfl
theorem rdt90 (xs : List S90) (i : Nat) : rd_T90 xs (i : Int) = xs.getD i z90 := rfl
def convEntry (x : S92) : S90 := ⟨x.f0, x.f1, x.f2⟩
theorem szEntryS_ev (xs : List (S92)) (left : Int) (h0 : 0 ≤ left) (h1 : left ≤ 1048576) (w : xs.length ≤ 9223372036854775807) : ∃ r, Ev (fun k => laws_szEntryS.f xs left) r ∧ r ≤ left ∧ (0 ≤ r → xs.length ≤ 1048576) := by
  have e : wrap64 (left - (xs.length : Int)) = left - (xs.length : Int) := wrapI (by omega) (by omega)
  unfold laws_szEntryS.f
  by_cases c : left - (xs.length : Int) < 0
  · simp only [e, if_pos c]; exact ⟨-1, Ev.now _, by omega, fun h => absurd h (by omega)⟩
  simp only [e, if_neg c]
  exact ⟨_, Ev.now _, by omega, fun h => by omega⟩
theorem toEntry_ev (v0 : Int) (v1 : Int) (v2 : Int)  : Ev (fun k => laws_toEntry.f v0 v1 v2) (v0, v1, v2) := by
  unfold laws_toEntry.f
  exact Ev.now _
theorem toEntryS_ev (xs : List (S92)) (w : xs.length ≤ 1048576) : Ev (fun k => laws_toEntryS.f k xs) (xs.map convEntry) := by
  have hl := w
  refine Ev.congr (f := fun k => laws_toEntryS.l0 k xs (List.replicate xs.length z90) ((0 : Nat) : Int)) (fun k => by unfold laws_toEntryS.f; rw [if_pos (by omega), if_pos (by omega)]; rfl) ?_
  refine loop_set z92 z90 convEntry xs (fun ys i k => laws_toEntryS.l0 k xs ys i) (fun ys i r hi hl h => ?_) (fun ys hl => ?_) _ (by simp)
  · refine Ev.step (fun k => by rw [laws_toEntryS.l0, if_pos (by omega), if_pos (by omega), rdt92]) (Ev.bind (toEntry_ev (xs.getD i z92).f0 (xs.getD i z92).f1 (xs.getD i z92).f2 ) ?_)
    simp only [if_pos (show (i : Int) < (ys.length : Int) by omega), wrapI (x := (i : Int) + 1) (by omega) (by omega), Int.toNat_natCast]
    exact h
  · exact Ev.step (f := fun _ => some ys) (fun k => by rw [laws_toEntryS.l0, if_neg (by omega)]) (Ev.now _)
theorem eqEntry_ev (v0 : Int) (v1 : Int) (v2 : Int)  : Ev (fun k => laws_eqEntry.f v0 v1 v2 v0 v1 v2) true := by
  unfold laws_eqEntry.f
  simp only [if_true, bne_self_eq_false, Bool.false_eq_true, if_false]
  exact Ev.now _
theorem eqEntryS_ev (xs : List (S90)) (w : xs.length ≤ 1048576) : Ev (fun k => laws_eqEntryS.f k xs xs) true := by
  have hl := w
  refine Ev.congr (f := fun k => laws_eqEntryS.l0 k xs xs ((0 : Nat) : Int)) (fun k => by unfold laws_eqEntryS.f; rw [if_pos rfl]; rfl) ?_
  refine loop_up xs.length (fun i k => laws_eqEntryS.l0 k xs xs i) true (fun i hi h => ?_) ?_ 0 (Nat.zero_le _)
  · refine Ev.step (fun k => by rw [laws_eqEntryS.l0, if_pos (by omega), if_pos (by omega), if_pos (by omega), rdt90]) (Ev.bind (eqEntry_ev (xs.getD i z90).f0 (xs.getD i z90).f1 (xs.getD i z90).f2 ) ?_)
    simp only [if_true, wrapI (x := (i : Int) + 1) (by omega) (by omega)]
    exact h
  · exact Ev.step (f := fun _ => some true) (fun k => by rw [laws_eqEntryS.l0, if_neg (by omega)]) (Ev.now _)

end Go.Proofs.Ytoglalgbjobpkaa.G
