/-
The laws' own functions over Record: sz, to, eq. Conditions: sizes, as each says.
-/
import Derived.Test.YtoglalgbjobpkaaGlib
import Derived.Test.YtoglalgbjobpkaaGHead
import Derived.Test.YtoglalgbjobpkaaFlawseqRecord
import Derived.Test.YtoglalgbjobpkaaFlawsszRecord
import Derived.Test.YtoglalgbjobpkaaFlawstoRecord
namespace Go.Proofs.Ytoglalgbjobpkaa.G
open Go.RowKit Go.Proofs.Ytoglalgbjobpkaa.F Go.Proofs.YtoglalgbjobpkaaW.PrintWords Go.Proofs.YtoglalgbjobpkaaW.PrintLast Go.Proofs.YtoglalgbjobpkaaW.PrintMore
set_option linter.unusedVariables false
set_option linter.unusedSimpArgs false

theorem szRecord_ev (v0 : Int) (v1 : Bool) (v2 : ByteArray) (v3 : Bool) (v4 : ByteArray) (v5 : List (S148)) (left : Int) (h0 : 0 ≤ left) (h1 : left ≤ 1048576) (wv2 : v2.size ≤ 9223372036854775807) (wv4 : v4.size ≤ 9223372036854775807) (wv5 : v5.length ≤ 9223372036854775807 ∧ ∀ y ∈ v5, Lim148 y) : ∃ r, Ev (fun k => laws_szRecord.f k v0 v1 v2 v3 v4 v5 left) r ∧ r ≤ left ∧ (0 ≤ r → v2.size ≤ 1048576 ∧ v4.size ≤ 1048576 ∧ (v5.length ≤ 1048576 ∧ ∀ y ∈ v5, Sm148 y)) := by
  unfold laws_szRecord.f
  have ec1 : wrap64 (left - (v2.size : Int)) = left - (v2.size : Int) := wrapI (by omega) (by omega)
  by_cases c1 : left - (v2.size : Int) < 0
  · simp only [ec1, if_pos c1]; exact ⟨-1, Ev.now _, by omega, fun h => absurd h (by omega)⟩
  simp only [ec1, if_neg c1]
  have ec2 : wrap64 (left - (v2.size : Int) - (v4.size : Int)) = left - (v2.size : Int) - (v4.size : Int) := wrapI (by omega) (by omega)
  by_cases c2 : left - (v2.size : Int) - (v4.size : Int) < 0
  · simp only [ec2, if_pos c2]; exact ⟨-1, Ev.now _, by omega, fun h => absurd h (by omega)⟩
  simp only [ec2, if_neg c2]
  obtain ⟨rc3, qc3, lc3, sc3⟩ := szHeadS_ev v5 (left - (v2.size : Int) - (v4.size : Int)) (by omega) (by omega) wv5
  refine ev_bind_ex qc3 ?_
  by_cases c3 : rc3 < 0
  · simp only [if_pos c3]; exact ⟨-1, Ev.now _, by omega, fun h => absurd h (by omega)⟩
  simp only [if_neg c3]
  exact ⟨_, Ev.now _, by omega, fun h => ⟨(by omega), (by omega), (sc3 (by omega))⟩⟩
theorem toRecord_ev (v0 : Int) (v1 : Bool) (v2 : ByteArray) (v3 : Bool) (v4 : ByteArray) (v5 : List (S148)) (wv2 : v2.size ≤ 1048576) (wv4 : v4.size ≤ 1048576) (wv5 : v5.length ≤ 1048576 ∧ ∀ y ∈ v5, Sm148 y) : Ev (fun k => laws_toRecord.f k v0 v1 v2 v3 v4 v5) (v0, v1, v2, v3, v4, (v5.map convHead)) := by
  unfold laws_toRecord.f
  refine Ev.bind (toHeadS_ev v5 wv5) ?_
  exact Ev.now _
theorem eqRecord_ev (v0 : Int) (v1 : Bool) (v2 : ByteArray) (v3 : Bool) (v4 : ByteArray) (v5 : List (S119)) (wv5 : v5.length ≤ 1048576 ∧ ∀ y ∈ v5, Sm119 y) : Ev (fun k => laws_eqRecord.f k v0 v1 v2 v3 v4 v5 v0 v1 v2 v3 v4 v5) true := by
  unfold laws_eqRecord.f
  simp only [if_true, bne_self_eq_false, Bool.false_eq_true, if_false]
  refine Ev.bind (eqHeadS_ev v5 wv5) ?_
  simp only [if_true, bne_self_eq_false, Bool.false_eq_true, if_false]
  exact Ev.now _

end Go.Proofs.Ytoglalgbjobpkaa.G
