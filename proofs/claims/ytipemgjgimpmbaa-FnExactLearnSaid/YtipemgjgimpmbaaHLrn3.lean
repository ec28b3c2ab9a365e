/-
Learn as its law wants it. No program in sight but the contract. Conditions: the contract's own premises.
-/
import Derived.Test.YtipemgjgimpmbaaHLrn1
import Derived.Test.YtipemgjgimpmbaaHLrn2
import Derived.Test.YtipemgjgimpmbaaHTake4
namespace Go.Proofs.Ytipemgjgimpmbaa.H
open Go.RowKit
set_option linter.unusedVariables false
theorem implLearn_c (w : World) (x : Log) {A : Option Addr} {c : Nat} (hc : x.Segments.length ≤ c) (hr : Row kSegment w A x.Segments) (hs : x.sm) :
    Calls Try.prog 40 #[.agg #[.int .i64 x.Start, .int .i64 x.Next, .int .i64 x.Roll, .slice A x.Segments.length c]] w (MadeS kSeen 101 (learn x) w) := by
  refine (implLearn_t w x hc hr hs).mono ?_
  rintro e w' ⟨v, rfl, ⟨F, h1, h2, h3⟩, hb⟩
  exact ⟨v, F, rfl, h1, ⟨h2, h3⟩, hb⟩
theorem learn_ok (x : Log) : tableOk (learn x) = true := by
  unfold learn
  by_cases h : logOk x = true
  · rw [if_pos h]
    exact learnF_ok _ (logOk_all h).2
  · rw [if_neg h]; rfl
theorem learn_short (x : Log) : shortT (learn x) := tableOk_short (learn_ok x)
end Go.Proofs.Ytipemgjgimpmbaa.H
