/-
The program's Dirt. Conditions: each contract's own premises.
-/
import Derived.Test.YtenldgbabcjjkaaHD8
namespace Go.Proofs.Ytenldgbabcjjkaa.H
open Go.RowKit
set_option linter.unusedVariables false
theorem implDirt_c (w : World) (x : Log) (tt now keep : Int) {A3 : Option Addr} {c3 : Nat} (l3 : x.Segments.length ≤ c3) (g3 : Row kSegment w A3 x.Segments) (hs : x.sm) :
    Calls Try.prog 35 #[.agg #[.int .i64 x.Start, .int .i64 x.Next, .int .i64 x.Roll, .slice A3 x.Segments.length c3], .int .i64 tt, .int .i64 now, .int .i64 keep] w fun e w' => e = .returned (.tuple #[.int .i64 (dirtF x tt now keep).1, .int .i64 (dirtF x tt now keep).2]) ∧ Below w.heap.size w w' := implDirt_of goes_c w x tt now keep l3 g3 hs
end Go.Proofs.Ytenldgbabcjjkaa.H
