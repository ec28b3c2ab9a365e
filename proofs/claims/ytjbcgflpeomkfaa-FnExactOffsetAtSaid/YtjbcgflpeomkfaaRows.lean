/-
  No cell of these rows narrows 'for every input' (looked for: loops, veiled, ifaces, maps, wideKeys, modest, calm, conditions, laid).
  DERIVED. THE GIVEN ROWS OF THIS SEAT. 6 by the template 'for every input the law returns true; each argument reads behind the call as it read before'; 0 by the template 'total and deterministic' (their statements: YtjbcgflpeomkfaaTotals.lean).
  GIVEN WITH THE SEED: the statements are not yours to turn. If you find one false, say at which input.
  Laid BY PROGRAM, IN A SANDBOX (cutbox-rows.mjs): the forced cells as the released guide's own fill.sh prints them over the translation 05e0d053789c68a1… (all of the seat's roots in one cut). By AI agents, Wed Nov 11 2026. No macro, syntax, notation, axiom, sorry.
-/
import Derived.Test.YtjbcgflpeomkfaaChecked
import GoSem.Claim
import GoSem.ClaimJoined
import GoSem.ClaimMapViews
import Derived.JoinedTies
import Derived.KernelRfl
namespace Go.Proofs.Ytjbcgflpeomkfaa
/- THE CELL 'sum', in the pinned program and in every row, IS THE sha256 OF THE DUMP (.gsa) THAT YtjbcgflpeomkfaaProg.lean LOADS. Nothing in Lean hashes anything: it is a label: what it is worth is what the hold of that sum in a sandbox is worth. -/
noncomputable def Try.pinned : Pinned := { name := "ytjbcgflpeomkfaa", sum := "05e0d053789c68a184658eae427b01a7749856811748c081ea4aeb9b58ba7c9c", checked := Try.checked }
namespace Rows
def none {H : Type} : Left H := { results := [], args := [] }

/-- 'laws.FnExactBatchOk': WHATEVER THE INPUT: true; the input reads as it did. -/
def fnExactBatchOkSpec : ChangeSpec := { name := "fnExactBatchOk", fn := fun _ => fun
  | [d] => { results := [.lit (.bool true)], args := [d] }
  | _ => none }
def fnExactBatchOkRow : OpenClaim := { program := "ytjbcgflpeomkfaa", sum := "05e0d053789c68a184658eae427b01a7749856811748c081ea4aeb9b58ba7c9c", func := "loop.example/g00035/laws.FnExactBatchOk", spec := "fnExactBatchOk", apart := false }
def FnExactBatchOkSaid : Prop := fnExactBatchOkRow.holds Try.pinned (OpenSpec.ofChange fnExactBatchOkSpec)

/-- ITS FALSE NEIGHBOUR: 'it returns false'. Refute it at one input. -/
def fnExactBatchOkWrong : ChangeSpec := { name := "fnExactBatchOk", fn := fun _ => fun
  | [d] => { results := [.lit (.bool false)], args := [d] }
  | _ => none }
def FnExactBatchOkWrongFalsely : Prop := fnExactBatchOkRow.holds Try.pinned (OpenSpec.ofChange fnExactBatchOkWrong)

/-- 'laws.FnExactLastOffset': WHATEVER THE INPUT: true; the input reads as it did. -/
def fnExactLastOffsetSpec : ChangeSpec := { name := "fnExactLastOffset", fn := fun _ => fun
  | [d] => { results := [.lit (.bool true)], args := [d] }
  | _ => none }
def fnExactLastOffsetRow : OpenClaim := { program := "ytjbcgflpeomkfaa", sum := "05e0d053789c68a184658eae427b01a7749856811748c081ea4aeb9b58ba7c9c", func := "loop.example/g00035/laws.FnExactLastOffset", spec := "fnExactLastOffset", apart := false }
def FnExactLastOffsetSaid : Prop := fnExactLastOffsetRow.holds Try.pinned (OpenSpec.ofChange fnExactLastOffsetSpec)

/-- ITS FALSE NEIGHBOUR: 'it returns false'. Refute it at one input. -/
def fnExactLastOffsetWrong : ChangeSpec := { name := "fnExactLastOffset", fn := fun _ => fun
  | [d] => { results := [.lit (.bool false)], args := [d] }
  | _ => none }
def FnExactLastOffsetWrongFalsely : Prop := fnExactLastOffsetRow.holds Try.pinned (OpenSpec.ofChange fnExactLastOffsetWrong)

/-- 'laws.FnExactLogOk': WHATEVER THE INPUT: true; the input reads as it did. -/
def fnExactLogOkSpec : ChangeSpec := { name := "fnExactLogOk", fn := fun _ => fun
  | [d] => { results := [.lit (.bool true)], args := [d] }
  | _ => none }
def fnExactLogOkRow : OpenClaim := { program := "ytjbcgflpeomkfaa", sum := "05e0d053789c68a184658eae427b01a7749856811748c081ea4aeb9b58ba7c9c", func := "loop.example/g00035/laws.FnExactLogOk", spec := "fnExactLogOk", apart := false }
def FnExactLogOkSaid : Prop := fnExactLogOkRow.holds Try.pinned (OpenSpec.ofChange fnExactLogOkSpec)

/-- ITS FALSE NEIGHBOUR: 'it returns false'. Refute it at one input. -/
def fnExactLogOkWrong : ChangeSpec := { name := "fnExactLogOk", fn := fun _ => fun
  | [d] => { results := [.lit (.bool false)], args := [d] }
  | _ => none }
def FnExactLogOkWrongFalsely : Prop := fnExactLogOkRow.holds Try.pinned (OpenSpec.ofChange fnExactLogOkWrong)

/-- 'laws.FnExactEndOf': WHATEVER THE INPUT: true; the input reads as it did. -/
def fnExactEndOfSpec : ChangeSpec := { name := "fnExactEndOf", fn := fun _ => fun
  | [d1, d2] => { results := [.lit (.bool true)], args := [d1, d2] }
  | _ => none }
def fnExactEndOfRow : OpenClaim := { program := "ytjbcgflpeomkfaa", sum := "05e0d053789c68a184658eae427b01a7749856811748c081ea4aeb9b58ba7c9c", func := "loop.example/g00035/laws.FnExactEndOf", spec := "fnExactEndOf", apart := false }
def FnExactEndOfSaid : Prop := fnExactEndOfRow.holds Try.pinned (OpenSpec.ofChange fnExactEndOfSpec)

/-- ITS FALSE NEIGHBOUR: 'it returns false'. Refute it at one input. -/
def fnExactEndOfWrong : ChangeSpec := { name := "fnExactEndOf", fn := fun _ => fun
  | [d1, d2] => { results := [.lit (.bool false)], args := [d1, d2] }
  | _ => none }
def FnExactEndOfWrongFalsely : Prop := fnExactEndOfRow.holds Try.pinned (OpenSpec.ofChange fnExactEndOfWrong)

/-- 'laws.FnExactNewLog': WHATEVER THE INPUT: true; the input reads as it did. -/
def fnExactNewLogSpec : ChangeSpec := { name := "fnExactNewLog", fn := fun _ => fun
  | [d1, d2] => { results := [.lit (.bool true)], args := [d1, d2] }
  | _ => none }
def fnExactNewLogRow : OpenClaim := { program := "ytjbcgflpeomkfaa", sum := "05e0d053789c68a184658eae427b01a7749856811748c081ea4aeb9b58ba7c9c", func := "loop.example/g00035/laws.FnExactNewLog", spec := "fnExactNewLog", apart := false }
def FnExactNewLogSaid : Prop := fnExactNewLogRow.holds Try.pinned (OpenSpec.ofChange fnExactNewLogSpec)

/-- ITS FALSE NEIGHBOUR: 'it returns false'. Refute it at one input. -/
def fnExactNewLogWrong : ChangeSpec := { name := "fnExactNewLog", fn := fun _ => fun
  | [d1, d2] => { results := [.lit (.bool false)], args := [d1, d2] }
  | _ => none }
def FnExactNewLogWrongFalsely : Prop := fnExactNewLogRow.holds Try.pinned (OpenSpec.ofChange fnExactNewLogWrong)

/-- 'laws.FnExactOffsetAt': WHATEVER THE INPUT: true; the input reads as it did. -/
def fnExactOffsetAtSpec : ChangeSpec := { name := "fnExactOffsetAt", fn := fun _ => fun
  | [d1, d2] => { results := [.lit (.bool true)], args := [d1, d2] }
  | _ => none }
def fnExactOffsetAtRow : OpenClaim := { program := "ytjbcgflpeomkfaa", sum := "05e0d053789c68a184658eae427b01a7749856811748c081ea4aeb9b58ba7c9c", func := "loop.example/g00035/laws.FnExactOffsetAt", spec := "fnExactOffsetAt", apart := false }
def FnExactOffsetAtSaid : Prop := fnExactOffsetAtRow.holds Try.pinned (OpenSpec.ofChange fnExactOffsetAtSpec)

/-- ITS FALSE NEIGHBOUR: 'it returns false'. Refute it at one input. -/
def fnExactOffsetAtWrong : ChangeSpec := { name := "fnExactOffsetAt", fn := fun _ => fun
  | [d1, d2] => { results := [.lit (.bool false)], args := [d1, d2] }
  | _ => none }
def FnExactOffsetAtWrongFalsely : Prop := fnExactOffsetAtRow.holds Try.pinned (OpenSpec.ofChange fnExactOffsetAtWrong)

/- THE SECOND FORM. 'bulk': how many values and letters a reading holds, each counted each time it is reached (what is shared counts as often as it is met; a slice's spare places count too). A statement '..UptoSaid' is the law's where the arguments, and the package variables that the reading takes, are together of bulk at most 1048576: NARROWER than '..Said'. Prove '..Said' where nothing that the law and all that it calls make is longer than what came in: it says more and counts as full. Else prove '..UptoSaid'. A law counts once. -/
mutual
def uptoBulk {H : Type} : DataW H → Nat
  | .lit (.string bytes) => bytes.length + 1
  | .lit _ => 1
  | .nil => 1
  | .ptr d => uptoBulk d + 1
  | .slice elems spare => uptoBulkAll elems + uptoBulkAll spare + 1
  | .agg parts => uptoBulkAll parts + 1
  | .iface _ d => uptoBulk d + 1
  | .map entries => uptoBulkEntries entries + 1
  | .held _ => 1
def uptoBulkAll {H : Type} : List (DataW H) → Nat
  | [] => 0
  | d :: r => uptoBulk d + uptoBulkAll r
def uptoBulkEntries {H : Type} : List (Lit × DataW H) → Nat
  | [] => 0
  | x :: r => uptoBulkEntry x + uptoBulkEntries r
def uptoBulkEntry {H : Type} : Lit × DataW H → Nat
  | (.string bytes, d) => bytes.length + uptoBulk d + 1
  | (_, d) => uptoBulk d + 1
 end
def uptoSmall : (H : Type) → List (DataW H) → Bool := fun _ ds => decide (uptoBulkAll ds ≤ 1048576)
def OpenSpec.upto (s : _root_.Go.ChangeSpec) : _root_.Go.OpenSpec := { _root_.Go.OpenSpec.ofChange s with cond := some uptoSmall }

/-- 'laws.FnExactBatchOk', WHERE WHAT IT READS IS OF BULK AT MOST 1048576: true; the input reads as it did. -/
def fnExactBatchOkUptoRow : OpenClaim := { program := "ytjbcgflpeomkfaa", sum := "05e0d053789c68a184658eae427b01a7749856811748c081ea4aeb9b58ba7c9c", func := "loop.example/g00035/laws.FnExactBatchOk", spec := "fnExactBatchOk", apart := false, narrowed := true }
def FnExactBatchOkUptoSaid : Prop := fnExactBatchOkUptoRow.holds Try.pinned (OpenSpec.upto fnExactBatchOkSpec)

/-- 'laws.FnExactLastOffset', WHERE WHAT IT READS IS OF BULK AT MOST 1048576: true; the input reads as it did. -/
def fnExactLastOffsetUptoRow : OpenClaim := { program := "ytjbcgflpeomkfaa", sum := "05e0d053789c68a184658eae427b01a7749856811748c081ea4aeb9b58ba7c9c", func := "loop.example/g00035/laws.FnExactLastOffset", spec := "fnExactLastOffset", apart := false, narrowed := true }
def FnExactLastOffsetUptoSaid : Prop := fnExactLastOffsetUptoRow.holds Try.pinned (OpenSpec.upto fnExactLastOffsetSpec)

/-- 'laws.FnExactLogOk', WHERE WHAT IT READS IS OF BULK AT MOST 1048576: true; the input reads as it did. -/
def fnExactLogOkUptoRow : OpenClaim := { program := "ytjbcgflpeomkfaa", sum := "05e0d053789c68a184658eae427b01a7749856811748c081ea4aeb9b58ba7c9c", func := "loop.example/g00035/laws.FnExactLogOk", spec := "fnExactLogOk", apart := false, narrowed := true }
def FnExactLogOkUptoSaid : Prop := fnExactLogOkUptoRow.holds Try.pinned (OpenSpec.upto fnExactLogOkSpec)

/-- 'laws.FnExactEndOf', WHERE WHAT IT READS IS OF BULK AT MOST 1048576: true; the input reads as it did. -/
def fnExactEndOfUptoRow : OpenClaim := { program := "ytjbcgflpeomkfaa", sum := "05e0d053789c68a184658eae427b01a7749856811748c081ea4aeb9b58ba7c9c", func := "loop.example/g00035/laws.FnExactEndOf", spec := "fnExactEndOf", apart := false, narrowed := true }
def FnExactEndOfUptoSaid : Prop := fnExactEndOfUptoRow.holds Try.pinned (OpenSpec.upto fnExactEndOfSpec)

/-- 'laws.FnExactNewLog', WHERE WHAT IT READS IS OF BULK AT MOST 1048576: true; the input reads as it did. -/
def fnExactNewLogUptoRow : OpenClaim := { program := "ytjbcgflpeomkfaa", sum := "05e0d053789c68a184658eae427b01a7749856811748c081ea4aeb9b58ba7c9c", func := "loop.example/g00035/laws.FnExactNewLog", spec := "fnExactNewLog", apart := false, narrowed := true }
def FnExactNewLogUptoSaid : Prop := fnExactNewLogUptoRow.holds Try.pinned (OpenSpec.upto fnExactNewLogSpec)

/-- 'laws.FnExactOffsetAt', WHERE WHAT IT READS IS OF BULK AT MOST 1048576: true; the input reads as it did. -/
def fnExactOffsetAtUptoRow : OpenClaim := { program := "ytjbcgflpeomkfaa", sum := "05e0d053789c68a184658eae427b01a7749856811748c081ea4aeb9b58ba7c9c", func := "loop.example/g00035/laws.FnExactOffsetAt", spec := "fnExactOffsetAt", apart := false, narrowed := true }
def FnExactOffsetAtUptoSaid : Prop := fnExactOffsetAtUptoRow.holds Try.pinned (OpenSpec.upto fnExactOffsetAtSpec)

end Rows
end Go.Proofs.Ytjbcgflpeomkfaa
