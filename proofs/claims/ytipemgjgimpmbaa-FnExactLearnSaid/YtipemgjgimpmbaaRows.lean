/-
  No cell of these rows narrows 'for every input' (looked for: loops, veiled, ifaces, maps, wideKeys, modest, calm, conditions, laid).
  DERIVED. THE GIVEN ROWS OF THIS SEAT. 6 by the template 'for every input the law returns true; each argument reads behind the call as it read before'; 0 by the template 'total and deterministic' (their statements: YtipemgjgimpmbaaTotals.lean).
  GIVEN WITH THE SEED: the statements are not yours to turn. If you find one false, say at which input.
  Laid BY PROGRAM, IN A SANDBOX (cutbox-rows.mjs): the forced cells as the released guide's own fill.sh prints them over the translation 5f9a9980328d86c8… (all of the seat's roots in one cut). By AI agents, Wed Nov 11 2026. No macro, syntax, notation, axiom, sorry.
-/
import Derived.Test.YtipemgjgimpmbaaChecked
import GoSem.Claim
import GoSem.ClaimJoined
import GoSem.ClaimMapViews
import Derived.JoinedTies
import Derived.KernelRfl
namespace Go.Proofs.Ytipemgjgimpmbaa
/- THE CELL 'sum', in the pinned program and in every row, IS THE sha256 OF THE DUMP (.gsa) THAT YtipemgjgimpmbaaProg.lean LOADS. Nothing in Lean hashes anything: it is a label: what it is worth is what the hold of that sum in a sandbox is worth. -/
noncomputable def Try.pinned : Pinned := { name := "ytipemgjgimpmbaa", sum := "5f9a9980328d86c8027b414700637b4238e6c32cbe7525bb03f9441ef10be0bd", checked := Try.checked }
namespace Rows
def none {H : Type} : Left H := { results := [], args := [] }

/-- 'laws.FnExactAborted': WHATEVER THE INPUT: true; the input reads as it did. -/
def fnExactAbortedSpec : ChangeSpec := { name := "fnExactAborted", fn := fun _ => fun
  | [d] => { results := [.lit (.bool true)], args := [d] }
  | _ => none }
def fnExactAbortedRow : OpenClaim := { program := "ytipemgjgimpmbaa", sum := "5f9a9980328d86c8027b414700637b4238e6c32cbe7525bb03f9441ef10be0bd", func := "loop.example/g00035/laws.FnExactAborted", spec := "fnExactAborted", apart := false }
def FnExactAbortedSaid : Prop := fnExactAbortedRow.holds Try.pinned (OpenSpec.ofChange fnExactAbortedSpec)

/-- ITS FALSE NEIGHBOUR: 'it returns false'. Refute it at one input. -/
def fnExactAbortedWrong : ChangeSpec := { name := "fnExactAborted", fn := fun _ => fun
  | [d] => { results := [.lit (.bool false)], args := [d] }
  | _ => none }
def FnExactAbortedWrongFalsely : Prop := fnExactAbortedRow.holds Try.pinned (OpenSpec.ofChange fnExactAbortedWrong)

/-- 'laws.FnExactCutTo': WHATEVER THE INPUT: true; the input reads as it did. -/
def fnExactCutToSpec : ChangeSpec := { name := "fnExactCutTo", fn := fun _ => fun
  | [d1, d2] => { results := [.lit (.bool true)], args := [d1, d2] }
  | _ => none }
def fnExactCutToRow : OpenClaim := { program := "ytipemgjgimpmbaa", sum := "5f9a9980328d86c8027b414700637b4238e6c32cbe7525bb03f9441ef10be0bd", func := "loop.example/g00035/laws.FnExactCutTo", spec := "fnExactCutTo", apart := false }
def FnExactCutToSaid : Prop := fnExactCutToRow.holds Try.pinned (OpenSpec.ofChange fnExactCutToSpec)

/-- ITS FALSE NEIGHBOUR: 'it returns false'. Refute it at one input. -/
def fnExactCutToWrong : ChangeSpec := { name := "fnExactCutTo", fn := fun _ => fun
  | [d1, d2] => { results := [.lit (.bool false)], args := [d1, d2] }
  | _ => none }
def FnExactCutToWrongFalsely : Prop := fnExactCutToRow.holds Try.pinned (OpenSpec.ofChange fnExactCutToWrong)

/-- 'laws.FnExactCutFrom': WHATEVER THE INPUT: true; the input reads as it did. -/
def fnExactCutFromSpec : ChangeSpec := { name := "fnExactCutFrom", fn := fun _ => fun
  | [d1, d2] => { results := [.lit (.bool true)], args := [d1, d2] }
  | _ => none }
def fnExactCutFromRow : OpenClaim := { program := "ytipemgjgimpmbaa", sum := "5f9a9980328d86c8027b414700637b4238e6c32cbe7525bb03f9441ef10be0bd", func := "loop.example/g00035/laws.FnExactCutFrom", spec := "fnExactCutFrom", apart := false }
def FnExactCutFromSaid : Prop := fnExactCutFromRow.holds Try.pinned (OpenSpec.ofChange fnExactCutFromSpec)

/-- ITS FALSE NEIGHBOUR: 'it returns false'. Refute it at one input. -/
def fnExactCutFromWrong : ChangeSpec := { name := "fnExactCutFrom", fn := fun _ => fun
  | [d1, d2] => { results := [.lit (.bool false)], args := [d1, d2] }
  | _ => none }
def FnExactCutFromWrongFalsely : Prop := fnExactCutFromRow.holds Try.pinned (OpenSpec.ofChange fnExactCutFromWrong)

/-- 'laws.FnExactTake': WHATEVER THE INPUT: true; the input reads as it did. -/
def fnExactTakeSpec : ChangeSpec := { name := "fnExactTake", fn := fun _ => fun
  | [d1, d2] => { results := [.lit (.bool true)], args := [d1, d2] }
  | _ => none }
def fnExactTakeRow : OpenClaim := { program := "ytipemgjgimpmbaa", sum := "5f9a9980328d86c8027b414700637b4238e6c32cbe7525bb03f9441ef10be0bd", func := "loop.example/g00035/laws.FnExactTake", spec := "fnExactTake", inPlace := ["slices.overlaps[loop.example/g00035/impl.Seen]"], unfollowed := true, recurses := true, apart := false }
def FnExactTakeSaid : Prop := fnExactTakeRow.holds Try.pinned (OpenSpec.ofChange fnExactTakeSpec)

/-- ITS FALSE NEIGHBOUR: 'it returns false'. Refute it at one input. -/
def fnExactTakeWrong : ChangeSpec := { name := "fnExactTake", fn := fun _ => fun
  | [d1, d2] => { results := [.lit (.bool false)], args := [d1, d2] }
  | _ => none }
def FnExactTakeWrongFalsely : Prop := fnExactTakeRow.holds Try.pinned (OpenSpec.ofChange fnExactTakeWrong)

/-- 'laws.FnExactVisible': WHATEVER THE INPUT: true; the input reads as it did. -/
def fnExactVisibleSpec : ChangeSpec := { name := "fnExactVisible", fn := fun _ => fun
  | [d1, d2, d3] => { results := [.lit (.bool true)], args := [d1, d2, d3] }
  | _ => none }
def fnExactVisibleRow : OpenClaim := { program := "ytipemgjgimpmbaa", sum := "5f9a9980328d86c8027b414700637b4238e6c32cbe7525bb03f9441ef10be0bd", func := "loop.example/g00035/laws.FnExactVisible", spec := "fnExactVisible", unfollowed := true, recurses := true, apart := false }
def FnExactVisibleSaid : Prop := fnExactVisibleRow.holds Try.pinned (OpenSpec.ofChange fnExactVisibleSpec)

/-- ITS FALSE NEIGHBOUR: 'it returns false'. Refute it at one input. -/
def fnExactVisibleWrong : ChangeSpec := { name := "fnExactVisible", fn := fun _ => fun
  | [d1, d2, d3] => { results := [.lit (.bool false)], args := [d1, d2, d3] }
  | _ => none }
def FnExactVisibleWrongFalsely : Prop := fnExactVisibleRow.holds Try.pinned (OpenSpec.ofChange fnExactVisibleWrong)

/-- 'laws.FnExactLearn': WHATEVER THE INPUT: true; the input reads as it did. -/
def fnExactLearnSpec : ChangeSpec := { name := "fnExactLearn", fn := fun _ => fun
  | [d] => { results := [.lit (.bool true)], args := [d] }
  | _ => none }
def fnExactLearnRow : OpenClaim := { program := "ytipemgjgimpmbaa", sum := "5f9a9980328d86c8027b414700637b4238e6c32cbe7525bb03f9441ef10be0bd", func := "loop.example/g00035/laws.FnExactLearn", spec := "fnExactLearn", inPlace := ["slices.overlaps[loop.example/g00035/impl.Seen]"], unfollowed := true, recurses := true, apart := false }
def FnExactLearnSaid : Prop := fnExactLearnRow.holds Try.pinned (OpenSpec.ofChange fnExactLearnSpec)

/-- ITS FALSE NEIGHBOUR: 'it returns false'. Refute it at one input. -/
def fnExactLearnWrong : ChangeSpec := { name := "fnExactLearn", fn := fun _ => fun
  | [d] => { results := [.lit (.bool false)], args := [d] }
  | _ => none }
def FnExactLearnWrongFalsely : Prop := fnExactLearnRow.holds Try.pinned (OpenSpec.ofChange fnExactLearnWrong)

/- THE SECOND FORM. 'bulk': how many values and letters a reading holds, each counted each time it is reached (what is shared counts as often as it is met; a slice's spare places count too). A statement '..UptoSaid' is the law's where the arguments, and the package variables that the reading takes, are together of bulk at most 1048576: NARROWER than '..Said'. Prove '..Said' where nothing that the law and all that it calls make is longer than what came in: it says more and counts as full. Else prove '..UptoSaid'. A law counts once. -/
mutual
def uptoBulk {H : Type} : DataW H → Nat
  | .lit (.string bytes) => bytes.length + 1
  | .lit _ => 1
  | .nil => 1
  | .ptr d => uptoBulk d + 1
  | .slice elems spare => uptoBulkAll elems + uptoBulkAll spare + 1
  | .agg parts => uptoBulkAll parts + 1
  | .iface _ d => uptoBulk d + 1
  | .map entries => uptoBulkEntries entries + 1
  | .held _ => 1
def uptoBulkAll {H : Type} : List (DataW H) → Nat
  | [] => 0
  | d :: r => uptoBulk d + uptoBulkAll r
def uptoBulkEntries {H : Type} : List (Lit × DataW H) → Nat
  | [] => 0
  | x :: r => uptoBulkEntry x + uptoBulkEntries r
def uptoBulkEntry {H : Type} : Lit × DataW H → Nat
  | (.string bytes, d) => bytes.length + uptoBulk d + 1
  | (_, d) => uptoBulk d + 1
 end
def uptoSmall : (H : Type) → List (DataW H) → Bool := fun _ ds => decide (uptoBulkAll ds ≤ 1048576)
def OpenSpec.upto (s : _root_.Go.ChangeSpec) : _root_.Go.OpenSpec := { _root_.Go.OpenSpec.ofChange s with cond := some uptoSmall }

/-- 'laws.FnExactAborted', WHERE WHAT IT READS IS OF BULK AT MOST 1048576: true; the input reads as it did. -/
def fnExactAbortedUptoRow : OpenClaim := { program := "ytipemgjgimpmbaa", sum := "5f9a9980328d86c8027b414700637b4238e6c32cbe7525bb03f9441ef10be0bd", func := "loop.example/g00035/laws.FnExactAborted", spec := "fnExactAborted", apart := false, narrowed := true }
def FnExactAbortedUptoSaid : Prop := fnExactAbortedUptoRow.holds Try.pinned (OpenSpec.upto fnExactAbortedSpec)

/-- 'laws.FnExactCutTo', WHERE WHAT IT READS IS OF BULK AT MOST 1048576: true; the input reads as it did. -/
def fnExactCutToUptoRow : OpenClaim := { program := "ytipemgjgimpmbaa", sum := "5f9a9980328d86c8027b414700637b4238e6c32cbe7525bb03f9441ef10be0bd", func := "loop.example/g00035/laws.FnExactCutTo", spec := "fnExactCutTo", apart := false, narrowed := true }
def FnExactCutToUptoSaid : Prop := fnExactCutToUptoRow.holds Try.pinned (OpenSpec.upto fnExactCutToSpec)

/-- 'laws.FnExactCutFrom', WHERE WHAT IT READS IS OF BULK AT MOST 1048576: true; the input reads as it did. -/
def fnExactCutFromUptoRow : OpenClaim := { program := "ytipemgjgimpmbaa", sum := "5f9a9980328d86c8027b414700637b4238e6c32cbe7525bb03f9441ef10be0bd", func := "loop.example/g00035/laws.FnExactCutFrom", spec := "fnExactCutFrom", apart := false, narrowed := true }
def FnExactCutFromUptoSaid : Prop := fnExactCutFromUptoRow.holds Try.pinned (OpenSpec.upto fnExactCutFromSpec)

/-- 'laws.FnExactTake', WHERE WHAT IT READS IS OF BULK AT MOST 1048576: true; the input reads as it did. -/
def fnExactTakeUptoRow : OpenClaim := { program := "ytipemgjgimpmbaa", sum := "5f9a9980328d86c8027b414700637b4238e6c32cbe7525bb03f9441ef10be0bd", func := "loop.example/g00035/laws.FnExactTake", spec := "fnExactTake", inPlace := ["slices.overlaps[loop.example/g00035/impl.Seen]"], unfollowed := true, recurses := true, apart := false, narrowed := true }
def FnExactTakeUptoSaid : Prop := fnExactTakeUptoRow.holds Try.pinned (OpenSpec.upto fnExactTakeSpec)

/-- 'laws.FnExactVisible', WHERE WHAT IT READS IS OF BULK AT MOST 1048576: true; the input reads as it did. -/
def fnExactVisibleUptoRow : OpenClaim := { program := "ytipemgjgimpmbaa", sum := "5f9a9980328d86c8027b414700637b4238e6c32cbe7525bb03f9441ef10be0bd", func := "loop.example/g00035/laws.FnExactVisible", spec := "fnExactVisible", unfollowed := true, recurses := true, apart := false, narrowed := true }
def FnExactVisibleUptoSaid : Prop := fnExactVisibleUptoRow.holds Try.pinned (OpenSpec.upto fnExactVisibleSpec)

/-- 'laws.FnExactLearn', WHERE WHAT IT READS IS OF BULK AT MOST 1048576: true; the input reads as it did. -/
def fnExactLearnUptoRow : OpenClaim := { program := "ytipemgjgimpmbaa", sum := "5f9a9980328d86c8027b414700637b4238e6c32cbe7525bb03f9441ef10be0bd", func := "loop.example/g00035/laws.FnExactLearn", spec := "fnExactLearn", inPlace := ["slices.overlaps[loop.example/g00035/impl.Seen]"], unfollowed := true, recurses := true, apart := false, narrowed := true }
def FnExactLearnUptoSaid : Prop := fnExactLearnUptoRow.holds Try.pinned (OpenSpec.upto fnExactLearnSpec)

end Rows
end Go.Proofs.Ytipemgjgimpmbaa
