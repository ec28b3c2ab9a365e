/-
  No cell of these rows narrows 'for every input' (looked for: loops, veiled, ifaces, maps, wideKeys, modest, calm, conditions, laid).
  DERIVED. THE GIVEN ROWS OF THIS SEAT. 6 by the template 'for every input the law returns true; each argument reads behind the call as it read before'; 0 by the template 'total and deterministic' (their statements: YtenldgbabcjjkaaTotals.lean).
  GIVEN WITH THE SEED: the statements are not yours to turn. If you find one false, say at which input.
  Laid BY PROGRAM, IN A SANDBOX (cutbox-rows.mjs): the forced cells as the released guide's own fill.sh prints them over the translation bbbec4abea55fa35… (all of the seat's roots in one cut). By AI agents, Wed Nov 11 2026. No macro, syntax, notation, axiom, sorry.
-/
import Derived.Test.YtenldgbabcjjkaaChecked
import GoSem.Claim
import GoSem.ClaimJoined
import GoSem.ClaimMapViews
import Derived.JoinedTies
import Derived.KernelRfl
namespace Go.Proofs.Ytenldgbabcjjkaa
/- THE CELL 'sum', in the pinned program and in every row, IS THE sha256 OF THE DUMP (.gsa) THAT YtenldgbabcjjkaaProg.lean LOADS. Nothing in Lean hashes anything: it is a label: what it is worth is what the hold of that sum in a sandbox is worth. -/
noncomputable def Try.pinned : Pinned := { name := "ytenldgbabcjjkaa", sum := "bbbec4abea55fa35087a6079bf6fbe2138cee06c37693841e29c987b3b62bd88", checked := Try.checked }
namespace Rows
def none {H : Type} : Left H := { results := [], args := [] }

/-- 'laws.FnExactWantsOk': WHATEVER THE INPUT: true; the input reads as it did. -/
def fnExactWantsOkSpec : ChangeSpec := { name := "fnExactWantsOk", fn := fun _ => fun
  | [d] => { results := [.lit (.bool true)], args := [d] }
  | _ => none }
def fnExactWantsOkRow : OpenClaim := { program := "ytenldgbabcjjkaa", sum := "bbbec4abea55fa35087a6079bf6fbe2138cee06c37693841e29c987b3b62bd88", func := "loop.example/g00035/laws.FnExactWantsOk", spec := "fnExactWantsOk", inPlace := ["internal/bytealg.abigen_runtime_cmpstring"], plainKeys := false, apart := false }
def FnExactWantsOkSaid : Prop := fnExactWantsOkRow.holds Try.pinned (OpenSpec.ofChange fnExactWantsOkSpec)

/-- ITS FALSE NEIGHBOUR: 'it returns false'. Refute it at one input. -/
def fnExactWantsOkWrong : ChangeSpec := { name := "fnExactWantsOk", fn := fun _ => fun
  | [d] => { results := [.lit (.bool false)], args := [d] }
  | _ => none }
def FnExactWantsOkWrongFalsely : Prop := fnExactWantsOkRow.holds Try.pinned (OpenSpec.ofChange fnExactWantsOkWrong)

/-- 'laws.FnExactMoves': WHATEVER THE INPUT: true; the input reads as it did. -/
def fnExactMovesSpec : ChangeSpec := { name := "fnExactMoves", fn := fun _ => fun
  | [d1, d2] => { results := [.lit (.bool true)], args := [d1, d2] }
  | _ => none }
def fnExactMovesRow : OpenClaim := { program := "ytenldgbabcjjkaa", sum := "bbbec4abea55fa35087a6079bf6fbe2138cee06c37693841e29c987b3b62bd88", func := "loop.example/g00035/laws.FnExactMoves", spec := "fnExactMoves", inPlace := ["internal/bytealg.abigen_runtime_cmpstring"], plainKeys := false, apart := false }
def FnExactMovesSaid : Prop := fnExactMovesRow.holds Try.pinned (OpenSpec.ofChange fnExactMovesSpec)

/-- ITS FALSE NEIGHBOUR: 'it returns false'. Refute it at one input. -/
def fnExactMovesWrong : ChangeSpec := { name := "fnExactMoves", fn := fun _ => fun
  | [d1, d2] => { results := [.lit (.bool false)], args := [d1, d2] }
  | _ => none }
def FnExactMovesWrongFalsely : Prop := fnExactMovesRow.holds Try.pinned (OpenSpec.ofChange fnExactMovesWrong)

/-- 'laws.FnExactNewPart': WHATEVER THE INPUT: true; the input reads as it did. -/
def fnExactNewPartSpec : ChangeSpec := { name := "fnExactNewPart", fn := fun _ => fun
  | [d1, d2, d3] => { results := [.lit (.bool true)], args := [d1, d2, d3] }
  | _ => none }
def fnExactNewPartRow : OpenClaim := { program := "ytenldgbabcjjkaa", sum := "bbbec4abea55fa35087a6079bf6fbe2138cee06c37693841e29c987b3b62bd88", func := "loop.example/g00035/laws.FnExactNewPart", spec := "fnExactNewPart", plainKeys := false, apart := false }
def FnExactNewPartSaid : Prop := fnExactNewPartRow.holds Try.pinned (OpenSpec.ofChange fnExactNewPartSpec)

/-- ITS FALSE NEIGHBOUR: 'it returns false'. Refute it at one input. -/
def fnExactNewPartWrong : ChangeSpec := { name := "fnExactNewPart", fn := fun _ => fun
  | [d1, d2, d3] => { results := [.lit (.bool false)], args := [d1, d2, d3] }
  | _ => none }
def FnExactNewPartWrongFalsely : Prop := fnExactNewPartRow.holds Try.pinned (OpenSpec.ofChange fnExactNewPartWrong)

/-- 'laws.FnExactNewStore': WHATEVER THE INPUT: true; the input reads as it did. -/
def fnExactNewStoreSpec : ChangeSpec := { name := "fnExactNewStore", fn := fun _ => fun
  | [d1, d2] => { results := [.lit (.bool true)], args := [d1, d2] }
  | _ => none }
def fnExactNewStoreRow : OpenClaim := { program := "ytenldgbabcjjkaa", sum := "bbbec4abea55fa35087a6079bf6fbe2138cee06c37693841e29c987b3b62bd88", func := "loop.example/g00035/laws.FnExactNewStore", spec := "fnExactNewStore", plainKeys := false, apart := false }
def FnExactNewStoreSaid : Prop := fnExactNewStoreRow.holds Try.pinned (OpenSpec.ofChange fnExactNewStoreSpec)

/-- ITS FALSE NEIGHBOUR: 'it returns false'. Refute it at one input. -/
def fnExactNewStoreWrong : ChangeSpec := { name := "fnExactNewStore", fn := fun _ => fun
  | [d1, d2] => { results := [.lit (.bool false)], args := [d1, d2] }
  | _ => none }
def FnExactNewStoreWrongFalsely : Prop := fnExactNewStoreRow.holds Try.pinned (OpenSpec.ofChange fnExactNewStoreWrong)

/-- 'laws.FnExactStable': WHATEVER THE INPUT: true; the input reads as it did. -/
def fnExactStableSpec : ChangeSpec := { name := "fnExactStable", fn := fun _ => fun
  | [d] => { results := [.lit (.bool true)], args := [d] }
  | _ => none }
def fnExactStableRow : OpenClaim := { program := "ytenldgbabcjjkaa", sum := "bbbec4abea55fa35087a6079bf6fbe2138cee06c37693841e29c987b3b62bd88", func := "loop.example/g00035/laws.FnExactStable", spec := "fnExactStable", plainKeys := false, apart := false }
def FnExactStableSaid : Prop := fnExactStableRow.holds Try.pinned (OpenSpec.ofChange fnExactStableSpec)

/-- ITS FALSE NEIGHBOUR: 'it returns false'. Refute it at one input. -/
def fnExactStableWrong : ChangeSpec := { name := "fnExactStable", fn := fun _ => fun
  | [d] => { results := [.lit (.bool false)], args := [d] }
  | _ => none }
def FnExactStableWrongFalsely : Prop := fnExactStableRow.holds Try.pinned (OpenSpec.ofChange fnExactStableWrong)

/-- 'laws.FnExactDirt': WHATEVER THE INPUT: true; the input reads as it did. -/
def fnExactDirtSpec : ChangeSpec := { name := "fnExactDirt", fn := fun _ => fun
  | [d1, d2, d3, d4] => { results := [.lit (.bool true)], args := [d1, d2, d3, d4] }
  | _ => none }
def fnExactDirtRow : OpenClaim := { program := "ytenldgbabcjjkaa", sum := "bbbec4abea55fa35087a6079bf6fbe2138cee06c37693841e29c987b3b62bd88", func := "loop.example/g00035/laws.FnExactDirt", spec := "fnExactDirt", plainKeys := false, apart := false }
def FnExactDirtSaid : Prop := fnExactDirtRow.holds Try.pinned (OpenSpec.ofChange fnExactDirtSpec)

/-- ITS FALSE NEIGHBOUR: 'it returns false'. Refute it at one input. -/
def fnExactDirtWrong : ChangeSpec := { name := "fnExactDirt", fn := fun _ => fun
  | [d1, d2, d3, d4] => { results := [.lit (.bool false)], args := [d1, d2, d3, d4] }
  | _ => none }
def FnExactDirtWrongFalsely : Prop := fnExactDirtRow.holds Try.pinned (OpenSpec.ofChange fnExactDirtWrong)

/- THE SECOND FORM. 'bulk': how many values and letters a reading holds, each counted each time it is reached (what is shared counts as often as it is met; a slice's spare places count too). A statement '..UptoSaid' is the law's where the arguments, and the package variables that the reading takes, are together of bulk at most 1048576: NARROWER than '..Said'. Prove '..Said' where nothing that the law and all that it calls make is longer than what came in: it says more and counts as full. Else prove '..UptoSaid'. A law counts once. -/
mutual
def uptoBulk {H : Type} : DataW H → Nat
  | .lit (.string bytes) => bytes.length + 1
  | .lit _ => 1
  | .nil => 1
  | .ptr d => uptoBulk d + 1
  | .slice elems spare => uptoBulkAll elems + uptoBulkAll spare + 1
  | .agg parts => uptoBulkAll parts + 1
  | .iface _ d => uptoBulk d + 1
  | .map entries => uptoBulkEntries entries + 1
  | .held _ => 1
def uptoBulkAll {H : Type} : List (DataW H) → Nat
  | [] => 0
  | d :: r => uptoBulk d + uptoBulkAll r
def uptoBulkEntries {H : Type} : List (Lit × DataW H) → Nat
  | [] => 0
  | x :: r => uptoBulkEntry x + uptoBulkEntries r
def uptoBulkEntry {H : Type} : Lit × DataW H → Nat
  | (.string bytes, d) => bytes.length + uptoBulk d + 1
  | (_, d) => uptoBulk d + 1
 end
def uptoSmall : (H : Type) → List (DataW H) → Bool := fun _ ds => decide (uptoBulkAll ds ≤ 1048576)
def OpenSpec.upto (s : _root_.Go.ChangeSpec) : _root_.Go.OpenSpec := { _root_.Go.OpenSpec.ofChange s with cond := some uptoSmall }

/-- 'laws.FnExactWantsOk', WHERE WHAT IT READS IS OF BULK AT MOST 1048576: true; the input reads as it did. -/
def fnExactWantsOkUptoRow : OpenClaim := { program := "ytenldgbabcjjkaa", sum := "bbbec4abea55fa35087a6079bf6fbe2138cee06c37693841e29c987b3b62bd88", func := "loop.example/g00035/laws.FnExactWantsOk", spec := "fnExactWantsOk", inPlace := ["internal/bytealg.abigen_runtime_cmpstring"], plainKeys := false, apart := false, narrowed := true }
def FnExactWantsOkUptoSaid : Prop := fnExactWantsOkUptoRow.holds Try.pinned (OpenSpec.upto fnExactWantsOkSpec)

/-- 'laws.FnExactMoves', WHERE WHAT IT READS IS OF BULK AT MOST 1048576: true; the input reads as it did. -/
def fnExactMovesUptoRow : OpenClaim := { program := "ytenldgbabcjjkaa", sum := "bbbec4abea55fa35087a6079bf6fbe2138cee06c37693841e29c987b3b62bd88", func := "loop.example/g00035/laws.FnExactMoves", spec := "fnExactMoves", inPlace := ["internal/bytealg.abigen_runtime_cmpstring"], plainKeys := false, apart := false, narrowed := true }
def FnExactMovesUptoSaid : Prop := fnExactMovesUptoRow.holds Try.pinned (OpenSpec.upto fnExactMovesSpec)

/-- 'laws.FnExactNewPart', WHERE WHAT IT READS IS OF BULK AT MOST 1048576: true; the input reads as it did. -/
def fnExactNewPartUptoRow : OpenClaim := { program := "ytenldgbabcjjkaa", sum := "bbbec4abea55fa35087a6079bf6fbe2138cee06c37693841e29c987b3b62bd88", func := "loop.example/g00035/laws.FnExactNewPart", spec := "fnExactNewPart", plainKeys := false, apart := false, narrowed := true }
def FnExactNewPartUptoSaid : Prop := fnExactNewPartUptoRow.holds Try.pinned (OpenSpec.upto fnExactNewPartSpec)

/-- 'laws.FnExactNewStore', WHERE WHAT IT READS IS OF BULK AT MOST 1048576: true; the input reads as it did. -/
def fnExactNewStoreUptoRow : OpenClaim := { program := "ytenldgbabcjjkaa", sum := "bbbec4abea55fa35087a6079bf6fbe2138cee06c37693841e29c987b3b62bd88", func := "loop.example/g00035/laws.FnExactNewStore", spec := "fnExactNewStore", plainKeys := false, apart := false, narrowed := true }
def FnExactNewStoreUptoSaid : Prop := fnExactNewStoreUptoRow.holds Try.pinned (OpenSpec.upto fnExactNewStoreSpec)

/-- 'laws.FnExactStable', WHERE WHAT IT READS IS OF BULK AT MOST 1048576: true; the input reads as it did. -/
def fnExactStableUptoRow : OpenClaim := { program := "ytenldgbabcjjkaa", sum := "bbbec4abea55fa35087a6079bf6fbe2138cee06c37693841e29c987b3b62bd88", func := "loop.example/g00035/laws.FnExactStable", spec := "fnExactStable", plainKeys := false, apart := false, narrowed := true }
def FnExactStableUptoSaid : Prop := fnExactStableUptoRow.holds Try.pinned (OpenSpec.upto fnExactStableSpec)

/-- 'laws.FnExactDirt', WHERE WHAT IT READS IS OF BULK AT MOST 1048576: true; the input reads as it did. -/
def fnExactDirtUptoRow : OpenClaim := { program := "ytenldgbabcjjkaa", sum := "bbbec4abea55fa35087a6079bf6fbe2138cee06c37693841e29c987b3b62bd88", func := "loop.example/g00035/laws.FnExactDirt", spec := "fnExactDirt", plainKeys := false, apart := false, narrowed := true }
def FnExactDirtUptoSaid : Prop := fnExactDirtUptoRow.holds Try.pinned (OpenSpec.upto fnExactDirtSpec)

end Rows
end Go.Proofs.Ytenldgbabcjjkaa
