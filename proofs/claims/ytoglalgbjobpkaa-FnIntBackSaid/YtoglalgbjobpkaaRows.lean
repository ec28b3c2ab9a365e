/-
  No cell of these rows narrows 'for every input' (looked for: loops, veiled, ifaces, maps, wideKeys, modest, calm, conditions, laid).
  DERIVED. THE GIVEN ROWS OF THIS SEAT. 12 by the template 'for every input the law returns true; each argument reads behind the call as it read before'; 0 by the template 'total and deterministic' (their statements: YtoglalgbjobpkaaTotals.lean).
  GIVEN WITH THE SEED: the statements are not yours to turn. If you find one false, say at which input.
  Laid BY PROGRAM, IN A SANDBOX (cutbox-rows.mjs): the forced cells as the released guide's own fill.sh prints them over the translation 0b0b6d95500d86d0… (all of the seat's roots in one cut). By AI agents, Wed Nov 11 2026. No macro, syntax, notation, axiom, sorry.
-/
import Derived.Test.YtoglalgbjobpkaaChecked
import GoSem.Claim
import GoSem.ClaimJoined
import GoSem.ClaimMapViews
import Derived.JoinedTies
import Derived.KernelRfl
namespace Go.Proofs.Ytoglalgbjobpkaa
/- THE CELL 'sum', in the pinned program and in every row, IS THE sha256 OF THE DUMP (.gsa) THAT YtoglalgbjobpkaaProg.lean LOADS. Nothing in Lean hashes anything: it is a label: what it is worth is what the hold of that sum in a sandbox is worth. -/
noncomputable def Try.pinned : Pinned := { name := "ytoglalgbjobpkaa", sum := "0b0b6d95500d86d0bb0c89213fa9243fac8bcfe2b6b896b336f10cfc3600dd0d", checked := Try.checked }
namespace Rows
def none {H : Type} : Left H := { results := [], args := [] }

/-- 'laws.FnExactConstants': WHATEVER THE INPUT: true; the input reads as it did. -/
def fnExactConstantsSpec : ChangeSpec := { name := "fnExactConstants", fn := fun _ => fun
  | [] => { results := [.lit (.bool true)], args := [] }
  | _ => none }
def fnExactConstantsRow : OpenClaim := { program := "ytoglalgbjobpkaa", sum := "0b0b6d95500d86d0bb0c89213fa9243fac8bcfe2b6b896b336f10cfc3600dd0d", func := "loop.example/g00035/laws.FnExactConstants", spec := "fnExactConstants", plainKeys := false, apart := false }
def FnExactConstantsSaid : Prop := fnExactConstantsRow.holds Try.pinned (OpenSpec.ofChange fnExactConstantsSpec)

/-- ITS FALSE NEIGHBOUR: 'it returns false'. Refute it at one input. -/
def fnExactConstantsWrong : ChangeSpec := { name := "fnExactConstants", fn := fun _ => fun
  | [] => { results := [.lit (.bool false)], args := [] }
  | _ => none }
def FnExactConstantsWrongFalsely : Prop := fnExactConstantsRow.holds Try.pinned (OpenSpec.ofChange fnExactConstantsWrong)

/-- 'laws.FnExactNameOk': WHATEVER THE INPUT: true; the input reads as it did. -/
def fnExactNameOkSpec : ChangeSpec := { name := "fnExactNameOk", fn := fun _ => fun
  | [d] => { results := [.lit (.bool true)], args := [d] }
  | _ => none }
def fnExactNameOkRow : OpenClaim := { program := "ytoglalgbjobpkaa", sum := "0b0b6d95500d86d0bb0c89213fa9243fac8bcfe2b6b896b336f10cfc3600dd0d", func := "loop.example/g00035/laws.FnExactNameOk", spec := "fnExactNameOk", plainKeys := false, apart := false }
def FnExactNameOkSaid : Prop := fnExactNameOkRow.holds Try.pinned (OpenSpec.ofChange fnExactNameOkSpec)

/-- ITS FALSE NEIGHBOUR: 'it returns false'. Refute it at one input. -/
def fnExactNameOkWrong : ChangeSpec := { name := "fnExactNameOk", fn := fun _ => fun
  | [d] => { results := [.lit (.bool false)], args := [d] }
  | _ => none }
def FnExactNameOkWrongFalsely : Prop := fnExactNameOkRow.holds Try.pinned (OpenSpec.ofChange fnExactNameOkWrong)

/-- 'laws.FnExactPutInt': WHATEVER THE INPUT: true; the input reads as it did. -/
def fnExactPutIntSpec : ChangeSpec := { name := "fnExactPutInt", fn := fun _ => fun
  | [d] => { results := [.lit (.bool true)], args := [d] }
  | _ => none }
def fnExactPutIntRow : OpenClaim := { program := "ytoglalgbjobpkaa", sum := "0b0b6d95500d86d0bb0c89213fa9243fac8bcfe2b6b896b336f10cfc3600dd0d", func := "loop.example/g00035/laws.FnExactPutInt", spec := "fnExactPutInt", plainKeys := false, apart := false }
def FnExactPutIntSaid : Prop := fnExactPutIntRow.holds Try.pinned (OpenSpec.ofChange fnExactPutIntSpec)

/-- ITS FALSE NEIGHBOUR: 'it returns false'. Refute it at one input. -/
def fnExactPutIntWrong : ChangeSpec := { name := "fnExactPutInt", fn := fun _ => fun
  | [d] => { results := [.lit (.bool false)], args := [d] }
  | _ => none }
def FnExactPutIntWrongFalsely : Prop := fnExactPutIntRow.holds Try.pinned (OpenSpec.ofChange fnExactPutIntWrong)

/-- 'laws.FnExactSeek': WHATEVER THE INPUT: true; the input reads as it did. -/
def fnExactSeekSpec : ChangeSpec := { name := "fnExactSeek", fn := fun _ => fun
  | [d1, d2, d3] => { results := [.lit (.bool true)], args := [d1, d2, d3] }
  | _ => none }
def fnExactSeekRow : OpenClaim := { program := "ytoglalgbjobpkaa", sum := "0b0b6d95500d86d0bb0c89213fa9243fac8bcfe2b6b896b336f10cfc3600dd0d", func := "loop.example/g00035/laws.FnExactSeek", spec := "fnExactSeek", plainKeys := false, apart := false }
def FnExactSeekSaid : Prop := fnExactSeekRow.holds Try.pinned (OpenSpec.ofChange fnExactSeekSpec)

/-- ITS FALSE NEIGHBOUR: 'it returns false'. Refute it at one input. -/
def fnExactSeekWrong : ChangeSpec := { name := "fnExactSeek", fn := fun _ => fun
  | [d1, d2, d3] => { results := [.lit (.bool false)], args := [d1, d2, d3] }
  | _ => none }
def FnExactSeekWrongFalsely : Prop := fnExactSeekRow.holds Try.pinned (OpenSpec.ofChange fnExactSeekWrong)

/-- 'laws.FnExactGetInt': WHATEVER THE INPUT: true; the input reads as it did. -/
def fnExactGetIntSpec : ChangeSpec := { name := "fnExactGetInt", fn := fun _ => fun
  | [d1, d2] => { results := [.lit (.bool true)], args := [d1, d2] }
  | _ => none }
def fnExactGetIntRow : OpenClaim := { program := "ytoglalgbjobpkaa", sum := "0b0b6d95500d86d0bb0c89213fa9243fac8bcfe2b6b896b336f10cfc3600dd0d", func := "loop.example/g00035/laws.FnExactGetInt", spec := "fnExactGetInt", plainKeys := false, apart := false }
def FnExactGetIntSaid : Prop := fnExactGetIntRow.holds Try.pinned (OpenSpec.ofChange fnExactGetIntSpec)

/-- ITS FALSE NEIGHBOUR: 'it returns false'. Refute it at one input. -/
def fnExactGetIntWrong : ChangeSpec := { name := "fnExactGetInt", fn := fun _ => fun
  | [d1, d2] => { results := [.lit (.bool false)], args := [d1, d2] }
  | _ => none }
def FnExactGetIntWrongFalsely : Prop := fnExactGetIntRow.holds Try.pinned (OpenSpec.ofChange fnExactGetIntWrong)

/-- 'laws.FnStickyLeast': WHATEVER THE INPUT: true; the input reads as it did. -/
def fnStickyLeastSpec : ChangeSpec := { name := "fnStickyLeast", fn := fun _ => fun
  | [d] => { results := [.lit (.bool true)], args := [d] }
  | _ => none }
def fnStickyLeastRow : OpenClaim := { program := "ytoglalgbjobpkaa", sum := "0b0b6d95500d86d0bb0c89213fa9243fac8bcfe2b6b896b336f10cfc3600dd0d", func := "loop.example/g00035/laws.FnStickyLeast", spec := "fnStickyLeast", inPlace := ["internal/bytealg.abigen_runtime_cmpstring"], plainKeys := false, apart := false }
def FnStickyLeastSaid : Prop := fnStickyLeastRow.holds Try.pinned (OpenSpec.ofChange fnStickyLeastSpec)

/-- ITS FALSE NEIGHBOUR: 'it returns false'. Refute it at one input. -/
def fnStickyLeastWrong : ChangeSpec := { name := "fnStickyLeast", fn := fun _ => fun
  | [d] => { results := [.lit (.bool false)], args := [d] }
  | _ => none }
def FnStickyLeastWrongFalsely : Prop := fnStickyLeastRow.holds Try.pinned (OpenSpec.ofChange fnStickyLeastWrong)

/-- 'laws.FnIntBack': WHATEVER THE INPUT: true; the input reads as it did. -/
def fnIntBackSpec : ChangeSpec := { name := "fnIntBack", fn := fun _ => fun
  | [d] => { results := [.lit (.bool true)], args := [d] }
  | _ => none }
def fnIntBackRow : OpenClaim := { program := "ytoglalgbjobpkaa", sum := "0b0b6d95500d86d0bb0c89213fa9243fac8bcfe2b6b896b336f10cfc3600dd0d", func := "loop.example/g00035/laws.FnIntBack", spec := "fnIntBack", plainKeys := false, apart := false }
def FnIntBackSaid : Prop := fnIntBackRow.holds Try.pinned (OpenSpec.ofChange fnIntBackSpec)

/-- ITS FALSE NEIGHBOUR: 'it returns false'. Refute it at one input. -/
def fnIntBackWrong : ChangeSpec := { name := "fnIntBack", fn := fun _ => fun
  | [d] => { results := [.lit (.bool false)], args := [d] }
  | _ => none }
def FnIntBackWrongFalsely : Prop := fnIntBackRow.holds Try.pinned (OpenSpec.ofChange fnIntBackWrong)

/-- 'laws.FnExactExpand': WHATEVER THE INPUT: true; the input reads as it did. -/
def fnExactExpandSpec : ChangeSpec := { name := "fnExactExpand", fn := fun _ => fun
  | [d1, d2] => { results := [.lit (.bool true)], args := [d1, d2] }
  | _ => none }
def fnExactExpandRow : OpenClaim := { program := "ytoglalgbjobpkaa", sum := "0b0b6d95500d86d0bb0c89213fa9243fac8bcfe2b6b896b336f10cfc3600dd0d", func := "loop.example/g00035/laws.FnExactExpand", spec := "fnExactExpand", plainKeys := false, apart := false }
def FnExactExpandSaid : Prop := fnExactExpandRow.holds Try.pinned (OpenSpec.ofChange fnExactExpandSpec)

/-- ITS FALSE NEIGHBOUR: 'it returns false'. Refute it at one input. -/
def fnExactExpandWrong : ChangeSpec := { name := "fnExactExpand", fn := fun _ => fun
  | [d1, d2] => { results := [.lit (.bool false)], args := [d1, d2] }
  | _ => none }
def FnExactExpandWrongFalsely : Prop := fnExactExpandRow.holds Try.pinned (OpenSpec.ofChange fnExactExpandWrong)

/-- 'laws.FnExactTopicsOk': WHATEVER THE INPUT: true; the input reads as it did. -/
def fnExactTopicsOkSpec : ChangeSpec := { name := "fnExactTopicsOk", fn := fun _ => fun
  | [d] => { results := [.lit (.bool true)], args := [d] }
  | _ => none }
def fnExactTopicsOkRow : OpenClaim := { program := "ytoglalgbjobpkaa", sum := "0b0b6d95500d86d0bb0c89213fa9243fac8bcfe2b6b896b336f10cfc3600dd0d", func := "loop.example/g00035/laws.FnExactTopicsOk", spec := "fnExactTopicsOk", plainKeys := false, apart := false }
def FnExactTopicsOkSaid : Prop := fnExactTopicsOkRow.holds Try.pinned (OpenSpec.ofChange fnExactTopicsOkSpec)

/-- ITS FALSE NEIGHBOUR: 'it returns false'. Refute it at one input. -/
def fnExactTopicsOkWrong : ChangeSpec := { name := "fnExactTopicsOk", fn := fun _ => fun
  | [d] => { results := [.lit (.bool false)], args := [d] }
  | _ => none }
def FnExactTopicsOkWrongFalsely : Prop := fnExactTopicsOkRow.holds Try.pinned (OpenSpec.ofChange fnExactTopicsOkWrong)

/-- 'laws.FnExactRecordOk': WHATEVER THE INPUT: true; the input reads as it did. -/
def fnExactRecordOkSpec : ChangeSpec := { name := "fnExactRecordOk", fn := fun _ => fun
  | [d] => { results := [.lit (.bool true)], args := [d] }
  | _ => none }
def fnExactRecordOkRow : OpenClaim := { program := "ytoglalgbjobpkaa", sum := "0b0b6d95500d86d0bb0c89213fa9243fac8bcfe2b6b896b336f10cfc3600dd0d", func := "loop.example/g00035/laws.FnExactRecordOk", spec := "fnExactRecordOk", plainKeys := false, apart := false }
def FnExactRecordOkSaid : Prop := fnExactRecordOkRow.holds Try.pinned (OpenSpec.ofChange fnExactRecordOkSpec)

/-- ITS FALSE NEIGHBOUR: 'it returns false'. Refute it at one input. -/
def fnExactRecordOkWrong : ChangeSpec := { name := "fnExactRecordOk", fn := fun _ => fun
  | [d] => { results := [.lit (.bool false)], args := [d] }
  | _ => none }
def FnExactRecordOkWrongFalsely : Prop := fnExactRecordOkRow.holds Try.pinned (OpenSpec.ofChange fnExactRecordOkWrong)

/-- 'laws.FnExactSqueeze': WHATEVER THE INPUT: true; the input reads as it did. -/
def fnExactSqueezeSpec : ChangeSpec := { name := "fnExactSqueeze", fn := fun _ => fun
  | [d] => { results := [.lit (.bool true)], args := [d] }
  | _ => none }
def fnExactSqueezeRow : OpenClaim := { program := "ytoglalgbjobpkaa", sum := "0b0b6d95500d86d0bb0c89213fa9243fac8bcfe2b6b896b336f10cfc3600dd0d", func := "loop.example/g00035/laws.FnExactSqueeze", spec := "fnExactSqueeze", unfollowed := true, recurses := true, plainKeys := false, apart := false }
def FnExactSqueezeSaid : Prop := fnExactSqueezeRow.holds Try.pinned (OpenSpec.ofChange fnExactSqueezeSpec)

/-- ITS FALSE NEIGHBOUR: 'it returns false'. Refute it at one input. -/
def fnExactSqueezeWrong : ChangeSpec := { name := "fnExactSqueeze", fn := fun _ => fun
  | [d] => { results := [.lit (.bool false)], args := [d] }
  | _ => none }
def FnExactSqueezeWrongFalsely : Prop := fnExactSqueezeRow.holds Try.pinned (OpenSpec.ofChange fnExactSqueezeWrong)

/-- 'laws.FnExactTableOk': WHATEVER THE INPUT: true; the input reads as it did. -/
def fnExactTableOkSpec : ChangeSpec := { name := "fnExactTableOk", fn := fun _ => fun
  | [d] => { results := [.lit (.bool true)], args := [d] }
  | _ => none }
def fnExactTableOkRow : OpenClaim := { program := "ytoglalgbjobpkaa", sum := "0b0b6d95500d86d0bb0c89213fa9243fac8bcfe2b6b896b336f10cfc3600dd0d", func := "loop.example/g00035/laws.FnExactTableOk", spec := "fnExactTableOk", plainKeys := false, apart := false }
def FnExactTableOkSaid : Prop := fnExactTableOkRow.holds Try.pinned (OpenSpec.ofChange fnExactTableOkSpec)

/-- ITS FALSE NEIGHBOUR: 'it returns false'. Refute it at one input. -/
def fnExactTableOkWrong : ChangeSpec := { name := "fnExactTableOk", fn := fun _ => fun
  | [d] => { results := [.lit (.bool false)], args := [d] }
  | _ => none }
def FnExactTableOkWrongFalsely : Prop := fnExactTableOkRow.holds Try.pinned (OpenSpec.ofChange fnExactTableOkWrong)

/- THE SECOND FORM. 'bulk': how many values and letters a reading holds, each counted each time it is reached (what is shared counts as often as it is met; a slice's spare places count too). A statement '..UptoSaid' is the law's where the arguments, and the package variables that the reading takes, are together of bulk at most 1048576: NARROWER than '..Said'. Prove '..Said' where nothing that the law and all that it calls make is longer than what came in: it says more and counts as full. Else prove '..UptoSaid'. A law counts once. -/
mutual
def uptoBulk {H : Type} : DataW H → Nat
  | .lit (.string bytes) => bytes.length + 1
  | .lit _ => 1
  | .nil => 1
  | .ptr d => uptoBulk d + 1
  | .slice elems spare => uptoBulkAll elems + uptoBulkAll spare + 1
  | .agg parts => uptoBulkAll parts + 1
  | .iface _ d => uptoBulk d + 1
  | .map entries => uptoBulkEntries entries + 1
  | .held _ => 1
def uptoBulkAll {H : Type} : List (DataW H) → Nat
  | [] => 0
  | d :: r => uptoBulk d + uptoBulkAll r
def uptoBulkEntries {H : Type} : List (Lit × DataW H) → Nat
  | [] => 0
  | x :: r => uptoBulkEntry x + uptoBulkEntries r
def uptoBulkEntry {H : Type} : Lit × DataW H → Nat
  | (.string bytes, d) => bytes.length + uptoBulk d + 1
  | (_, d) => uptoBulk d + 1
 end
def uptoSmall : (H : Type) → List (DataW H) → Bool := fun _ ds => decide (uptoBulkAll ds ≤ 1048576)
def OpenSpec.upto (s : _root_.Go.ChangeSpec) : _root_.Go.OpenSpec := { _root_.Go.OpenSpec.ofChange s with cond := some uptoSmall }

/-- 'laws.FnExactConstants', WHERE WHAT IT READS IS OF BULK AT MOST 1048576: true; the input reads as it did. -/
def fnExactConstantsUptoRow : OpenClaim := { program := "ytoglalgbjobpkaa", sum := "0b0b6d95500d86d0bb0c89213fa9243fac8bcfe2b6b896b336f10cfc3600dd0d", func := "loop.example/g00035/laws.FnExactConstants", spec := "fnExactConstants", plainKeys := false, apart := false, narrowed := true }
def FnExactConstantsUptoSaid : Prop := fnExactConstantsUptoRow.holds Try.pinned (OpenSpec.upto fnExactConstantsSpec)

/-- 'laws.FnExactNameOk', WHERE WHAT IT READS IS OF BULK AT MOST 1048576: true; the input reads as it did. -/
def fnExactNameOkUptoRow : OpenClaim := { program := "ytoglalgbjobpkaa", sum := "0b0b6d95500d86d0bb0c89213fa9243fac8bcfe2b6b896b336f10cfc3600dd0d", func := "loop.example/g00035/laws.FnExactNameOk", spec := "fnExactNameOk", plainKeys := false, apart := false, narrowed := true }
def FnExactNameOkUptoSaid : Prop := fnExactNameOkUptoRow.holds Try.pinned (OpenSpec.upto fnExactNameOkSpec)

/-- 'laws.FnExactPutInt', WHERE WHAT IT READS IS OF BULK AT MOST 1048576: true; the input reads as it did. -/
def fnExactPutIntUptoRow : OpenClaim := { program := "ytoglalgbjobpkaa", sum := "0b0b6d95500d86d0bb0c89213fa9243fac8bcfe2b6b896b336f10cfc3600dd0d", func := "loop.example/g00035/laws.FnExactPutInt", spec := "fnExactPutInt", plainKeys := false, apart := false, narrowed := true }
def FnExactPutIntUptoSaid : Prop := fnExactPutIntUptoRow.holds Try.pinned (OpenSpec.upto fnExactPutIntSpec)

/-- 'laws.FnExactSeek', WHERE WHAT IT READS IS OF BULK AT MOST 1048576: true; the input reads as it did. -/
def fnExactSeekUptoRow : OpenClaim := { program := "ytoglalgbjobpkaa", sum := "0b0b6d95500d86d0bb0c89213fa9243fac8bcfe2b6b896b336f10cfc3600dd0d", func := "loop.example/g00035/laws.FnExactSeek", spec := "fnExactSeek", plainKeys := false, apart := false, narrowed := true }
def FnExactSeekUptoSaid : Prop := fnExactSeekUptoRow.holds Try.pinned (OpenSpec.upto fnExactSeekSpec)

/-- 'laws.FnExactGetInt', WHERE WHAT IT READS IS OF BULK AT MOST 1048576: true; the input reads as it did. -/
def fnExactGetIntUptoRow : OpenClaim := { program := "ytoglalgbjobpkaa", sum := "0b0b6d95500d86d0bb0c89213fa9243fac8bcfe2b6b896b336f10cfc3600dd0d", func := "loop.example/g00035/laws.FnExactGetInt", spec := "fnExactGetInt", plainKeys := false, apart := false, narrowed := true }
def FnExactGetIntUptoSaid : Prop := fnExactGetIntUptoRow.holds Try.pinned (OpenSpec.upto fnExactGetIntSpec)

/-- 'laws.FnStickyLeast', WHERE WHAT IT READS IS OF BULK AT MOST 1048576: true; the input reads as it did. -/
def fnStickyLeastUptoRow : OpenClaim := { program := "ytoglalgbjobpkaa", sum := "0b0b6d95500d86d0bb0c89213fa9243fac8bcfe2b6b896b336f10cfc3600dd0d", func := "loop.example/g00035/laws.FnStickyLeast", spec := "fnStickyLeast", inPlace := ["internal/bytealg.abigen_runtime_cmpstring"], plainKeys := false, apart := false, narrowed := true }
def FnStickyLeastUptoSaid : Prop := fnStickyLeastUptoRow.holds Try.pinned (OpenSpec.upto fnStickyLeastSpec)

/-- 'laws.FnIntBack', WHERE WHAT IT READS IS OF BULK AT MOST 1048576: true; the input reads as it did. -/
def fnIntBackUptoRow : OpenClaim := { program := "ytoglalgbjobpkaa", sum := "0b0b6d95500d86d0bb0c89213fa9243fac8bcfe2b6b896b336f10cfc3600dd0d", func := "loop.example/g00035/laws.FnIntBack", spec := "fnIntBack", plainKeys := false, apart := false, narrowed := true }
def FnIntBackUptoSaid : Prop := fnIntBackUptoRow.holds Try.pinned (OpenSpec.upto fnIntBackSpec)

/-- 'laws.FnExactExpand', WHERE WHAT IT READS IS OF BULK AT MOST 1048576: true; the input reads as it did. -/
def fnExactExpandUptoRow : OpenClaim := { program := "ytoglalgbjobpkaa", sum := "0b0b6d95500d86d0bb0c89213fa9243fac8bcfe2b6b896b336f10cfc3600dd0d", func := "loop.example/g00035/laws.FnExactExpand", spec := "fnExactExpand", plainKeys := false, apart := false, narrowed := true }
def FnExactExpandUptoSaid : Prop := fnExactExpandUptoRow.holds Try.pinned (OpenSpec.upto fnExactExpandSpec)

/-- 'laws.FnExactTopicsOk', WHERE WHAT IT READS IS OF BULK AT MOST 1048576: true; the input reads as it did. -/
def fnExactTopicsOkUptoRow : OpenClaim := { program := "ytoglalgbjobpkaa", sum := "0b0b6d95500d86d0bb0c89213fa9243fac8bcfe2b6b896b336f10cfc3600dd0d", func := "loop.example/g00035/laws.FnExactTopicsOk", spec := "fnExactTopicsOk", plainKeys := false, apart := false, narrowed := true }
def FnExactTopicsOkUptoSaid : Prop := fnExactTopicsOkUptoRow.holds Try.pinned (OpenSpec.upto fnExactTopicsOkSpec)

/-- 'laws.FnExactRecordOk', WHERE WHAT IT READS IS OF BULK AT MOST 1048576: true; the input reads as it did. -/
def fnExactRecordOkUptoRow : OpenClaim := { program := "ytoglalgbjobpkaa", sum := "0b0b6d95500d86d0bb0c89213fa9243fac8bcfe2b6b896b336f10cfc3600dd0d", func := "loop.example/g00035/laws.FnExactRecordOk", spec := "fnExactRecordOk", plainKeys := false, apart := false, narrowed := true }
def FnExactRecordOkUptoSaid : Prop := fnExactRecordOkUptoRow.holds Try.pinned (OpenSpec.upto fnExactRecordOkSpec)

/-- 'laws.FnExactSqueeze', WHERE WHAT IT READS IS OF BULK AT MOST 1048576: true; the input reads as it did. -/
def fnExactSqueezeUptoRow : OpenClaim := { program := "ytoglalgbjobpkaa", sum := "0b0b6d95500d86d0bb0c89213fa9243fac8bcfe2b6b896b336f10cfc3600dd0d", func := "loop.example/g00035/laws.FnExactSqueeze", spec := "fnExactSqueeze", unfollowed := true, recurses := true, plainKeys := false, apart := false, narrowed := true }
def FnExactSqueezeUptoSaid : Prop := fnExactSqueezeUptoRow.holds Try.pinned (OpenSpec.upto fnExactSqueezeSpec)

/-- 'laws.FnExactTableOk', WHERE WHAT IT READS IS OF BULK AT MOST 1048576: true; the input reads as it did. -/
def fnExactTableOkUptoRow : OpenClaim := { program := "ytoglalgbjobpkaa", sum := "0b0b6d95500d86d0bb0c89213fa9243fac8bcfe2b6b896b336f10cfc3600dd0d", func := "loop.example/g00035/laws.FnExactTableOk", spec := "fnExactTableOk", plainKeys := false, apart := false, narrowed := true }
def FnExactTableOkUptoSaid : Prop := fnExactTableOkUptoRow.holds Try.pinned (OpenSpec.upto fnExactTableOkSpec)

end Rows
end Go.Proofs.Ytoglalgbjobpkaa
