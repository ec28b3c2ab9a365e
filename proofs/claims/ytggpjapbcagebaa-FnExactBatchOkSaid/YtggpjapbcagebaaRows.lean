/-
  No cell of these rows narrows 'for every input' (looked for: loops, veiled, ifaces, maps, wideKeys, modest, calm, conditions, laid).
  DERIVED. THE GIVEN ROWS OF THIS SEAT. 31 by the template 'for every input the law returns true; each argument reads behind the call as it read before'; 0 by the template 'total and deterministic' (their statements: YtggpjapbcagebaaTotals.lean).
  GIVEN WITH THE SEED: the statements are not yours to turn. If you find one false, say at which input.
  Laid BY PROGRAM, IN A SANDBOX (cutbox-rows.mjs): the forced cells as the released guide's own fill.sh prints them over the translation d7c8bdc6a656a920… (all of the seat's roots in one cut). By AI agents, Wed Nov 11 2026. No macro, syntax, notation, axiom, sorry.
-/
import Derived.Test.YtggpjapbcagebaaChecked
import GoSem.Claim
import GoSem.ClaimJoined
import GoSem.ClaimMapViews
import Derived.JoinedTies
import Derived.KernelRfl
namespace Go.Proofs.Ytggpjapbcagebaa
/- THE CELL 'sum', in the pinned program and in every row, IS THE sha256 OF THE DUMP (.gsa) THAT YtggpjapbcagebaaProg.lean LOADS. Nothing in Lean hashes anything: it is a label: what it is worth is what the hold of that sum in a sandbox is worth. -/
noncomputable def Try.pinned : Pinned := { name := "ytggpjapbcagebaa", sum := "d7c8bdc6a656a920a35c229d383de32ce3a62343ae44bb6188208e7698869b95", checked := Try.checked }
namespace Rows
def none {H : Type} : Left H := { results := [], args := [] }

/-- 'laws.FnSqueezed': WHATEVER THE INPUT: true; the input reads as it did. -/
def fnSqueezedSpec : ChangeSpec := { name := "fnSqueezed", fn := fun _ => fun
  | [d] => { results := [.lit (.bool true)], args := [d] }
  | _ => none }
def fnSqueezedRow : OpenClaim := { program := "ytggpjapbcagebaa", sum := "d7c8bdc6a656a920a35c229d383de32ce3a62343ae44bb6188208e7698869b95", func := "loop.example/g00035/laws.FnSqueezed", spec := "fnSqueezed", unfollowed := true, recurses := true, plainKeys := false, apart := false }
def FnSqueezedSaid : Prop := fnSqueezedRow.holds Try.pinned (OpenSpec.ofChange fnSqueezedSpec)

/-- ITS FALSE NEIGHBOUR: 'it returns false'. Refute it at one input. -/
def fnSqueezedWrong : ChangeSpec := { name := "fnSqueezed", fn := fun _ => fun
  | [d] => { results := [.lit (.bool false)], args := [d] }
  | _ => none }
def FnSqueezedWrongFalsely : Prop := fnSqueezedRow.holds Try.pinned (OpenSpec.ofChange fnSqueezedWrong)

/-- 'laws.FnExactBatchOk': WHATEVER THE INPUT: true; the input reads as it did. -/
def fnExactBatchOkSpec : ChangeSpec := { name := "fnExactBatchOk", fn := fun _ => fun
  | [d] => { results := [.lit (.bool true)], args := [d] }
  | _ => none }
def fnExactBatchOkRow : OpenClaim := { program := "ytggpjapbcagebaa", sum := "d7c8bdc6a656a920a35c229d383de32ce3a62343ae44bb6188208e7698869b95", func := "loop.example/g00035/laws.FnExactBatchOk", spec := "fnExactBatchOk", plainKeys := false, apart := false }
def FnExactBatchOkSaid : Prop := fnExactBatchOkRow.holds Try.pinned (OpenSpec.ofChange fnExactBatchOkSpec)

/-- ITS FALSE NEIGHBOUR: 'it returns false'. Refute it at one input. -/
def fnExactBatchOkWrong : ChangeSpec := { name := "fnExactBatchOk", fn := fun _ => fun
  | [d] => { results := [.lit (.bool false)], args := [d] }
  | _ => none }
def FnExactBatchOkWrongFalsely : Prop := fnExactBatchOkRow.holds Try.pinned (OpenSpec.ofChange fnExactBatchOkWrong)

/-- 'laws.FnExactLastOffset': WHATEVER THE INPUT: true; the input reads as it did. -/
def fnExactLastOffsetSpec : ChangeSpec := { name := "fnExactLastOffset", fn := fun _ => fun
  | [d] => { results := [.lit (.bool true)], args := [d] }
  | _ => none }
def fnExactLastOffsetRow : OpenClaim := { program := "ytggpjapbcagebaa", sum := "d7c8bdc6a656a920a35c229d383de32ce3a62343ae44bb6188208e7698869b95", func := "loop.example/g00035/laws.FnExactLastOffset", spec := "fnExactLastOffset", plainKeys := false, apart := false }
def FnExactLastOffsetSaid : Prop := fnExactLastOffsetRow.holds Try.pinned (OpenSpec.ofChange fnExactLastOffsetSpec)

/-- ITS FALSE NEIGHBOUR: 'it returns false'. Refute it at one input. -/
def fnExactLastOffsetWrong : ChangeSpec := { name := "fnExactLastOffset", fn := fun _ => fun
  | [d] => { results := [.lit (.bool false)], args := [d] }
  | _ => none }
def FnExactLastOffsetWrongFalsely : Prop := fnExactLastOffsetRow.holds Try.pinned (OpenSpec.ofChange fnExactLastOffsetWrong)

/-- 'laws.FnExactWantsOk': WHATEVER THE INPUT: true; the input reads as it did. -/
def fnExactWantsOkSpec : ChangeSpec := { name := "fnExactWantsOk", fn := fun _ => fun
  | [d] => { results := [.lit (.bool true)], args := [d] }
  | _ => none }
def fnExactWantsOkRow : OpenClaim := { program := "ytggpjapbcagebaa", sum := "d7c8bdc6a656a920a35c229d383de32ce3a62343ae44bb6188208e7698869b95", func := "loop.example/g00035/laws.FnExactWantsOk", spec := "fnExactWantsOk", inPlace := ["internal/bytealg.abigen_runtime_cmpstring"], plainKeys := false, apart := false }
def FnExactWantsOkSaid : Prop := fnExactWantsOkRow.holds Try.pinned (OpenSpec.ofChange fnExactWantsOkSpec)

/-- ITS FALSE NEIGHBOUR: 'it returns false'. Refute it at one input. -/
def fnExactWantsOkWrong : ChangeSpec := { name := "fnExactWantsOk", fn := fun _ => fun
  | [d] => { results := [.lit (.bool false)], args := [d] }
  | _ => none }
def FnExactWantsOkWrongFalsely : Prop := fnExactWantsOkRow.holds Try.pinned (OpenSpec.ofChange fnExactWantsOkWrong)

/-- 'laws.FnExactNewLog': WHATEVER THE INPUT: true; the input reads as it did. -/
def fnExactNewLogSpec : ChangeSpec := { name := "fnExactNewLog", fn := fun _ => fun
  | [d1, d2] => { results := [.lit (.bool true)], args := [d1, d2] }
  | _ => none }
def fnExactNewLogRow : OpenClaim := { program := "ytggpjapbcagebaa", sum := "d7c8bdc6a656a920a35c229d383de32ce3a62343ae44bb6188208e7698869b95", func := "loop.example/g00035/laws.FnExactNewLog", spec := "fnExactNewLog", plainKeys := false, apart := false }
def FnExactNewLogSaid : Prop := fnExactNewLogRow.holds Try.pinned (OpenSpec.ofChange fnExactNewLogSpec)

/-- ITS FALSE NEIGHBOUR: 'it returns false'. Refute it at one input. -/
def fnExactNewLogWrong : ChangeSpec := { name := "fnExactNewLog", fn := fun _ => fun
  | [d1, d2] => { results := [.lit (.bool false)], args := [d1, d2] }
  | _ => none }
def FnExactNewLogWrongFalsely : Prop := fnExactNewLogRow.holds Try.pinned (OpenSpec.ofChange fnExactNewLogWrong)

/-- 'laws.FnEven': WHATEVER THE INPUT: true; the input reads as it did. -/
def fnEvenSpec : ChangeSpec := { name := "fnEven", fn := fun _ => fun
  | [d] => { results := [.lit (.bool true)], args := [d] }
  | _ => none }
def fnEvenRow : OpenClaim := { program := "ytggpjapbcagebaa", sum := "d7c8bdc6a656a920a35c229d383de32ce3a62343ae44bb6188208e7698869b95", func := "loop.example/g00035/laws.FnEven", spec := "fnEven", inPlace := ["internal/bytealg.abigen_runtime_cmpstring"], plainKeys := false, apart := false }
def FnEvenSaid : Prop := fnEvenRow.holds Try.pinned (OpenSpec.ofChange fnEvenSpec)

/-- ITS FALSE NEIGHBOUR: 'it returns false'. Refute it at one input. -/
def fnEvenWrong : ChangeSpec := { name := "fnEven", fn := fun _ => fun
  | [d] => { results := [.lit (.bool false)], args := [d] }
  | _ => none }
def FnEvenWrongFalsely : Prop := fnEvenRow.holds Try.pinned (OpenSpec.ofChange fnEvenWrong)

/-- 'laws.FnExactNewQuorum': WHATEVER THE INPUT: true; the input reads as it did. -/
def fnExactNewQuorumSpec : ChangeSpec := { name := "fnExactNewQuorum", fn := fun _ => fun
  | [d] => { results := [.lit (.bool true)], args := [d] }
  | _ => none }
def fnExactNewQuorumRow : OpenClaim := { program := "ytggpjapbcagebaa", sum := "d7c8bdc6a656a920a35c229d383de32ce3a62343ae44bb6188208e7698869b95", func := "loop.example/g00035/laws.FnExactNewQuorum", spec := "fnExactNewQuorum", plainKeys := false, apart := false }
def FnExactNewQuorumSaid : Prop := fnExactNewQuorumRow.holds Try.pinned (OpenSpec.ofChange fnExactNewQuorumSpec)

/-- ITS FALSE NEIGHBOUR: 'it returns false'. Refute it at one input. -/
def fnExactNewQuorumWrong : ChangeSpec := { name := "fnExactNewQuorum", fn := fun _ => fun
  | [d] => { results := [.lit (.bool false)], args := [d] }
  | _ => none }
def FnExactNewQuorumWrongFalsely : Prop := fnExactNewQuorumRow.holds Try.pinned (OpenSpec.ofChange fnExactNewQuorumWrong)

/-- 'laws.FnExactMoves': WHATEVER THE INPUT: true; the input reads as it did. -/
def fnExactMovesSpec : ChangeSpec := { name := "fnExactMoves", fn := fun _ => fun
  | [d1, d2] => { results := [.lit (.bool true)], args := [d1, d2] }
  | _ => none }
def fnExactMovesRow : OpenClaim := { program := "ytggpjapbcagebaa", sum := "d7c8bdc6a656a920a35c229d383de32ce3a62343ae44bb6188208e7698869b95", func := "loop.example/g00035/laws.FnExactMoves", spec := "fnExactMoves", inPlace := ["internal/bytealg.abigen_runtime_cmpstring"], plainKeys := false, apart := false }
def FnExactMovesSaid : Prop := fnExactMovesRow.holds Try.pinned (OpenSpec.ofChange fnExactMovesSpec)

/-- ITS FALSE NEIGHBOUR: 'it returns false'. Refute it at one input. -/
def fnExactMovesWrong : ChangeSpec := { name := "fnExactMoves", fn := fun _ => fun
  | [d1, d2] => { results := [.lit (.bool false)], args := [d1, d2] }
  | _ => none }
def FnExactMovesWrongFalsely : Prop := fnExactMovesRow.holds Try.pinned (OpenSpec.ofChange fnExactMovesWrong)

/-- 'laws.FnExactQuorumOk': WHATEVER THE INPUT: true; the input reads as it did. -/
def fnExactQuorumOkSpec : ChangeSpec := { name := "fnExactQuorumOk", fn := fun _ => fun
  | [d] => { results := [.lit (.bool true)], args := [d] }
  | _ => none }
def fnExactQuorumOkRow : OpenClaim := { program := "ytggpjapbcagebaa", sum := "d7c8bdc6a656a920a35c229d383de32ce3a62343ae44bb6188208e7698869b95", func := "loop.example/g00035/laws.FnExactQuorumOk", spec := "fnExactQuorumOk", plainKeys := false, apart := false }
def FnExactQuorumOkSaid : Prop := fnExactQuorumOkRow.holds Try.pinned (OpenSpec.ofChange fnExactQuorumOkSpec)

/-- ITS FALSE NEIGHBOUR: 'it returns false'. Refute it at one input. -/
def fnExactQuorumOkWrong : ChangeSpec := { name := "fnExactQuorumOk", fn := fun _ => fun
  | [d] => { results := [.lit (.bool false)], args := [d] }
  | _ => none }
def FnExactQuorumOkWrongFalsely : Prop := fnExactQuorumOkRow.holds Try.pinned (OpenSpec.ofChange fnExactQuorumOkWrong)

/-- 'laws.FnExactLeaderOf': WHATEVER THE INPUT: true; the input reads as it did. -/
def fnExactLeaderOfSpec : ChangeSpec := { name := "fnExactLeaderOf", fn := fun _ => fun
  | [d] => { results := [.lit (.bool true)], args := [d] }
  | _ => none }
def fnExactLeaderOfRow : OpenClaim := { program := "ytggpjapbcagebaa", sum := "d7c8bdc6a656a920a35c229d383de32ce3a62343ae44bb6188208e7698869b95", func := "loop.example/g00035/laws.FnExactLeaderOf", spec := "fnExactLeaderOf", plainKeys := false, apart := false }
def FnExactLeaderOfSaid : Prop := fnExactLeaderOfRow.holds Try.pinned (OpenSpec.ofChange fnExactLeaderOfSpec)

/-- ITS FALSE NEIGHBOUR: 'it returns false'. Refute it at one input. -/
def fnExactLeaderOfWrong : ChangeSpec := { name := "fnExactLeaderOf", fn := fun _ => fun
  | [d] => { results := [.lit (.bool false)], args := [d] }
  | _ => none }
def FnExactLeaderOfWrongFalsely : Prop := fnExactLeaderOfRow.holds Try.pinned (OpenSpec.ofChange fnExactLeaderOfWrong)

/-- 'laws.FnExactLogOk': WHATEVER THE INPUT: true; the input reads as it did. -/
def fnExactLogOkSpec : ChangeSpec := { name := "fnExactLogOk", fn := fun _ => fun
  | [d] => { results := [.lit (.bool true)], args := [d] }
  | _ => none }
def fnExactLogOkRow : OpenClaim := { program := "ytggpjapbcagebaa", sum := "d7c8bdc6a656a920a35c229d383de32ce3a62343ae44bb6188208e7698869b95", func := "loop.example/g00035/laws.FnExactLogOk", spec := "fnExactLogOk", plainKeys := false, apart := false }
def FnExactLogOkSaid : Prop := fnExactLogOkRow.holds Try.pinned (OpenSpec.ofChange fnExactLogOkSpec)

/-- ITS FALSE NEIGHBOUR: 'it returns false'. Refute it at one input. -/
def fnExactLogOkWrong : ChangeSpec := { name := "fnExactLogOk", fn := fun _ => fun
  | [d] => { results := [.lit (.bool false)], args := [d] }
  | _ => none }
def FnExactLogOkWrongFalsely : Prop := fnExactLogOkRow.holds Try.pinned (OpenSpec.ofChange fnExactLogOkWrong)

/-- 'laws.FnExactNewPart': WHATEVER THE INPUT: true; the input reads as it did. -/
def fnExactNewPartSpec : ChangeSpec := { name := "fnExactNewPart", fn := fun _ => fun
  | [d1, d2, d3] => { results := [.lit (.bool true)], args := [d1, d2, d3] }
  | _ => none }
def fnExactNewPartRow : OpenClaim := { program := "ytggpjapbcagebaa", sum := "d7c8bdc6a656a920a35c229d383de32ce3a62343ae44bb6188208e7698869b95", func := "loop.example/g00035/laws.FnExactNewPart", spec := "fnExactNewPart", plainKeys := false, apart := false }
def FnExactNewPartSaid : Prop := fnExactNewPartRow.holds Try.pinned (OpenSpec.ofChange fnExactNewPartSpec)

/-- ITS FALSE NEIGHBOUR: 'it returns false'. Refute it at one input. -/
def fnExactNewPartWrong : ChangeSpec := { name := "fnExactNewPart", fn := fun _ => fun
  | [d1, d2, d3] => { results := [.lit (.bool false)], args := [d1, d2, d3] }
  | _ => none }
def FnExactNewPartWrongFalsely : Prop := fnExactNewPartRow.holds Try.pinned (OpenSpec.ofChange fnExactNewPartWrong)

/-- 'laws.FnExactOffsetAt': WHATEVER THE INPUT: true; the input reads as it did. -/
def fnExactOffsetAtSpec : ChangeSpec := { name := "fnExactOffsetAt", fn := fun _ => fun
  | [d1, d2] => { results := [.lit (.bool true)], args := [d1, d2] }
  | _ => none }
def fnExactOffsetAtRow : OpenClaim := { program := "ytggpjapbcagebaa", sum := "d7c8bdc6a656a920a35c229d383de32ce3a62343ae44bb6188208e7698869b95", func := "loop.example/g00035/laws.FnExactOffsetAt", spec := "fnExactOffsetAt", plainKeys := false, apart := false }
def FnExactOffsetAtSaid : Prop := fnExactOffsetAtRow.holds Try.pinned (OpenSpec.ofChange fnExactOffsetAtSpec)

/-- ITS FALSE NEIGHBOUR: 'it returns false'. Refute it at one input. -/
def fnExactOffsetAtWrong : ChangeSpec := { name := "fnExactOffsetAt", fn := fun _ => fun
  | [d1, d2] => { results := [.lit (.bool false)], args := [d1, d2] }
  | _ => none }
def FnExactOffsetAtWrongFalsely : Prop := fnExactOffsetAtRow.holds Try.pinned (OpenSpec.ofChange fnExactOffsetAtWrong)

/-- 'laws.FnExactNewStore': WHATEVER THE INPUT: true; the input reads as it did. -/
def fnExactNewStoreSpec : ChangeSpec := { name := "fnExactNewStore", fn := fun _ => fun
  | [d1, d2] => { results := [.lit (.bool true)], args := [d1, d2] }
  | _ => none }
def fnExactNewStoreRow : OpenClaim := { program := "ytggpjapbcagebaa", sum := "d7c8bdc6a656a920a35c229d383de32ce3a62343ae44bb6188208e7698869b95", func := "loop.example/g00035/laws.FnExactNewStore", spec := "fnExactNewStore", plainKeys := false, apart := false }
def FnExactNewStoreSaid : Prop := fnExactNewStoreRow.holds Try.pinned (OpenSpec.ofChange fnExactNewStoreSpec)

/-- ITS FALSE NEIGHBOUR: 'it returns false'. Refute it at one input. -/
def fnExactNewStoreWrong : ChangeSpec := { name := "fnExactNewStore", fn := fun _ => fun
  | [d1, d2] => { results := [.lit (.bool false)], args := [d1, d2] }
  | _ => none }
def FnExactNewStoreWrongFalsely : Prop := fnExactNewStoreRow.holds Try.pinned (OpenSpec.ofChange fnExactNewStoreWrong)

/-- 'laws.FnExactEndOf': WHATEVER THE INPUT: true; the input reads as it did. -/
def fnExactEndOfSpec : ChangeSpec := { name := "fnExactEndOf", fn := fun _ => fun
  | [d1, d2] => { results := [.lit (.bool true)], args := [d1, d2] }
  | _ => none }
def fnExactEndOfRow : OpenClaim := { program := "ytggpjapbcagebaa", sum := "d7c8bdc6a656a920a35c229d383de32ce3a62343ae44bb6188208e7698869b95", func := "loop.example/g00035/laws.FnExactEndOf", spec := "fnExactEndOf", plainKeys := false, apart := false }
def FnExactEndOfSaid : Prop := fnExactEndOfRow.holds Try.pinned (OpenSpec.ofChange fnExactEndOfSpec)

/-- ITS FALSE NEIGHBOUR: 'it returns false'. Refute it at one input. -/
def fnExactEndOfWrong : ChangeSpec := { name := "fnExactEndOf", fn := fun _ => fun
  | [d1, d2] => { results := [.lit (.bool false)], args := [d1, d2] }
  | _ => none }
def FnExactEndOfWrongFalsely : Prop := fnExactEndOfRow.holds Try.pinned (OpenSpec.ofChange fnExactEndOfWrong)

/-- 'laws.FnExactStable': WHATEVER THE INPUT: true; the input reads as it did. -/
def fnExactStableSpec : ChangeSpec := { name := "fnExactStable", fn := fun _ => fun
  | [d] => { results := [.lit (.bool true)], args := [d] }
  | _ => none }
def fnExactStableRow : OpenClaim := { program := "ytggpjapbcagebaa", sum := "d7c8bdc6a656a920a35c229d383de32ce3a62343ae44bb6188208e7698869b95", func := "loop.example/g00035/laws.FnExactStable", spec := "fnExactStable", plainKeys := false, apart := false }
def FnExactStableSaid : Prop := fnExactStableRow.holds Try.pinned (OpenSpec.ofChange fnExactStableSpec)

/-- ITS FALSE NEIGHBOUR: 'it returns false'. Refute it at one input. -/
def fnExactStableWrong : ChangeSpec := { name := "fnExactStable", fn := fun _ => fun
  | [d] => { results := [.lit (.bool false)], args := [d] }
  | _ => none }
def FnExactStableWrongFalsely : Prop := fnExactStableRow.holds Try.pinned (OpenSpec.ofChange fnExactStableWrong)

/-- 'laws.FnExactDirt': WHATEVER THE INPUT: true; the input reads as it did. -/
def fnExactDirtSpec : ChangeSpec := { name := "fnExactDirt", fn := fun _ => fun
  | [d1, d2, d3, d4] => { results := [.lit (.bool true)], args := [d1, d2, d3, d4] }
  | _ => none }
def fnExactDirtRow : OpenClaim := { program := "ytggpjapbcagebaa", sum := "d7c8bdc6a656a920a35c229d383de32ce3a62343ae44bb6188208e7698869b95", func := "loop.example/g00035/laws.FnExactDirt", spec := "fnExactDirt", plainKeys := false, apart := false }
def FnExactDirtSaid : Prop := fnExactDirtRow.holds Try.pinned (OpenSpec.ofChange fnExactDirtSpec)

/-- ITS FALSE NEIGHBOUR: 'it returns false'. Refute it at one input. -/
def fnExactDirtWrong : ChangeSpec := { name := "fnExactDirt", fn := fun _ => fun
  | [d1, d2, d3, d4] => { results := [.lit (.bool false)], args := [d1, d2, d3, d4] }
  | _ => none }
def FnExactDirtWrongFalsely : Prop := fnExactDirtRow.holds Try.pinned (OpenSpec.ofChange fnExactDirtWrong)

/-- 'laws.FnFenced': WHATEVER THE INPUT: true; the input reads as it did. -/
def fnFencedSpec : ChangeSpec := { name := "fnFenced", fn := fun _ => fun
  | [d] => { results := [.lit (.bool true)], args := [d] }
  | _ => none }
def fnFencedRow : OpenClaim := { program := "ytggpjapbcagebaa", sum := "d7c8bdc6a656a920a35c229d383de32ce3a62343ae44bb6188208e7698869b95", func := "loop.example/g00035/laws.FnFenced", spec := "fnFenced", inPlace := ["slices.overlaps[loop.example/g00035/impl.Seen]"], unfollowed := true, recurses := true, plainKeys := false, apart := false }
def FnFencedSaid : Prop := fnFencedRow.holds Try.pinned (OpenSpec.ofChange fnFencedSpec)

/-- ITS FALSE NEIGHBOUR: 'it returns false'. Refute it at one input. -/
def fnFencedWrong : ChangeSpec := { name := "fnFenced", fn := fun _ => fun
  | [d] => { results := [.lit (.bool false)], args := [d] }
  | _ => none }
def FnFencedWrongFalsely : Prop := fnFencedRow.holds Try.pinned (OpenSpec.ofChange fnFencedWrong)

/-- 'laws.FnExactAborted': WHATEVER THE INPUT: true; the input reads as it did. -/
def fnExactAbortedSpec : ChangeSpec := { name := "fnExactAborted", fn := fun _ => fun
  | [d] => { results := [.lit (.bool true)], args := [d] }
  | _ => none }
def fnExactAbortedRow : OpenClaim := { program := "ytggpjapbcagebaa", sum := "d7c8bdc6a656a920a35c229d383de32ce3a62343ae44bb6188208e7698869b95", func := "loop.example/g00035/laws.FnExactAborted", spec := "fnExactAborted", plainKeys := false, apart := false }
def FnExactAbortedSaid : Prop := fnExactAbortedRow.holds Try.pinned (OpenSpec.ofChange fnExactAbortedSpec)

/-- ITS FALSE NEIGHBOUR: 'it returns false'. Refute it at one input. -/
def fnExactAbortedWrong : ChangeSpec := { name := "fnExactAborted", fn := fun _ => fun
  | [d] => { results := [.lit (.bool false)], args := [d] }
  | _ => none }
def FnExactAbortedWrongFalsely : Prop := fnExactAbortedRow.holds Try.pinned (OpenSpec.ofChange fnExactAbortedWrong)

/-- 'laws.FnExactPartOk': WHATEVER THE INPUT: true; the input reads as it did. -/
def fnExactPartOkSpec : ChangeSpec := { name := "fnExactPartOk", fn := fun _ => fun
  | [d] => { results := [.lit (.bool true)], args := [d] }
  | _ => none }
def fnExactPartOkRow : OpenClaim := { program := "ytggpjapbcagebaa", sum := "d7c8bdc6a656a920a35c229d383de32ce3a62343ae44bb6188208e7698869b95", func := "loop.example/g00035/laws.FnExactPartOk", spec := "fnExactPartOk", plainKeys := false, apart := false }
def FnExactPartOkSaid : Prop := fnExactPartOkRow.holds Try.pinned (OpenSpec.ofChange fnExactPartOkSpec)

/-- ITS FALSE NEIGHBOUR: 'it returns false'. Refute it at one input. -/
def fnExactPartOkWrong : ChangeSpec := { name := "fnExactPartOk", fn := fun _ => fun
  | [d] => { results := [.lit (.bool false)], args := [d] }
  | _ => none }
def FnExactPartOkWrongFalsely : Prop := fnExactPartOkRow.holds Try.pinned (OpenSpec.ofChange fnExactPartOkWrong)

/-- 'laws.FnExactStoreOk': WHATEVER THE INPUT: true; the input reads as it did. -/
def fnExactStoreOkSpec : ChangeSpec := { name := "fnExactStoreOk", fn := fun _ => fun
  | [d] => { results := [.lit (.bool true)], args := [d] }
  | _ => none }
def fnExactStoreOkRow : OpenClaim := { program := "ytggpjapbcagebaa", sum := "d7c8bdc6a656a920a35c229d383de32ce3a62343ae44bb6188208e7698869b95", func := "loop.example/g00035/laws.FnExactStoreOk", spec := "fnExactStoreOk", plainKeys := false, apart := false }
def FnExactStoreOkSaid : Prop := fnExactStoreOkRow.holds Try.pinned (OpenSpec.ofChange fnExactStoreOkSpec)

/-- ITS FALSE NEIGHBOUR: 'it returns false'. Refute it at one input. -/
def fnExactStoreOkWrong : ChangeSpec := { name := "fnExactStoreOk", fn := fun _ => fun
  | [d] => { results := [.lit (.bool false)], args := [d] }
  | _ => none }
def FnExactStoreOkWrongFalsely : Prop := fnExactStoreOkRow.holds Try.pinned (OpenSpec.ofChange fnExactStoreOkWrong)

/-- 'laws.FnExactCutTo': WHATEVER THE INPUT: true; the input reads as it did. -/
def fnExactCutToSpec : ChangeSpec := { name := "fnExactCutTo", fn := fun _ => fun
  | [d1, d2] => { results := [.lit (.bool true)], args := [d1, d2] }
  | _ => none }
def fnExactCutToRow : OpenClaim := { program := "ytggpjapbcagebaa", sum := "d7c8bdc6a656a920a35c229d383de32ce3a62343ae44bb6188208e7698869b95", func := "loop.example/g00035/laws.FnExactCutTo", spec := "fnExactCutTo", plainKeys := false, apart := false }
def FnExactCutToSaid : Prop := fnExactCutToRow.holds Try.pinned (OpenSpec.ofChange fnExactCutToSpec)

/-- ITS FALSE NEIGHBOUR: 'it returns false'. Refute it at one input. -/
def fnExactCutToWrong : ChangeSpec := { name := "fnExactCutTo", fn := fun _ => fun
  | [d1, d2] => { results := [.lit (.bool false)], args := [d1, d2] }
  | _ => none }
def FnExactCutToWrongFalsely : Prop := fnExactCutToRow.holds Try.pinned (OpenSpec.ofChange fnExactCutToWrong)

/-- 'laws.FnExactCutFrom': WHATEVER THE INPUT: true; the input reads as it did. -/
def fnExactCutFromSpec : ChangeSpec := { name := "fnExactCutFrom", fn := fun _ => fun
  | [d1, d2] => { results := [.lit (.bool true)], args := [d1, d2] }
  | _ => none }
def fnExactCutFromRow : OpenClaim := { program := "ytggpjapbcagebaa", sum := "d7c8bdc6a656a920a35c229d383de32ce3a62343ae44bb6188208e7698869b95", func := "loop.example/g00035/laws.FnExactCutFrom", spec := "fnExactCutFrom", plainKeys := false, apart := false }
def FnExactCutFromSaid : Prop := fnExactCutFromRow.holds Try.pinned (OpenSpec.ofChange fnExactCutFromSpec)

/-- ITS FALSE NEIGHBOUR: 'it returns false'. Refute it at one input. -/
def fnExactCutFromWrong : ChangeSpec := { name := "fnExactCutFrom", fn := fun _ => fun
  | [d1, d2] => { results := [.lit (.bool false)], args := [d1, d2] }
  | _ => none }
def FnExactCutFromWrongFalsely : Prop := fnExactCutFromRow.holds Try.pinned (OpenSpec.ofChange fnExactCutFromWrong)

/-- 'laws.FnExactTake': WHATEVER THE INPUT: true; the input reads as it did. -/
def fnExactTakeSpec : ChangeSpec := { name := "fnExactTake", fn := fun _ => fun
  | [d1, d2] => { results := [.lit (.bool true)], args := [d1, d2] }
  | _ => none }
def fnExactTakeRow : OpenClaim := { program := "ytggpjapbcagebaa", sum := "d7c8bdc6a656a920a35c229d383de32ce3a62343ae44bb6188208e7698869b95", func := "loop.example/g00035/laws.FnExactTake", spec := "fnExactTake", inPlace := ["slices.overlaps[loop.example/g00035/impl.Seen]"], unfollowed := true, recurses := true, plainKeys := false, apart := false }
def FnExactTakeSaid : Prop := fnExactTakeRow.holds Try.pinned (OpenSpec.ofChange fnExactTakeSpec)

/-- ITS FALSE NEIGHBOUR: 'it returns false'. Refute it at one input. -/
def fnExactTakeWrong : ChangeSpec := { name := "fnExactTake", fn := fun _ => fun
  | [d1, d2] => { results := [.lit (.bool false)], args := [d1, d2] }
  | _ => none }
def FnExactTakeWrongFalsely : Prop := fnExactTakeRow.holds Try.pinned (OpenSpec.ofChange fnExactTakeWrong)

/-- 'laws.FnExactVisible': WHATEVER THE INPUT: true; the input reads as it did. -/
def fnExactVisibleSpec : ChangeSpec := { name := "fnExactVisible", fn := fun _ => fun
  | [d1, d2, d3] => { results := [.lit (.bool true)], args := [d1, d2, d3] }
  | _ => none }
def fnExactVisibleRow : OpenClaim := { program := "ytggpjapbcagebaa", sum := "d7c8bdc6a656a920a35c229d383de32ce3a62343ae44bb6188208e7698869b95", func := "loop.example/g00035/laws.FnExactVisible", spec := "fnExactVisible", unfollowed := true, recurses := true, plainKeys := false, apart := false }
def FnExactVisibleSaid : Prop := fnExactVisibleRow.holds Try.pinned (OpenSpec.ofChange fnExactVisibleSpec)

/-- ITS FALSE NEIGHBOUR: 'it returns false'. Refute it at one input. -/
def fnExactVisibleWrong : ChangeSpec := { name := "fnExactVisible", fn := fun _ => fun
  | [d1, d2, d3] => { results := [.lit (.bool false)], args := [d1, d2, d3] }
  | _ => none }
def FnExactVisibleWrongFalsely : Prop := fnExactVisibleRow.holds Try.pinned (OpenSpec.ofChange fnExactVisibleWrong)

/-- 'laws.FnExactCompact': WHATEVER THE INPUT: true; the input reads as it did. -/
def fnExactCompactSpec : ChangeSpec := { name := "fnExactCompact", fn := fun _ => fun
  | [d1, d2, d3, d4] => { results := [.lit (.bool true)], args := [d1, d2, d3, d4] }
  | _ => none }
def fnExactCompactRow : OpenClaim := { program := "ytggpjapbcagebaa", sum := "d7c8bdc6a656a920a35c229d383de32ce3a62343ae44bb6188208e7698869b95", func := "loop.example/g00035/laws.FnExactCompact", spec := "fnExactCompact", plainKeys := false, apart := false }
def FnExactCompactSaid : Prop := fnExactCompactRow.holds Try.pinned (OpenSpec.ofChange fnExactCompactSpec)

/-- ITS FALSE NEIGHBOUR: 'it returns false'. Refute it at one input. -/
def fnExactCompactWrong : ChangeSpec := { name := "fnExactCompact", fn := fun _ => fun
  | [d1, d2, d3, d4] => { results := [.lit (.bool false)], args := [d1, d2, d3, d4] }
  | _ => none }
def FnExactCompactWrongFalsely : Prop := fnExactCompactRow.holds Try.pinned (OpenSpec.ofChange fnExactCompactWrong)

/-- 'laws.FnExactSafe': WHATEVER THE INPUT: true; the input reads as it did. -/
def fnExactSafeSpec : ChangeSpec := { name := "fnExactSafe", fn := fun _ => fun
  | [d] => { results := [.lit (.bool true)], args := [d] }
  | _ => none }
def fnExactSafeRow : OpenClaim := { program := "ytggpjapbcagebaa", sum := "d7c8bdc6a656a920a35c229d383de32ce3a62343ae44bb6188208e7698869b95", func := "loop.example/g00035/laws.FnExactSafe", spec := "fnExactSafe", plainKeys := false, apart := false }
def FnExactSafeSaid : Prop := fnExactSafeRow.holds Try.pinned (OpenSpec.ofChange fnExactSafeSpec)

/-- ITS FALSE NEIGHBOUR: 'it returns false'. Refute it at one input. -/
def fnExactSafeWrong : ChangeSpec := { name := "fnExactSafe", fn := fun _ => fun
  | [d] => { results := [.lit (.bool false)], args := [d] }
  | _ => none }
def FnExactSafeWrongFalsely : Prop := fnExactSafeRow.holds Try.pinned (OpenSpec.ofChange fnExactSafeWrong)

/-- 'laws.FnGoneTold': WHATEVER THE INPUT: true; the input reads as it did. -/
def fnGoneToldSpec : ChangeSpec := { name := "fnGoneTold", fn := fun _ => fun
  | [d] => { results := [.lit (.bool true)], args := [d] }
  | _ => none }
def fnGoneToldRow : OpenClaim := { program := "ytggpjapbcagebaa", sum := "d7c8bdc6a656a920a35c229d383de32ce3a62343ae44bb6188208e7698869b95", func := "loop.example/g00035/laws.FnGoneTold", spec := "fnGoneTold", plainKeys := false, apart := false }
def FnGoneToldSaid : Prop := fnGoneToldRow.holds Try.pinned (OpenSpec.ofChange fnGoneToldSpec)

/-- ITS FALSE NEIGHBOUR: 'it returns false'. Refute it at one input. -/
def fnGoneToldWrong : ChangeSpec := { name := "fnGoneTold", fn := fun _ => fun
  | [d] => { results := [.lit (.bool false)], args := [d] }
  | _ => none }
def FnGoneToldWrongFalsely : Prop := fnGoneToldRow.holds Try.pinned (OpenSpec.ofChange fnGoneToldWrong)

/-- 'laws.FnLearned': WHATEVER THE INPUT: true; the input reads as it did. -/
def fnLearnedSpec : ChangeSpec := { name := "fnLearned", fn := fun _ => fun
  | [d] => { results := [.lit (.bool true)], args := [d] }
  | _ => none }
def fnLearnedRow : OpenClaim := { program := "ytggpjapbcagebaa", sum := "d7c8bdc6a656a920a35c229d383de32ce3a62343ae44bb6188208e7698869b95", func := "loop.example/g00035/laws.FnLearned", spec := "fnLearned", inPlace := ["slices.overlaps[loop.example/g00035/impl.Seen]"], unfollowed := true, recurses := true, plainKeys := false, apart := false }
def FnLearnedSaid : Prop := fnLearnedRow.holds Try.pinned (OpenSpec.ofChange fnLearnedSpec)

/-- ITS FALSE NEIGHBOUR: 'it returns false'. Refute it at one input. -/
def fnLearnedWrong : ChangeSpec := { name := "fnLearned", fn := fun _ => fun
  | [d] => { results := [.lit (.bool false)], args := [d] }
  | _ => none }
def FnLearnedWrongFalsely : Prop := fnLearnedRow.holds Try.pinned (OpenSpec.ofChange fnLearnedWrong)

/-- 'laws.FnExactLearn': WHATEVER THE INPUT: true; the input reads as it did. -/
def fnExactLearnSpec : ChangeSpec := { name := "fnExactLearn", fn := fun _ => fun
  | [d] => { results := [.lit (.bool true)], args := [d] }
  | _ => none }
def fnExactLearnRow : OpenClaim := { program := "ytggpjapbcagebaa", sum := "d7c8bdc6a656a920a35c229d383de32ce3a62343ae44bb6188208e7698869b95", func := "loop.example/g00035/laws.FnExactLearn", spec := "fnExactLearn", inPlace := ["slices.overlaps[loop.example/g00035/impl.Seen]"], unfollowed := true, recurses := true, plainKeys := false, apart := false }
def FnExactLearnSaid : Prop := fnExactLearnRow.holds Try.pinned (OpenSpec.ofChange fnExactLearnSpec)

/-- ITS FALSE NEIGHBOUR: 'it returns false'. Refute it at one input. -/
def fnExactLearnWrong : ChangeSpec := { name := "fnExactLearn", fn := fun _ => fun
  | [d] => { results := [.lit (.bool false)], args := [d] }
  | _ => none }
def FnExactLearnWrongFalsely : Prop := fnExactLearnRow.holds Try.pinned (OpenSpec.ofChange fnExactLearnWrong)

/-- 'laws.FnExactView': WHATEVER THE INPUT: true; the input reads as it did. -/
def fnExactViewSpec : ChangeSpec := { name := "fnExactView", fn := fun _ => fun
  | [d] => { results := [.lit (.bool true)], args := [d] }
  | _ => none }
def fnExactViewRow : OpenClaim := { program := "ytggpjapbcagebaa", sum := "d7c8bdc6a656a920a35c229d383de32ce3a62343ae44bb6188208e7698869b95", func := "loop.example/g00035/laws.FnExactView", spec := "fnExactView", inPlace := ["internal/reflectlite.ValueOf", "internal/reflectlite.Swapper", "(internal/reflectlite.Value).Len"], unfollowed := true, recurses := true, plainKeys := false, apart := false }
def FnExactViewSaid : Prop := fnExactViewRow.holds Try.pinned (OpenSpec.ofChange fnExactViewSpec)

/-- ITS FALSE NEIGHBOUR: 'it returns false'. Refute it at one input. -/
def fnExactViewWrong : ChangeSpec := { name := "fnExactView", fn := fun _ => fun
  | [d] => { results := [.lit (.bool false)], args := [d] }
  | _ => none }
def FnExactViewWrongFalsely : Prop := fnExactViewRow.holds Try.pinned (OpenSpec.ofChange fnExactViewWrong)

/- THE SECOND FORM. 'bulk': how many values and letters a reading holds, each counted each time it is reached (what is shared counts as often as it is met; a slice's spare places count too). A statement '..UptoSaid' is the law's where the arguments, and the package variables that the reading takes, are together of bulk at most 1048576: NARROWER than '..Said'. Prove '..Said' where nothing that the law and all that it calls make is longer than what came in: it says more and counts as full. Else prove '..UptoSaid'. A law counts once. -/
mutual
def uptoBulk {H : Type} : DataW H → Nat
  | .lit (.string bytes) => bytes.length + 1
  | .lit _ => 1
  | .nil => 1
  | .ptr d => uptoBulk d + 1
  | .slice elems spare => uptoBulkAll elems + uptoBulkAll spare + 1
  | .agg parts => uptoBulkAll parts + 1
  | .iface _ d => uptoBulk d + 1
  | .map entries => uptoBulkEntries entries + 1
  | .held _ => 1
def uptoBulkAll {H : Type} : List (DataW H) → Nat
  | [] => 0
  | d :: r => uptoBulk d + uptoBulkAll r
def uptoBulkEntries {H : Type} : List (Lit × DataW H) → Nat
  | [] => 0
  | x :: r => uptoBulkEntry x + uptoBulkEntries r
def uptoBulkEntry {H : Type} : Lit × DataW H → Nat
  | (.string bytes, d) => bytes.length + uptoBulk d + 1
  | (_, d) => uptoBulk d + 1
 end
def uptoSmall : (H : Type) → List (DataW H) → Bool := fun _ ds => decide (uptoBulkAll ds ≤ 1048576)
def OpenSpec.upto (s : _root_.Go.ChangeSpec) : _root_.Go.OpenSpec := { _root_.Go.OpenSpec.ofChange s with cond := some uptoSmall }

/-- 'laws.FnSqueezed', WHERE WHAT IT READS IS OF BULK AT MOST 1048576: true; the input reads as it did. -/
def fnSqueezedUptoRow : OpenClaim := { program := "ytggpjapbcagebaa", sum := "d7c8bdc6a656a920a35c229d383de32ce3a62343ae44bb6188208e7698869b95", func := "loop.example/g00035/laws.FnSqueezed", spec := "fnSqueezed", unfollowed := true, recurses := true, plainKeys := false, apart := false, narrowed := true }
def FnSqueezedUptoSaid : Prop := fnSqueezedUptoRow.holds Try.pinned (OpenSpec.upto fnSqueezedSpec)

/-- 'laws.FnExactBatchOk', WHERE WHAT IT READS IS OF BULK AT MOST 1048576: true; the input reads as it did. -/
def fnExactBatchOkUptoRow : OpenClaim := { program := "ytggpjapbcagebaa", sum := "d7c8bdc6a656a920a35c229d383de32ce3a62343ae44bb6188208e7698869b95", func := "loop.example/g00035/laws.FnExactBatchOk", spec := "fnExactBatchOk", plainKeys := false, apart := false, narrowed := true }
def FnExactBatchOkUptoSaid : Prop := fnExactBatchOkUptoRow.holds Try.pinned (OpenSpec.upto fnExactBatchOkSpec)

/-- 'laws.FnExactLastOffset', WHERE WHAT IT READS IS OF BULK AT MOST 1048576: true; the input reads as it did. -/
def fnExactLastOffsetUptoRow : OpenClaim := { program := "ytggpjapbcagebaa", sum := "d7c8bdc6a656a920a35c229d383de32ce3a62343ae44bb6188208e7698869b95", func := "loop.example/g00035/laws.FnExactLastOffset", spec := "fnExactLastOffset", plainKeys := false, apart := false, narrowed := true }
def FnExactLastOffsetUptoSaid : Prop := fnExactLastOffsetUptoRow.holds Try.pinned (OpenSpec.upto fnExactLastOffsetSpec)

/-- 'laws.FnExactWantsOk', WHERE WHAT IT READS IS OF BULK AT MOST 1048576: true; the input reads as it did. -/
def fnExactWantsOkUptoRow : OpenClaim := { program := "ytggpjapbcagebaa", sum := "d7c8bdc6a656a920a35c229d383de32ce3a62343ae44bb6188208e7698869b95", func := "loop.example/g00035/laws.FnExactWantsOk", spec := "fnExactWantsOk", inPlace := ["internal/bytealg.abigen_runtime_cmpstring"], plainKeys := false, apart := false, narrowed := true }
def FnExactWantsOkUptoSaid : Prop := fnExactWantsOkUptoRow.holds Try.pinned (OpenSpec.upto fnExactWantsOkSpec)

/-- 'laws.FnExactNewLog', WHERE WHAT IT READS IS OF BULK AT MOST 1048576: true; the input reads as it did. -/
def fnExactNewLogUptoRow : OpenClaim := { program := "ytggpjapbcagebaa", sum := "d7c8bdc6a656a920a35c229d383de32ce3a62343ae44bb6188208e7698869b95", func := "loop.example/g00035/laws.FnExactNewLog", spec := "fnExactNewLog", plainKeys := false, apart := false, narrowed := true }
def FnExactNewLogUptoSaid : Prop := fnExactNewLogUptoRow.holds Try.pinned (OpenSpec.upto fnExactNewLogSpec)

/-- 'laws.FnEven', WHERE WHAT IT READS IS OF BULK AT MOST 1048576: true; the input reads as it did. -/
def fnEvenUptoRow : OpenClaim := { program := "ytggpjapbcagebaa", sum := "d7c8bdc6a656a920a35c229d383de32ce3a62343ae44bb6188208e7698869b95", func := "loop.example/g00035/laws.FnEven", spec := "fnEven", inPlace := ["internal/bytealg.abigen_runtime_cmpstring"], plainKeys := false, apart := false, narrowed := true }
def FnEvenUptoSaid : Prop := fnEvenUptoRow.holds Try.pinned (OpenSpec.upto fnEvenSpec)

/-- 'laws.FnExactNewQuorum', WHERE WHAT IT READS IS OF BULK AT MOST 1048576: true; the input reads as it did. -/
def fnExactNewQuorumUptoRow : OpenClaim := { program := "ytggpjapbcagebaa", sum := "d7c8bdc6a656a920a35c229d383de32ce3a62343ae44bb6188208e7698869b95", func := "loop.example/g00035/laws.FnExactNewQuorum", spec := "fnExactNewQuorum", plainKeys := false, apart := false, narrowed := true }
def FnExactNewQuorumUptoSaid : Prop := fnExactNewQuorumUptoRow.holds Try.pinned (OpenSpec.upto fnExactNewQuorumSpec)

/-- 'laws.FnExactMoves', WHERE WHAT IT READS IS OF BULK AT MOST 1048576: true; the input reads as it did. -/
def fnExactMovesUptoRow : OpenClaim := { program := "ytggpjapbcagebaa", sum := "d7c8bdc6a656a920a35c229d383de32ce3a62343ae44bb6188208e7698869b95", func := "loop.example/g00035/laws.FnExactMoves", spec := "fnExactMoves", inPlace := ["internal/bytealg.abigen_runtime_cmpstring"], plainKeys := false, apart := false, narrowed := true }
def FnExactMovesUptoSaid : Prop := fnExactMovesUptoRow.holds Try.pinned (OpenSpec.upto fnExactMovesSpec)

/-- 'laws.FnExactQuorumOk', WHERE WHAT IT READS IS OF BULK AT MOST 1048576: true; the input reads as it did. -/
def fnExactQuorumOkUptoRow : OpenClaim := { program := "ytggpjapbcagebaa", sum := "d7c8bdc6a656a920a35c229d383de32ce3a62343ae44bb6188208e7698869b95", func := "loop.example/g00035/laws.FnExactQuorumOk", spec := "fnExactQuorumOk", plainKeys := false, apart := false, narrowed := true }
def FnExactQuorumOkUptoSaid : Prop := fnExactQuorumOkUptoRow.holds Try.pinned (OpenSpec.upto fnExactQuorumOkSpec)

/-- 'laws.FnExactLeaderOf', WHERE WHAT IT READS IS OF BULK AT MOST 1048576: true; the input reads as it did. -/
def fnExactLeaderOfUptoRow : OpenClaim := { program := "ytggpjapbcagebaa", sum := "d7c8bdc6a656a920a35c229d383de32ce3a62343ae44bb6188208e7698869b95", func := "loop.example/g00035/laws.FnExactLeaderOf", spec := "fnExactLeaderOf", plainKeys := false, apart := false, narrowed := true }
def FnExactLeaderOfUptoSaid : Prop := fnExactLeaderOfUptoRow.holds Try.pinned (OpenSpec.upto fnExactLeaderOfSpec)

/-- 'laws.FnExactLogOk', WHERE WHAT IT READS IS OF BULK AT MOST 1048576: true; the input reads as it did. -/
def fnExactLogOkUptoRow : OpenClaim := { program := "ytggpjapbcagebaa", sum := "d7c8bdc6a656a920a35c229d383de32ce3a62343ae44bb6188208e7698869b95", func := "loop.example/g00035/laws.FnExactLogOk", spec := "fnExactLogOk", plainKeys := false, apart := false, narrowed := true }
def FnExactLogOkUptoSaid : Prop := fnExactLogOkUptoRow.holds Try.pinned (OpenSpec.upto fnExactLogOkSpec)

/-- 'laws.FnExactNewPart', WHERE WHAT IT READS IS OF BULK AT MOST 1048576: true; the input reads as it did. -/
def fnExactNewPartUptoRow : OpenClaim := { program := "ytggpjapbcagebaa", sum := "d7c8bdc6a656a920a35c229d383de32ce3a62343ae44bb6188208e7698869b95", func := "loop.example/g00035/laws.FnExactNewPart", spec := "fnExactNewPart", plainKeys := false, apart := false, narrowed := true }
def FnExactNewPartUptoSaid : Prop := fnExactNewPartUptoRow.holds Try.pinned (OpenSpec.upto fnExactNewPartSpec)

/-- 'laws.FnExactOffsetAt', WHERE WHAT IT READS IS OF BULK AT MOST 1048576: true; the input reads as it did. -/
def fnExactOffsetAtUptoRow : OpenClaim := { program := "ytggpjapbcagebaa", sum := "d7c8bdc6a656a920a35c229d383de32ce3a62343ae44bb6188208e7698869b95", func := "loop.example/g00035/laws.FnExactOffsetAt", spec := "fnExactOffsetAt", plainKeys := false, apart := false, narrowed := true }
def FnExactOffsetAtUptoSaid : Prop := fnExactOffsetAtUptoRow.holds Try.pinned (OpenSpec.upto fnExactOffsetAtSpec)

/-- 'laws.FnExactNewStore', WHERE WHAT IT READS IS OF BULK AT MOST 1048576: true; the input reads as it did. -/
def fnExactNewStoreUptoRow : OpenClaim := { program := "ytggpjapbcagebaa", sum := "d7c8bdc6a656a920a35c229d383de32ce3a62343ae44bb6188208e7698869b95", func := "loop.example/g00035/laws.FnExactNewStore", spec := "fnExactNewStore", plainKeys := false, apart := false, narrowed := true }
def FnExactNewStoreUptoSaid : Prop := fnExactNewStoreUptoRow.holds Try.pinned (OpenSpec.upto fnExactNewStoreSpec)

/-- 'laws.FnExactEndOf', WHERE WHAT IT READS IS OF BULK AT MOST 1048576: true; the input reads as it did. -/
def fnExactEndOfUptoRow : OpenClaim := { program := "ytggpjapbcagebaa", sum := "d7c8bdc6a656a920a35c229d383de32ce3a62343ae44bb6188208e7698869b95", func := "loop.example/g00035/laws.FnExactEndOf", spec := "fnExactEndOf", plainKeys := false, apart := false, narrowed := true }
def FnExactEndOfUptoSaid : Prop := fnExactEndOfUptoRow.holds Try.pinned (OpenSpec.upto fnExactEndOfSpec)

/-- 'laws.FnExactStable', WHERE WHAT IT READS IS OF BULK AT MOST 1048576: true; the input reads as it did. -/
def fnExactStableUptoRow : OpenClaim := { program := "ytggpjapbcagebaa", sum := "d7c8bdc6a656a920a35c229d383de32ce3a62343ae44bb6188208e7698869b95", func := "loop.example/g00035/laws.FnExactStable", spec := "fnExactStable", plainKeys := false, apart := false, narrowed := true }
def FnExactStableUptoSaid : Prop := fnExactStableUptoRow.holds Try.pinned (OpenSpec.upto fnExactStableSpec)

/-- 'laws.FnExactDirt', WHERE WHAT IT READS IS OF BULK AT MOST 1048576: true; the input reads as it did. -/
def fnExactDirtUptoRow : OpenClaim := { program := "ytggpjapbcagebaa", sum := "d7c8bdc6a656a920a35c229d383de32ce3a62343ae44bb6188208e7698869b95", func := "loop.example/g00035/laws.FnExactDirt", spec := "fnExactDirt", plainKeys := false, apart := false, narrowed := true }
def FnExactDirtUptoSaid : Prop := fnExactDirtUptoRow.holds Try.pinned (OpenSpec.upto fnExactDirtSpec)

/-- 'laws.FnFenced', WHERE WHAT IT READS IS OF BULK AT MOST 1048576: true; the input reads as it did. -/
def fnFencedUptoRow : OpenClaim := { program := "ytggpjapbcagebaa", sum := "d7c8bdc6a656a920a35c229d383de32ce3a62343ae44bb6188208e7698869b95", func := "loop.example/g00035/laws.FnFenced", spec := "fnFenced", inPlace := ["slices.overlaps[loop.example/g00035/impl.Seen]"], unfollowed := true, recurses := true, plainKeys := false, apart := false, narrowed := true }
def FnFencedUptoSaid : Prop := fnFencedUptoRow.holds Try.pinned (OpenSpec.upto fnFencedSpec)

/-- 'laws.FnExactAborted', WHERE WHAT IT READS IS OF BULK AT MOST 1048576: true; the input reads as it did. -/
def fnExactAbortedUptoRow : OpenClaim := { program := "ytggpjapbcagebaa", sum := "d7c8bdc6a656a920a35c229d383de32ce3a62343ae44bb6188208e7698869b95", func := "loop.example/g00035/laws.FnExactAborted", spec := "fnExactAborted", plainKeys := false, apart := false, narrowed := true }
def FnExactAbortedUptoSaid : Prop := fnExactAbortedUptoRow.holds Try.pinned (OpenSpec.upto fnExactAbortedSpec)

/-- 'laws.FnExactPartOk', WHERE WHAT IT READS IS OF BULK AT MOST 1048576: true; the input reads as it did. -/
def fnExactPartOkUptoRow : OpenClaim := { program := "ytggpjapbcagebaa", sum := "d7c8bdc6a656a920a35c229d383de32ce3a62343ae44bb6188208e7698869b95", func := "loop.example/g00035/laws.FnExactPartOk", spec := "fnExactPartOk", plainKeys := false, apart := false, narrowed := true }
def FnExactPartOkUptoSaid : Prop := fnExactPartOkUptoRow.holds Try.pinned (OpenSpec.upto fnExactPartOkSpec)

/-- 'laws.FnExactStoreOk', WHERE WHAT IT READS IS OF BULK AT MOST 1048576: true; the input reads as it did. -/
def fnExactStoreOkUptoRow : OpenClaim := { program := "ytggpjapbcagebaa", sum := "d7c8bdc6a656a920a35c229d383de32ce3a62343ae44bb6188208e7698869b95", func := "loop.example/g00035/laws.FnExactStoreOk", spec := "fnExactStoreOk", plainKeys := false, apart := false, narrowed := true }
def FnExactStoreOkUptoSaid : Prop := fnExactStoreOkUptoRow.holds Try.pinned (OpenSpec.upto fnExactStoreOkSpec)

/-- 'laws.FnExactCutTo', WHERE WHAT IT READS IS OF BULK AT MOST 1048576: true; the input reads as it did. -/
def fnExactCutToUptoRow : OpenClaim := { program := "ytggpjapbcagebaa", sum := "d7c8bdc6a656a920a35c229d383de32ce3a62343ae44bb6188208e7698869b95", func := "loop.example/g00035/laws.FnExactCutTo", spec := "fnExactCutTo", plainKeys := false, apart := false, narrowed := true }
def FnExactCutToUptoSaid : Prop := fnExactCutToUptoRow.holds Try.pinned (OpenSpec.upto fnExactCutToSpec)

/-- 'laws.FnExactCutFrom', WHERE WHAT IT READS IS OF BULK AT MOST 1048576: true; the input reads as it did. -/
def fnExactCutFromUptoRow : OpenClaim := { program := "ytggpjapbcagebaa", sum := "d7c8bdc6a656a920a35c229d383de32ce3a62343ae44bb6188208e7698869b95", func := "loop.example/g00035/laws.FnExactCutFrom", spec := "fnExactCutFrom", plainKeys := false, apart := false, narrowed := true }
def FnExactCutFromUptoSaid : Prop := fnExactCutFromUptoRow.holds Try.pinned (OpenSpec.upto fnExactCutFromSpec)

/-- 'laws.FnExactTake', WHERE WHAT IT READS IS OF BULK AT MOST 1048576: true; the input reads as it did. -/
def fnExactTakeUptoRow : OpenClaim := { program := "ytggpjapbcagebaa", sum := "d7c8bdc6a656a920a35c229d383de32ce3a62343ae44bb6188208e7698869b95", func := "loop.example/g00035/laws.FnExactTake", spec := "fnExactTake", inPlace := ["slices.overlaps[loop.example/g00035/impl.Seen]"], unfollowed := true, recurses := true, plainKeys := false, apart := false, narrowed := true }
def FnExactTakeUptoSaid : Prop := fnExactTakeUptoRow.holds Try.pinned (OpenSpec.upto fnExactTakeSpec)

/-- 'laws.FnExactVisible', WHERE WHAT IT READS IS OF BULK AT MOST 1048576: true; the input reads as it did. -/
def fnExactVisibleUptoRow : OpenClaim := { program := "ytggpjapbcagebaa", sum := "d7c8bdc6a656a920a35c229d383de32ce3a62343ae44bb6188208e7698869b95", func := "loop.example/g00035/laws.FnExactVisible", spec := "fnExactVisible", unfollowed := true, recurses := true, plainKeys := false, apart := false, narrowed := true }
def FnExactVisibleUptoSaid : Prop := fnExactVisibleUptoRow.holds Try.pinned (OpenSpec.upto fnExactVisibleSpec)

/-- 'laws.FnExactCompact', WHERE WHAT IT READS IS OF BULK AT MOST 1048576: true; the input reads as it did. -/
def fnExactCompactUptoRow : OpenClaim := { program := "ytggpjapbcagebaa", sum := "d7c8bdc6a656a920a35c229d383de32ce3a62343ae44bb6188208e7698869b95", func := "loop.example/g00035/laws.FnExactCompact", spec := "fnExactCompact", plainKeys := false, apart := false, narrowed := true }
def FnExactCompactUptoSaid : Prop := fnExactCompactUptoRow.holds Try.pinned (OpenSpec.upto fnExactCompactSpec)

/-- 'laws.FnExactSafe', WHERE WHAT IT READS IS OF BULK AT MOST 1048576: true; the input reads as it did. -/
def fnExactSafeUptoRow : OpenClaim := { program := "ytggpjapbcagebaa", sum := "d7c8bdc6a656a920a35c229d383de32ce3a62343ae44bb6188208e7698869b95", func := "loop.example/g00035/laws.FnExactSafe", spec := "fnExactSafe", plainKeys := false, apart := false, narrowed := true }
def FnExactSafeUptoSaid : Prop := fnExactSafeUptoRow.holds Try.pinned (OpenSpec.upto fnExactSafeSpec)

/-- 'laws.FnGoneTold', WHERE WHAT IT READS IS OF BULK AT MOST 1048576: true; the input reads as it did. -/
def fnGoneToldUptoRow : OpenClaim := { program := "ytggpjapbcagebaa", sum := "d7c8bdc6a656a920a35c229d383de32ce3a62343ae44bb6188208e7698869b95", func := "loop.example/g00035/laws.FnGoneTold", spec := "fnGoneTold", plainKeys := false, apart := false, narrowed := true }
def FnGoneToldUptoSaid : Prop := fnGoneToldUptoRow.holds Try.pinned (OpenSpec.upto fnGoneToldSpec)

/-- 'laws.FnLearned', WHERE WHAT IT READS IS OF BULK AT MOST 1048576: true; the input reads as it did. -/
def fnLearnedUptoRow : OpenClaim := { program := "ytggpjapbcagebaa", sum := "d7c8bdc6a656a920a35c229d383de32ce3a62343ae44bb6188208e7698869b95", func := "loop.example/g00035/laws.FnLearned", spec := "fnLearned", inPlace := ["slices.overlaps[loop.example/g00035/impl.Seen]"], unfollowed := true, recurses := true, plainKeys := false, apart := false, narrowed := true }
def FnLearnedUptoSaid : Prop := fnLearnedUptoRow.holds Try.pinned (OpenSpec.upto fnLearnedSpec)

/-- 'laws.FnExactLearn', WHERE WHAT IT READS IS OF BULK AT MOST 1048576: true; the input reads as it did. -/
def fnExactLearnUptoRow : OpenClaim := { program := "ytggpjapbcagebaa", sum := "d7c8bdc6a656a920a35c229d383de32ce3a62343ae44bb6188208e7698869b95", func := "loop.example/g00035/laws.FnExactLearn", spec := "fnExactLearn", inPlace := ["slices.overlaps[loop.example/g00035/impl.Seen]"], unfollowed := true, recurses := true, plainKeys := false, apart := false, narrowed := true }
def FnExactLearnUptoSaid : Prop := fnExactLearnUptoRow.holds Try.pinned (OpenSpec.upto fnExactLearnSpec)

/-- 'laws.FnExactView', WHERE WHAT IT READS IS OF BULK AT MOST 1048576: true; the input reads as it did. -/
def fnExactViewUptoRow : OpenClaim := { program := "ytggpjapbcagebaa", sum := "d7c8bdc6a656a920a35c229d383de32ce3a62343ae44bb6188208e7698869b95", func := "loop.example/g00035/laws.FnExactView", spec := "fnExactView", inPlace := ["internal/reflectlite.ValueOf", "internal/reflectlite.Swapper", "(internal/reflectlite.Value).Len"], unfollowed := true, recurses := true, plainKeys := false, apart := false, narrowed := true }
def FnExactViewUptoSaid : Prop := fnExactViewUptoRow.holds Try.pinned (OpenSpec.upto fnExactViewSpec)

end Rows
end Go.Proofs.Ytggpjapbcagebaa
