/-
  No cell of these rows narrows 'for every input' (looked for: loops, veiled, ifaces, maps, wideKeys, modest, calm, conditions, laid).
  DERIVED. THE GIVEN ROWS OF THIS SEAT. 23 by the template 'for every input the law returns true; each argument reads behind the call as it read before'; 0 by the template 'total and deterministic' (their statements: YtojjjhbiccgjkaaTotals.lean).
  GIVEN WITH THE SEED: the statements are not yours to turn. If you find one false, say at which input.
  Laid BY PROGRAM, IN A SANDBOX (cutbox-rows.mjs): the forced cells as the released guide's own fill.sh prints them over the translation cde47052f8773fe9… (all of the seat's roots in one cut). By AI agents, Wed Nov 11 2026. No macro, syntax, notation, axiom, sorry.
-/
import Derived.Test.YtojjjhbiccgjkaaChecked
import GoSem.Claim
import GoSem.ClaimJoined
import GoSem.ClaimMapViews
import Derived.JoinedTies
import Derived.KernelRfl
namespace Go.Proofs.Ytojjjhbiccgjkaa
/- THE CELL 'sum', in the pinned program and in every row, IS THE sha256 OF THE DUMP (.gsa) THAT YtojjjhbiccgjkaaProg.lean LOADS. Nothing in Lean hashes anything: it is a label: what it is worth is what the hold of that sum in a sandbox is worth. -/
noncomputable def Try.pinned : Pinned := { name := "ytojjjhbiccgjkaa", sum := "cde47052f8773fe97ef0ae900848edce51b1cdc6e3c1e2bf499fcfeb58b4db91", checked := Try.checked }
namespace Rows
def none {H : Type} : Left H := { results := [], args := [] }

/-- 'laws.FnExactFrame': WHATEVER THE INPUT: true; the input reads as it did. -/
def fnExactFrameSpec : ChangeSpec := { name := "fnExactFrame", fn := fun _ => fun
  | [d] => { results := [.lit (.bool true)], args := [d] }
  | _ => none }
def fnExactFrameRow : OpenClaim := { program := "ytojjjhbiccgjkaa", sum := "cde47052f8773fe97ef0ae900848edce51b1cdc6e3c1e2bf499fcfeb58b4db91", func := "loop.example/g00074/laws.FnExactFrame", spec := "fnExactFrame", inPlace := ["internal/abi.NoEscape", "internal/bytealg.MakeNoZero"], apart := false }
def FnExactFrameSaid : Prop := fnExactFrameRow.holds Try.pinned (OpenSpec.ofChange fnExactFrameSpec)

/-- ITS FALSE NEIGHBOUR: 'it returns false'. Refute it at one input. -/
def fnExactFrameWrong : ChangeSpec := { name := "fnExactFrame", fn := fun _ => fun
  | [d] => { results := [.lit (.bool false)], args := [d] }
  | _ => none }
def FnExactFrameWrongFalsely : Prop := fnExactFrameRow.holds Try.pinned (OpenSpec.ofChange fnExactFrameWrong)

/-- 'laws.FnExactHeadNew': WHATEVER THE INPUT: true; the input reads as it did. -/
def fnExactHeadNewSpec : ChangeSpec := { name := "fnExactHeadNew", fn := fun _ => fun
  | [d] => { results := [.lit (.bool true)], args := [d] }
  | _ => none }
def fnExactHeadNewRow : OpenClaim := { program := "ytojjjhbiccgjkaa", sum := "cde47052f8773fe97ef0ae900848edce51b1cdc6e3c1e2bf499fcfeb58b4db91", func := "loop.example/g00074/laws.FnExactHeadNew", spec := "fnExactHeadNew", inPlace := ["internal/abi.NoEscape", "internal/bytealg.MakeNoZero"], apart := false }
def FnExactHeadNewSaid : Prop := fnExactHeadNewRow.holds Try.pinned (OpenSpec.ofChange fnExactHeadNewSpec)

/-- ITS FALSE NEIGHBOUR: 'it returns false'. Refute it at one input. -/
def fnExactHeadNewWrong : ChangeSpec := { name := "fnExactHeadNew", fn := fun _ => fun
  | [d] => { results := [.lit (.bool false)], args := [d] }
  | _ => none }
def FnExactHeadNewWrongFalsely : Prop := fnExactHeadNewRow.holds Try.pinned (OpenSpec.ofChange fnExactHeadNewWrong)

/-- 'laws.FnExactHeadOk': WHATEVER THE INPUT: true; the input reads as it did. -/
def fnExactHeadOkSpec : ChangeSpec := { name := "fnExactHeadOk", fn := fun _ => fun
  | [d1, d2] => { results := [.lit (.bool true)], args := [d1, d2] }
  | _ => none }
def fnExactHeadOkRow : OpenClaim := { program := "ytojjjhbiccgjkaa", sum := "cde47052f8773fe97ef0ae900848edce51b1cdc6e3c1e2bf499fcfeb58b4db91", func := "loop.example/g00074/laws.FnExactHeadOk", spec := "fnExactHeadOk", inPlace := ["internal/abi.NoEscape", "internal/bytealg.MakeNoZero"], apart := false }
def FnExactHeadOkSaid : Prop := fnExactHeadOkRow.holds Try.pinned (OpenSpec.ofChange fnExactHeadOkSpec)

/-- ITS FALSE NEIGHBOUR: 'it returns false'. Refute it at one input. -/
def fnExactHeadOkWrong : ChangeSpec := { name := "fnExactHeadOk", fn := fun _ => fun
  | [d1, d2] => { results := [.lit (.bool false)], args := [d1, d2] }
  | _ => none }
def FnExactHeadOkWrongFalsely : Prop := fnExactHeadOkRow.holds Try.pinned (OpenSpec.ofChange fnExactHeadOkWrong)

/-- 'laws.FnExactForkOf': WHATEVER THE INPUT: true; the input reads as it did. -/
def fnExactForkOfSpec : ChangeSpec := { name := "fnExactForkOf", fn := fun _ => fun
  | [d1, d2, d3] => { results := [.lit (.bool true)], args := [d1, d2, d3] }
  | _ => none }
def fnExactForkOfRow : OpenClaim := { program := "ytojjjhbiccgjkaa", sum := "cde47052f8773fe97ef0ae900848edce51b1cdc6e3c1e2bf499fcfeb58b4db91", func := "loop.example/g00074/laws.FnExactForkOf", spec := "fnExactForkOf", inPlace := ["internal/abi.NoEscape", "internal/bytealg.MakeNoZero"], apart := false }
def FnExactForkOfSaid : Prop := fnExactForkOfRow.holds Try.pinned (OpenSpec.ofChange fnExactForkOfSpec)

/-- ITS FALSE NEIGHBOUR: 'it returns false'. Refute it at one input. -/
def fnExactForkOfWrong : ChangeSpec := { name := "fnExactForkOf", fn := fun _ => fun
  | [d1, d2, d3] => { results := [.lit (.bool false)], args := [d1, d2, d3] }
  | _ => none }
def FnExactForkOfWrongFalsely : Prop := fnExactForkOfRow.holds Try.pinned (OpenSpec.ofChange fnExactForkOfWrong)

/-- 'laws.FnExactFollows': WHATEVER THE INPUT: true; the input reads as it did. -/
def fnExactFollowsSpec : ChangeSpec := { name := "fnExactFollows", fn := fun _ => fun
  | [d1, d2, d3] => { results := [.lit (.bool true)], args := [d1, d2, d3] }
  | _ => none }
def fnExactFollowsRow : OpenClaim := { program := "ytojjjhbiccgjkaa", sum := "cde47052f8773fe97ef0ae900848edce51b1cdc6e3c1e2bf499fcfeb58b4db91", func := "loop.example/g00074/laws.FnExactFollows", spec := "fnExactFollows", inPlace := ["internal/abi.NoEscape", "internal/bytealg.MakeNoZero"], apart := false }
def FnExactFollowsSaid : Prop := fnExactFollowsRow.holds Try.pinned (OpenSpec.ofChange fnExactFollowsSpec)

/-- ITS FALSE NEIGHBOUR: 'it returns false'. Refute it at one input. -/
def fnExactFollowsWrong : ChangeSpec := { name := "fnExactFollows", fn := fun _ => fun
  | [d1, d2, d3] => { results := [.lit (.bool false)], args := [d1, d2, d3] }
  | _ => none }
def FnExactFollowsWrongFalsely : Prop := fnExactFollowsRow.holds Try.pinned (OpenSpec.ofChange fnExactFollowsWrong)

/-- 'laws.FnExactHeadText': WHATEVER THE INPUT: true; the input reads as it did. -/
def fnExactHeadTextSpec : ChangeSpec := { name := "fnExactHeadText", fn := fun _ => fun
  | [d1, d2] => { results := [.lit (.bool true)], args := [d1, d2] }
  | _ => none }
def fnExactHeadTextRow : OpenClaim := { program := "ytojjjhbiccgjkaa", sum := "cde47052f8773fe97ef0ae900848edce51b1cdc6e3c1e2bf499fcfeb58b4db91", func := "loop.example/g00074/laws.FnExactHeadText", spec := "fnExactHeadText", inPlace := ["internal/abi.NoEscape", "internal/bytealg.MakeNoZero"], apart := false }
def FnExactHeadTextSaid : Prop := fnExactHeadTextRow.holds Try.pinned (OpenSpec.ofChange fnExactHeadTextSpec)

/-- ITS FALSE NEIGHBOUR: 'it returns false'. Refute it at one input. -/
def fnExactHeadTextWrong : ChangeSpec := { name := "fnExactHeadText", fn := fun _ => fun
  | [d1, d2] => { results := [.lit (.bool false)], args := [d1, d2] }
  | _ => none }
def FnExactHeadTextWrongFalsely : Prop := fnExactHeadTextRow.holds Try.pinned (OpenSpec.ofChange fnExactHeadTextWrong)

/-- 'laws.FnExactFrames': WHATEVER THE INPUT: true; the input reads as it did. -/
def fnExactFramesSpec : ChangeSpec := { name := "fnExactFrames", fn := fun _ => fun
  | [d] => { results := [.lit (.bool true)], args := [d] }
  | _ => none }
def fnExactFramesRow : OpenClaim := { program := "ytojjjhbiccgjkaa", sum := "cde47052f8773fe97ef0ae900848edce51b1cdc6e3c1e2bf499fcfeb58b4db91", func := "loop.example/g00074/laws.FnExactFrames", spec := "fnExactFrames", inPlace := ["internal/abi.NoEscape", "internal/bytealg.MakeNoZero"], apart := false }
def FnExactFramesSaid : Prop := fnExactFramesRow.holds Try.pinned (OpenSpec.ofChange fnExactFramesSpec)

/-- ITS FALSE NEIGHBOUR: 'it returns false'. Refute it at one input. -/
def fnExactFramesWrong : ChangeSpec := { name := "fnExactFrames", fn := fun _ => fun
  | [d] => { results := [.lit (.bool false)], args := [d] }
  | _ => none }
def FnExactFramesWrongFalsely : Prop := fnExactFramesRow.holds Try.pinned (OpenSpec.ofChange fnExactFramesWrong)

/-- 'laws.FnExactHeadHash': WHATEVER THE INPUT: true; the input reads as it did. -/
def fnExactHeadHashSpec : ChangeSpec := { name := "fnExactHeadHash", fn := fun _ => fun
  | [d1, d2] => { results := [.lit (.bool true)], args := [d1, d2] }
  | _ => none }
def fnExactHeadHashRow : OpenClaim := { program := "ytojjjhbiccgjkaa", sum := "cde47052f8773fe97ef0ae900848edce51b1cdc6e3c1e2bf499fcfeb58b4db91", func := "loop.example/g00074/laws.FnExactHeadHash", spec := "fnExactHeadHash", inPlace := ["internal/abi.NoEscape", "internal/bytealg.MakeNoZero"], apart := false }
def FnExactHeadHashSaid : Prop := fnExactHeadHashRow.holds Try.pinned (OpenSpec.ofChange fnExactHeadHashSpec)

/-- ITS FALSE NEIGHBOUR: 'it returns false'. Refute it at one input. -/
def fnExactHeadHashWrong : ChangeSpec := { name := "fnExactHeadHash", fn := fun _ => fun
  | [d1, d2] => { results := [.lit (.bool false)], args := [d1, d2] }
  | _ => none }
def FnExactHeadHashWrongFalsely : Prop := fnExactHeadHashRow.holds Try.pinned (OpenSpec.ofChange fnExactHeadHashWrong)

/-- 'laws.FnExactHeadsOk': WHATEVER THE INPUT: true; the input reads as it did. -/
def fnExactHeadsOkSpec : ChangeSpec := { name := "fnExactHeadsOk", fn := fun _ => fun
  | [d1, d2] => { results := [.lit (.bool true)], args := [d1, d2] }
  | _ => none }
def fnExactHeadsOkRow : OpenClaim := { program := "ytojjjhbiccgjkaa", sum := "cde47052f8773fe97ef0ae900848edce51b1cdc6e3c1e2bf499fcfeb58b4db91", func := "loop.example/g00074/laws.FnExactHeadsOk", spec := "fnExactHeadsOk", inPlace := ["internal/abi.NoEscape", "internal/bytealg.MakeNoZero"], apart := false }
def FnExactHeadsOkSaid : Prop := fnExactHeadsOkRow.holds Try.pinned (OpenSpec.ofChange fnExactHeadsOkSpec)

/-- ITS FALSE NEIGHBOUR: 'it returns false'. Refute it at one input. -/
def fnExactHeadsOkWrong : ChangeSpec := { name := "fnExactHeadsOk", fn := fun _ => fun
  | [d1, d2] => { results := [.lit (.bool false)], args := [d1, d2] }
  | _ => none }
def FnExactHeadsOkWrongFalsely : Prop := fnExactHeadsOkRow.holds Try.pinned (OpenSpec.ofChange fnExactHeadsOkWrong)

/-- 'laws.FnExactSealNew': WHATEVER THE INPUT: true; the input reads as it did. -/
def fnExactSealNewSpec : ChangeSpec := { name := "fnExactSealNew", fn := fun _ => fun
  | [d] => { results := [.lit (.bool true)], args := [d] }
  | _ => none }
def fnExactSealNewRow : OpenClaim := { program := "ytojjjhbiccgjkaa", sum := "cde47052f8773fe97ef0ae900848edce51b1cdc6e3c1e2bf499fcfeb58b4db91", func := "loop.example/g00074/laws.FnExactSealNew", spec := "fnExactSealNew", inPlace := ["internal/abi.NoEscape", "internal/bytealg.MakeNoZero"], apart := false }
def FnExactSealNewSaid : Prop := fnExactSealNewRow.holds Try.pinned (OpenSpec.ofChange fnExactSealNewSpec)

/-- ITS FALSE NEIGHBOUR: 'it returns false'. Refute it at one input. -/
def fnExactSealNewWrong : ChangeSpec := { name := "fnExactSealNew", fn := fun _ => fun
  | [d] => { results := [.lit (.bool false)], args := [d] }
  | _ => none }
def FnExactSealNewWrongFalsely : Prop := fnExactSealNewRow.holds Try.pinned (OpenSpec.ofChange fnExactSealNewWrong)

/-- 'laws.FnExactRangeOf': WHATEVER THE INPUT: true; the input reads as it did. -/
def fnExactRangeOfSpec : ChangeSpec := { name := "fnExactRangeOf", fn := fun _ => fun
  | [d1, d2] => { results := [.lit (.bool true)], args := [d1, d2] }
  | _ => none }
def fnExactRangeOfRow : OpenClaim := { program := "ytojjjhbiccgjkaa", sum := "cde47052f8773fe97ef0ae900848edce51b1cdc6e3c1e2bf499fcfeb58b4db91", func := "loop.example/g00074/laws.FnExactRangeOf", spec := "fnExactRangeOf", inPlace := ["internal/abi.NoEscape", "internal/bytealg.MakeNoZero"], apart := false }
def FnExactRangeOfSaid : Prop := fnExactRangeOfRow.holds Try.pinned (OpenSpec.ofChange fnExactRangeOfSpec)

/-- ITS FALSE NEIGHBOUR: 'it returns false'. Refute it at one input. -/
def fnExactRangeOfWrong : ChangeSpec := { name := "fnExactRangeOf", fn := fun _ => fun
  | [d1, d2] => { results := [.lit (.bool false)], args := [d1, d2] }
  | _ => none }
def FnExactRangeOfWrongFalsely : Prop := fnExactRangeOfRow.holds Try.pinned (OpenSpec.ofChange fnExactRangeOfWrong)

/-- 'laws.FnExactGrow': WHATEVER THE INPUT: true; the input reads as it did. -/
def fnExactGrowSpec : ChangeSpec := { name := "fnExactGrow", fn := fun _ => fun
  | [d1, d2, d3] => { results := [.lit (.bool true)], args := [d1, d2, d3] }
  | _ => none }
def fnExactGrowRow : OpenClaim := { program := "ytojjjhbiccgjkaa", sum := "cde47052f8773fe97ef0ae900848edce51b1cdc6e3c1e2bf499fcfeb58b4db91", func := "loop.example/g00074/laws.FnExactGrow", spec := "fnExactGrow", inPlace := ["internal/abi.NoEscape", "internal/bytealg.MakeNoZero"], apart := false }
def FnExactGrowSaid : Prop := fnExactGrowRow.holds Try.pinned (OpenSpec.ofChange fnExactGrowSpec)

/-- ITS FALSE NEIGHBOUR: 'it returns false'. Refute it at one input. -/
def fnExactGrowWrong : ChangeSpec := { name := "fnExactGrow", fn := fun _ => fun
  | [d1, d2, d3] => { results := [.lit (.bool false)], args := [d1, d2, d3] }
  | _ => none }
def FnExactGrowWrongFalsely : Prop := fnExactGrowRow.holds Try.pinned (OpenSpec.ofChange fnExactGrowWrong)

/-- 'laws.FnExactGrowAll': WHATEVER THE INPUT: true; the input reads as it did. -/
def fnExactGrowAllSpec : ChangeSpec := { name := "fnExactGrowAll", fn := fun _ => fun
  | [d1, d2, d3] => { results := [.lit (.bool true)], args := [d1, d2, d3] }
  | _ => none }
def fnExactGrowAllRow : OpenClaim := { program := "ytojjjhbiccgjkaa", sum := "cde47052f8773fe97ef0ae900848edce51b1cdc6e3c1e2bf499fcfeb58b4db91", func := "loop.example/g00074/laws.FnExactGrowAll", spec := "fnExactGrowAll", inPlace := ["internal/abi.NoEscape", "internal/bytealg.MakeNoZero"], apart := false }
def FnExactGrowAllSaid : Prop := fnExactGrowAllRow.holds Try.pinned (OpenSpec.ofChange fnExactGrowAllSpec)

/-- ITS FALSE NEIGHBOUR: 'it returns false'. Refute it at one input. -/
def fnExactGrowAllWrong : ChangeSpec := { name := "fnExactGrowAll", fn := fun _ => fun
  | [d1, d2, d3] => { results := [.lit (.bool false)], args := [d1, d2, d3] }
  | _ => none }
def FnExactGrowAllWrongFalsely : Prop := fnExactGrowAllRow.holds Try.pinned (OpenSpec.ofChange fnExactGrowAllWrong)

/-- 'laws.FnExactRootsBy': WHATEVER THE INPUT: true; the input reads as it did. -/
def fnExactRootsBySpec : ChangeSpec := { name := "fnExactRootsBy", fn := fun _ => fun
  | [d1, d2, d3, d4, d5] => { results := [.lit (.bool true)], args := [d1, d2, d3, d4, d5] }
  | _ => none }
def fnExactRootsByRow : OpenClaim := { program := "ytojjjhbiccgjkaa", sum := "cde47052f8773fe97ef0ae900848edce51b1cdc6e3c1e2bf499fcfeb58b4db91", func := "loop.example/g00074/laws.FnExactRootsBy", spec := "fnExactRootsBy", inPlace := ["internal/abi.NoEscape", "internal/bytealg.MakeNoZero"], recurses := true, apart := false }
def FnExactRootsBySaid : Prop := fnExactRootsByRow.holds Try.pinned (OpenSpec.ofChange fnExactRootsBySpec)

/-- ITS FALSE NEIGHBOUR: 'it returns false'. Refute it at one input. -/
def fnExactRootsByWrong : ChangeSpec := { name := "fnExactRootsBy", fn := fun _ => fun
  | [d1, d2, d3, d4, d5] => { results := [.lit (.bool false)], args := [d1, d2, d3, d4, d5] }
  | _ => none }
def FnExactRootsByWrongFalsely : Prop := fnExactRootsByRow.holds Try.pinned (OpenSpec.ofChange fnExactRootsByWrong)

/-- 'laws.FnExactTextsIn': WHATEVER THE INPUT: true; the input reads as it did. -/
def fnExactTextsInSpec : ChangeSpec := { name := "fnExactTextsIn", fn := fun _ => fun
  | [d1, d2, d3, d4, d5] => { results := [.lit (.bool true)], args := [d1, d2, d3, d4, d5] }
  | _ => none }
def fnExactTextsInRow : OpenClaim := { program := "ytojjjhbiccgjkaa", sum := "cde47052f8773fe97ef0ae900848edce51b1cdc6e3c1e2bf499fcfeb58b4db91", func := "loop.example/g00074/laws.FnExactTextsIn", spec := "fnExactTextsIn", inPlace := ["internal/abi.NoEscape", "internal/bytealg.MakeNoZero"], recurses := true, apart := false }
def FnExactTextsInSaid : Prop := fnExactTextsInRow.holds Try.pinned (OpenSpec.ofChange fnExactTextsInSpec)

/-- ITS FALSE NEIGHBOUR: 'it returns false'. Refute it at one input. -/
def fnExactTextsInWrong : ChangeSpec := { name := "fnExactTextsIn", fn := fun _ => fun
  | [d1, d2, d3, d4, d5] => { results := [.lit (.bool false)], args := [d1, d2, d3, d4, d5] }
  | _ => none }
def FnExactTextsInWrongFalsely : Prop := fnExactTextsInRow.holds Try.pinned (OpenSpec.ofChange fnExactTextsInWrong)

/-- 'laws.FnExactConsistency': WHATEVER THE INPUT: true; the input reads as it did. -/
def fnExactConsistencySpec : ChangeSpec := { name := "fnExactConsistency", fn := fun _ => fun
  | [d1, d2, d3] => { results := [.lit (.bool true)], args := [d1, d2, d3] }
  | _ => none }
def fnExactConsistencyRow : OpenClaim := { program := "ytojjjhbiccgjkaa", sum := "cde47052f8773fe97ef0ae900848edce51b1cdc6e3c1e2bf499fcfeb58b4db91", func := "loop.example/g00074/laws.FnExactConsistency", spec := "fnExactConsistency", inPlace := ["internal/abi.NoEscape", "internal/bytealg.MakeNoZero"], recurses := true, apart := false }
def FnExactConsistencySaid : Prop := fnExactConsistencyRow.holds Try.pinned (OpenSpec.ofChange fnExactConsistencySpec)

/-- ITS FALSE NEIGHBOUR: 'it returns false'. Refute it at one input. -/
def fnExactConsistencyWrong : ChangeSpec := { name := "fnExactConsistency", fn := fun _ => fun
  | [d1, d2, d3] => { results := [.lit (.bool false)], args := [d1, d2, d3] }
  | _ => none }
def FnExactConsistencyWrongFalsely : Prop := fnExactConsistencyRow.holds Try.pinned (OpenSpec.ofChange fnExactConsistencyWrong)

/-- 'laws.FnExactTextsBetween': WHATEVER THE INPUT: true; the input reads as it did. -/
def fnExactTextsBetweenSpec : ChangeSpec := { name := "fnExactTextsBetween", fn := fun _ => fun
  | [d1, d2, d3, d4, d5] => { results := [.lit (.bool true)], args := [d1, d2, d3, d4, d5] }
  | _ => none }
def fnExactTextsBetweenRow : OpenClaim := { program := "ytojjjhbiccgjkaa", sum := "cde47052f8773fe97ef0ae900848edce51b1cdc6e3c1e2bf499fcfeb58b4db91", func := "loop.example/g00074/laws.FnExactTextsBetween", spec := "fnExactTextsBetween", inPlace := ["internal/abi.NoEscape", "internal/bytealg.MakeNoZero"], recurses := true, apart := false }
def FnExactTextsBetweenSaid : Prop := fnExactTextsBetweenRow.holds Try.pinned (OpenSpec.ofChange fnExactTextsBetweenSpec)

/-- ITS FALSE NEIGHBOUR: 'it returns false'. Refute it at one input. -/
def fnExactTextsBetweenWrong : ChangeSpec := { name := "fnExactTextsBetween", fn := fun _ => fun
  | [d1, d2, d3, d4, d5] => { results := [.lit (.bool false)], args := [d1, d2, d3, d4, d5] }
  | _ => none }
def FnExactTextsBetweenWrongFalsely : Prop := fnExactTextsBetweenRow.holds Try.pinned (OpenSpec.ofChange fnExactTextsBetweenWrong)

/-- 'laws.FnExactCheckBetween': WHATEVER THE INPUT: true; the input reads as it did. -/
def fnExactCheckBetweenSpec : ChangeSpec := { name := "fnExactCheckBetween", fn := fun _ => fun
  | [d1, d2, d3, d4, d5, d6] => { results := [.lit (.bool true)], args := [d1, d2, d3, d4, d5, d6] }
  | _ => none }
def fnExactCheckBetweenRow : OpenClaim := { program := "ytojjjhbiccgjkaa", sum := "cde47052f8773fe97ef0ae900848edce51b1cdc6e3c1e2bf499fcfeb58b4db91", func := "loop.example/g00074/laws.FnExactCheckBetween", spec := "fnExactCheckBetween", inPlace := ["internal/abi.NoEscape", "internal/bytealg.MakeNoZero"], recurses := true, apart := false }
def FnExactCheckBetweenSaid : Prop := fnExactCheckBetweenRow.holds Try.pinned (OpenSpec.ofChange fnExactCheckBetweenSpec)

/-- ITS FALSE NEIGHBOUR: 'it returns false'. Refute it at one input. -/
def fnExactCheckBetweenWrong : ChangeSpec := { name := "fnExactCheckBetween", fn := fun _ => fun
  | [d1, d2, d3, d4, d5, d6] => { results := [.lit (.bool false)], args := [d1, d2, d3, d4, d5, d6] }
  | _ => none }
def FnExactCheckBetweenWrongFalsely : Prop := fnExactCheckBetweenRow.holds Try.pinned (OpenSpec.ofChange fnExactCheckBetweenWrong)

/-- 'laws.FnExactSealOk': WHATEVER THE INPUT: true; the input reads as it did. -/
def fnExactSealOkSpec : ChangeSpec := { name := "fnExactSealOk", fn := fun _ => fun
  | [d1, d2] => { results := [.lit (.bool true)], args := [d1, d2] }
  | _ => none }
def fnExactSealOkRow : OpenClaim := { program := "ytojjjhbiccgjkaa", sum := "cde47052f8773fe97ef0ae900848edce51b1cdc6e3c1e2bf499fcfeb58b4db91", func := "loop.example/g00074/laws.FnExactSealOk", spec := "fnExactSealOk", inPlace := ["internal/abi.NoEscape", "internal/bytealg.MakeNoZero"], apart := false }
def FnExactSealOkSaid : Prop := fnExactSealOkRow.holds Try.pinned (OpenSpec.ofChange fnExactSealOkSpec)

/-- ITS FALSE NEIGHBOUR: 'it returns false'. Refute it at one input. -/
def fnExactSealOkWrong : ChangeSpec := { name := "fnExactSealOk", fn := fun _ => fun
  | [d1, d2] => { results := [.lit (.bool false)], args := [d1, d2] }
  | _ => none }
def FnExactSealOkWrongFalsely : Prop := fnExactSealOkRow.holds Try.pinned (OpenSpec.ofChange fnExactSealOkWrong)

/-- 'laws.FnExactTopicsOf': WHATEVER THE INPUT: true; the input reads as it did. -/
def fnExactTopicsOfSpec : ChangeSpec := { name := "fnExactTopicsOf", fn := fun _ => fun
  | [d] => { results := [.lit (.bool true)], args := [d] }
  | _ => none }
def fnExactTopicsOfRow : OpenClaim := { program := "ytojjjhbiccgjkaa", sum := "cde47052f8773fe97ef0ae900848edce51b1cdc6e3c1e2bf499fcfeb58b4db91", func := "loop.example/g00074/laws.FnExactTopicsOf", spec := "fnExactTopicsOf", recurses := true, apart := false }
def FnExactTopicsOfSaid : Prop := fnExactTopicsOfRow.holds Try.pinned (OpenSpec.ofChange fnExactTopicsOfSpec)

/-- ITS FALSE NEIGHBOUR: 'it returns false'. Refute it at one input. -/
def fnExactTopicsOfWrong : ChangeSpec := { name := "fnExactTopicsOf", fn := fun _ => fun
  | [d] => { results := [.lit (.bool false)], args := [d] }
  | _ => none }
def FnExactTopicsOfWrongFalsely : Prop := fnExactTopicsOfRow.holds Try.pinned (OpenSpec.ofChange fnExactTopicsOfWrong)

/-- 'laws.FnExactHashesOf': WHATEVER THE INPUT: true; the input reads as it did. -/
def fnExactHashesOfSpec : ChangeSpec := { name := "fnExactHashesOf", fn := fun _ => fun
  | [d1, d2] => { results := [.lit (.bool true)], args := [d1, d2] }
  | _ => none }
def fnExactHashesOfRow : OpenClaim := { program := "ytojjjhbiccgjkaa", sum := "cde47052f8773fe97ef0ae900848edce51b1cdc6e3c1e2bf499fcfeb58b4db91", func := "loop.example/g00074/laws.FnExactHashesOf", spec := "fnExactHashesOf", inPlace := ["internal/abi.NoEscape", "internal/bytealg.MakeNoZero"], apart := false }
def FnExactHashesOfSaid : Prop := fnExactHashesOfRow.holds Try.pinned (OpenSpec.ofChange fnExactHashesOfSpec)

/-- ITS FALSE NEIGHBOUR: 'it returns false'. Refute it at one input. -/
def fnExactHashesOfWrong : ChangeSpec := { name := "fnExactHashesOf", fn := fun _ => fun
  | [d1, d2] => { results := [.lit (.bool false)], args := [d1, d2] }
  | _ => none }
def FnExactHashesOfWrongFalsely : Prop := fnExactHashesOfRow.holds Try.pinned (OpenSpec.ofChange fnExactHashesOfWrong)

/-- 'laws.FnExactBrokerNew': WHATEVER THE INPUT: true; the input reads as it did. -/
def fnExactBrokerNewSpec : ChangeSpec := { name := "fnExactBrokerNew", fn := fun _ => fun
  | [d] => { results := [.lit (.bool true)], args := [d] }
  | _ => none }
def fnExactBrokerNewRow : OpenClaim := { program := "ytojjjhbiccgjkaa", sum := "cde47052f8773fe97ef0ae900848edce51b1cdc6e3c1e2bf499fcfeb58b4db91", func := "loop.example/g00074/laws.FnExactBrokerNew", spec := "fnExactBrokerNew", inPlace := ["internal/abi.NoEscape", "internal/bytealg.MakeNoZero"], apart := false }
def FnExactBrokerNewSaid : Prop := fnExactBrokerNewRow.holds Try.pinned (OpenSpec.ofChange fnExactBrokerNewSpec)

/-- ITS FALSE NEIGHBOUR: 'it returns false'. Refute it at one input. -/
def fnExactBrokerNewWrong : ChangeSpec := { name := "fnExactBrokerNew", fn := fun _ => fun
  | [d] => { results := [.lit (.bool false)], args := [d] }
  | _ => none }
def FnExactBrokerNewWrongFalsely : Prop := fnExactBrokerNewRow.holds Try.pinned (OpenSpec.ofChange fnExactBrokerNewWrong)

/-- 'laws.FnExactSealMore': WHATEVER THE INPUT: true; the input reads as it did. -/
def fnExactSealMoreSpec : ChangeSpec := { name := "fnExactSealMore", fn := fun _ => fun
  | [d1, d2, d3, d4] => { results := [.lit (.bool true)], args := [d1, d2, d3, d4] }
  | _ => none }
def fnExactSealMoreRow : OpenClaim := { program := "ytojjjhbiccgjkaa", sum := "cde47052f8773fe97ef0ae900848edce51b1cdc6e3c1e2bf499fcfeb58b4db91", func := "loop.example/g00074/laws.FnExactSealMore", spec := "fnExactSealMore", inPlace := ["internal/abi.NoEscape", "internal/bytealg.MakeNoZero"], apart := false }
def FnExactSealMoreSaid : Prop := fnExactSealMoreRow.holds Try.pinned (OpenSpec.ofChange fnExactSealMoreSpec)

/-- ITS FALSE NEIGHBOUR: 'it returns false'. Refute it at one input. -/
def fnExactSealMoreWrong : ChangeSpec := { name := "fnExactSealMore", fn := fun _ => fun
  | [d1, d2, d3, d4] => { results := [.lit (.bool false)], args := [d1, d2, d3, d4] }
  | _ => none }
def FnExactSealMoreWrongFalsely : Prop := fnExactSealMoreRow.holds Try.pinned (OpenSpec.ofChange fnExactSealMoreWrong)

/- THE SECOND FORM. 'bulk': how many values and letters a reading holds, each counted each time it is reached (what is shared counts as often as it is met; a slice's spare places count too). A statement '..UptoSaid' is the law's where the arguments, and the package variables that the reading takes, are together of bulk at most 1048576: NARROWER than '..Said'. Prove '..Said' where nothing that the law and all that it calls make is longer than what came in: it says more and counts as full. Else prove '..UptoSaid'. A law counts once. -/
mutual
def uptoBulk {H : Type} : DataW H → Nat
  | .lit (.string bytes) => bytes.length + 1
  | .lit _ => 1
  | .nil => 1
  | .ptr d => uptoBulk d + 1
  | .slice elems spare => uptoBulkAll elems + uptoBulkAll spare + 1
  | .agg parts => uptoBulkAll parts + 1
  | .iface _ d => uptoBulk d + 1
  | .map entries => uptoBulkEntries entries + 1
  | .held _ => 1
def uptoBulkAll {H : Type} : List (DataW H) → Nat
  | [] => 0
  | d :: r => uptoBulk d + uptoBulkAll r
def uptoBulkEntries {H : Type} : List (Lit × DataW H) → Nat
  | [] => 0
  | x :: r => uptoBulkEntry x + uptoBulkEntries r
def uptoBulkEntry {H : Type} : Lit × DataW H → Nat
  | (.string bytes, d) => bytes.length + uptoBulk d + 1
  | (_, d) => uptoBulk d + 1
 end
def uptoSmall : (H : Type) → List (DataW H) → Bool := fun _ ds => decide (uptoBulkAll ds ≤ 1048576)
def OpenSpec.upto (s : _root_.Go.ChangeSpec) : _root_.Go.OpenSpec := { _root_.Go.OpenSpec.ofChange s with cond := some uptoSmall }

/-- 'laws.FnExactFrame', WHERE WHAT IT READS IS OF BULK AT MOST 1048576: true; the input reads as it did. -/
def fnExactFrameUptoRow : OpenClaim := { program := "ytojjjhbiccgjkaa", sum := "cde47052f8773fe97ef0ae900848edce51b1cdc6e3c1e2bf499fcfeb58b4db91", func := "loop.example/g00074/laws.FnExactFrame", spec := "fnExactFrame", inPlace := ["internal/abi.NoEscape", "internal/bytealg.MakeNoZero"], apart := false, narrowed := true }
def FnExactFrameUptoSaid : Prop := fnExactFrameUptoRow.holds Try.pinned (OpenSpec.upto fnExactFrameSpec)

/-- 'laws.FnExactHeadNew', WHERE WHAT IT READS IS OF BULK AT MOST 1048576: true; the input reads as it did. -/
def fnExactHeadNewUptoRow : OpenClaim := { program := "ytojjjhbiccgjkaa", sum := "cde47052f8773fe97ef0ae900848edce51b1cdc6e3c1e2bf499fcfeb58b4db91", func := "loop.example/g00074/laws.FnExactHeadNew", spec := "fnExactHeadNew", inPlace := ["internal/abi.NoEscape", "internal/bytealg.MakeNoZero"], apart := false, narrowed := true }
def FnExactHeadNewUptoSaid : Prop := fnExactHeadNewUptoRow.holds Try.pinned (OpenSpec.upto fnExactHeadNewSpec)

/-- 'laws.FnExactHeadOk', WHERE WHAT IT READS IS OF BULK AT MOST 1048576: true; the input reads as it did. -/
def fnExactHeadOkUptoRow : OpenClaim := { program := "ytojjjhbiccgjkaa", sum := "cde47052f8773fe97ef0ae900848edce51b1cdc6e3c1e2bf499fcfeb58b4db91", func := "loop.example/g00074/laws.FnExactHeadOk", spec := "fnExactHeadOk", inPlace := ["internal/abi.NoEscape", "internal/bytealg.MakeNoZero"], apart := false, narrowed := true }
def FnExactHeadOkUptoSaid : Prop := fnExactHeadOkUptoRow.holds Try.pinned (OpenSpec.upto fnExactHeadOkSpec)

/-- 'laws.FnExactForkOf', WHERE WHAT IT READS IS OF BULK AT MOST 1048576: true; the input reads as it did. -/
def fnExactForkOfUptoRow : OpenClaim := { program := "ytojjjhbiccgjkaa", sum := "cde47052f8773fe97ef0ae900848edce51b1cdc6e3c1e2bf499fcfeb58b4db91", func := "loop.example/g00074/laws.FnExactForkOf", spec := "fnExactForkOf", inPlace := ["internal/abi.NoEscape", "internal/bytealg.MakeNoZero"], apart := false, narrowed := true }
def FnExactForkOfUptoSaid : Prop := fnExactForkOfUptoRow.holds Try.pinned (OpenSpec.upto fnExactForkOfSpec)

/-- 'laws.FnExactFollows', WHERE WHAT IT READS IS OF BULK AT MOST 1048576: true; the input reads as it did. -/
def fnExactFollowsUptoRow : OpenClaim := { program := "ytojjjhbiccgjkaa", sum := "cde47052f8773fe97ef0ae900848edce51b1cdc6e3c1e2bf499fcfeb58b4db91", func := "loop.example/g00074/laws.FnExactFollows", spec := "fnExactFollows", inPlace := ["internal/abi.NoEscape", "internal/bytealg.MakeNoZero"], apart := false, narrowed := true }
def FnExactFollowsUptoSaid : Prop := fnExactFollowsUptoRow.holds Try.pinned (OpenSpec.upto fnExactFollowsSpec)

/-- 'laws.FnExactHeadText', WHERE WHAT IT READS IS OF BULK AT MOST 1048576: true; the input reads as it did. -/
def fnExactHeadTextUptoRow : OpenClaim := { program := "ytojjjhbiccgjkaa", sum := "cde47052f8773fe97ef0ae900848edce51b1cdc6e3c1e2bf499fcfeb58b4db91", func := "loop.example/g00074/laws.FnExactHeadText", spec := "fnExactHeadText", inPlace := ["internal/abi.NoEscape", "internal/bytealg.MakeNoZero"], apart := false, narrowed := true }
def FnExactHeadTextUptoSaid : Prop := fnExactHeadTextUptoRow.holds Try.pinned (OpenSpec.upto fnExactHeadTextSpec)

/-- 'laws.FnExactFrames', WHERE WHAT IT READS IS OF BULK AT MOST 1048576: true; the input reads as it did. -/
def fnExactFramesUptoRow : OpenClaim := { program := "ytojjjhbiccgjkaa", sum := "cde47052f8773fe97ef0ae900848edce51b1cdc6e3c1e2bf499fcfeb58b4db91", func := "loop.example/g00074/laws.FnExactFrames", spec := "fnExactFrames", inPlace := ["internal/abi.NoEscape", "internal/bytealg.MakeNoZero"], apart := false, narrowed := true }
def FnExactFramesUptoSaid : Prop := fnExactFramesUptoRow.holds Try.pinned (OpenSpec.upto fnExactFramesSpec)

/-- 'laws.FnExactHeadHash', WHERE WHAT IT READS IS OF BULK AT MOST 1048576: true; the input reads as it did. -/
def fnExactHeadHashUptoRow : OpenClaim := { program := "ytojjjhbiccgjkaa", sum := "cde47052f8773fe97ef0ae900848edce51b1cdc6e3c1e2bf499fcfeb58b4db91", func := "loop.example/g00074/laws.FnExactHeadHash", spec := "fnExactHeadHash", inPlace := ["internal/abi.NoEscape", "internal/bytealg.MakeNoZero"], apart := false, narrowed := true }
def FnExactHeadHashUptoSaid : Prop := fnExactHeadHashUptoRow.holds Try.pinned (OpenSpec.upto fnExactHeadHashSpec)

/-- 'laws.FnExactHeadsOk', WHERE WHAT IT READS IS OF BULK AT MOST 1048576: true; the input reads as it did. -/
def fnExactHeadsOkUptoRow : OpenClaim := { program := "ytojjjhbiccgjkaa", sum := "cde47052f8773fe97ef0ae900848edce51b1cdc6e3c1e2bf499fcfeb58b4db91", func := "loop.example/g00074/laws.FnExactHeadsOk", spec := "fnExactHeadsOk", inPlace := ["internal/abi.NoEscape", "internal/bytealg.MakeNoZero"], apart := false, narrowed := true }
def FnExactHeadsOkUptoSaid : Prop := fnExactHeadsOkUptoRow.holds Try.pinned (OpenSpec.upto fnExactHeadsOkSpec)

/-- 'laws.FnExactSealNew', WHERE WHAT IT READS IS OF BULK AT MOST 1048576: true; the input reads as it did. -/
def fnExactSealNewUptoRow : OpenClaim := { program := "ytojjjhbiccgjkaa", sum := "cde47052f8773fe97ef0ae900848edce51b1cdc6e3c1e2bf499fcfeb58b4db91", func := "loop.example/g00074/laws.FnExactSealNew", spec := "fnExactSealNew", inPlace := ["internal/abi.NoEscape", "internal/bytealg.MakeNoZero"], apart := false, narrowed := true }
def FnExactSealNewUptoSaid : Prop := fnExactSealNewUptoRow.holds Try.pinned (OpenSpec.upto fnExactSealNewSpec)

/-- 'laws.FnExactRangeOf', WHERE WHAT IT READS IS OF BULK AT MOST 1048576: true; the input reads as it did. -/
def fnExactRangeOfUptoRow : OpenClaim := { program := "ytojjjhbiccgjkaa", sum := "cde47052f8773fe97ef0ae900848edce51b1cdc6e3c1e2bf499fcfeb58b4db91", func := "loop.example/g00074/laws.FnExactRangeOf", spec := "fnExactRangeOf", inPlace := ["internal/abi.NoEscape", "internal/bytealg.MakeNoZero"], apart := false, narrowed := true }
def FnExactRangeOfUptoSaid : Prop := fnExactRangeOfUptoRow.holds Try.pinned (OpenSpec.upto fnExactRangeOfSpec)

/-- 'laws.FnExactGrow', WHERE WHAT IT READS IS OF BULK AT MOST 1048576: true; the input reads as it did. -/
def fnExactGrowUptoRow : OpenClaim := { program := "ytojjjhbiccgjkaa", sum := "cde47052f8773fe97ef0ae900848edce51b1cdc6e3c1e2bf499fcfeb58b4db91", func := "loop.example/g00074/laws.FnExactGrow", spec := "fnExactGrow", inPlace := ["internal/abi.NoEscape", "internal/bytealg.MakeNoZero"], apart := false, narrowed := true }
def FnExactGrowUptoSaid : Prop := fnExactGrowUptoRow.holds Try.pinned (OpenSpec.upto fnExactGrowSpec)

/-- 'laws.FnExactGrowAll', WHERE WHAT IT READS IS OF BULK AT MOST 1048576: true; the input reads as it did. -/
def fnExactGrowAllUptoRow : OpenClaim := { program := "ytojjjhbiccgjkaa", sum := "cde47052f8773fe97ef0ae900848edce51b1cdc6e3c1e2bf499fcfeb58b4db91", func := "loop.example/g00074/laws.FnExactGrowAll", spec := "fnExactGrowAll", inPlace := ["internal/abi.NoEscape", "internal/bytealg.MakeNoZero"], apart := false, narrowed := true }
def FnExactGrowAllUptoSaid : Prop := fnExactGrowAllUptoRow.holds Try.pinned (OpenSpec.upto fnExactGrowAllSpec)

/-- 'laws.FnExactRootsBy', WHERE WHAT IT READS IS OF BULK AT MOST 1048576: true; the input reads as it did. -/
def fnExactRootsByUptoRow : OpenClaim := { program := "ytojjjhbiccgjkaa", sum := "cde47052f8773fe97ef0ae900848edce51b1cdc6e3c1e2bf499fcfeb58b4db91", func := "loop.example/g00074/laws.FnExactRootsBy", spec := "fnExactRootsBy", inPlace := ["internal/abi.NoEscape", "internal/bytealg.MakeNoZero"], recurses := true, apart := false, narrowed := true }
def FnExactRootsByUptoSaid : Prop := fnExactRootsByUptoRow.holds Try.pinned (OpenSpec.upto fnExactRootsBySpec)

/-- 'laws.FnExactTextsIn', WHERE WHAT IT READS IS OF BULK AT MOST 1048576: true; the input reads as it did. -/
def fnExactTextsInUptoRow : OpenClaim := { program := "ytojjjhbiccgjkaa", sum := "cde47052f8773fe97ef0ae900848edce51b1cdc6e3c1e2bf499fcfeb58b4db91", func := "loop.example/g00074/laws.FnExactTextsIn", spec := "fnExactTextsIn", inPlace := ["internal/abi.NoEscape", "internal/bytealg.MakeNoZero"], recurses := true, apart := false, narrowed := true }
def FnExactTextsInUptoSaid : Prop := fnExactTextsInUptoRow.holds Try.pinned (OpenSpec.upto fnExactTextsInSpec)

/-- 'laws.FnExactConsistency', WHERE WHAT IT READS IS OF BULK AT MOST 1048576: true; the input reads as it did. -/
def fnExactConsistencyUptoRow : OpenClaim := { program := "ytojjjhbiccgjkaa", sum := "cde47052f8773fe97ef0ae900848edce51b1cdc6e3c1e2bf499fcfeb58b4db91", func := "loop.example/g00074/laws.FnExactConsistency", spec := "fnExactConsistency", inPlace := ["internal/abi.NoEscape", "internal/bytealg.MakeNoZero"], recurses := true, apart := false, narrowed := true }
def FnExactConsistencyUptoSaid : Prop := fnExactConsistencyUptoRow.holds Try.pinned (OpenSpec.upto fnExactConsistencySpec)

/-- 'laws.FnExactTextsBetween', WHERE WHAT IT READS IS OF BULK AT MOST 1048576: true; the input reads as it did. -/
def fnExactTextsBetweenUptoRow : OpenClaim := { program := "ytojjjhbiccgjkaa", sum := "cde47052f8773fe97ef0ae900848edce51b1cdc6e3c1e2bf499fcfeb58b4db91", func := "loop.example/g00074/laws.FnExactTextsBetween", spec := "fnExactTextsBetween", inPlace := ["internal/abi.NoEscape", "internal/bytealg.MakeNoZero"], recurses := true, apart := false, narrowed := true }
def FnExactTextsBetweenUptoSaid : Prop := fnExactTextsBetweenUptoRow.holds Try.pinned (OpenSpec.upto fnExactTextsBetweenSpec)

/-- 'laws.FnExactCheckBetween', WHERE WHAT IT READS IS OF BULK AT MOST 1048576: true; the input reads as it did. -/
def fnExactCheckBetweenUptoRow : OpenClaim := { program := "ytojjjhbiccgjkaa", sum := "cde47052f8773fe97ef0ae900848edce51b1cdc6e3c1e2bf499fcfeb58b4db91", func := "loop.example/g00074/laws.FnExactCheckBetween", spec := "fnExactCheckBetween", inPlace := ["internal/abi.NoEscape", "internal/bytealg.MakeNoZero"], recurses := true, apart := false, narrowed := true }
def FnExactCheckBetweenUptoSaid : Prop := fnExactCheckBetweenUptoRow.holds Try.pinned (OpenSpec.upto fnExactCheckBetweenSpec)

/-- 'laws.FnExactSealOk', WHERE WHAT IT READS IS OF BULK AT MOST 1048576: true; the input reads as it did. -/
def fnExactSealOkUptoRow : OpenClaim := { program := "ytojjjhbiccgjkaa", sum := "cde47052f8773fe97ef0ae900848edce51b1cdc6e3c1e2bf499fcfeb58b4db91", func := "loop.example/g00074/laws.FnExactSealOk", spec := "fnExactSealOk", inPlace := ["internal/abi.NoEscape", "internal/bytealg.MakeNoZero"], apart := false, narrowed := true }
def FnExactSealOkUptoSaid : Prop := fnExactSealOkUptoRow.holds Try.pinned (OpenSpec.upto fnExactSealOkSpec)

/-- 'laws.FnExactTopicsOf', WHERE WHAT IT READS IS OF BULK AT MOST 1048576: true; the input reads as it did. -/
def fnExactTopicsOfUptoRow : OpenClaim := { program := "ytojjjhbiccgjkaa", sum := "cde47052f8773fe97ef0ae900848edce51b1cdc6e3c1e2bf499fcfeb58b4db91", func := "loop.example/g00074/laws.FnExactTopicsOf", spec := "fnExactTopicsOf", recurses := true, apart := false, narrowed := true }
def FnExactTopicsOfUptoSaid : Prop := fnExactTopicsOfUptoRow.holds Try.pinned (OpenSpec.upto fnExactTopicsOfSpec)

/-- 'laws.FnExactHashesOf', WHERE WHAT IT READS IS OF BULK AT MOST 1048576: true; the input reads as it did. -/
def fnExactHashesOfUptoRow : OpenClaim := { program := "ytojjjhbiccgjkaa", sum := "cde47052f8773fe97ef0ae900848edce51b1cdc6e3c1e2bf499fcfeb58b4db91", func := "loop.example/g00074/laws.FnExactHashesOf", spec := "fnExactHashesOf", inPlace := ["internal/abi.NoEscape", "internal/bytealg.MakeNoZero"], apart := false, narrowed := true }
def FnExactHashesOfUptoSaid : Prop := fnExactHashesOfUptoRow.holds Try.pinned (OpenSpec.upto fnExactHashesOfSpec)

/-- 'laws.FnExactBrokerNew', WHERE WHAT IT READS IS OF BULK AT MOST 1048576: true; the input reads as it did. -/
def fnExactBrokerNewUptoRow : OpenClaim := { program := "ytojjjhbiccgjkaa", sum := "cde47052f8773fe97ef0ae900848edce51b1cdc6e3c1e2bf499fcfeb58b4db91", func := "loop.example/g00074/laws.FnExactBrokerNew", spec := "fnExactBrokerNew", inPlace := ["internal/abi.NoEscape", "internal/bytealg.MakeNoZero"], apart := false, narrowed := true }
def FnExactBrokerNewUptoSaid : Prop := fnExactBrokerNewUptoRow.holds Try.pinned (OpenSpec.upto fnExactBrokerNewSpec)

/-- 'laws.FnExactSealMore', WHERE WHAT IT READS IS OF BULK AT MOST 1048576: true; the input reads as it did. -/
def fnExactSealMoreUptoRow : OpenClaim := { program := "ytojjjhbiccgjkaa", sum := "cde47052f8773fe97ef0ae900848edce51b1cdc6e3c1e2bf499fcfeb58b4db91", func := "loop.example/g00074/laws.FnExactSealMore", spec := "fnExactSealMore", inPlace := ["internal/abi.NoEscape", "internal/bytealg.MakeNoZero"], apart := false, narrowed := true }
def FnExactSealMoreUptoSaid : Prop := fnExactSealMoreUptoRow.holds Try.pinned (OpenSpec.upto fnExactSealMoreSpec)

end Rows
end Go.Proofs.Ytojjjhbiccgjkaa
