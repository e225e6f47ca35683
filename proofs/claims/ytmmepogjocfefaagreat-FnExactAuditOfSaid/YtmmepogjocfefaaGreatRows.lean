/-
  No cell of these rows narrows 'for every input' (looked for: loops, veiled, ifaces, maps, wideKeys, modest, calm, conditions, laid).
  DERIVED. THE GIVEN ROWS OF THIS SEAT. 7 by the template 'for every input the law returns true; each argument reads behind the call as it read before'; 0 by the template 'total and deterministic' (their statements: YtmmepogjocfefaaGreatTotals.lean).
  GIVEN WITH THE SEED: the statements are not yours to turn. If you find one false, say at which input.
  Laid BY PROGRAM, IN A SANDBOX (cutbox-rows.mjs): the forced cells as the released guide's own fill.sh prints them over the translation f6ca0e632a9bb6e7… (all of the seat's roots in one cut). By AI agents, Wed Nov 11 2026. No macro, syntax, notation, axiom, sorry.
-/
import Derived.Test.YtmmepogjocfefaaGreatChecked
import GoSem.Claim
import GoSem.ClaimJoined
import GoSem.ClaimMapViews
import Derived.JoinedTies
import Derived.KernelRfl
namespace Go.Proofs.YtmmepogjocfefaaGreat
/- THE CELL 'sum', in the pinned program and in every row, IS THE sha256 OF THE DUMP (.gsa) THAT YtmmepogjocfefaaGreatProg.lean LOADS. Nothing in Lean hashes anything: it is a label: what it is worth is what the hold of that sum in a sandbox is worth. -/
noncomputable def Tryz.pinned : Pinned := { name := "ytmmepogjocfefaagreat", sum := "f6ca0e632a9bb6e73ee945fbe87c06655c4ea76360328487b52bbb73a9fc990c", checked := Tryz.checked }
namespace Rows
def none {H : Type} : Left H := { results := [], args := [] }

/-- 'laws.FnExactAuditOf': WHATEVER THE INPUT: true; the input reads as it did. -/
def fnExactAuditOfSpec : ChangeSpec := { name := "fnExactAuditOf", fn := fun _ => fun
  | [d1, d2, d3] => { results := [.lit (.bool true)], args := [d1, d2, d3] }
  | _ => none }
def fnExactAuditOfRow : OpenClaim := { program := "ytmmepogjocfefaagreat", sum := "f6ca0e632a9bb6e73ee945fbe87c06655c4ea76360328487b52bbb73a9fc990c", func := "loop.example/g00074/laws.FnExactAuditOf", spec := "fnExactAuditOf", inPlace := ["internal/abi.NoEscape", "internal/bytealg.MakeNoZero"], unfollowed := true, recurses := true, plainKeys := false, apart := false }
def FnExactAuditOfSaid : Prop := fnExactAuditOfRow.holds Tryz.pinned (OpenSpec.ofChange fnExactAuditOfSpec)

/-- ITS FALSE NEIGHBOUR: 'it returns false'. Refute it at one input. -/
def fnExactAuditOfWrong : ChangeSpec := { name := "fnExactAuditOf", fn := fun _ => fun
  | [d1, d2, d3] => { results := [.lit (.bool false)], args := [d1, d2, d3] }
  | _ => none }
def FnExactAuditOfWrongFalsely : Prop := fnExactAuditOfRow.holds Tryz.pinned (OpenSpec.ofChange fnExactAuditOfWrong)

/-- 'laws.FnExactDiskOf': WHATEVER THE INPUT: true; the input reads as it did. -/
def fnExactDiskOfSpec : ChangeSpec := { name := "fnExactDiskOf", fn := fun _ => fun
  | [d] => { results := [.lit (.bool true)], args := [d] }
  | _ => none }
def fnExactDiskOfRow : OpenClaim := { program := "ytmmepogjocfefaagreat", sum := "f6ca0e632a9bb6e73ee945fbe87c06655c4ea76360328487b52bbb73a9fc990c", func := "loop.example/g00074/laws.FnExactDiskOf", spec := "fnExactDiskOf", inPlace := ["internal/abi.NoEscape", "internal/bytealg.MakeNoZero"], unfollowed := true, recurses := true, plainKeys := false, apart := false }
def FnExactDiskOfSaid : Prop := fnExactDiskOfRow.holds Tryz.pinned (OpenSpec.ofChange fnExactDiskOfSpec)

/-- ITS FALSE NEIGHBOUR: 'it returns false'. Refute it at one input. -/
def fnExactDiskOfWrong : ChangeSpec := { name := "fnExactDiskOf", fn := fun _ => fun
  | [d] => { results := [.lit (.bool false)], args := [d] }
  | _ => none }
def FnExactDiskOfWrongFalsely : Prop := fnExactDiskOfRow.holds Tryz.pinned (OpenSpec.ofChange fnExactDiskOfWrong)

/-- 'laws.FnExactHeadFrom': WHATEVER THE INPUT: true; the input reads as it did. -/
def fnExactHeadFromSpec : ChangeSpec := { name := "fnExactHeadFrom", fn := fun _ => fun
  | [d1, d2, d3] => { results := [.lit (.bool true)], args := [d1, d2, d3] }
  | _ => none }
def fnExactHeadFromRow : OpenClaim := { program := "ytmmepogjocfefaagreat", sum := "f6ca0e632a9bb6e73ee945fbe87c06655c4ea76360328487b52bbb73a9fc990c", func := "loop.example/g00074/laws.FnExactHeadFrom", spec := "fnExactHeadFrom", inPlace := ["internal/abi.NoEscape", "internal/bytealg.MakeNoZero"], unfollowed := true, recurses := true, plainKeys := false, apart := false }
def FnExactHeadFromSaid : Prop := fnExactHeadFromRow.holds Tryz.pinned (OpenSpec.ofChange fnExactHeadFromSpec)

/-- ITS FALSE NEIGHBOUR: 'it returns false'. Refute it at one input. -/
def fnExactHeadFromWrong : ChangeSpec := { name := "fnExactHeadFrom", fn := fun _ => fun
  | [d1, d2, d3] => { results := [.lit (.bool false)], args := [d1, d2, d3] }
  | _ => none }
def FnExactHeadFromWrongFalsely : Prop := fnExactHeadFromRow.holds Tryz.pinned (OpenSpec.ofChange fnExactHeadFromWrong)

/-- 'laws.FnExactBrokerOk': WHATEVER THE INPUT: true; the input reads as it did. -/
def fnExactBrokerOkSpec : ChangeSpec := { name := "fnExactBrokerOk", fn := fun _ => fun
  | [d] => { results := [.lit (.bool true)], args := [d] }
  | _ => none }
def fnExactBrokerOkRow : OpenClaim := { program := "ytmmepogjocfefaagreat", sum := "f6ca0e632a9bb6e73ee945fbe87c06655c4ea76360328487b52bbb73a9fc990c", func := "loop.example/g00074/laws.FnExactBrokerOk", spec := "fnExactBrokerOk", inPlace := ["internal/abi.NoEscape", "internal/bytealg.MakeNoZero"], unfollowed := true, recurses := true, plainKeys := false, apart := false }
def FnExactBrokerOkSaid : Prop := fnExactBrokerOkRow.holds Tryz.pinned (OpenSpec.ofChange fnExactBrokerOkSpec)

/-- ITS FALSE NEIGHBOUR: 'it returns false'. Refute it at one input. -/
def fnExactBrokerOkWrong : ChangeSpec := { name := "fnExactBrokerOk", fn := fun _ => fun
  | [d] => { results := [.lit (.bool false)], args := [d] }
  | _ => none }
def FnExactBrokerOkWrongFalsely : Prop := fnExactBrokerOkRow.holds Tryz.pinned (OpenSpec.ofChange fnExactBrokerOkWrong)

/-- 'laws.FnExactWaiting': WHATEVER THE INPUT: true; the input reads as it did. -/
def fnExactWaitingSpec : ChangeSpec := { name := "fnExactWaiting", fn := fun _ => fun
  | [d] => { results := [.lit (.bool true)], args := [d] }
  | _ => none }
def fnExactWaitingRow : OpenClaim := { program := "ytmmepogjocfefaagreat", sum := "f6ca0e632a9bb6e73ee945fbe87c06655c4ea76360328487b52bbb73a9fc990c", func := "loop.example/g00074/laws.FnExactWaiting", spec := "fnExactWaiting", inPlace := ["internal/abi.NoEscape", "internal/bytealg.MakeNoZero"], unfollowed := true, recurses := true, plainKeys := false, apart := false }
def FnExactWaitingSaid : Prop := fnExactWaitingRow.holds Tryz.pinned (OpenSpec.ofChange fnExactWaitingSpec)

/-- ITS FALSE NEIGHBOUR: 'it returns false'. Refute it at one input. -/
def fnExactWaitingWrong : ChangeSpec := { name := "fnExactWaiting", fn := fun _ => fun
  | [d] => { results := [.lit (.bool false)], args := [d] }
  | _ => none }
def FnExactWaitingWrongFalsely : Prop := fnExactWaitingRow.holds Tryz.pinned (OpenSpec.ofChange fnExactWaitingWrong)

/-- 'laws.FnExactBetween': WHATEVER THE INPUT: true; the input reads as it did. -/
def fnExactBetweenSpec : ChangeSpec := { name := "fnExactBetween", fn := fun _ => fun
  | [d1, d2, d3, d4, d5] => { results := [.lit (.bool true)], args := [d1, d2, d3, d4, d5] }
  | _ => none }
def fnExactBetweenRow : OpenClaim := { program := "ytmmepogjocfefaagreat", sum := "f6ca0e632a9bb6e73ee945fbe87c06655c4ea76360328487b52bbb73a9fc990c", func := "loop.example/g00074/laws.FnExactBetween", spec := "fnExactBetween", inPlace := ["internal/abi.NoEscape", "internal/bytealg.MakeNoZero"], unfollowed := true, recurses := true, plainKeys := false, apart := false }
def FnExactBetweenSaid : Prop := fnExactBetweenRow.holds Tryz.pinned (OpenSpec.ofChange fnExactBetweenSpec)

/-- ITS FALSE NEIGHBOUR: 'it returns false'. Refute it at one input. -/
def fnExactBetweenWrong : ChangeSpec := { name := "fnExactBetween", fn := fun _ => fun
  | [d1, d2, d3, d4, d5] => { results := [.lit (.bool false)], args := [d1, d2, d3, d4, d5] }
  | _ => none }
def FnExactBetweenWrongFalsely : Prop := fnExactBetweenRow.holds Tryz.pinned (OpenSpec.ofChange fnExactBetweenWrong)

/-- 'laws.FnExactLeafProof': WHATEVER THE INPUT: true; the input reads as it did. -/
def fnExactLeafProofSpec : ChangeSpec := { name := "fnExactLeafProof", fn := fun _ => fun
  | [d1, d2, d3] => { results := [.lit (.bool true)], args := [d1, d2, d3] }
  | _ => none }
def fnExactLeafProofRow : OpenClaim := { program := "ytmmepogjocfefaagreat", sum := "f6ca0e632a9bb6e73ee945fbe87c06655c4ea76360328487b52bbb73a9fc990c", func := "loop.example/g00074/laws.FnExactLeafProof", spec := "fnExactLeafProof", inPlace := ["internal/abi.NoEscape", "internal/bytealg.MakeNoZero"], unfollowed := true, recurses := true, plainKeys := false, apart := false }
def FnExactLeafProofSaid : Prop := fnExactLeafProofRow.holds Tryz.pinned (OpenSpec.ofChange fnExactLeafProofSpec)

/-- ITS FALSE NEIGHBOUR: 'it returns false'. Refute it at one input. -/
def fnExactLeafProofWrong : ChangeSpec := { name := "fnExactLeafProof", fn := fun _ => fun
  | [d1, d2, d3] => { results := [.lit (.bool false)], args := [d1, d2, d3] }
  | _ => none }
def FnExactLeafProofWrongFalsely : Prop := fnExactLeafProofRow.holds Tryz.pinned (OpenSpec.ofChange fnExactLeafProofWrong)

/- THE SECOND FORM. 'bulk': how many values and letters a reading holds, each counted each time it is reached (what is shared counts as often as it is met; a slice's spare places count too). A statement '..UptoSaid' is the law's where the arguments, and the package variables that the reading takes, are together of bulk at most 1048576: NARROWER than '..Said'. Prove '..Said' where nothing that the law and all that it calls make is longer than what came in: it says more and counts as full. Else prove '..UptoSaid'. A law counts once. -/
mutual
def uptoBulk {H : Type} : DataW H → Nat
  | .lit (.string bytes) => bytes.length + 1
  | .lit _ => 1
  | .nil => 1
  | .ptr d => uptoBulk d + 1
  | .slice elems spare => uptoBulkAll elems + uptoBulkAll spare + 1
  | .agg parts => uptoBulkAll parts + 1
  | .iface _ d => uptoBulk d + 1
  | .map entries => uptoBulkEntries entries + 1
  | .held _ => 1
def uptoBulkAll {H : Type} : List (DataW H) → Nat
  | [] => 0
  | d :: r => uptoBulk d + uptoBulkAll r
def uptoBulkEntries {H : Type} : List (Lit × DataW H) → Nat
  | [] => 0
  | x :: r => uptoBulkEntry x + uptoBulkEntries r
def uptoBulkEntry {H : Type} : Lit × DataW H → Nat
  | (.string bytes, d) => bytes.length + uptoBulk d + 1
  | (_, d) => uptoBulk d + 1
 end
def uptoSmall : (H : Type) → List (DataW H) → Bool := fun _ ds => decide (uptoBulkAll ds ≤ 1048576)
def OpenSpec.upto (s : _root_.Go.ChangeSpec) : _root_.Go.OpenSpec := { _root_.Go.OpenSpec.ofChange s with cond := some uptoSmall }

/-- 'laws.FnExactAuditOf', WHERE WHAT IT READS IS OF BULK AT MOST 1048576: true; the input reads as it did. -/
def fnExactAuditOfUptoRow : OpenClaim := { program := "ytmmepogjocfefaagreat", sum := "f6ca0e632a9bb6e73ee945fbe87c06655c4ea76360328487b52bbb73a9fc990c", func := "loop.example/g00074/laws.FnExactAuditOf", spec := "fnExactAuditOf", inPlace := ["internal/abi.NoEscape", "internal/bytealg.MakeNoZero"], unfollowed := true, recurses := true, plainKeys := false, apart := false, narrowed := true }
def FnExactAuditOfUptoSaid : Prop := fnExactAuditOfUptoRow.holds Tryz.pinned (OpenSpec.upto fnExactAuditOfSpec)

/-- 'laws.FnExactDiskOf', WHERE WHAT IT READS IS OF BULK AT MOST 1048576: true; the input reads as it did. -/
def fnExactDiskOfUptoRow : OpenClaim := { program := "ytmmepogjocfefaagreat", sum := "f6ca0e632a9bb6e73ee945fbe87c06655c4ea76360328487b52bbb73a9fc990c", func := "loop.example/g00074/laws.FnExactDiskOf", spec := "fnExactDiskOf", inPlace := ["internal/abi.NoEscape", "internal/bytealg.MakeNoZero"], unfollowed := true, recurses := true, plainKeys := false, apart := false, narrowed := true }
def FnExactDiskOfUptoSaid : Prop := fnExactDiskOfUptoRow.holds Tryz.pinned (OpenSpec.upto fnExactDiskOfSpec)

/-- 'laws.FnExactHeadFrom', WHERE WHAT IT READS IS OF BULK AT MOST 1048576: true; the input reads as it did. -/
def fnExactHeadFromUptoRow : OpenClaim := { program := "ytmmepogjocfefaagreat", sum := "f6ca0e632a9bb6e73ee945fbe87c06655c4ea76360328487b52bbb73a9fc990c", func := "loop.example/g00074/laws.FnExactHeadFrom", spec := "fnExactHeadFrom", inPlace := ["internal/abi.NoEscape", "internal/bytealg.MakeNoZero"], unfollowed := true, recurses := true, plainKeys := false, apart := false, narrowed := true }
def FnExactHeadFromUptoSaid : Prop := fnExactHeadFromUptoRow.holds Tryz.pinned (OpenSpec.upto fnExactHeadFromSpec)

/-- 'laws.FnExactBrokerOk', WHERE WHAT IT READS IS OF BULK AT MOST 1048576: true; the input reads as it did. -/
def fnExactBrokerOkUptoRow : OpenClaim := { program := "ytmmepogjocfefaagreat", sum := "f6ca0e632a9bb6e73ee945fbe87c06655c4ea76360328487b52bbb73a9fc990c", func := "loop.example/g00074/laws.FnExactBrokerOk", spec := "fnExactBrokerOk", inPlace := ["internal/abi.NoEscape", "internal/bytealg.MakeNoZero"], unfollowed := true, recurses := true, plainKeys := false, apart := false, narrowed := true }
def FnExactBrokerOkUptoSaid : Prop := fnExactBrokerOkUptoRow.holds Tryz.pinned (OpenSpec.upto fnExactBrokerOkSpec)

/-- 'laws.FnExactWaiting', WHERE WHAT IT READS IS OF BULK AT MOST 1048576: true; the input reads as it did. -/
def fnExactWaitingUptoRow : OpenClaim := { program := "ytmmepogjocfefaagreat", sum := "f6ca0e632a9bb6e73ee945fbe87c06655c4ea76360328487b52bbb73a9fc990c", func := "loop.example/g00074/laws.FnExactWaiting", spec := "fnExactWaiting", inPlace := ["internal/abi.NoEscape", "internal/bytealg.MakeNoZero"], unfollowed := true, recurses := true, plainKeys := false, apart := false, narrowed := true }
def FnExactWaitingUptoSaid : Prop := fnExactWaitingUptoRow.holds Tryz.pinned (OpenSpec.upto fnExactWaitingSpec)

/-- 'laws.FnExactBetween', WHERE WHAT IT READS IS OF BULK AT MOST 1048576: true; the input reads as it did. -/
def fnExactBetweenUptoRow : OpenClaim := { program := "ytmmepogjocfefaagreat", sum := "f6ca0e632a9bb6e73ee945fbe87c06655c4ea76360328487b52bbb73a9fc990c", func := "loop.example/g00074/laws.FnExactBetween", spec := "fnExactBetween", inPlace := ["internal/abi.NoEscape", "internal/bytealg.MakeNoZero"], unfollowed := true, recurses := true, plainKeys := false, apart := false, narrowed := true }
def FnExactBetweenUptoSaid : Prop := fnExactBetweenUptoRow.holds Tryz.pinned (OpenSpec.upto fnExactBetweenSpec)

/-- 'laws.FnExactLeafProof', WHERE WHAT IT READS IS OF BULK AT MOST 1048576: true; the input reads as it did. -/
def fnExactLeafProofUptoRow : OpenClaim := { program := "ytmmepogjocfefaagreat", sum := "f6ca0e632a9bb6e73ee945fbe87c06655c4ea76360328487b52bbb73a9fc990c", func := "loop.example/g00074/laws.FnExactLeafProof", spec := "fnExactLeafProof", inPlace := ["internal/abi.NoEscape", "internal/bytealg.MakeNoZero"], unfollowed := true, recurses := true, plainKeys := false, apart := false, narrowed := true }
def FnExactLeafProofUptoSaid : Prop := fnExactLeafProofUptoRow.holds Tryz.pinned (OpenSpec.upto fnExactLeafProofSpec)

end Rows
end Go.Proofs.YtmmepogjocfefaaGreat
