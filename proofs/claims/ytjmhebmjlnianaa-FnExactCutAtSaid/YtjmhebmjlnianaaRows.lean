/-
  No cell of these rows narrows 'for every input' (looked for: loops, veiled, ifaces, maps, wideKeys, modest, calm, conditions, laid).
  DERIVED. THE GIVEN ROWS OF THIS SEAT. 15 by the template 'for every input the law returns true; each argument reads behind the call as it read before'; 0 by the template 'total and deterministic' (their statements: YtjmhebmjlnianaaTotals.lean).
  GIVEN WITH THE SEED: the statements are not yours to turn. If you find one false, say at which input.
  Laid BY PROGRAM, IN A SANDBOX (cutbox-rows.mjs): the forced cells as the released guide's own fill.sh prints them over the translation 3cc48293a24f2ef7… (all of the seat's roots in one cut). By AI agents, Wed Nov 11 2026. No macro, syntax, notation, axiom, sorry.
-/
import Derived.Test.YtjmhebmjlnianaaChecked
import GoSem.Claim
import GoSem.ClaimJoined
import GoSem.ClaimMapViews
import Derived.JoinedTies
import Derived.KernelRfl
namespace Go.Proofs.Ytjmhebmjlnianaa
/- THE CELL 'sum', in the pinned program and in every row, IS THE sha256 OF THE DUMP (.gsa) THAT YtjmhebmjlnianaaProg.lean LOADS. Nothing in Lean hashes anything: it is a label: what it is worth is what the hold of that sum in a sandbox is worth. -/
noncomputable def Try.pinned : Pinned := { name := "ytjmhebmjlnianaa", sum := "3cc48293a24f2ef74df6b74eb7ead3e5395b72297e46a6d6024b9f9194337c5d", checked := Try.checked }
namespace Rows
def none {H : Type} : Left H := { results := [], args := [] }

/-- 'laws.FnExactCallsMost': WHATEVER THE INPUT: true; the input reads as it did. -/
def fnExactCallsMostSpec : ChangeSpec := { name := "fnExactCallsMost", fn := fun _ => fun
  | [d1, d2] => { results := [.lit (.bool true)], args := [d1, d2] }
  | _ => none }
def fnExactCallsMostRow : OpenClaim := { program := "ytjmhebmjlnianaa", sum := "3cc48293a24f2ef74df6b74eb7ead3e5395b72297e46a6d6024b9f9194337c5d", func := "loop.example/g00074/laws.FnExactCallsMost", spec := "fnExactCallsMost", apart := false }
def FnExactCallsMostSaid : Prop := fnExactCallsMostRow.holds Try.pinned (OpenSpec.ofChange fnExactCallsMostSpec)

/-- ITS FALSE NEIGHBOUR: 'it returns false'. Refute it at one input. -/
def fnExactCallsMostWrong : ChangeSpec := { name := "fnExactCallsMost", fn := fun _ => fun
  | [d1, d2] => { results := [.lit (.bool false)], args := [d1, d2] }
  | _ => none }
def FnExactCallsMostWrongFalsely : Prop := fnExactCallsMostRow.holds Try.pinned (OpenSpec.ofChange fnExactCallsMostWrong)

/-- 'laws.FnExactDiskNew': WHATEVER THE INPUT: true; the input reads as it did. -/
def fnExactDiskNewSpec : ChangeSpec := { name := "fnExactDiskNew", fn := fun _ => fun
  | [] => { results := [.lit (.bool true)], args := [] }
  | _ => none }
def fnExactDiskNewRow : OpenClaim := { program := "ytjmhebmjlnianaa", sum := "3cc48293a24f2ef74df6b74eb7ead3e5395b72297e46a6d6024b9f9194337c5d", func := "loop.example/g00074/laws.FnExactDiskNew", spec := "fnExactDiskNew", apart := false }
def FnExactDiskNewSaid : Prop := fnExactDiskNewRow.holds Try.pinned (OpenSpec.ofChange fnExactDiskNewSpec)

/-- ITS FALSE NEIGHBOUR: 'it returns false'. Refute it at one input. -/
def fnExactDiskNewWrong : ChangeSpec := { name := "fnExactDiskNew", fn := fun _ => fun
  | [] => { results := [.lit (.bool false)], args := [] }
  | _ => none }
def FnExactDiskNewWrongFalsely : Prop := fnExactDiskNewRow.holds Try.pinned (OpenSpec.ofChange fnExactDiskNewWrong)

/-- 'laws.FnExactDiskOk': WHATEVER THE INPUT: true; the input reads as it did. -/
def fnExactDiskOkSpec : ChangeSpec := { name := "fnExactDiskOk", fn := fun _ => fun
  | [d] => { results := [.lit (.bool true)], args := [d] }
  | _ => none }
def fnExactDiskOkRow : OpenClaim := { program := "ytjmhebmjlnianaa", sum := "3cc48293a24f2ef74df6b74eb7ead3e5395b72297e46a6d6024b9f9194337c5d", func := "loop.example/g00074/laws.FnExactDiskOk", spec := "fnExactDiskOk", apart := false }
def FnExactDiskOkSaid : Prop := fnExactDiskOkRow.holds Try.pinned (OpenSpec.ofChange fnExactDiskOkSpec)

/-- ITS FALSE NEIGHBOUR: 'it returns false'. Refute it at one input. -/
def fnExactDiskOkWrong : ChangeSpec := { name := "fnExactDiskOk", fn := fun _ => fun
  | [d] => { results := [.lit (.bool false)], args := [d] }
  | _ => none }
def FnExactDiskOkWrongFalsely : Prop := fnExactDiskOkRow.holds Try.pinned (OpenSpec.ofChange fnExactDiskOkWrong)

/-- 'laws.FnExactRaws': WHATEVER THE INPUT: true; the input reads as it did. -/
def fnExactRawsSpec : ChangeSpec := { name := "fnExactRaws", fn := fun _ => fun
  | [d] => { results := [.lit (.bool true)], args := [d] }
  | _ => none }
def fnExactRawsRow : OpenClaim := { program := "ytjmhebmjlnianaa", sum := "3cc48293a24f2ef74df6b74eb7ead3e5395b72297e46a6d6024b9f9194337c5d", func := "loop.example/g00074/laws.FnExactRaws", spec := "fnExactRaws", apart := false }
def FnExactRawsSaid : Prop := fnExactRawsRow.holds Try.pinned (OpenSpec.ofChange fnExactRawsSpec)

/-- ITS FALSE NEIGHBOUR: 'it returns false'. Refute it at one input. -/
def fnExactRawsWrong : ChangeSpec := { name := "fnExactRaws", fn := fun _ => fun
  | [d] => { results := [.lit (.bool false)], args := [d] }
  | _ => none }
def FnExactRawsWrongFalsely : Prop := fnExactRawsRow.holds Try.pinned (OpenSpec.ofChange fnExactRawsWrong)

/-- 'laws.FnExactWriteOk': WHATEVER THE INPUT: true; the input reads as it did. -/
def fnExactWriteOkSpec : ChangeSpec := { name := "fnExactWriteOk", fn := fun _ => fun
  | [d1, d2] => { results := [.lit (.bool true)], args := [d1, d2] }
  | _ => none }
def fnExactWriteOkRow : OpenClaim := { program := "ytjmhebmjlnianaa", sum := "3cc48293a24f2ef74df6b74eb7ead3e5395b72297e46a6d6024b9f9194337c5d", func := "loop.example/g00074/laws.FnExactWriteOk", spec := "fnExactWriteOk", apart := false }
def FnExactWriteOkSaid : Prop := fnExactWriteOkRow.holds Try.pinned (OpenSpec.ofChange fnExactWriteOkSpec)

/-- ITS FALSE NEIGHBOUR: 'it returns false'. Refute it at one input. -/
def fnExactWriteOkWrong : ChangeSpec := { name := "fnExactWriteOk", fn := fun _ => fun
  | [d1, d2] => { results := [.lit (.bool false)], args := [d1, d2] }
  | _ => none }
def FnExactWriteOkWrongFalsely : Prop := fnExactWriteOkRow.holds Try.pinned (OpenSpec.ofChange fnExactWriteOkWrong)

/-- 'laws.FnExactLogOk': WHATEVER THE INPUT: true; the input reads as it did. -/
def fnExactLogOkSpec : ChangeSpec := { name := "fnExactLogOk", fn := fun _ => fun
  | [d] => { results := [.lit (.bool true)], args := [d] }
  | _ => none }
def fnExactLogOkRow : OpenClaim := { program := "ytjmhebmjlnianaa", sum := "3cc48293a24f2ef74df6b74eb7ead3e5395b72297e46a6d6024b9f9194337c5d", func := "loop.example/g00074/laws.FnExactLogOk", spec := "fnExactLogOk", apart := false }
def FnExactLogOkSaid : Prop := fnExactLogOkRow.holds Try.pinned (OpenSpec.ofChange fnExactLogOkSpec)

/-- ITS FALSE NEIGHBOUR: 'it returns false'. Refute it at one input. -/
def fnExactLogOkWrong : ChangeSpec := { name := "fnExactLogOk", fn := fun _ => fun
  | [d] => { results := [.lit (.bool false)], args := [d] }
  | _ => none }
def FnExactLogOkWrongFalsely : Prop := fnExactLogOkRow.holds Try.pinned (OpenSpec.ofChange fnExactLogOkWrong)

/-- 'laws.FnExactPut': WHATEVER THE INPUT: true; the input reads as it did. -/
def fnExactPutSpec : ChangeSpec := { name := "fnExactPut", fn := fun _ => fun
  | [d1, d2] => { results := [.lit (.bool true)], args := [d1, d2] }
  | _ => none }
def fnExactPutRow : OpenClaim := { program := "ytjmhebmjlnianaa", sum := "3cc48293a24f2ef74df6b74eb7ead3e5395b72297e46a6d6024b9f9194337c5d", func := "loop.example/g00074/laws.FnExactPut", spec := "fnExactPut", apart := false }
def FnExactPutSaid : Prop := fnExactPutRow.holds Try.pinned (OpenSpec.ofChange fnExactPutSpec)

/-- ITS FALSE NEIGHBOUR: 'it returns false'. Refute it at one input. -/
def fnExactPutWrong : ChangeSpec := { name := "fnExactPut", fn := fun _ => fun
  | [d1, d2] => { results := [.lit (.bool false)], args := [d1, d2] }
  | _ => none }
def FnExactPutWrongFalsely : Prop := fnExactPutRow.holds Try.pinned (OpenSpec.ofChange fnExactPutWrong)

/-- 'laws.FnExactLatestOf': WHATEVER THE INPUT: true; the input reads as it did. -/
def fnExactLatestOfSpec : ChangeSpec := { name := "fnExactLatestOf", fn := fun _ => fun
  | [d1, d2, d3] => { results := [.lit (.bool true)], args := [d1, d2, d3] }
  | _ => none }
def fnExactLatestOfRow : OpenClaim := { program := "ytjmhebmjlnianaa", sum := "3cc48293a24f2ef74df6b74eb7ead3e5395b72297e46a6d6024b9f9194337c5d", func := "loop.example/g00074/laws.FnExactLatestOf", spec := "fnExactLatestOf", apart := false }
def FnExactLatestOfSaid : Prop := fnExactLatestOfRow.holds Try.pinned (OpenSpec.ofChange fnExactLatestOfSpec)

/-- ITS FALSE NEIGHBOUR: 'it returns false'. Refute it at one input. -/
def fnExactLatestOfWrong : ChangeSpec := { name := "fnExactLatestOf", fn := fun _ => fun
  | [d1, d2, d3] => { results := [.lit (.bool false)], args := [d1, d2, d3] }
  | _ => none }
def FnExactLatestOfWrongFalsely : Prop := fnExactLatestOfRow.holds Try.pinned (OpenSpec.ofChange fnExactLatestOfWrong)

/-- 'laws.FnExactNextOf': WHATEVER THE INPUT: true; the input reads as it did. -/
def fnExactNextOfSpec : ChangeSpec := { name := "fnExactNextOf", fn := fun _ => fun
  | [d1, d2] => { results := [.lit (.bool true)], args := [d1, d2] }
  | _ => none }
def fnExactNextOfRow : OpenClaim := { program := "ytjmhebmjlnianaa", sum := "3cc48293a24f2ef74df6b74eb7ead3e5395b72297e46a6d6024b9f9194337c5d", func := "loop.example/g00074/laws.FnExactNextOf", spec := "fnExactNextOf", apart := false }
def FnExactNextOfSaid : Prop := fnExactNextOfRow.holds Try.pinned (OpenSpec.ofChange fnExactNextOfSpec)

/-- ITS FALSE NEIGHBOUR: 'it returns false'. Refute it at one input. -/
def fnExactNextOfWrong : ChangeSpec := { name := "fnExactNextOf", fn := fun _ => fun
  | [d1, d2] => { results := [.lit (.bool false)], args := [d1, d2] }
  | _ => none }
def FnExactNextOfWrongFalsely : Prop := fnExactNextOfRow.holds Try.pinned (OpenSpec.ofChange fnExactNextOfWrong)

/-- 'laws.FnExactLeafOf': WHATEVER THE INPUT: true; the input reads as it did. -/
def fnExactLeafOfSpec : ChangeSpec := { name := "fnExactLeafOf", fn := fun _ => fun
  | [d1, d2, d3] => { results := [.lit (.bool true)], args := [d1, d2, d3] }
  | _ => none }
def fnExactLeafOfRow : OpenClaim := { program := "ytjmhebmjlnianaa", sum := "3cc48293a24f2ef74df6b74eb7ead3e5395b72297e46a6d6024b9f9194337c5d", func := "loop.example/g00074/laws.FnExactLeafOf", spec := "fnExactLeafOf", unfollowed := true, recurses := true, apart := false }
def FnExactLeafOfSaid : Prop := fnExactLeafOfRow.holds Try.pinned (OpenSpec.ofChange fnExactLeafOfSpec)

/-- ITS FALSE NEIGHBOUR: 'it returns false'. Refute it at one input. -/
def fnExactLeafOfWrong : ChangeSpec := { name := "fnExactLeafOf", fn := fun _ => fun
  | [d1, d2, d3] => { results := [.lit (.bool false)], args := [d1, d2, d3] }
  | _ => none }
def FnExactLeafOfWrongFalsely : Prop := fnExactLeafOfRow.holds Try.pinned (OpenSpec.ofChange fnExactLeafOfWrong)

/-- 'laws.FnExactLeavesAt': WHATEVER THE INPUT: true; the input reads as it did. -/
def fnExactLeavesAtSpec : ChangeSpec := { name := "fnExactLeavesAt", fn := fun _ => fun
  | [d1, d2, d3, d4] => { results := [.lit (.bool true)], args := [d1, d2, d3, d4] }
  | _ => none }
def fnExactLeavesAtRow : OpenClaim := { program := "ytjmhebmjlnianaa", sum := "3cc48293a24f2ef74df6b74eb7ead3e5395b72297e46a6d6024b9f9194337c5d", func := "loop.example/g00074/laws.FnExactLeavesAt", spec := "fnExactLeavesAt", apart := false }
def FnExactLeavesAtSaid : Prop := fnExactLeavesAtRow.holds Try.pinned (OpenSpec.ofChange fnExactLeavesAtSpec)

/-- ITS FALSE NEIGHBOUR: 'it returns false'. Refute it at one input. -/
def fnExactLeavesAtWrong : ChangeSpec := { name := "fnExactLeavesAt", fn := fun _ => fun
  | [d1, d2, d3, d4] => { results := [.lit (.bool false)], args := [d1, d2, d3, d4] }
  | _ => none }
def FnExactLeavesAtWrongFalsely : Prop := fnExactLeavesAtRow.holds Try.pinned (OpenSpec.ofChange fnExactLeavesAtWrong)

/-- 'laws.FnExactPutAll': WHATEVER THE INPUT: true; the input reads as it did. -/
def fnExactPutAllSpec : ChangeSpec := { name := "fnExactPutAll", fn := fun _ => fun
  | [d1, d2] => { results := [.lit (.bool true)], args := [d1, d2] }
  | _ => none }
def fnExactPutAllRow : OpenClaim := { program := "ytjmhebmjlnianaa", sum := "3cc48293a24f2ef74df6b74eb7ead3e5395b72297e46a6d6024b9f9194337c5d", func := "loop.example/g00074/laws.FnExactPutAll", spec := "fnExactPutAll", apart := false }
def FnExactPutAllSaid : Prop := fnExactPutAllRow.holds Try.pinned (OpenSpec.ofChange fnExactPutAllSpec)

/-- ITS FALSE NEIGHBOUR: 'it returns false'. Refute it at one input. -/
def fnExactPutAllWrong : ChangeSpec := { name := "fnExactPutAll", fn := fun _ => fun
  | [d1, d2] => { results := [.lit (.bool false)], args := [d1, d2] }
  | _ => none }
def FnExactPutAllWrongFalsely : Prop := fnExactPutAllRow.holds Try.pinned (OpenSpec.ofChange fnExactPutAllWrong)

/-- 'laws.FnExactAddEntry': WHATEVER THE INPUT: true; the input reads as it did. -/
def fnExactAddEntrySpec : ChangeSpec := { name := "fnExactAddEntry", fn := fun _ => fun
  | [d1, d2, d3, d4, d5] => { results := [.lit (.bool true)], args := [d1, d2, d3, d4, d5] }
  | _ => none }
def fnExactAddEntryRow : OpenClaim := { program := "ytjmhebmjlnianaa", sum := "3cc48293a24f2ef74df6b74eb7ead3e5395b72297e46a6d6024b9f9194337c5d", func := "loop.example/g00074/laws.FnExactAddEntry", spec := "fnExactAddEntry", apart := false }
def FnExactAddEntrySaid : Prop := fnExactAddEntryRow.holds Try.pinned (OpenSpec.ofChange fnExactAddEntrySpec)

/-- ITS FALSE NEIGHBOUR: 'it returns false'. Refute it at one input. -/
def fnExactAddEntryWrong : ChangeSpec := { name := "fnExactAddEntry", fn := fun _ => fun
  | [d1, d2, d3, d4, d5] => { results := [.lit (.bool false)], args := [d1, d2, d3, d4, d5] }
  | _ => none }
def FnExactAddEntryWrongFalsely : Prop := fnExactAddEntryRow.holds Try.pinned (OpenSpec.ofChange fnExactAddEntryWrong)

/-- 'laws.FnExactCutAt': WHATEVER THE INPUT: true; the input reads as it did. -/
def fnExactCutAtSpec : ChangeSpec := { name := "fnExactCutAt", fn := fun _ => fun
  | [d1, d2, d3, d4] => { results := [.lit (.bool true)], args := [d1, d2, d3, d4] }
  | _ => none }
def fnExactCutAtRow : OpenClaim := { program := "ytjmhebmjlnianaa", sum := "3cc48293a24f2ef74df6b74eb7ead3e5395b72297e46a6d6024b9f9194337c5d", func := "loop.example/g00074/laws.FnExactCutAt", spec := "fnExactCutAt", apart := false }
def FnExactCutAtSaid : Prop := fnExactCutAtRow.holds Try.pinned (OpenSpec.ofChange fnExactCutAtSpec)

/-- ITS FALSE NEIGHBOUR: 'it returns false'. Refute it at one input. -/
def fnExactCutAtWrong : ChangeSpec := { name := "fnExactCutAt", fn := fun _ => fun
  | [d1, d2, d3, d4] => { results := [.lit (.bool false)], args := [d1, d2, d3, d4] }
  | _ => none }
def FnExactCutAtWrongFalsely : Prop := fnExactCutAtRow.holds Try.pinned (OpenSpec.ofChange fnExactCutAtWrong)

/-- 'laws.FnCutBytes': WHATEVER THE INPUT: true; the input reads as it did. -/
def fnCutBytesSpec : ChangeSpec := { name := "fnCutBytes", fn := fun _ => fun
  | [d] => { results := [.lit (.bool true)], args := [d] }
  | _ => none }
def fnCutBytesRow : OpenClaim := { program := "ytjmhebmjlnianaa", sum := "3cc48293a24f2ef74df6b74eb7ead3e5395b72297e46a6d6024b9f9194337c5d", func := "loop.example/g00074/laws.FnCutBytes", spec := "fnCutBytes", apart := false }
def FnCutBytesSaid : Prop := fnCutBytesRow.holds Try.pinned (OpenSpec.ofChange fnCutBytesSpec)

/-- ITS FALSE NEIGHBOUR: 'it returns false'. Refute it at one input. -/
def fnCutBytesWrong : ChangeSpec := { name := "fnCutBytes", fn := fun _ => fun
  | [d] => { results := [.lit (.bool false)], args := [d] }
  | _ => none }
def FnCutBytesWrongFalsely : Prop := fnCutBytesRow.holds Try.pinned (OpenSpec.ofChange fnCutBytesWrong)

/- THE SECOND FORM. 'bulk': how many values and letters a reading holds, each counted each time it is reached (what is shared counts as often as it is met; a slice's spare places count too). A statement '..UptoSaid' is the law's where the arguments, and the package variables that the reading takes, are together of bulk at most 1048576: NARROWER than '..Said'. Prove '..Said' where nothing that the law and all that it calls make is longer than what came in: it says more and counts as full. Else prove '..UptoSaid'. A law counts once. -/
mutual
def uptoBulk {H : Type} : DataW H → Nat
  | .lit (.string bytes) => bytes.length + 1
  | .lit _ => 1
  | .nil => 1
  | .ptr d => uptoBulk d + 1
  | .slice elems spare => uptoBulkAll elems + uptoBulkAll spare + 1
  | .agg parts => uptoBulkAll parts + 1
  | .iface _ d => uptoBulk d + 1
  | .map entries => uptoBulkEntries entries + 1
  | .held _ => 1
def uptoBulkAll {H : Type} : List (DataW H) → Nat
  | [] => 0
  | d :: r => uptoBulk d + uptoBulkAll r
def uptoBulkEntries {H : Type} : List (Lit × DataW H) → Nat
  | [] => 0
  | x :: r => uptoBulkEntry x + uptoBulkEntries r
def uptoBulkEntry {H : Type} : Lit × DataW H → Nat
  | (.string bytes, d) => bytes.length + uptoBulk d + 1
  | (_, d) => uptoBulk d + 1
 end
def uptoSmall : (H : Type) → List (DataW H) → Bool := fun _ ds => decide (uptoBulkAll ds ≤ 1048576)
def OpenSpec.upto (s : _root_.Go.ChangeSpec) : _root_.Go.OpenSpec := { _root_.Go.OpenSpec.ofChange s with cond := some uptoSmall }

/-- 'laws.FnExactCallsMost', WHERE WHAT IT READS IS OF BULK AT MOST 1048576: true; the input reads as it did. -/
def fnExactCallsMostUptoRow : OpenClaim := { program := "ytjmhebmjlnianaa", sum := "3cc48293a24f2ef74df6b74eb7ead3e5395b72297e46a6d6024b9f9194337c5d", func := "loop.example/g00074/laws.FnExactCallsMost", spec := "fnExactCallsMost", apart := false, narrowed := true }
def FnExactCallsMostUptoSaid : Prop := fnExactCallsMostUptoRow.holds Try.pinned (OpenSpec.upto fnExactCallsMostSpec)

/-- 'laws.FnExactDiskNew', WHERE WHAT IT READS IS OF BULK AT MOST 1048576: true; the input reads as it did. -/
def fnExactDiskNewUptoRow : OpenClaim := { program := "ytjmhebmjlnianaa", sum := "3cc48293a24f2ef74df6b74eb7ead3e5395b72297e46a6d6024b9f9194337c5d", func := "loop.example/g00074/laws.FnExactDiskNew", spec := "fnExactDiskNew", apart := false, narrowed := true }
def FnExactDiskNewUptoSaid : Prop := fnExactDiskNewUptoRow.holds Try.pinned (OpenSpec.upto fnExactDiskNewSpec)

/-- 'laws.FnExactDiskOk', WHERE WHAT IT READS IS OF BULK AT MOST 1048576: true; the input reads as it did. -/
def fnExactDiskOkUptoRow : OpenClaim := { program := "ytjmhebmjlnianaa", sum := "3cc48293a24f2ef74df6b74eb7ead3e5395b72297e46a6d6024b9f9194337c5d", func := "loop.example/g00074/laws.FnExactDiskOk", spec := "fnExactDiskOk", apart := false, narrowed := true }
def FnExactDiskOkUptoSaid : Prop := fnExactDiskOkUptoRow.holds Try.pinned (OpenSpec.upto fnExactDiskOkSpec)

/-- 'laws.FnExactRaws', WHERE WHAT IT READS IS OF BULK AT MOST 1048576: true; the input reads as it did. -/
def fnExactRawsUptoRow : OpenClaim := { program := "ytjmhebmjlnianaa", sum := "3cc48293a24f2ef74df6b74eb7ead3e5395b72297e46a6d6024b9f9194337c5d", func := "loop.example/g00074/laws.FnExactRaws", spec := "fnExactRaws", apart := false, narrowed := true }
def FnExactRawsUptoSaid : Prop := fnExactRawsUptoRow.holds Try.pinned (OpenSpec.upto fnExactRawsSpec)

/-- 'laws.FnExactWriteOk', WHERE WHAT IT READS IS OF BULK AT MOST 1048576: true; the input reads as it did. -/
def fnExactWriteOkUptoRow : OpenClaim := { program := "ytjmhebmjlnianaa", sum := "3cc48293a24f2ef74df6b74eb7ead3e5395b72297e46a6d6024b9f9194337c5d", func := "loop.example/g00074/laws.FnExactWriteOk", spec := "fnExactWriteOk", apart := false, narrowed := true }
def FnExactWriteOkUptoSaid : Prop := fnExactWriteOkUptoRow.holds Try.pinned (OpenSpec.upto fnExactWriteOkSpec)

/-- 'laws.FnExactLogOk', WHERE WHAT IT READS IS OF BULK AT MOST 1048576: true; the input reads as it did. -/
def fnExactLogOkUptoRow : OpenClaim := { program := "ytjmhebmjlnianaa", sum := "3cc48293a24f2ef74df6b74eb7ead3e5395b72297e46a6d6024b9f9194337c5d", func := "loop.example/g00074/laws.FnExactLogOk", spec := "fnExactLogOk", apart := false, narrowed := true }
def FnExactLogOkUptoSaid : Prop := fnExactLogOkUptoRow.holds Try.pinned (OpenSpec.upto fnExactLogOkSpec)

/-- 'laws.FnExactPut', WHERE WHAT IT READS IS OF BULK AT MOST 1048576: true; the input reads as it did. -/
def fnExactPutUptoRow : OpenClaim := { program := "ytjmhebmjlnianaa", sum := "3cc48293a24f2ef74df6b74eb7ead3e5395b72297e46a6d6024b9f9194337c5d", func := "loop.example/g00074/laws.FnExactPut", spec := "fnExactPut", apart := false, narrowed := true }
def FnExactPutUptoSaid : Prop := fnExactPutUptoRow.holds Try.pinned (OpenSpec.upto fnExactPutSpec)

/-- 'laws.FnExactLatestOf', WHERE WHAT IT READS IS OF BULK AT MOST 1048576: true; the input reads as it did. -/
def fnExactLatestOfUptoRow : OpenClaim := { program := "ytjmhebmjlnianaa", sum := "3cc48293a24f2ef74df6b74eb7ead3e5395b72297e46a6d6024b9f9194337c5d", func := "loop.example/g00074/laws.FnExactLatestOf", spec := "fnExactLatestOf", apart := false, narrowed := true }
def FnExactLatestOfUptoSaid : Prop := fnExactLatestOfUptoRow.holds Try.pinned (OpenSpec.upto fnExactLatestOfSpec)

/-- 'laws.FnExactNextOf', WHERE WHAT IT READS IS OF BULK AT MOST 1048576: true; the input reads as it did. -/
def fnExactNextOfUptoRow : OpenClaim := { program := "ytjmhebmjlnianaa", sum := "3cc48293a24f2ef74df6b74eb7ead3e5395b72297e46a6d6024b9f9194337c5d", func := "loop.example/g00074/laws.FnExactNextOf", spec := "fnExactNextOf", apart := false, narrowed := true }
def FnExactNextOfUptoSaid : Prop := fnExactNextOfUptoRow.holds Try.pinned (OpenSpec.upto fnExactNextOfSpec)

/-- 'laws.FnExactLeafOf', WHERE WHAT IT READS IS OF BULK AT MOST 1048576: true; the input reads as it did. -/
def fnExactLeafOfUptoRow : OpenClaim := { program := "ytjmhebmjlnianaa", sum := "3cc48293a24f2ef74df6b74eb7ead3e5395b72297e46a6d6024b9f9194337c5d", func := "loop.example/g00074/laws.FnExactLeafOf", spec := "fnExactLeafOf", unfollowed := true, recurses := true, apart := false, narrowed := true }
def FnExactLeafOfUptoSaid : Prop := fnExactLeafOfUptoRow.holds Try.pinned (OpenSpec.upto fnExactLeafOfSpec)

/-- 'laws.FnExactLeavesAt', WHERE WHAT IT READS IS OF BULK AT MOST 1048576: true; the input reads as it did. -/
def fnExactLeavesAtUptoRow : OpenClaim := { program := "ytjmhebmjlnianaa", sum := "3cc48293a24f2ef74df6b74eb7ead3e5395b72297e46a6d6024b9f9194337c5d", func := "loop.example/g00074/laws.FnExactLeavesAt", spec := "fnExactLeavesAt", apart := false, narrowed := true }
def FnExactLeavesAtUptoSaid : Prop := fnExactLeavesAtUptoRow.holds Try.pinned (OpenSpec.upto fnExactLeavesAtSpec)

/-- 'laws.FnExactPutAll', WHERE WHAT IT READS IS OF BULK AT MOST 1048576: true; the input reads as it did. -/
def fnExactPutAllUptoRow : OpenClaim := { program := "ytjmhebmjlnianaa", sum := "3cc48293a24f2ef74df6b74eb7ead3e5395b72297e46a6d6024b9f9194337c5d", func := "loop.example/g00074/laws.FnExactPutAll", spec := "fnExactPutAll", apart := false, narrowed := true }
def FnExactPutAllUptoSaid : Prop := fnExactPutAllUptoRow.holds Try.pinned (OpenSpec.upto fnExactPutAllSpec)

/-- 'laws.FnExactAddEntry', WHERE WHAT IT READS IS OF BULK AT MOST 1048576: true; the input reads as it did. -/
def fnExactAddEntryUptoRow : OpenClaim := { program := "ytjmhebmjlnianaa", sum := "3cc48293a24f2ef74df6b74eb7ead3e5395b72297e46a6d6024b9f9194337c5d", func := "loop.example/g00074/laws.FnExactAddEntry", spec := "fnExactAddEntry", apart := false, narrowed := true }
def FnExactAddEntryUptoSaid : Prop := fnExactAddEntryUptoRow.holds Try.pinned (OpenSpec.upto fnExactAddEntrySpec)

/-- 'laws.FnExactCutAt', WHERE WHAT IT READS IS OF BULK AT MOST 1048576: true; the input reads as it did. -/
def fnExactCutAtUptoRow : OpenClaim := { program := "ytjmhebmjlnianaa", sum := "3cc48293a24f2ef74df6b74eb7ead3e5395b72297e46a6d6024b9f9194337c5d", func := "loop.example/g00074/laws.FnExactCutAt", spec := "fnExactCutAt", apart := false, narrowed := true }
def FnExactCutAtUptoSaid : Prop := fnExactCutAtUptoRow.holds Try.pinned (OpenSpec.upto fnExactCutAtSpec)

/-- 'laws.FnCutBytes', WHERE WHAT IT READS IS OF BULK AT MOST 1048576: true; the input reads as it did. -/
def fnCutBytesUptoRow : OpenClaim := { program := "ytjmhebmjlnianaa", sum := "3cc48293a24f2ef74df6b74eb7ead3e5395b72297e46a6d6024b9f9194337c5d", func := "loop.example/g00074/laws.FnCutBytes", spec := "fnCutBytes", apart := false, narrowed := true }
def FnCutBytesUptoSaid : Prop := fnCutBytesUptoRow.holds Try.pinned (OpenSpec.upto fnCutBytesSpec)

end Rows
end Go.Proofs.Ytjmhebmjlnianaa
