/-
  No cell of these rows narrows 'for every input' (looked for: loops, veiled, ifaces, maps, wideKeys, modest, calm, conditions, laid).
  DERIVED. THE GIVEN ROWS OF THIS SEAT. 5 by the template 'for every input the law returns true; each argument reads behind the call as it read before'; 0 by the template 'total and deterministic' (their statements: YtoccjgcokffkbaaGreatTotals.lean).
  GIVEN WITH THE SEED: the statements are not yours to turn. If you find one false, say at which input.
  Laid BY PROGRAM, IN A SANDBOX (cutbox-rows.mjs): the forced cells as the released guide's own fill.sh prints them over the translation f72afd6ced6aa10b… (all of the seat's roots in one cut). By AI agents, Wed Nov 11 2026. No macro, syntax, notation, axiom, sorry.
-/
import Derived.Test.YtoccjgcokffkbaaGreatChecked
import GoSem.Claim
import GoSem.ClaimJoined
import GoSem.ClaimMapViews
import Derived.JoinedTies
import Derived.KernelRfl
namespace Go.Proofs.YtoccjgcokffkbaaGreat
/- THE CELL 'sum', in the pinned program and in every row, IS THE sha256 OF THE DUMP (.gsa) THAT YtoccjgcokffkbaaGreatProg.lean LOADS. Nothing in Lean hashes anything: it is a label: what it is worth is what the hold of that sum in a sandbox is worth. -/
noncomputable def Tryz.pinned : Pinned := { name := "ytoccjgcokffkbaagreat", sum := "f72afd6ced6aa10bb3211a0de57545cdd7ca19176cb699795d4e0017f9603a40", checked := Tryz.checked }
namespace Rows
def none {H : Type} : Left H := { results := [], args := [] }

/-- 'laws.FnAudits': WHATEVER THE INPUT: true; the input reads as it did. -/
def fnAuditsSpec : ChangeSpec := { name := "fnAudits", fn := fun _ => fun
  | [d] => { results := [.lit (.bool true)], args := [d] }
  | _ => none }
def fnAuditsRow : OpenClaim := { program := "ytoccjgcokffkbaagreat", sum := "f72afd6ced6aa10bb3211a0de57545cdd7ca19176cb699795d4e0017f9603a40", func := "loop.example/g00074/laws.FnAudits", spec := "fnAudits", inPlace := ["internal/abi.NoEscape", "internal/bytealg.MakeNoZero"], unfollowed := true, recurses := true, plainKeys := false, apart := false }
def FnAuditsSaid : Prop := fnAuditsRow.holds Tryz.pinned (OpenSpec.ofChange fnAuditsSpec)

/-- ITS FALSE NEIGHBOUR: 'it returns false'. Refute it at one input. -/
def fnAuditsWrong : ChangeSpec := { name := "fnAudits", fn := fun _ => fun
  | [d] => { results := [.lit (.bool false)], args := [d] }
  | _ => none }
def FnAuditsWrongFalsely : Prop := fnAuditsRow.holds Tryz.pinned (OpenSpec.ofChange fnAuditsWrong)

/-- 'laws.FnLater': WHATEVER THE INPUT: true; the input reads as it did. -/
def fnLaterSpec : ChangeSpec := { name := "fnLater", fn := fun _ => fun
  | [d] => { results := [.lit (.bool true)], args := [d] }
  | _ => none }
def fnLaterRow : OpenClaim := { program := "ytoccjgcokffkbaagreat", sum := "f72afd6ced6aa10bb3211a0de57545cdd7ca19176cb699795d4e0017f9603a40", func := "loop.example/g00074/laws.FnLater", spec := "fnLater", inPlace := ["internal/abi.NoEscape", "internal/bytealg.MakeNoZero"], unfollowed := true, recurses := true, plainKeys := false, apart := false }
def FnLaterSaid : Prop := fnLaterRow.holds Tryz.pinned (OpenSpec.ofChange fnLaterSpec)

/-- ITS FALSE NEIGHBOUR: 'it returns false'. Refute it at one input. -/
def fnLaterWrong : ChangeSpec := { name := "fnLater", fn := fun _ => fun
  | [d] => { results := [.lit (.bool false)], args := [d] }
  | _ => none }
def FnLaterWrongFalsely : Prop := fnLaterRow.holds Tryz.pinned (OpenSpec.ofChange fnLaterWrong)

/-- 'laws.FnProofs': WHATEVER THE INPUT: true; the input reads as it did. -/
def fnProofsSpec : ChangeSpec := { name := "fnProofs", fn := fun _ => fun
  | [d] => { results := [.lit (.bool true)], args := [d] }
  | _ => none }
def fnProofsRow : OpenClaim := { program := "ytoccjgcokffkbaagreat", sum := "f72afd6ced6aa10bb3211a0de57545cdd7ca19176cb699795d4e0017f9603a40", func := "loop.example/g00074/laws.FnProofs", spec := "fnProofs", inPlace := ["internal/abi.NoEscape", "internal/bytealg.MakeNoZero"], unfollowed := true, recurses := true, plainKeys := false, apart := false }
def FnProofsSaid : Prop := fnProofsRow.holds Tryz.pinned (OpenSpec.ofChange fnProofsSpec)

/-- ITS FALSE NEIGHBOUR: 'it returns false'. Refute it at one input. -/
def fnProofsWrong : ChangeSpec := { name := "fnProofs", fn := fun _ => fun
  | [d] => { results := [.lit (.bool false)], args := [d] }
  | _ => none }
def FnProofsWrongFalsely : Prop := fnProofsRow.holds Tryz.pinned (OpenSpec.ofChange fnProofsWrong)

/-- 'laws.FnDeeds': WHATEVER THE INPUT: true; the input reads as it did. -/
def fnDeedsSpec : ChangeSpec := { name := "fnDeeds", fn := fun _ => fun
  | [d] => { results := [.lit (.bool true)], args := [d] }
  | _ => none }
def fnDeedsRow : OpenClaim := { program := "ytoccjgcokffkbaagreat", sum := "f72afd6ced6aa10bb3211a0de57545cdd7ca19176cb699795d4e0017f9603a40", func := "loop.example/g00074/laws.FnDeeds", spec := "fnDeeds", inPlace := ["internal/abi.NoEscape", "internal/bytealg.MakeNoZero"], unfollowed := true, recurses := true, plainKeys := false, apart := false }
def FnDeedsSaid : Prop := fnDeedsRow.holds Tryz.pinned (OpenSpec.ofChange fnDeedsSpec)

/-- ITS FALSE NEIGHBOUR: 'it returns false'. Refute it at one input. -/
def fnDeedsWrong : ChangeSpec := { name := "fnDeeds", fn := fun _ => fun
  | [d] => { results := [.lit (.bool false)], args := [d] }
  | _ => none }
def FnDeedsWrongFalsely : Prop := fnDeedsRow.holds Tryz.pinned (OpenSpec.ofChange fnDeedsWrong)

/-- 'laws.FnWrites': WHATEVER THE INPUT: true; the input reads as it did. -/
def fnWritesSpec : ChangeSpec := { name := "fnWrites", fn := fun _ => fun
  | [d] => { results := [.lit (.bool true)], args := [d] }
  | _ => none }
def fnWritesRow : OpenClaim := { program := "ytoccjgcokffkbaagreat", sum := "f72afd6ced6aa10bb3211a0de57545cdd7ca19176cb699795d4e0017f9603a40", func := "loop.example/g00074/laws.FnWrites", spec := "fnWrites", inPlace := ["internal/abi.NoEscape", "internal/bytealg.MakeNoZero"], unfollowed := true, recurses := true, plainKeys := false, apart := false }
def FnWritesSaid : Prop := fnWritesRow.holds Tryz.pinned (OpenSpec.ofChange fnWritesSpec)

/-- ITS FALSE NEIGHBOUR: 'it returns false'. Refute it at one input. -/
def fnWritesWrong : ChangeSpec := { name := "fnWrites", fn := fun _ => fun
  | [d] => { results := [.lit (.bool false)], args := [d] }
  | _ => none }
def FnWritesWrongFalsely : Prop := fnWritesRow.holds Tryz.pinned (OpenSpec.ofChange fnWritesWrong)

/- THE SECOND FORM. 'bulk': how many values and letters a reading holds, each counted each time it is reached (what is shared counts as often as it is met; a slice's spare places count too). A statement '..UptoSaid' is the law's where the arguments, and the package variables that the reading takes, are together of bulk at most 1048576: NARROWER than '..Said'. Prove '..Said' where nothing that the law and all that it calls make is longer than what came in: it says more and counts as full. Else prove '..UptoSaid'. A law counts once. -/
mutual
def uptoBulk {H : Type} : DataW H → Nat
  | .lit (.string bytes) => bytes.length + 1
  | .lit _ => 1
  | .nil => 1
  | .ptr d => uptoBulk d + 1
  | .slice elems spare => uptoBulkAll elems + uptoBulkAll spare + 1
  | .agg parts => uptoBulkAll parts + 1
  | .iface _ d => uptoBulk d + 1
  | .map entries => uptoBulkEntries entries + 1
  | .held _ => 1
def uptoBulkAll {H : Type} : List (DataW H) → Nat
  | [] => 0
  | d :: r => uptoBulk d + uptoBulkAll r
def uptoBulkEntries {H : Type} : List (Lit × DataW H) → Nat
  | [] => 0
  | x :: r => uptoBulkEntry x + uptoBulkEntries r
def uptoBulkEntry {H : Type} : Lit × DataW H → Nat
  | (.string bytes, d) => bytes.length + uptoBulk d + 1
  | (_, d) => uptoBulk d + 1
 end
def uptoSmall : (H : Type) → List (DataW H) → Bool := fun _ ds => decide (uptoBulkAll ds ≤ 1048576)
def OpenSpec.upto (s : _root_.Go.ChangeSpec) : _root_.Go.OpenSpec := { _root_.Go.OpenSpec.ofChange s with cond := some uptoSmall }

/-- 'laws.FnAudits', WHERE WHAT IT READS IS OF BULK AT MOST 1048576: true; the input reads as it did. -/
def fnAuditsUptoRow : OpenClaim := { program := "ytoccjgcokffkbaagreat", sum := "f72afd6ced6aa10bb3211a0de57545cdd7ca19176cb699795d4e0017f9603a40", func := "loop.example/g00074/laws.FnAudits", spec := "fnAudits", inPlace := ["internal/abi.NoEscape", "internal/bytealg.MakeNoZero"], unfollowed := true, recurses := true, plainKeys := false, apart := false, narrowed := true }
def FnAuditsUptoSaid : Prop := fnAuditsUptoRow.holds Tryz.pinned (OpenSpec.upto fnAuditsSpec)

/-- 'laws.FnLater', WHERE WHAT IT READS IS OF BULK AT MOST 1048576: true; the input reads as it did. -/
def fnLaterUptoRow : OpenClaim := { program := "ytoccjgcokffkbaagreat", sum := "f72afd6ced6aa10bb3211a0de57545cdd7ca19176cb699795d4e0017f9603a40", func := "loop.example/g00074/laws.FnLater", spec := "fnLater", inPlace := ["internal/abi.NoEscape", "internal/bytealg.MakeNoZero"], unfollowed := true, recurses := true, plainKeys := false, apart := false, narrowed := true }
def FnLaterUptoSaid : Prop := fnLaterUptoRow.holds Tryz.pinned (OpenSpec.upto fnLaterSpec)

/-- 'laws.FnProofs', WHERE WHAT IT READS IS OF BULK AT MOST 1048576: true; the input reads as it did. -/
def fnProofsUptoRow : OpenClaim := { program := "ytoccjgcokffkbaagreat", sum := "f72afd6ced6aa10bb3211a0de57545cdd7ca19176cb699795d4e0017f9603a40", func := "loop.example/g00074/laws.FnProofs", spec := "fnProofs", inPlace := ["internal/abi.NoEscape", "internal/bytealg.MakeNoZero"], unfollowed := true, recurses := true, plainKeys := false, apart := false, narrowed := true }
def FnProofsUptoSaid : Prop := fnProofsUptoRow.holds Tryz.pinned (OpenSpec.upto fnProofsSpec)

/-- 'laws.FnDeeds', WHERE WHAT IT READS IS OF BULK AT MOST 1048576: true; the input reads as it did. -/
def fnDeedsUptoRow : OpenClaim := { program := "ytoccjgcokffkbaagreat", sum := "f72afd6ced6aa10bb3211a0de57545cdd7ca19176cb699795d4e0017f9603a40", func := "loop.example/g00074/laws.FnDeeds", spec := "fnDeeds", inPlace := ["internal/abi.NoEscape", "internal/bytealg.MakeNoZero"], unfollowed := true, recurses := true, plainKeys := false, apart := false, narrowed := true }
def FnDeedsUptoSaid : Prop := fnDeedsUptoRow.holds Tryz.pinned (OpenSpec.upto fnDeedsSpec)

/-- 'laws.FnWrites', WHERE WHAT IT READS IS OF BULK AT MOST 1048576: true; the input reads as it did. -/
def fnWritesUptoRow : OpenClaim := { program := "ytoccjgcokffkbaagreat", sum := "f72afd6ced6aa10bb3211a0de57545cdd7ca19176cb699795d4e0017f9603a40", func := "loop.example/g00074/laws.FnWrites", spec := "fnWrites", inPlace := ["internal/abi.NoEscape", "internal/bytealg.MakeNoZero"], unfollowed := true, recurses := true, plainKeys := false, apart := false, narrowed := true }
def FnWritesUptoSaid : Prop := fnWritesUptoRow.holds Tryz.pinned (OpenSpec.upto fnWritesSpec)

end Rows
end Go.Proofs.YtoccjgcokffkbaaGreat
