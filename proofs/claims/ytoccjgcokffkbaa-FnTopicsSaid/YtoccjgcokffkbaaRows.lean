/-
  No cell of these rows narrows 'for every input' (looked for: loops, veiled, ifaces, maps, wideKeys, modest, calm, conditions, laid).
  DERIVED. THE GIVEN ROWS OF THIS SEAT. 4 by the template 'for every input the law returns true; each argument reads behind the call as it read before'; 0 by the template 'total and deterministic' (their statements: YtoccjgcokffkbaaTotals.lean).
  GIVEN WITH THE SEED: the statements are not yours to turn. If you find one false, say at which input.
  Laid BY PROGRAM, IN A SANDBOX (cutbox-rows.mjs): the forced cells as the released guide's own fill.sh prints them over the translation a6c7b74d684ec470… (all of the seat's roots in one cut). By AI agents, Wed Nov 11 2026. No macro, syntax, notation, axiom, sorry.
-/
import Derived.Test.YtoccjgcokffkbaaChecked
import GoSem.Claim
import GoSem.ClaimJoined
import GoSem.ClaimMapViews
import Derived.JoinedTies
import Derived.KernelRfl
namespace Go.Proofs.Ytoccjgcokffkbaa
/- THE CELL 'sum', in the pinned program and in every row, IS THE sha256 OF THE DUMP (.gsa) THAT YtoccjgcokffkbaaProg.lean LOADS. Nothing in Lean hashes anything: it is a label: what it is worth is what the hold of that sum in a sandbox is worth. -/
noncomputable def Try.pinned : Pinned := { name := "ytoccjgcokffkbaa", sum := "a6c7b74d684ec470be04b9fe6e87ede9bd7f22112ac55be2f9517dca1d0ca1cd", checked := Try.checked }
namespace Rows
def none {H : Type} : Left H := { results := [], args := [] }

/-- 'laws.FnCutBytes': WHATEVER THE INPUT: true; the input reads as it did. -/
def fnCutBytesSpec : ChangeSpec := { name := "fnCutBytes", fn := fun _ => fun
  | [d] => { results := [.lit (.bool true)], args := [d] }
  | _ => none }
def fnCutBytesRow : OpenClaim := { program := "ytoccjgcokffkbaa", sum := "a6c7b74d684ec470be04b9fe6e87ede9bd7f22112ac55be2f9517dca1d0ca1cd", func := "loop.example/g00074/laws.FnCutBytes", spec := "fnCutBytes", apart := false }
def FnCutBytesSaid : Prop := fnCutBytesRow.holds Try.pinned (OpenSpec.ofChange fnCutBytesSpec)

/-- ITS FALSE NEIGHBOUR: 'it returns false'. Refute it at one input. -/
def fnCutBytesWrong : ChangeSpec := { name := "fnCutBytes", fn := fun _ => fun
  | [d] => { results := [.lit (.bool false)], args := [d] }
  | _ => none }
def FnCutBytesWrongFalsely : Prop := fnCutBytesRow.holds Try.pinned (OpenSpec.ofChange fnCutBytesWrong)

/-- 'laws.FnAdds': WHATEVER THE INPUT: true; the input reads as it did. -/
def fnAddsSpec : ChangeSpec := { name := "fnAdds", fn := fun _ => fun
  | [d] => { results := [.lit (.bool true)], args := [d] }
  | _ => none }
def fnAddsRow : OpenClaim := { program := "ytoccjgcokffkbaa", sum := "a6c7b74d684ec470be04b9fe6e87ede9bd7f22112ac55be2f9517dca1d0ca1cd", func := "loop.example/g00074/laws.FnAdds", spec := "fnAdds", unfollowed := true, recurses := true, apart := false }
def FnAddsSaid : Prop := fnAddsRow.holds Try.pinned (OpenSpec.ofChange fnAddsSpec)

/-- ITS FALSE NEIGHBOUR: 'it returns false'. Refute it at one input. -/
def fnAddsWrong : ChangeSpec := { name := "fnAdds", fn := fun _ => fun
  | [d] => { results := [.lit (.bool false)], args := [d] }
  | _ => none }
def FnAddsWrongFalsely : Prop := fnAddsRow.holds Try.pinned (OpenSpec.ofChange fnAddsWrong)

/-- 'laws.FnSeals': WHATEVER THE INPUT: true; the input reads as it did. -/
def fnSealsSpec : ChangeSpec := { name := "fnSeals", fn := fun _ => fun
  | [d] => { results := [.lit (.bool true)], args := [d] }
  | _ => none }
def fnSealsRow : OpenClaim := { program := "ytoccjgcokffkbaa", sum := "a6c7b74d684ec470be04b9fe6e87ede9bd7f22112ac55be2f9517dca1d0ca1cd", func := "loop.example/g00074/laws.FnSeals", spec := "fnSeals", inPlace := ["internal/abi.NoEscape", "internal/bytealg.MakeNoZero"], apart := false }
def FnSealsSaid : Prop := fnSealsRow.holds Try.pinned (OpenSpec.ofChange fnSealsSpec)

/-- ITS FALSE NEIGHBOUR: 'it returns false'. Refute it at one input. -/
def fnSealsWrong : ChangeSpec := { name := "fnSeals", fn := fun _ => fun
  | [d] => { results := [.lit (.bool false)], args := [d] }
  | _ => none }
def FnSealsWrongFalsely : Prop := fnSealsRow.holds Try.pinned (OpenSpec.ofChange fnSealsWrong)

/-- 'laws.FnTopics': WHATEVER THE INPUT: true; the input reads as it did. -/
def fnTopicsSpec : ChangeSpec := { name := "fnTopics", fn := fun _ => fun
  | [d] => { results := [.lit (.bool true)], args := [d] }
  | _ => none }
def fnTopicsRow : OpenClaim := { program := "ytoccjgcokffkbaa", sum := "a6c7b74d684ec470be04b9fe6e87ede9bd7f22112ac55be2f9517dca1d0ca1cd", func := "loop.example/g00074/laws.FnTopics", spec := "fnTopics", unfollowed := true, recurses := true, apart := false }
def FnTopicsSaid : Prop := fnTopicsRow.holds Try.pinned (OpenSpec.ofChange fnTopicsSpec)

/-- ITS FALSE NEIGHBOUR: 'it returns false'. Refute it at one input. -/
def fnTopicsWrong : ChangeSpec := { name := "fnTopics", fn := fun _ => fun
  | [d] => { results := [.lit (.bool false)], args := [d] }
  | _ => none }
def FnTopicsWrongFalsely : Prop := fnTopicsRow.holds Try.pinned (OpenSpec.ofChange fnTopicsWrong)

/- THE SECOND FORM. 'bulk': how many values and letters a reading holds, each counted each time it is reached (what is shared counts as often as it is met; a slice's spare places count too). A statement '..UptoSaid' is the law's where the arguments, and the package variables that the reading takes, are together of bulk at most 1048576: NARROWER than '..Said'. Prove '..Said' where nothing that the law and all that it calls make is longer than what came in: it says more and counts as full. Else prove '..UptoSaid'. A law counts once. -/
mutual
def uptoBulk {H : Type} : DataW H → Nat
  | .lit (.string bytes) => bytes.length + 1
  | .lit _ => 1
  | .nil => 1
  | .ptr d => uptoBulk d + 1
  | .slice elems spare => uptoBulkAll elems + uptoBulkAll spare + 1
  | .agg parts => uptoBulkAll parts + 1
  | .iface _ d => uptoBulk d + 1
  | .map entries => uptoBulkEntries entries + 1
  | .held _ => 1
def uptoBulkAll {H : Type} : List (DataW H) → Nat
  | [] => 0
  | d :: r => uptoBulk d + uptoBulkAll r
def uptoBulkEntries {H : Type} : List (Lit × DataW H) → Nat
  | [] => 0
  | x :: r => uptoBulkEntry x + uptoBulkEntries r
def uptoBulkEntry {H : Type} : Lit × DataW H → Nat
  | (.string bytes, d) => bytes.length + uptoBulk d + 1
  | (_, d) => uptoBulk d + 1
 end
def uptoSmall : (H : Type) → List (DataW H) → Bool := fun _ ds => decide (uptoBulkAll ds ≤ 1048576)
def OpenSpec.upto (s : _root_.Go.ChangeSpec) : _root_.Go.OpenSpec := { _root_.Go.OpenSpec.ofChange s with cond := some uptoSmall }

/-- 'laws.FnCutBytes', WHERE WHAT IT READS IS OF BULK AT MOST 1048576: true; the input reads as it did. -/
def fnCutBytesUptoRow : OpenClaim := { program := "ytoccjgcokffkbaa", sum := "a6c7b74d684ec470be04b9fe6e87ede9bd7f22112ac55be2f9517dca1d0ca1cd", func := "loop.example/g00074/laws.FnCutBytes", spec := "fnCutBytes", apart := false, narrowed := true }
def FnCutBytesUptoSaid : Prop := fnCutBytesUptoRow.holds Try.pinned (OpenSpec.upto fnCutBytesSpec)

/-- 'laws.FnAdds', WHERE WHAT IT READS IS OF BULK AT MOST 1048576: true; the input reads as it did. -/
def fnAddsUptoRow : OpenClaim := { program := "ytoccjgcokffkbaa", sum := "a6c7b74d684ec470be04b9fe6e87ede9bd7f22112ac55be2f9517dca1d0ca1cd", func := "loop.example/g00074/laws.FnAdds", spec := "fnAdds", unfollowed := true, recurses := true, apart := false, narrowed := true }
def FnAddsUptoSaid : Prop := fnAddsUptoRow.holds Try.pinned (OpenSpec.upto fnAddsSpec)

/-- 'laws.FnSeals', WHERE WHAT IT READS IS OF BULK AT MOST 1048576: true; the input reads as it did. -/
def fnSealsUptoRow : OpenClaim := { program := "ytoccjgcokffkbaa", sum := "a6c7b74d684ec470be04b9fe6e87ede9bd7f22112ac55be2f9517dca1d0ca1cd", func := "loop.example/g00074/laws.FnSeals", spec := "fnSeals", inPlace := ["internal/abi.NoEscape", "internal/bytealg.MakeNoZero"], apart := false, narrowed := true }
def FnSealsUptoSaid : Prop := fnSealsUptoRow.holds Try.pinned (OpenSpec.upto fnSealsSpec)

/-- 'laws.FnTopics', WHERE WHAT IT READS IS OF BULK AT MOST 1048576: true; the input reads as it did. -/
def fnTopicsUptoRow : OpenClaim := { program := "ytoccjgcokffkbaa", sum := "a6c7b74d684ec470be04b9fe6e87ede9bd7f22112ac55be2f9517dca1d0ca1cd", func := "loop.example/g00074/laws.FnTopics", spec := "fnTopics", unfollowed := true, recurses := true, apart := false, narrowed := true }
def FnTopicsUptoSaid : Prop := fnTopicsUptoRow.holds Try.pinned (OpenSpec.upto fnTopicsSpec)

end Rows
end Go.Proofs.Ytoccjgcokffkbaa
