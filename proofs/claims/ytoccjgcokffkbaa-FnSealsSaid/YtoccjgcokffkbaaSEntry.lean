/- What the laws' helpers do to a Entry and to a slice of them. Written by gen_struct.py. -/
import Derived.Test.YtoccjgcokffkbaaStr
import Derived.Test.YtoccjgcokffkbaaData
namespace Go.Proofs.Ytoccjgcokffkbaa
set_option linter.unusedVariables false
set_option linter.unusedSimpArgs false
open Go.RowKit

theorem info_Entry : (Try.prog.info? 55).map (fun i => (i.zero, i.size, i.bytes)) = some (some (.agg #[.string ByteArray.empty, .int .i64 0, .int .i64 0, .string ByteArray.empty, .string ByteArray.empty]), 5, 64) := by kernel_rfl
/-- the marks of one, and of n -/
def mkEntry (k : Nat) : Ent := ⟨mt (k), (k : Int) + 1, (k : Int) + 1 + 1, mt (k + 3), mt (k + 4)⟩
def mksEntry (k n : Nat) : List Ent := (List.range n).map fun i => mkEntry (k + i * 5)
theorem mksEntry_len (k n : Nat) : (mksEntry k n).length = n := by simp [mksEntry]
theorem mksEntry_get {k n i : Nat} (h : i < n) : (mksEntry k n)[i]? = some (mkEntry (k + i * 5)) := by simp [mksEntry, h]

end Go.Proofs.Ytoccjgcokffkbaa
