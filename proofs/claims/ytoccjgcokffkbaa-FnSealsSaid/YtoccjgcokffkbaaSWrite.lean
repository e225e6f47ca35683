/- What the laws' helpers do to a Write and to a slice of them. Written by gen_struct.py. -/
import Derived.Test.YtoccjgcokffkbaaStr
import Derived.Test.YtoccjgcokffkbaaData
namespace Go.Proofs.Ytoccjgcokffkbaa
set_option linter.unusedVariables false
set_option linter.unusedSimpArgs false
open Go.RowKit

theorem info_Write : (Try.prog.info? 33).map (fun i => (i.zero, i.size, i.bytes)) = some (some (.agg #[.int .i64 0, .int .i64 0, .string ByteArray.empty]), 3, 32) := by kernel_rfl
/-- the marks of one, and of n -/
def mkWrite (k : Nat) : Wri := ⟨(k : Int), (k : Int) + 1, mt (k + 2)⟩
def mksWrite (k n : Nat) : List Wri := (List.range n).map fun i => mkWrite (k + i * 3)
theorem mksWrite_len (k n : Nat) : (mksWrite k n).length = n := by simp [mksWrite]
theorem mksWrite_get {k n i : Nat} (h : i < n) : (mksWrite k n)[i]? = some (mkWrite (k + i * 3)) := by simp [mksWrite, h]

end Go.Proofs.Ytoccjgcokffkbaa
