/- What the laws' own helpers do to a slice of strings. -/
import Derived.Test.YtoccjgcokffkbaaRows
import Derived.Test.YtoccjgcokffkbaaKit
namespace Go.Proofs.Ytoccjgcokffkbaa
set_option linter.unusedVariables false
set_option linter.unusedSimpArgs false
open Go.RowKit


theorem info_string : (Try.prog.info? 9).map (fun i => (i.zero, i.size, i.bytes)) = some (some (.string ByteArray.empty), 1, 16) := by kernel_rfl
theorem info_int : (Try.prog.info? 3).map (fun i => (i.zero, i.size, i.bytes)) = some (some (.int .i64 0), 1, 8) := by kernel_rfl

/-- the first k of n cells are taken over, the others are as they were -/
theorem set_next {α : Type} {xs ys : List α} {k : Nat} {u : α} (hx : xs[k]? = some u) (hk : k < ys.length) : (xs.take k ++ ys.drop k).set k u = xs.take (k + 1) ++ ys.drop (k + 1) := by
 have hl : (xs.take k).length = k := by rw [List.length_take]; have := (List.getElem?_eq_some_iff.1 hx).1; omega
 rw [List.set_append, if_neg (by omega), hl, Nat.sub_self, take_succ hx, List.append_assoc]
 congr 1
 rw [List.drop_eq_getElem_cons hk]
 rfl


/-- text k of the marks: what markText gives -/
def mtLoop : Nat → Nat → ByteArray → ByteArray
 | 0, _, s => s
 | f + 1, k, s => if k = 0 then s else mtLoop f (k / 10) (⟨#[UInt8.ofNat (48 + k % 10)]⟩ ++ s)
def mt (k : Nat) : ByteArray := if k = 0 then ⟨#[109, 48]⟩ else ⟨#[109]⟩ ++ mtLoop 64 k ByteArray.empty



/-- n marks, from the k-th on -/
def marks (k n : Nat) : List ByteArray := (List.range n).map fun i => mt (k + i)
theorem marks_len (k n : Nat) : (marks k n).length = n := by simp [marks]
theorem marks_get {k n i : Nat} (h : i < n) : (marks k n)[i]? = some (mt (k + i)) := by simp [marks, h]


end Go.Proofs.Ytoccjgcokffkbaa
