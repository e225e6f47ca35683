/- What the laws' own helpers do to a slice of ints. -/
import Derived.Test.YtoccjgcokffkbaaStr
namespace Go.Proofs.Ytoccjgcokffkbaa
set_option linter.unusedVariables false
set_option linter.unusedSimpArgs false
open Go.RowKit

/-- number k of a slice of ints -/
theorem Rd.int {w : World} {lo hi : Nat} {A : Option Addr} {l : List Int} (h : Rd w lo hi A (ints l)) {k : Nat} (hk : k < l.length) :
  ∃ b off s, A = some ⟨b, off, none⟩ ∧ b < w.heap.size ∧ l[k]? = some s ∧ w.cell? ⟨b, off + k, none⟩ = some (.int .i64 s) := by
 obtain ⟨b, off, h1, h2, h3⟩ := h.at_ (j := k) (by simpa [ints] using hk)
 exact ⟨b, off, l[k], h1, h2, List.getElem?_eq_getElem hk, h3 k _ (ints_get (List.getElem?_eq_getElem hk))⟩


/-- n marks, from the k-th on -/
def mksInt (k n : Nat) : List Int := (List.range n).map fun i => ((k + i : Nat) : Int)
theorem mksInt_len (k n : Nat) : (mksInt k n).length = n := by simp [mksInt]
theorem mksInt_get {k n i : Nat} (h : i < n) : (mksInt k n)[i]? = some ((k + i : Nat) : Int) := by simp [mksInt, h]

end Go.Proofs.Ytoccjgcokffkbaa
