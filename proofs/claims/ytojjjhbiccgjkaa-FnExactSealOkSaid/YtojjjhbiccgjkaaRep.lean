/- strings.Repeat, by the shelf's contract. -/
import Derived.Test.YtojjjhbiccgjkaaBytes
import Derived.Shelf.Strings.Repeat
import Derived.Shelf.Lay
import Derived.Ground.NamesProg
import Derived.Lib.Agree
namespace Go.Proofs.Ytojjjhbiccgjkaa
set_option linter.unusedVariables false
set_option linter.unusedSimpArgs false
open Go.Shelf Go.RowKit

shelf_lay Lays.n105 Nm 105 at Try as laysRepeat

theorem extraRepeat : Builder.Extra Try.prog laysRepeat_ren where
  sizeBuilder := by kernel_rfl
  liesBuilder := by kernel_rfl
  t5 := laysRepeat.t5
  a5 := laysRepeat.a5
  z5 := laysRepeat.z5
  v5 := laysRepeat.v5
  infoByte := by kernel_rfl
  cellsByte := by kernel_rfl
  sizeByte := by kernel_rfl
  neB5 := by decide

theorem fRepeat : laysRepeat_ren.f 105 = 201 := by kernel_rfl
theorem Repeat_c (s : ByteArray) (c : Nat) (w : World) (hc : c ≤ 1000000) (hs : s.size * c ≤ 1000000) :
    Calls Try.prog 201 #[.string s, .int .i64 c] w fun e w' => e = .returned (.string ⟨(Lib.repeatL s.data.toList c).toArray⟩) ∧ Below w.heap.size w w' := by
  have h := Any.strings_Repeat laysRepeat extraRepeat s c w (by omega) (by omega)
  rw [fRepeat] at h
  exact h
end Go.Proofs.Ytojjjhbiccgjkaa
