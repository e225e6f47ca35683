/- strings.Builder, by the shelf's contracts. -/
import Derived.Test.YtojjjhbiccgjkaaProg
import Derived.Test.YtojjjhbiccgjkaaRep
import Derived.Shelf.Strings.BuilderF
namespace Go.Proofs.Ytojjjhbiccgjkaa
set_option linter.unusedVariables false
set_option linter.unusedSimpArgs false
open Go.Shelf Go.RowKit

theorem fWrite : laysRepeat_ren.f 166 = 113 := by kernel_rfl
theorem fString : laysRepeat_ren.f 169 = 114 := by kernel_rfl
theorem tBld : laysRepeat_ren.t 72 = 122 := by kernel_rfl
theorem tByte : laysRepeat_ren.t 5 = 5 := by kernel_rfl
abbrev IsBld (B b : Nat) (l : List UInt8) (w : World) : Prop := Lib.IsBuilderF 122 5 B b (Lib.byteCells l) w
theorem bld_new (w : World) : IsBld w.heap.size w.heap.size [] (w.alloc (.cells #[.pointer none, .slice none 0 0] 122)) := Lib.IsBuilderF.of (Lib.fresh_isBuilder 122 5 w)
theorem cells_append (l : List UInt8) (s : ByteArray) : Lib.byteCells l ++ Lib.strCells s = Lib.byteCells (l ++ s.data.toList) := by simp [Lib.byteCells, Lib.strCells]
theorem Write_c (B b : Nat) (l : List UInt8) (s : ByteArray) (w : World) (h : IsBld B b l w) (hlen : l.length + s.size ≤ 100000000) (hBw : B ≤ w.heap.size) :
    Calls Try.prog 113 #[.pointer (some ⟨b, 0, none⟩), .string s] w fun e w' => e = .returned (.tuple #[.int .i64 s.size, .nilIface]) ∧ IsBld B b (l ++ s.data.toList) w' ∧ Below B w w' := by
  have hl : (Lib.byteCells l).length + s.size ≤ 140737488355328 := by simp [Lib.byteCells]; omega
  have h' : Lib.IsBuilderF (laysRepeat_ren.t 72) (laysRepeat_ren.t 5) B b (Lib.byteCells l) w := by rw [tBld, tByte]; exact h
  have := Any.Builder_WriteString_f { laysRepeat with } extraRepeat B b (Lib.byteCells l) s w h' hl hBw
  rw [tBld, tByte, fWrite] at this
  refine this.mono fun e w' hh => ⟨hh.1, ?_, hh.2.2⟩
  have h2 := hh.2.1
  rw [cells_append] at h2
  exact Or.inr h2
theorem String_c (B b : Nat) (l : List UInt8) (w : World) (h : IsBld B b l w) (hBw : B ≤ w.heap.size) :
    Calls Try.prog 114 #[.pointer (some ⟨b, 0, none⟩)] w fun e w' => e = .returned (.string ⟨l.toArray⟩) ∧ Below B w w' := by
  have h' : Lib.IsBuilderF (laysRepeat_ren.t 72) (laysRepeat_ren.t 5) B b (Lib.byteCells l) w := by rw [tBld, tByte]; exact h
  have := Any.Builder_String_any_f { laysRepeat with } extraRepeat B b l w h' hBw
  rw [tBld, tByte, fString] at this
  exact this.mono fun e w' hh => ⟨hh.1, hh.2.2⟩
end Go.Proofs.Ytojjjhbiccgjkaa
