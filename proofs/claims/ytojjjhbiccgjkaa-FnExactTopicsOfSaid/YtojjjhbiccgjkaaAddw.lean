/- What the end of the mixing adds, as one list. -/
import Derived.Test.YtojjjhbiccgjkaaMix
namespace Go.Proofs.Ytojjjhbiccgjkaa
set_option linter.unusedVariables false
set_option linter.unusedSimpArgs false
open Go.RowKit
theorem addW_all (s u : List Int) (h : u.length = 8) : (List.range 8).map (fun q => (u.getD q 0 + s.getD q 0) % 4294967296) = addW s u 8 := by
  obtain ⟨a, b, c, d, e, f, g, i, rfl⟩ := list8 h
  rfl
end Go.Proofs.Ytojjjhbiccgjkaa
