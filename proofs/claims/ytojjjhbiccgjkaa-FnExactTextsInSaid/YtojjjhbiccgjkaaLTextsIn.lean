/- FnExactTextsIn holds: for every width, size, place, leaf and proof the program TextsIn answers as the reference does. No condition. -/
import Derived.Test.YtojjjhbiccgjkaaKTextsIn
import Derived.Test.YtojjjhbiccgjkaaTxIn
namespace Go.Proofs.Ytojjjhbiccgjkaa
set_option linter.unusedVariables false
set_option linter.unusedSimpArgs false
theorem holds_TextsIn : Rows.FnExactTextsInSaid :=
  said_TextsIn inTx inOk
    (fun z n a s l _ _ _ hs hb B g lo hi W hr hg => specTextsIn_c z n a s B g lo hi _ l W hr rfl (by omega) (by omega))
    (fun z n a s l _ _ _ hs hb B g lo hi W hr hg => implTextsIn_c z n a s B g lo hi _ l W hr rfl (by omega) (by omega))
    (fun z n a s l _ _ _ _ => by have := inTx_len (width := z) (z := n) (a := a) (leaf := s) (pr := l); omega)
end Go.Proofs.Ytojjjhbiccgjkaa
