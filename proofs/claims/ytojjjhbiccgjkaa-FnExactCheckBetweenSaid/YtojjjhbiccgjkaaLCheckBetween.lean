/- FnExactCheckBetween holds: for every width, sizes, roots and proof the program CheckBetween answers as the reference does. No condition. -/
import Derived.Test.YtojjjhbiccgjkaaKCheckBetween
import Derived.Test.YtojjjhbiccgjkaaChk
namespace Go.Proofs.Ytojjjhbiccgjkaa
set_option linter.unusedVariables false
set_option linter.unusedSimpArgs false
theorem holds_CheckBetween : Rows.FnExactCheckBetweenSaid :=
  said_CheckBetween ckBe
    (fun z s r n q l _ _ _ hs hq hb B g lo hi W hr hg => specCheckBetween_c z s r n q B g lo hi _ l W hr rfl (by omega) (by omega))
    (fun z s r n q l _ _ _ hs hq hb B g lo hi W hr hg => implCheckBetween_c z s r n q B g lo hi _ l W hr rfl (by omega) (by omega))
end Go.Proofs.Ytojjjhbiccgjkaa
