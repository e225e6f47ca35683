/- FnExactTextsBetween holds: for every width, sizes, root and proof the program TextsBetween answers as the reference does. No condition. -/
import Derived.Test.YtojjjhbiccgjkaaKTextsBetween
import Derived.Test.YtojjjhbiccgjkaaTxBe
namespace Go.Proofs.Ytojjjhbiccgjkaa
set_option linter.unusedVariables false
set_option linter.unusedSimpArgs false
theorem holds_TextsBetween : Rows.FnExactTextsBetweenSaid :=
  said_TextsBetween (fun z s r n l => (beAll z s r n l).t) beOk
    (fun z s r n l _ _ _ hs hb B g lo hi W hr hg => specTextsBetween_c z s r n B g lo hi _ l W hr rfl (by omega) (by omega))
    (fun z s r n l _ _ _ hs hb B g lo hi W hr hg => implTextsBetween_c z s r n B g lo hi _ l W hr rfl (by omega) (by omega))
    (fun z s r n l _ _ _ _ _ => by have := beAll_len (width := z) (s := s) (root := r) (n := n) (pr := l); show (beAll z s r n l).t.length ≤ 2000000; omega)
end Go.Proofs.Ytojjjhbiccgjkaa
