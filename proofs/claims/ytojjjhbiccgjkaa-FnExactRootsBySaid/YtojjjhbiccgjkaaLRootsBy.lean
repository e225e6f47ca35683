/- FnExactRootsBy holds: for every width, sizes, root and proof the program RootsBy answers as the reference does. No condition. -/
import Derived.Test.YtojjjhbiccgjkaaKRootsBy
import Derived.Test.YtojjjhbiccgjkaaTxBe
namespace Go.Proofs.Ytojjjhbiccgjkaa
set_option linter.unusedVariables false
set_option linter.unusedSimpArgs false
theorem holds_RootsBy : Rows.FnExactRootsBySaid :=
  said_RootsBy (fun z s r n l => (beAll z s r n l).s) (fun z s r n l => (beAll z s r n l).b) beOk
    (fun z s r n l _ _ _ hs hb B g lo hi W hr hg => specRootsBy_c z s r n B g lo hi _ l W hr rfl (by omega) (by omega))
    (fun z s r n l _ _ _ hs hb B g lo hi W hr hg => implRootsBy_c z s r n B g lo hi _ l W hr rfl (by omega) (by omega))
end Go.Proofs.Ytojjjhbiccgjkaa
