/- FnExactSealOk holds: for every width and every Seal the program SealOk answers as the reference does. No condition. -/
import Derived.Test.YtojjjhbiccgjkaaKSealOk
import Derived.Test.YtojjjhbiccgjkaaSealk
namespace Go.Proofs.Ytojjjhbiccgjkaa
set_option linter.unusedVariables false
set_option linter.unusedSimpArgs false
theorem holds_SealOk : Rows.FnExactSealOkSaid :=
  said_SealOk (fun z z1 z2 h l1 l2 => sealOk z z1 l1 z2 l2 h)
    (fun z z1 z2 h l1 l2 _ _ _ _ hb B1 g1 a1 b1 B2 g2 a2 b2 W r1 e1 r2 e2 => specSealOk_c z z1 z2 B1 B2 g1 g2 a1 b1 a2 b2 _ _ l1 l2 h W r1 r2 rfl rfl (by omega) (by omega) (by omega))
    (fun z z1 z2 h l1 l2 _ _ _ _ hb B1 g1 a1 b1 B2 g2 a2 b2 W r1 e1 r2 e2 => implSealOk_c z z1 z2 B1 B2 g1 g2 a1 b1 a2 b2 _ _ l1 l2 h W r1 r2 rfl rfl (by omega) (by omega) (by omega))
end Go.Proofs.Ytojjjhbiccgjkaa
