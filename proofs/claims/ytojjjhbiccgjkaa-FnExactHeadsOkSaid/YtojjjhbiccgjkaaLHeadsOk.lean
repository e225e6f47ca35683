/- FnExactHeadsOk holds: for every width and list of heads the program HeadsOk answers as the reference does. No condition. -/
import Derived.Test.YtojjjhbiccgjkaaKHeadsOk
import Derived.Test.YtojjjhbiccgjkaaHds
namespace Go.Proofs.Ytojjjhbiccgjkaa
set_option linter.unusedVariables false
set_option linter.unusedSimpArgs false
theorem holds_HeadsOk : Rows.FnExactHeadsOkSaid :=
  said_HeadsOk headsOk (fun z l _ _ hb B g lo hi W hr hg => specHeadsOk_c z B g lo hi _ l W hr rfl hb) (fun z l _ _ hb B g lo hi W hr hg => implHeadsOk_c z B g lo hi _ l W hr rfl hb)
end Go.Proofs.Ytojjjhbiccgjkaa
