/- FnExactHeadNew holds: for every width the program HeadNew answers as the reference does. No condition. -/
import Derived.Test.YtojjjhbiccgjkaaKHeadNew
import Derived.Test.YtojjjhbiccgjkaaHd
namespace Go.Proofs.Ytojjjhbiccgjkaa
set_option linter.unusedVariables false
set_option linter.unusedSimpArgs false
theorem holds_HeadNew : Rows.FnExactHeadNewSaid :=
  said_HeadNew headNew (fun z => inR z 1 32) (fun z _ W => specHeadNew_c z W) (fun z _ W => implHeadNew_c z W)
end Go.Proofs.Ytojjjhbiccgjkaa
