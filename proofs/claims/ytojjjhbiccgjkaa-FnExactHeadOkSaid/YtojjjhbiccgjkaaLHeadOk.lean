/- FnExactHeadOk holds: for every width and head the program HeadOk answers as the reference does. No condition. -/
import Derived.Test.YtojjjhbiccgjkaaKHeadOk
import Derived.Test.YtojjjhbiccgjkaaHd
namespace Go.Proofs.Ytojjjhbiccgjkaa
set_option linter.unusedVariables false
set_option linter.unusedSimpArgs false
theorem holds_HeadOk : Rows.FnExactHeadOkSaid :=
  said_HeadOk headOk (fun z h _ _ hb W => specHeadOk_c z h W hb) (fun z h _ _ hb W => implHeadOk_c z h W hb)
end Go.Proofs.Ytojjjhbiccgjkaa
