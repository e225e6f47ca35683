/- FnExactHeadText holds: for every width and head the program HeadText answers as the reference does. No condition. -/
import Derived.Test.YtojjjhbiccgjkaaKHeadText
import Derived.Test.YtojjjhbiccgjkaaHdT
namespace Go.Proofs.Ytojjjhbiccgjkaa
set_option linter.unusedVariables false
set_option linter.unusedSimpArgs false
theorem holds_HeadText : Rows.FnExactHeadTextSaid :=
  said_HeadText headTextM headOk (fun z h _ _ hb W => specHeadText_c z h W hb) (fun z h _ _ hb W => implHeadText_c z h W hb)
end Go.Proofs.Ytojjjhbiccgjkaa
