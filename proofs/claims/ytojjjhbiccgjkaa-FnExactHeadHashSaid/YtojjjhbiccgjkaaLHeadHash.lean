/- FnExactHeadHash holds: for every width and head the program HeadHash answers as the reference does. No condition. -/
import Derived.Test.YtojjjhbiccgjkaaKHeadHash
import Derived.Test.YtojjjhbiccgjkaaHdT
namespace Go.Proofs.Ytojjjhbiccgjkaa
set_option linter.unusedVariables false
set_option linter.unusedSimpArgs false
theorem holds_HeadHash : Rows.FnExactHeadHashSaid :=
  said_HeadHash headHashM headOk (fun z h _ _ hb W => specHeadHash_c z h W hb) (fun z h _ _ hb W => implHeadHash_c z h W hb)
end Go.Proofs.Ytojjjhbiccgjkaa
