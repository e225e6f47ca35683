/- FnExactFrame holds: for every text the program Frame answers as the reference does. No condition. -/
import Derived.Test.YtojjjhbiccgjkaaKFrame
import Derived.Test.YtojjjhbiccgjkaaLow
namespace Go.Proofs.Ytojjjhbiccgjkaa
set_option linter.unusedVariables false
set_option linter.unusedSimpArgs false
theorem holds_Frame : Rows.FnExactFrameSaid :=
  said_Frame frameM frameOk (fun t ht W => specFrame_c t W ht) (fun t ht W => implFrame_c t W ht)
end Go.Proofs.Ytojjjhbiccgjkaa
