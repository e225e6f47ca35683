/- FnExactFollows holds: for every width and every two heads the program Follows answers as the reference does. No condition. -/
import Derived.Test.YtojjjhbiccgjkaaKFollows
import Derived.Test.YtojjjhbiccgjkaaHd2
namespace Go.Proofs.Ytojjjhbiccgjkaa
set_option linter.unusedVariables false
set_option linter.unusedSimpArgs false
theorem holds_Follows : Rows.FnExactFollowsSaid :=
  said_Follows followsM (fun z a b _ _ _ hb W => specFollows_c z a b W hb) (fun z a b _ _ _ hb W => implFollows_c z a b W hb)
end Go.Proofs.Ytojjjhbiccgjkaa
