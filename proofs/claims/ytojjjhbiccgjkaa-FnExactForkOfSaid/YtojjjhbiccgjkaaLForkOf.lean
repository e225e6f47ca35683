/- FnExactForkOf holds: for every width and every two heads the program ForkOf answers as the reference does. No condition. -/
import Derived.Test.YtojjjhbiccgjkaaKForkOf
import Derived.Test.YtojjjhbiccgjkaaHd2
namespace Go.Proofs.Ytojjjhbiccgjkaa
set_option linter.unusedVariables false
set_option linter.unusedSimpArgs false
theorem holds_ForkOf : Rows.FnExactForkOfSaid :=
  said_ForkOf forkM (fun z a b _ _ _ hb W => specForkOf_c z a b W hb) (fun z a b _ _ _ hb W => implForkOf_c z a b W hb)
end Go.Proofs.Ytojjjhbiccgjkaa
