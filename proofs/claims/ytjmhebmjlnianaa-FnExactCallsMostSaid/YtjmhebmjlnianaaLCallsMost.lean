/- FnExactCallsMost holds: for every two numbers the program CallsMost answers as the reference does. No condition. -/
import Derived.Test.YtjmhebmjlnianaaKCallsMost
import Derived.Test.YtjmhebmjlnianaaFnA1
namespace Go.Proofs.Ytjmhebmjlnianaa
set_option linter.unusedVariables false
set_option linter.unusedSimpArgs false
theorem holds_CallsMost : Rows.FnExactCallsMostSaid :=
  said_CallsMost callsMost (fun a b ha hb W => specCallsMost_c a b W ha hb) (fun a b ha hb W => implCallsMost_c a b W ha hb)
end Go.Proofs.Ytjmhebmjlnianaa
