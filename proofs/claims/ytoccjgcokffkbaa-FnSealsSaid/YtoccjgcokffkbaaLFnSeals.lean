/- FnSeals holds: for every code the law answers true. No condition. -/
import Derived.Test.YtoccjgcokffkbaaEFnSeals
import Derived.Test.YtoccjgcokffkbaaSealsW
namespace Go.Proofs.Ytoccjgcokffkbaa
set_option linter.unusedVariables false
set_option linter.unusedSimpArgs false
theorem holds_FnSeals : Rows.FnSealsSaid := said_FnSeals walk_FnSeals
end Go.Proofs.Ytoccjgcokffkbaa
