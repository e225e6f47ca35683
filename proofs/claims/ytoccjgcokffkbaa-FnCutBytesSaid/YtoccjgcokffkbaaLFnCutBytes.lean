/- FnCutBytes holds: for every code the law answers true. No condition. -/
import Derived.Test.YtoccjgcokffkbaaEFnCutBytes
import Derived.Test.YtoccjgcokffkbaaCutB
namespace Go.Proofs.Ytoccjgcokffkbaa
set_option linter.unusedVariables false
set_option linter.unusedSimpArgs false
theorem holds_FnCutBytes : Rows.FnCutBytesSaid := said_FnCutBytes walk_FnCutBytes
end Go.Proofs.Ytoccjgcokffkbaa
