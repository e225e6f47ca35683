/- FnProofs holds: for every code the law answers true. No condition. -/
import Derived.Test.YtoccjgcokffkbaaGreatTq3
import Derived.Test.YtoccjgcokffkbaaGreatTq31
namespace Go.Proofs.YtoccjgcokffkbaaGreat
set_option linter.unusedVariables false
set_option linter.unusedSimpArgs false
set_option maxHeartbeats 20000000
section
theorem holds_FnProofs : Rows.FnProofsSaid := said_FnProofs walk_FnProofs
end
end Go.Proofs.YtoccjgcokffkbaaGreat
