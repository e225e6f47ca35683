/- FnDeeds holds: for every code the law answers true. No condition. -/
import Derived.Test.YtoccjgcokffkbaaGreatTd36
namespace Go.Proofs.YtoccjgcokffkbaaGreat
set_option linter.unusedVariables false
set_option linter.unusedSimpArgs false
set_option maxHeartbeats 20000000
section
theorem holds_FnDeeds : Rows.FnDeedsSaid := said_FnDeeds walk_FnDeeds
end
end Go.Proofs.YtoccjgcokffkbaaGreat
