/- FnWrites holds: for every code the law answers true. No condition. -/
import Derived.Test.YtoccjgcokffkbaaGreatTw38
namespace Go.Proofs.YtoccjgcokffkbaaGreat
set_option linter.unusedVariables false
set_option linter.unusedSimpArgs false
set_option maxHeartbeats 20000000
set_option maxRecDepth 100000
section
theorem holds_FnWrites : Rows.FnWritesSaid := said_FnWrites walk_FnWrites
end
end Go.Proofs.YtoccjgcokffkbaaGreat
