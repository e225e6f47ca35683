/- FnLater holds: for every code the law answers true. No condition. -/
import Derived.Test.YtoccjgcokffkbaaGreatTl3
import Derived.Test.YtoccjgcokffkbaaGreatTl31
namespace Go.Proofs.YtoccjgcokffkbaaGreat
set_option linter.unusedVariables false
set_option linter.unusedSimpArgs false
set_option maxHeartbeats 20000000
section
theorem holds_FnLater : Rows.FnLaterSaid := said_FnLater walk_FnLater
end
end Go.Proofs.YtoccjgcokffkbaaGreat
