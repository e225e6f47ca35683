/- FnAudits holds: for every code the law answers true. No condition. -/
import Derived.Test.YtoccjgcokffkbaaGreatTa3
import Derived.Test.YtoccjgcokffkbaaGreatTa32
namespace Go.Proofs.YtoccjgcokffkbaaGreat
set_option linter.unusedVariables false
set_option linter.unusedSimpArgs false
set_option maxHeartbeats 20000000
section
theorem holds_FnAudits : Rows.FnAuditsSaid := said_FnAudits walk_FnAudits
end
end Go.Proofs.YtoccjgcokffkbaaGreat
