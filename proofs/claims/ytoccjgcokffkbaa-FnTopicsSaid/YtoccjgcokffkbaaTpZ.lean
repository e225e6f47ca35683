/- FnTopics holds: for every code the law answers true. No condition. -/
import Derived.Test.YtoccjgcokffkbaaTp1
import Derived.Test.YtoccjgcokffkbaaTp5
namespace Go.Proofs.Ytoccjgcokffkbaa
set_option linter.unusedVariables false
set_option linter.unusedSimpArgs false
theorem holds_FnTopics : Rows.FnTopicsSaid := said_FnTopics walk_FnTopics
end Go.Proofs.Ytoccjgcokffkbaa
