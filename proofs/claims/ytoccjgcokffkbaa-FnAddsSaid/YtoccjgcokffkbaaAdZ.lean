/- FnAdds holds: for every code the law answers true. No condition. -/
import Derived.Test.YtoccjgcokffkbaaAd1
import Derived.Test.YtoccjgcokffkbaaAd6
namespace Go.Proofs.Ytoccjgcokffkbaa
set_option linter.unusedVariables false
set_option linter.unusedSimpArgs false
theorem holds_FnAdds : Rows.FnAddsSaid := said_FnAdds walk_FnAdds
end Go.Proofs.Ytoccjgcokffkbaa
