/- FnExactLatestOf holds: for every log, topic and key the program LatestOf answers as the reference does. No condition. -/
import Derived.Test.YtjmhebmjlnianaaKLatestOf
import Derived.Test.YtjmhebmjlnianaaFnA4
namespace Go.Proofs.Ytjmhebmjlnianaa
set_option linter.unusedVariables false
set_option linter.unusedSimpArgs false
theorem holds_LatestOf : Rows.FnExactLatestOfSaid :=
  said_LatestOf latestOfM (fun l t y hf ht hy hb B g lo hi W hr hg => specLatestOf_c B g lo hi _ l t y W hr rfl (by omega) hg hf) (fun l t y hf ht hy hb B g lo hi W hr hg => implLatestOf_c B g lo hi _ l t y W hr rfl (by omega) hf)
end Go.Proofs.Ytjmhebmjlnianaa
