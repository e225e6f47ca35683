/- FnExactLeafOf holds: for every log, topic and index the program LeafOf answers as the reference does. No condition. -/
import Derived.Test.YtjmhebmjlnianaaKLeafOf
import Derived.Test.YtjmhebmjlnianaaFnA5
namespace Go.Proofs.Ytjmhebmjlnianaa
set_option linter.unusedVariables false
set_option linter.unusedSimpArgs false
theorem holds_LeafOf : Rows.FnExactLeafOfSaid :=
  said_LeafOf leafOfM (fun l t q hf hq ht hb B g lo hi W hr hg => specLeafOf_c B g lo hi _ l t q W hr rfl (by omega) hg hf) (fun l t q hf hq ht hb B g lo hi W hr hg => implLeafOf_c B g lo hi _ l t q W hr rfl (by omega) hf)
end Go.Proofs.Ytjmhebmjlnianaa
