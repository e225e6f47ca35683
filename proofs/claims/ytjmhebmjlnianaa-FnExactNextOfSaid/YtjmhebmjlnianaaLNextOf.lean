/- FnExactNextOf holds: for every log and topic the program NextOf answers as the reference does. No condition. -/
import Derived.Test.YtjmhebmjlnianaaKNextOf
import Derived.Test.YtjmhebmjlnianaaFnA4
namespace Go.Proofs.Ytjmhebmjlnianaa
set_option linter.unusedVariables false
set_option linter.unusedSimpArgs false
theorem holds_NextOf : Rows.FnExactNextOfSaid :=
  said_NextOf nextOfM (fun l t hf ht hb B g lo hi W hr hg => specNextOf_c B g lo hi _ l t W hr rfl (by omega) hg hf ht) (fun l t hf ht hb B g lo hi W hr hg => implNextOf_c B g lo hi _ l t W hr rfl (by omega) hf ht)
end Go.Proofs.Ytjmhebmjlnianaa
