/- FnExactLogOk holds: for every log the program LogOk answers as the reference does. No condition. -/
import Derived.Test.YtjmhebmjlnianaaKLogOk
import Derived.Test.YtjmhebmjlnianaaLogOk
namespace Go.Proofs.Ytjmhebmjlnianaa
set_option linter.unusedVariables false
set_option linter.unusedSimpArgs false
theorem holds_LogOk : Rows.FnExactLogOkSaid :=
  said_LogOk logOk (fun l hf hb B g lo hi W hr hg => specLogOk_c B g lo hi _ l W hr rfl (by omega) hg hf) (fun l hf hb B g lo hi W hr hg => implLogOk_c B g lo hi _ l W hr rfl (by omega) hf)
end Go.Proofs.Ytjmhebmjlnianaa
