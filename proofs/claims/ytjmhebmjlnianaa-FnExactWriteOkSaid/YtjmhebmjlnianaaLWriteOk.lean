/- FnExactWriteOk holds: for every disk and every write the program WriteOk answers as the reference does. No condition. -/
import Derived.Test.YtjmhebmjlnianaaKWriteOk
import Derived.Test.YtjmhebmjlnianaaFnA3
namespace Go.Proofs.Ytjmhebmjlnianaa
set_option linter.unusedVariables false
set_option linter.unusedSimpArgs false
theorem holds_WriteOk : Rows.FnExactWriteOkSaid :=
  said_WriteOk writeOk (fun l x hf hb B g lo hi W hr => specWriteOk_c B g lo hi _ l x W hr rfl (by omega) hf) (fun l x hf hb B g lo hi W hr => implWriteOk_c B g lo hi _ l x W hr rfl (by omega) hf)
end Go.Proofs.Ytjmhebmjlnianaa
