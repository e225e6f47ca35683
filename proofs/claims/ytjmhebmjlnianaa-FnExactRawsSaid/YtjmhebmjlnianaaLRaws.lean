/- FnExactRaws holds: for every list of writes the program Raws answers as the reference does. No condition. -/
import Derived.Test.YtjmhebmjlnianaaKRaws
import Derived.Test.YtjmhebmjlnianaaFnA1
namespace Go.Proofs.Ytjmhebmjlnianaa
set_option linter.unusedVariables false
set_option linter.unusedSimpArgs false
theorem holds_Raws : Rows.FnExactRawsSaid :=
  said_Raws raws (fun l hf hb B g lo hi W hr => specRaws_c B g lo hi _ l W hr rfl hb) (fun l hf hb B g lo hi W hr => implRaws_c B g lo hi _ l W hr rfl hb)
end Go.Proofs.Ytjmhebmjlnianaa
