/- FnExactTopicsOf holds: for every log the program TopicsOf answers as the reference does. No condition. -/
import Derived.Test.YtojjjhbiccgjkaaKTopicsOf
import Derived.Test.YtojjjhbiccgjkaaTopS
namespace Go.Proofs.Ytojjjhbiccgjkaa
set_option linter.unusedVariables false
set_option linter.unusedSimpArgs false
theorem holds_TopicsOf : Rows.FnExactTopicsOfSaid :=
  said_TopicsOf topM (fun l hf hb B g lo hi W hr hg => specTopicsOf_c B g lo hi _ l W hr rfl (by omega) (by omega) hf) (fun l hf hb B g lo hi W hr hg => implTopicsOf_c B g lo hi _ l W hr rfl (by omega) hf)
    (fun l _ hb => by have := topM_len l; omega)
end Go.Proofs.Ytojjjhbiccgjkaa
