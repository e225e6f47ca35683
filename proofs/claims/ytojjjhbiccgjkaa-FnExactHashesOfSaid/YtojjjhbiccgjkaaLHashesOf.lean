/- FnExactHashesOf holds: for every width and log the program HashesOf answers as the reference does. No condition. -/
import Derived.Test.YtojjjhbiccgjkaaKHashesOf
import Derived.Test.YtojjjhbiccgjkaaHsh
namespace Go.Proofs.Ytojjjhbiccgjkaa
set_option linter.unusedVariables false
set_option linter.unusedSimpArgs false
theorem hashesM_len (z : Int) (l : List Ent) : (hashesM z l).length ≤ l.length := by
  rw [hashesM]; split
  · rw [List.length_map]; exact Nat.le_refl _
  · exact Nat.zero_le _
theorem holds_HashesOf : Rows.FnExactHashesOfSaid :=
  said_HashesOf hashesM hashesK (fun z l _ hf hb B g lo hi W hr hg => specHashesOf_c z B g lo hi _ l W hr rfl (by omega) (by omega) hf) (fun z l _ hf hb B g lo hi W hr hg => implHashesOf_c z B g lo hi _ l W hr rfl (by omega) (by omega) hf)
    (fun z l _ _ hb => by have := hashesM_len z l; omega)
end Go.Proofs.Ytojjjhbiccgjkaa
