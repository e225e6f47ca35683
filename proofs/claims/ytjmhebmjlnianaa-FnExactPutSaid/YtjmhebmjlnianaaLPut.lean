/- FnExactPut holds: for every disk and every write the program Put answers as the reference does. No condition. -/
import Derived.Test.YtjmhebmjlnianaaKPut
import Derived.Test.YtjmhebmjlnianaaPut
namespace Go.Proofs.Ytjmhebmjlnianaa
set_option linter.unusedVariables false
set_option linter.unusedSimpArgs false
theorem putM_len (l : List ByteArray) (x : Wri) : (putM l x).length ≤ l.length := by
  rw [putM]; split
  · rw [putL_len]; exact Nat.le_refl _
  · exact Nat.zero_le _
theorem holds_Put : Rows.FnExactPutSaid :=
  said_Put putM writeOk (fun l x hf hb B g lo hi W hr hg => specPut_c B g lo hi _ l x W hr rfl (by omega) hf) (fun l x hf hb B g lo hi W hr hg => implPut_c B g lo hi _ l x W hr rfl (by omega) hf)
    (fun l x _ hb => by have := putM_len l x; omega)
end Go.Proofs.Ytjmhebmjlnianaa
