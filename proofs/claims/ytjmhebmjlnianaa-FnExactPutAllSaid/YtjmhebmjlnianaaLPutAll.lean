/- FnExactPutAll holds: for every disk and every list of writes the program PutAll answers as the reference does. No condition. -/
import Derived.Test.YtjmhebmjlnianaaKPutAll
import Derived.Test.YtjmhebmjlnianaaPutAll
namespace Go.Proofs.Ytjmhebmjlnianaa
set_option linter.unusedVariables false
set_option linter.unusedSimpArgs false
theorem putAllM_len (l : List ByteArray) (ws : List Wri) : (putAllM l ws).length ≤ l.length := by
  rw [putAllM]; split
  · rw [putAllL_len]; exact Nat.le_refl _
  · exact Nat.zero_le _
theorem holds_PutAll : Rows.FnExactPutAllSaid :=
  said_PutAll putAllM putAllK (fun l ws hf hb B g lo hi B' g' lo' hi' W hr hg hr' hg' => specPutAll_c B g lo hi _ l B' g' lo' hi' _ ws W hr rfl (by omega) hr' rfl (by omega) hf) (fun l ws hf hb B g lo hi B' g' lo' hi' W hr hg hr' hg' => implPutAll_c B g lo hi _ l B' g' lo' hi' _ ws W hr rfl (by omega) hr' rfl (by omega) hf)
    (fun l ws _ hb => by have := putAllM_len l ws; omega)
end Go.Proofs.Ytjmhebmjlnianaa
