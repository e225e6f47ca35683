/- FnExactCutAt holds: for every disk, list of writes and numbers the program CutAt answers as the reference does. No condition. -/
import Derived.Test.YtjmhebmjlnianaaKCutAt
import Derived.Test.YtjmhebmjlnianaaCut
namespace Go.Proofs.Ytjmhebmjlnianaa
set_option linter.unusedVariables false
set_option linter.unusedSimpArgs false
theorem cutAtM_len (l : List ByteArray) (ws : List Wri) (z p : Int) : (cutAtM l ws z p).length ≤ l.length := by
  rw [cutAtM]; split
  · rw [putAllL_len]; exact Nat.le_refl _
  · exact Nat.zero_le _
theorem holds_CutAt : Rows.FnExactCutAtSaid :=
  said_CutAt cutAtM cutOkM
    (fun l ws z p hf hz hp hb B g lo hi B' g' lo' hi' W hr hg hr' hg' => specCutAt_c B g lo hi _ l B' g' lo' hi' _ ws z p W hr rfl (by omega) hr' rfl (by omega) (by omega) (Rd.cap0 hr' wris_pos hg') hf hz hp)
    (fun l ws z p hf hz hp hb B g lo hi B' g' lo' hi' W hr hg hr' hg' => implCutAt_c B g lo hi _ l B' g' lo' hi' _ ws z p W hr rfl (by omega) hr' rfl (by omega) (by omega) (Rd.cap0 hr' wris_pos hg') hf hz hp)
    (fun l ws z p _ _ _ hb => by have := cutAtM_len l ws z p; omega)
end Go.Proofs.Ytjmhebmjlnianaa
