/- FnExactLeavesAt holds: for every log, topic and numbers the program LeavesAt answers as the reference does. No condition. -/
import Derived.Test.YtjmhebmjlnianaaKLeavesAt
import Derived.Test.YtjmhebmjlnianaaLeaves
namespace Go.Proofs.Ytjmhebmjlnianaa
set_option linter.unusedVariables false
set_option linter.unusedSimpArgs false
theorem leavesAtM_len (l : List Ent) (t : ByteArray) (f m : Int) : (leavesAtM l t f m).length ≤ l.length := by
  rw [leavesAtM]; split
  · exact pick_len _ _ _ _
  · exact Nat.zero_le _
theorem holds_LeavesAt : Rows.FnExactLeavesAtSaid :=
  said_LeavesAt leavesAtM (fun l t f m hf hfi hmi ht hz B g lo hi W hr hg => specLeavesAt_c B g lo hi _ l t f m W hr rfl (by omega) (by omega) hf hfi hmi)
    (fun l t f m hf hfi hmi ht hz B g lo hi W hr hg => implLeavesAt_c B g lo hi _ l t f m W hr rfl (by omega) hf hmi)
    (fun l t f m _ _ _ _ hz => by have := leavesAtM_len l t f m; omega)
end Go.Proofs.Ytjmhebmjlnianaa
