/- FnExactAddEntry holds: for every log, topic, time, key and body the program AddEntry answers as the reference does. No condition. -/
import Derived.Test.YtjmhebmjlnianaaKAddEntry
import Derived.Test.YtjmhebmjlnianaaAdd
namespace Go.Proofs.Ytjmhebmjlnianaa
set_option linter.unusedVariables false
set_option linter.unusedSimpArgs false
theorem addEL_len (l : List Ent) (t : ByteArray) (ti : Int) (k b : ByteArray) : (addEL l t ti k b).length ≤ l.length + 1 := by
  rw [addEL]; split
  · rw [addL]; split
    · rw [List.length_append]; exact Nat.le_refl _
    · exact Nat.zero_le _
  · exact Nat.zero_le _
theorem holds_AddEntry : Rows.FnExactAddEntrySaid :=
  said_AddEntry addEL addELeaf addECode
    (fun l t ti k b hf hti ht hk hb hz B g lo hi W hr hg => specAddEntry_c B g lo hi _ l t ti k b W hr rfl (by omega) (by omega) (Rd.cap0 hr ents_pos hg) hf ht hti hk hb)
    (fun l t ti k b hf hti ht hk hb hz B g lo hi W hr hg => implAddEntry_c B g lo hi _ l t ti k b W hr rfl (by omega) (Rd.cap0 hr ents_pos hg) hf ht hk hb)
    (fun l t ti k b _ _ _ _ _ hz => by have := addEL_len l t ti k b; omega)
end Go.Proofs.Ytjmhebmjlnianaa
