/- FnExactConsistency holds: for every width, leaves and size the program Consistency answers as the reference does. No condition. -/
import Derived.Test.YtojjjhbiccgjkaaKConsistency
import Derived.Test.YtojjjhbiccgjkaaCons2
namespace Go.Proofs.Ytojjjhbiccgjkaa
set_option linter.unusedVariables false
set_option linter.unusedSimpArgs false
theorem own_of_row {w' : World} {lo : Nat} {p : Prop} {e : Ending} {b : Bool} {t : List ByteArray}
    (h : ∃ A' c', e = .returned (.tuple #[.slice A' t.length c', .bool b]) ∧ w'.ownsRow lo 9 1 (.slice A' t.length c') t.length (strs t) ∧ p) :
    ∃ A' c', e = .returned (.tuple #[.slice A' t.length c', .bool b]) ∧ Own w' lo w'.heap.size A' (strs t) ∧ p := by
  obtain ⟨A', c', h1, h2, h3⟩ := h
  exact ⟨A', c', h1, Own.of_ownsRow h2, h3⟩
theorem holds_Consistency : Rows.FnExactConsistencySaid :=
  said_Consistency conTx conOk
    (fun z l k _ _ hb B g lo hi W hr hg => (specConsistency_c z k B g lo hi _ l W hr rfl (by omega) (by omega)).mono (fun _ _ h => own_of_row h))
    (fun z l k _ _ hb B g lo hi W hr hg => (implConsistency_c z k B g lo hi _ l W hr rfl (by omega) (by omega)).mono (fun _ _ h => own_of_row h))
    (fun z l k _ _ _ => by have := conTx_len (width := z) (l := l) (k := k); omega)
end Go.Proofs.Ytojjjhbiccgjkaa
