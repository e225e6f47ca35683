/- A variable's block into which values of several cells are stored. -/
import Derived.Test.YtmmepogjocfefaaGreatHash1
namespace Go.Proofs.YtmmepogjocfefaaGreat
set_option linter.unusedVariables false
set_option linter.unusedSimpArgs false
open Go.RowKit

theorem cell_setCell_none {w : World} {a b : Addr} {v : Value} (h : w.cell? a = none) : (w.setCell a v).cell? b = w.cell? b := by
 by_cases hab : a = b
 ·subst hab
  rw [h]
  unfold World.cell? at h
  simp only [World.setCell, World.cell?, Array.getElem?_modify, ↓reduceIte]
  split at h
  ·rename_i c e f hb
   rw [hb]
   cases hs : a.spot.isSome with
   | true => simp
   | false =>
     simp only [hs, Bool.false_eq_true, if_false] at h
     simp only [Option.map_some, Bool.false_eq_true, if_false]
     rw [Array.getElem?_eq_none_iff] at h
     rw [Array.getElem?_eq_none_iff, Array.size_setIfInBounds]
     exact h
  ·rename_i hx
   split
   ·rename_i c e f hc
    exfalso
    cases hh : w.heap[a.block]? with
    | none => rw [hh] at hc; cases hc
    | some x =>
      rw [hh] at hc
      cases x with
      | cells c2 e2 f2 => exact hx c2 e2 f2 hh
      | _ => cases hc
   ·rfl
 ·exact World.cell?_setCell_other _ _ _ _ hab
theorem NewBox.set1 {w : World} {k : Nat} {cs : List Value} (h : NewBox w k cs) (o : Nat) (u : Value) : NewBox (w.setCell ⟨k, o, none⟩ u) k (cs.set o u) := by
 by_cases ho : o < cs.length
 ·exact h.set ho u
 ·have hn : w.cell? ⟨k, o, none⟩ = none := (h.2.1 o).trans (List.getElem?_eq_none (by omega))
  rw [List.set_eq_of_length_le (by omega)]
  exact ⟨by simpa [World.setCell] using h.1, fun i => (cell_setCell_none hn).trans (h.2.1 i), fun i => by simpa using h.2.2 i⟩
theorem NewBox.cast {w : World} {k : Nat} {cs cs' : List Value} (h : NewBox w k cs) (e : cs = cs') : NewBox w k cs' := e ▸ h
/-- a store into another block -/
theorem NewBox.far {w : World} {k k' o : Nat} {cs : List Value} (hk : k' ≠ k) (u : Value) (h : NewBox w k cs) : NewBox (w.setCell ⟨k', o, none⟩ u) k cs := h.setCell hk u
end Go.Proofs.YtmmepogjocfefaaGreat
