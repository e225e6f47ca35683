/- More words on memory. -/
import Derived.Test.YtjmhebmjlnianaaKit
namespace Go.Proofs.Ytjmhebmjlnianaa
set_option linter.unusedVariables false
set_option linter.unusedSimpArgs false
open Go.RowKit

theorem Own.tight {w : World} {lo hi b off : Nat} {xs : List Value} (h : Own w lo hi (some ⟨b, off, none⟩) xs) : Own w b (b + 1) (some ⟨b, off, none⟩) xs := by
  intro hn
  obtain ⟨b', off', h1, h2, h3, h4, h5, h6⟩ := h hn
  cases h1
  exact ⟨b, off, rfl, Nat.le_refl _, Nat.lt_succ_self _, by omega, h5, h6⟩
theorem Rd.tight {w : World} {lo hi b off : Nat} {xs : List Value} (h : Rd w lo hi (some ⟨b, off, none⟩) xs) : Rd w b (b + 1) (some ⟨b, off, none⟩) xs := by
  intro hn
  obtain ⟨b', off', h1, h2, h3, h4, h5⟩ := h hn
  cases h1
  exact ⟨b, off, rfl, Nat.le_refl _, Nat.lt_succ_self _, by omega, h5⟩
/-- the ends of what is owned may be any that hold -/
theorem Own.ends {w : World} {lo hi lo' hi' : Nat} {A : Option Addr} {xs : List Value} (h : Own w lo hi A xs) (hl : lo' ≤ lo) (hh : hi ≤ hi') (hs : hi' ≤ w.heap.size) : Own w lo' hi' A xs := h.mono hl hh hs
end Go.Proofs.Ytjmhebmjlnianaa
