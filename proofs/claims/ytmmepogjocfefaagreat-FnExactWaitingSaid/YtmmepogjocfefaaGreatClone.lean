/- slices.Clone of strings and of entries. -/
import Derived.Test.YtmmepogjocfefaaGreatKit2
import Derived.Test.YtmmepogjocfefaaGreatData
import Derived.Test.YtmmepogjocfefaaGreatSEntry
namespace Go.Proofs.YtmmepogjocfefaaGreat
set_option linter.unusedVariables false
set_option linter.unusedSimpArgs false
open Go.RowKit

theorem ownsRow_slice {w : World} {base e size n : Nat} {v : Value} {xs : List Value} (h : w.ownsRow base e size v n xs) :
  ∃ (A : Option Addr) (c : Nat), v = .slice A n c ∧ n ≤ c ∧ (A = none → c = 0) ∧ Own w base w.heap.size A xs := by
 have h' := h
 rcases h.2 with ⟨rfl, rfl⟩ | ⟨g, cap, cur, rfl, _, _, h3, _⟩
 ·exact ⟨none, 0, rfl, Nat.le_refl _, fun _ => rfl, Own.of_ownsRow h'⟩
 ·exact ⟨_, _, rfl, h3, fun h => by (cases h), Own.of_ownsRow h'⟩
theorem ownsRow_lower {w : World} {base b' e size n : Nat} {v : Value} {xs : List Value} (h : w.ownsRow base e size v n xs) (hb : b' ≤ base) : w.ownsRow b' e size v n xs := by
 refine ⟨h.1, h.2.imp id ?_⟩
 rintro ⟨g, cap, cur, hv, h1, h2⟩
 exact ⟨g, cap, cur, hv, by omega, h2⟩
theorem cloneStr_nil {l : List ByteArray} (h : strs l = []) : l = [] := List.map_eq_nil_iff.1 h
theorem cloneStr_len {l : List ByteArray} {n : Nat} (h : l.length = n) : (strs l).length = n * 1 := by rw [strs_len, h, Nat.mul_one]
theorem cloneStr_one (l : List ByteArray) : ∀ u ∈ strs l, u.oneCell' = true := by
 intro u hu; obtain ⟨x, _, rfl⟩ := List.mem_map.1 hu; rfl
theorem cloneEnt_nil {l : List Ent} (h : ents l = []) : l = [] := by
 have := congrArg List.length h; rw [ents_len] at this; exact List.eq_nil_of_length_eq_zero (by simp at this; omega)
theorem cloneEnt_len {l : List Ent} {n : Nat} (h : l.length = n) : (ents l).length = n * 5 := by rw [ents_len, h]
theorem cloneEnt_one (l : List Ent) : ∀ u ∈ ents l, u.oneCell' = true := by
 intro u hu
 obtain ⟨x, _, h⟩ := List.mem_flatMap.1 hu
 simp only [Ent.cells, List.mem_cons, List.not_mem_nil, or_false] at h
 rcases h with rfl | rfl | rfl | rfl | rfl <;> rfl
end Go.Proofs.YtmmepogjocfefaaGreat
