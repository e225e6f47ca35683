/- More words on memory. -/
import Derived.Test.YtmmepogjocfefaaGreatKit
namespace Go.Proofs.YtmmepogjocfefaaGreat
set_option linter.unusedVariables false
set_option linter.unusedSimpArgs false
open Go.RowKit

theorem Own.tight {w : World} {lo hi b off : Nat} {xs : List Value} (h : Own w lo hi (some ⟨b, off, none⟩) xs) : Own w b (b + 1) (some ⟨b, off, none⟩) xs := by
 intro hn
 obtain ⟨b', off', h1, h2, h3, h4, h5, h6⟩ := h hn
 cases h1
 exact ⟨b, off, rfl, Nat.le_refl _, Nat.lt_succ_self _, by omega, h5, h6⟩
theorem Rd.tight {w : World} {lo hi b off : Nat} {xs : List Value} (h : Rd w lo hi (some ⟨b, off, none⟩) xs) : Rd w b (b + 1) (some ⟨b, off, none⟩) xs := by
 intro hn
 obtain ⟨b', off', h1, h2, h3, h4, h5⟩ := h hn
 cases h1
 exact ⟨b, off, rfl, Nat.le_refl _, Nat.lt_succ_self _, by omega, h5⟩
/-- the ends of what is owned may be any that hold -/
theorem Own.ends {w : World} {lo hi lo' hi' : Nat} {A : Option Addr} {xs : List Value} (h : Own w lo hi A xs) (hl : lo' ≤ lo) (hh : hi ≤ hi') (hs : hi' ≤ w.heap.size) : Own w lo' hi' A xs := h.mono hl hh hs
/-- callees with a known plain value, in a drawn region that only reads -/
theorem later_pure {P : Program} {f : FuncId} {args : Array Value} {W : World} {n : Later W} {v v' : Value} (h : Calls P f args n.v fun e w' => e = .returned v ∧ n.v = w') (hv : v = v' := by rfl) :
  Calls P f args n.v fun e w'' => e = .returned v' ∧ ∃ m : Later W, w'' = m.v :=
 h.mono fun _ w' ⟨he, hb⟩ => ⟨hv ▸ he, n, hb ▸ rfl⟩
theorem later_vcall {P : Program} {f : FuncId} {args : Array Value} {W : World} {n : Later W} {v v' : Value} (h : Calls P f args n.v fun e w' => e = .returned v ∧ Below n.v.heap.size n.v w') (hv : v = v') :
  Calls P f args n.v fun e w'' => e = .returned v' ∧ ∃ m : Later W, w'' = m.v := later_call (hv ▸ h)
theorem bool_v {a b : Bool} (h : a = b) : Value.bool a = Value.bool b := by rw [h]
/-- two strings' equality, as the walk has it -/
theorem beq_no {a b : ByteArray} (h : ¬ a = b) : (a.toList == b.toList) = false := by
 rw [beq_eq_false_iff_ne]
 intro h2
 simp only [ByteArray.toList_eq] at h2
 exact h (ByteArray.ext (Array.toList_inj.1 h2))
theorem bne_yes {a b : ByteArray} (h : ¬ a = b) : (a.toList != b.toList) = true := by rw [bne, beq_no h]; rfl
theorem beq_iff {a b : ByteArray} : (a.toList == b.toList) = decide (a = b) := by
 by_cases h : a = b
 ·subst h; simp
 ·rw [beq_no h]; simp [h]
end Go.Proofs.YtmmepogjocfefaaGreat
