/- Ranges of numbers: inRange and what stands on it. -/
import Derived.Test.YtmmepogjocfefaaGreatRows
import Derived.Test.YtmmepogjocfefaaGreatData
namespace Go.Proofs.YtmmepogjocfefaaGreat
set_option linter.unusedVariables false
set_option linter.unusedSimpArgs false
open Go.RowKit

/-- x is from a to b -/
def inR (x a b : Int) : Bool := decide (a ≤ x) && decide (x ≤ b)
theorem inR_true {x a b : Int} : inR x a b = true ↔ a ≤ x ∧ x ≤ b := by simp [inR]
theorem inR_false {x a b : Int} : inR x a b = false ↔ x < a ∨ b < x := by
 rw [Bool.eq_false_iff, ne_eq, inR_true]; omega

set_option maxRecDepth 100000 in
set_option maxHeartbeats 400000 in
theorem inRange_c (x a b : Int) (w : World) : Calls Tryz.prog 124 #[.int .i64 x, .int .i64 a, .int .i64 b] w fun e w' => e = .returned (.bool (inR x a b)) ∧ w = w' := by
 rcases (show x < a ∨ a ≤ x by omega) with h | h
 ·have e1 : inR x a b = false := inR_false.2 (.inl h)
  have E := Lib.hid e1
  clear e1
  go_enter Tryz.func124, Tryz.ntmps124
  go_wp2
  go_ret
  exact ⟨ret_bool E.out.symm, rfl⟩
 ·rcases (show b < x ∨ x ≤ b by omega) with h2 | h2
  ·have E := Lib.hid (inR_false.2 (.inr h2) : inR x a b = false)
   go_enter Tryz.func124, Tryz.ntmps124
   go_wp2
   go_ret
   exact ⟨ret_bool (by first | exact E.out.symm | (rw [E.out]; simp; done) | (rw [E.out]; simp; omega)), rfl⟩
  ·have E := Lib.hid (inR_true.2 ⟨h, h2⟩ : inR x a b = true)
   go_enter Tryz.func124, Tryz.ntmps124
   go_wp2
   go_ret
   exact ⟨ret_bool (by first | exact E.out.symm | (rw [E.out]; simp; done) | (rw [E.out]; simp; omega)), rfl⟩
set_option maxRecDepth 100000 in
set_option maxHeartbeats 400000 in
theorem l01In_c (x a b : Int) (w : World) : Calls Tryz.prog 134 #[.int .i64 x, .int .i64 a, .int .i64 b] w fun e w' => e = .returned (.bool (inR x a b)) ∧ w = w' := by
 rcases (show x < a ∨ a ≤ x by omega) with h | h
 ·have e1 : inR x a b = false := inR_false.2 (.inl h)
  have E := Lib.hid e1
  clear e1
  go_enter Tryz.func134, Tryz.ntmps134
  go_wp2
  go_ret
  exact ⟨ret_bool E.out.symm, rfl⟩
 ·rcases (show b < x ∨ x ≤ b by omega) with h2 | h2
  ·have E := Lib.hid (inR_false.2 (.inr h2) : inR x a b = false)
   go_enter Tryz.func134, Tryz.ntmps134
   go_wp2
   go_ret
   exact ⟨ret_bool (by first | exact E.out.symm | (rw [E.out]; simp; done) | (rw [E.out]; simp; omega)), rfl⟩
  ·have E := Lib.hid (inR_true.2 ⟨h, h2⟩ : inR x a b = true)
   go_enter Tryz.func134, Tryz.ntmps134
   go_wp2
   go_ret
   exact ⟨ret_bool (by first | exact E.out.symm | (rw [E.out]; simp; done) | (rw [E.out]; simp; omega)), rfl⟩
set_option maxRecDepth 100000 in
set_option maxHeartbeats 400000 in
theorem isSize_c (x : Int) (w : World) : Calls Tryz.prog 208 #[.int .i64 x] w fun e w' => e = .returned (.bool (inR x 0 512)) ∧ w = w' := by
 go_enter Tryz.func208, Tryz.ntmps208
 go_wp2_with fail
 refine (inRange_c x 0 512 _).mono ?_
 rintro e w1 ⟨rfl, rfl⟩
 go_wp2
 go_ret
 exact ⟨rfl, rfl⟩
set_option maxRecDepth 100000 in
set_option maxHeartbeats 400000 in
theorem isIndex_c (x : Int) (w : World) : Calls Tryz.prog 188 #[.int .i64 x] w fun e w' => e = .returned (.bool (inR x 0 511)) ∧ w = w' := by
 go_enter Tryz.func188, Tryz.ntmps188
 go_wp2_with fail
 refine (inRange_c x 0 511 _).mono ?_
 rintro e w1 ⟨rfl, rfl⟩
 go_wp2
 go_ret
 exact ⟨rfl, rfl⟩
set_option maxRecDepth 100000 in
set_option maxHeartbeats 400000 in
theorem isWidth_c (x : Int) (w : World) : Calls Tryz.prog 116 #[.int .i64 x] w fun e w' => e = .returned (.bool (inR x 1 32)) ∧ w = w' := by
 go_enter Tryz.func116, Tryz.ntmps116
 go_wp2_with fail
 refine (inRange_c x 1 32 _).mono ?_
 rintro e w1 ⟨rfl, rfl⟩
 go_wp2
 go_ret
 exact ⟨rfl, rfl⟩
set_option maxRecDepth 100000 in
set_option maxHeartbeats 400000 in
theorem isTag_c (x : Int) (w : World) : Calls Tryz.prog 199 #[.int .i64 x] w fun e w' => e = .returned (.bool (inR x 0 255)) ∧ w = w' := by
 go_enter Tryz.func199, Tryz.ntmps199
 go_wp2_with fail
 refine (inRange_c x 0 255 _).mono ?_
 rintro e w1 ⟨rfl, rfl⟩
 go_wp2
 go_ret
 exact ⟨rfl, rfl⟩
set_option maxRecDepth 100000 in
set_option maxHeartbeats 400000 in
theorem l04Size_c (x : Int) (w : World) : Calls Tryz.prog 154 #[.int .i64 x] w fun e w' => e = .returned (.bool (inR x 0 512)) ∧ w = w' := by
 go_enter Tryz.func154, Tryz.ntmps154
 go_wp2_with fail
 refine (l01In_c x 0 512 _).mono ?_
 rintro e w1 ⟨rfl, rfl⟩
 go_wp2
 go_ret
 exact ⟨rfl, rfl⟩
set_option maxRecDepth 100000 in
set_option maxHeartbeats 400000 in
theorem l02Width_c (x : Int) (w : World) : Calls Tryz.prog 107 #[.int .i64 x] w fun e w' => e = .returned (.bool (inR x 1 32)) ∧ w = w' := by
 go_enter Tryz.func107, Tryz.ntmps107
 go_wp2_with fail
 refine (l01In_c x 1 32 _).mono ?_
 rintro e w1 ⟨rfl, rfl⟩
 go_wp2
 go_ret
 exact ⟨rfl, rfl⟩
end Go.Proofs.YtmmepogjocfefaaGreat
