/- PadOf of the reference at any length. -/
import Derived.Test.YtojjjhbiccgjkaaRef5
namespace Go.Proofs.Ytojjjhbiccgjkaa
set_option linter.unusedVariables false
set_option linter.unusedSimpArgs false
open Go.RowKit

set_option maxRecDepth 100000 in
set_option maxHeartbeats 400000 in
theorem specPadOf_no (n : Nat) (w : World) (hn : 4000 < n) : Calls Try.prog 159 #[.int .i64 n] w fun e w' => e = .returned (.tuple #[.string ⟨#[]⟩, .bool false]) ∧ Below w.heap.size w w' := by
  have hin : inR (n : Int) 0 4000 = false := inR_false.2 (.inr (by omega))
  have HIN := Lib.hid hin
  clear hin
  go_enter Try.func159, Try.ntmps159
  go_wp2_with fail
  refine (l01In_c n 0 4000 _).mono ?_
  rintro e w1 ⟨rfl, rfl⟩
  rw [HIN.out]
  go_wp2
  refine bodyPost_ret (v := .tuple #[.string ⟨#[]⟩, .bool false]) (by simp [results, Try.results159, go_sem]) rfl ?_
  exact ⟨rfl, Below.refl _ _⟩
end Go.Proofs.Ytojjjhbiccgjkaa
