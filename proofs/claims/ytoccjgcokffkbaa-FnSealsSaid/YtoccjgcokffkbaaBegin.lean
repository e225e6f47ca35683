/- big, begins: small helpers of the laws. -/
import Derived.Test.YtoccjgcokffkbaaDraw
namespace Go.Proofs.Ytoccjgcokffkbaa
set_option linter.unusedVariables false
set_option linter.unusedSimpArgs false
open Go.RowKit

set_option maxRecDepth 100000 in
set_option maxHeartbeats 400000 in
theorem big_c (n g : Nat) (B : Option Addr) (w : World) (hn : n ≤ maxLen) : Calls Try.prog 7 #[.slice B n g] w fun e w' => e = .returned (.bool (decide (1048576 < n))) ∧ w = w' := by
 unfold maxLen at hn
 go_enter Try.func7, Try.ntmps7
 rcases Nat.lt_or_ge 1048576 n with h | h
 ·have hI : (1048576 : Int) < n := by omega
  go_wp2
  go_ret
  exact ⟨ret_bool (by first | rfl | (rw [decide_eq_true h]; simp [h]) | simp [h]), rfl⟩
 ·have hI : ¬ (1048576 : Int) < n := by omega
  go_wp2
  go_ret
  exact ⟨ret_bool (by first | rfl | simp [h] | (rw [decide_eq_false (by omega)]; simp; omega)), rfl⟩
set_option maxRecDepth 100000 in
set_option maxHeartbeats 400000 in
theorem begins_c (a c b : ByteArray) (w : World) (hb : b = a ++ c) (hs : b.size ≤ 100000000) : Calls Try.prog 13 #[.string a, .string b] w fun e w' => e = .returned (.bool true) ∧ w = w' := by
 have h1 : b.size = a.size + c.size := by rw [hb, ByteArray.size_append]
 have h2 : b.extract 0 a.size = a := by
  rw [hb]
  apply ByteArray.ext
  simp
 have h3 : (a.size : Int) ≤ b.size := by omega
 have h4 : a.size ≤ b.size := by omega
 clear hb
 go_enter Try.func13, Try.ntmps13
 go_wp2
 go_ret
 exact ⟨ret_bool (by first | rfl | simp [h2]), rfl⟩
end Go.Proofs.Ytoccjgcokffkbaa
