/- Words: constants and turns. -/
import Derived.Test.YtojjjhbiccgjkaaNum
import Derived.Laws.BitsAllLaws
import Derived.Test.YtojjjhbiccgjkaaWk
import Derived.Laws.BitsLemmas
namespace Go.Proofs.Ytojjjhbiccgjkaa
set_option linter.unusedVariables false
set_option linter.unusedSimpArgs false
open Go.RowKit

theorem stop_here {p : Prop} (h : True → p) : p := h trivial
/-- a constant of the hash -/
def cst (k : Int) : Int := (k % 4294967296 + 1) % 4294967296 * 2654435761 % 4294967296
theorem cst_w (k : Int) : 0 ≤ cst k ∧ cst k < 4294967296 := by unfold cst; omega
/-- a turn by one -/
def rot1 (x : Int) : Int := x * 2 % 4294967296 + x / 2147483648
/-- a turn by so many -/
def rotN : Nat → Int → Int
  | 0, x => x
  | n + 1, x => rot1 (rotN n x)
theorem rot1_w {x : Int} (h : 0 ≤ x ∧ x < 4294967296) : 0 ≤ rot1 x ∧ rot1 x < 4294967296 := by unfold rot1; omega
theorem rotN_w {x : Int} (h : 0 ≤ x ∧ x < 4294967296) : ∀ n, 0 ≤ rotN n x ∧ rotN n x < 4294967296
  | 0 => h
  | n + 1 => rot1_w (rotN_w h n)
theorem pw2 (n : Nat) (h : n < 32) : (2 : Int) ^ n * 2 ^ (31 - n) = 2147483648 := by
  rw [← Int.pow_add, show n + (31 - n) = 31 by omega]; rfl
theorem rotN_eq {x : Int} (h : 0 ≤ x ∧ x < 4294967296) : ∀ n : Nat, n < 32 → rotN n x = x * 2 ^ n % 4294967296 + x / 2 ^ (32 - n) := by
  intro n hn
  induction n with
  | zero => show x = _; simp only [Nat.sub_zero, Int.pow_zero]; omega
  | succ n ih =>
    have e := ih (by omega)
    show rot1 (rotN n x) = _
    rw [e]
    unfold rot1
    clear ih e
    have hP := pw2 n (by omega)
    obtain ⟨m, hm⟩ : ∃ m, m = 31 - n := ⟨_, rfl⟩
    rw [show 32 - n = m + 1 by omega, show 32 - (n + 1) = m by omega, Int.pow_succ, Int.pow_succ]
    rw [← hm] at hP
    have hp0 : (0 : Int) < 2 ^ n := Int.pow_pos (by decide)
    have hm0 : (0 : Int) < 2 ^ m := Int.pow_pos (by decide)
    clear hm
    generalize (2 : Int) ^ n = p at *
    generalize (2 : Int) ^ m = M at *
    rw [← Int.ediv_ediv_of_nonneg (by omega : 0 ≤ M), ← Int.mul_assoc]
    have e1 : x = M * (x / M) + x % M := (Int.mul_ediv_add_emod x M).symm
    have r0 : 0 ≤ x % M := Int.emod_nonneg _ (by omega)
    have r1 : x % M < M := Int.emod_lt_of_pos _ hm0
    have e2 : x * p = (x / M) * 2147483648 + x % M * p := by
      conv => lhs; rw [e1]
      rw [Int.add_mul, ← hP, Int.mul_comm M, Int.mul_assoc, Int.mul_comm M]
    have t0 : 0 ≤ x % M * p := Int.mul_nonneg r0 (by omega)
    have t1 : (x % M + 1) * p ≤ M * p := Int.mul_le_mul_of_nonneg_right (by omega) (by omega)
    rw [Int.add_mul, Int.one_mul, Int.mul_comm M, hP] at t1
    have a0 : 0 ≤ x / M := Int.ediv_nonneg h.1 (by omega)
    have a1 : x / M < 2 * p := by
      apply Int.ediv_lt_of_lt_mul hm0
      rw [Int.mul_assoc, hP]; omega
    clear e1 r0 r1 hP
    generalize x * p = y at *
    generalize x % M * p = t at *
    generalize x / M = a at *
    subst e2
    have q1 : (a * 2147483648 + t) % 4294967296 = a % 2 * 2147483648 + t := by omega
    have q2 : (a * 2147483648 + t) * 2 % 4294967296 = 2 * t := by omega
    rw [q1, q2]
    have q3 : (a % 2 * 2147483648 + t + a / 2) / 2147483648 = a % 2 := by omega
    have q4 : (a % 2 * 2147483648 + t + a / 2) * 2 % 4294967296 = 2 * (t + a / 2) := by omega
    rw [q3, q4]
    omega

set_option maxRecDepth 100000 in
set_option maxHeartbeats 400000 in
theorem implConstant_c (k : Int) (w : World) : Calls Try.prog 228 #[.int .i64 k] w fun e w' => e = .returned (.int .u32 (cst k)) ∧ w = w' := by
  go_enter Try.func228, Try.ntmps228
  go_wp2
  go_ret
  exact ⟨by unfold cst; simp [Go.IntKind.wrap_u32'], rfl⟩
set_option maxRecDepth 100000 in
set_option maxHeartbeats 400000 in
theorem specConstant_c (k : Int) (w : World) : Calls Try.prog 226 #[.int .i64 k] w fun e w' => e = .returned (.int .u32 (cst k)) ∧ w = w' := by
  go_enter Try.func226, Try.ntmps226
  go_wp2
  go_ret
  exact ⟨by unfold cst; simp [Go.IntKind.wrap_u32'], rfl⟩
theorem and31 (n : Nat) (hn : n < 32) : bits .and .u64 (n : Int) 31 = n := by
  have e := u64_and_nat n 31 (by omega) (by omega)
  rw [show n &&& 31 = n from by rw [show 31 = 2 ^ 5 - 1 from rfl, Nat.and_two_pow_sub_one_eq_mod]; omega] at e
  exact e
theorem wraps32 (n : Int) (h₀ : 0 ≤ n) (h₁ : n < 2 ^ 32) : IntKind.u32.wrap n = n := by rw [Go.IntKind.wrap_u32']; omega
theorem or_rot {x : Int} (h : 0 ≤ x ∧ x < 4294967296) (n : Nat) (hn : n < 32) : bits .or .u32 (x * 2 ^ n % 4294967296) (x / 2 ^ (32 - n)) = rotN n x := by
  rw [rotN_eq h n hn]
  have hp0 : (0 : Int) < 2 ^ n := Int.pow_pos (by decide)
  have hm0 : (0 : Int) < 2 ^ (32 - n) := Int.pow_pos (by decide)
  have hP : (2 : Int) ^ n * 2 ^ (32 - n) = 4294967296 := by
    rw [← Int.pow_add, show n + (32 - n) = 32 by omega]; rfl
  have q0 : 0 ≤ x / 2 ^ (32 - n) := Int.ediv_nonneg h.1 (by omega)
  have q1 : x / 2 ^ (32 - n) < 2 ^ n := by
    apply Int.ediv_lt_of_lt_mul hm0
    rw [hP]; exact h.2
  have q2 : x / 2 ^ (32 - n) < 4294967296 := Int.lt_of_le_of_lt (Int.ediv_le_self _ h.1) h.2
  exact bits_join .u32 32 (by decide) wraps32 n _ _ (by omega) (by rw [Int.emod_emod_of_dvd _ ⟨2 ^ (32 - n), hP.symm⟩]; exact Int.mul_emod_left x _) (by omega) q0 q1 q2
set_option maxRecDepth 100000 in
set_option maxHeartbeats 400000 in
theorem RotateLeft32_c (x : Int) (n : Nat) (w : World) (h : 0 ≤ x ∧ x < 4294967296) (hn : n < 32) : Calls Try.prog 241 #[.int .u32 x, .int .i64 n] w fun e w' => e = .returned (.int .u32 (rotN n x)) ∧ w = w' := by
  have hb := and31 n hn
  go_enter Try.func241, Try.ntmps241
  go_wp2
  go_ret
  exact ⟨by rw [or_rot h n hn]; rfl, rfl⟩
set_option maxRecDepth 100000 in
set_option maxHeartbeats 400000 in
theorem implTurn_c (x : Int) (n : Nat) (w : World) (h : 0 ≤ x ∧ x < 4294967296) (hn : n < 32) : Calls Try.prog 229 #[.int .u32 x, .int .i64 n] w fun e w' => e = .returned (.int .u32 (rotN n x)) ∧ w = w' := by
  have hb : (n : Int) % 32 = n := by omega
  go_enter Try.func229, Try.ntmps229
  go_wp2_with fail
  refine (RotateLeft32_c x n _ h hn).mono ?_
  rintro e w1 ⟨rfl, rfl⟩
  go_wp2
  go_ret
  exact ⟨rfl, rfl⟩
set_option maxRecDepth 100000 in
set_option maxHeartbeats 400000 in
theorem specTurn_c (x : Int) (n : Nat) (w : World) (h : 0 ≤ x ∧ x < 4294967296) (hn : n < 32) : Calls Try.prog 227 #[.int .u32 x, .int .i64 n] w fun e w' => e = .returned (.int .u32 (rotN n x)) ∧ w = w' := by
  have hb : (n : Int) % 32 = n := by omega
  go_enter Try.func227, Try.ntmps227
  go_wp2
  go_loop [0, 6] (fun y i => ∃ k : Nat, k ≤ n ∧ i = .int .i64 k ∧ y = .int .u32 (rotN k x)) (fun _ i => n - (intOf i).toNat)
  case atStart => exact ⟨0, Nat.zero_le _, rfl, rfl⟩
  case round =>
    obtain ⟨k, hk, rfl, rfl⟩ := hrel
    have hw := rotN_w h k
    have hs : rotN (k + 1) x = rot1 (rotN k x) := rfl
    have HS := Lib.hid hs
    clear hs
    generalize hy : rotN k x = y at *
    have HY := Lib.hid hy
    clear hy
    have ho : bits .or .u32 (y * 2 % 4294967296) (y / 2147483648) = rot1 y := or_rot hw 1 (by omega)
    go_wp2
    all_goals first
      | (refine ⟨⟨k + 1, by omega, by go_num, by rw [HS.out]⟩, ?_⟩
         simp [intOf]; omega)
      | (obtain rfl : k = n := by omega
         go_ret
         exact ⟨by rw [HY.out]; rfl, rfl⟩)
end Go.Proofs.Ytojjjhbiccgjkaa
