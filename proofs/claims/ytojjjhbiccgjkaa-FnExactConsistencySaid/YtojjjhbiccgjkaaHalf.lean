/- HalfOf: the greatest power of two below a size. -/
import Derived.Test.YtojjjhbiccgjkaaLow
import Derived.Shelf.Small.Bits
import Derived.Lib.ItoaNum
import Derived.Ground.NamesProg
import Derived.Lib.Agree
namespace Go.Proofs.Ytojjjhbiccgjkaa
set_option linter.unusedVariables false
set_option linter.unusedSimpArgs false
open Go.Shelf Go.RowKit

def laysLen_ren : Go.Shelf.Ren := ⟨fun | 125 => 189 | 128 => 220 | 129 => 221 | n => n, fun | 46 => 174 | 3 => 3 | 51 => 169 | 53 => 226 | 4 => 4 | 5 => 5 | 9 => 9 | n => n, fun | n => n⟩
theorem laysLen : Go.Proofs.Lays.n125 Try.prog laysLen_ren := {
  mixed := by kernel_rfl
  f125 := Try.func189.trans (congrArg some (by kernel_rfl))
  f128 := Try.func220.trans (congrArg some (by kernel_rfl))
  f129 := Try.func221.trans (congrArg some (by kernel_rfl))
  t3 := Try.underlying3
  a3 := Try.isAgg3
  z3 := Try.sizeOf3
  v3 := Try.zeroValue3
  t4 := Try.underlying4
  a4 := Try.isAgg4
  z4 := Try.sizeOf4
  v4 := Try.zeroValue4
  t5 := Try.underlying5
  a5 := Try.isAgg5
  z5 := Try.sizeOf5
  v5 := Try.zeroValue5
  t9 := Try.underlying9
  a9 := Try.isAgg9
  z9 := Try.sizeOf9
  v9 := Try.zeroValue9
  t46 := Try.underlying174
  a46 := Try.isAgg174
  z46 := Try.sizeOf174
  v46 := Try.zeroValue174
  t51 := Try.underlying169
  a51 := Try.isAgg169
  z51 := Try.sizeOf169
  v51 := Try.zeroValue169
  t53 := Try.underlying226
  a53 := Try.isAgg226
  z53 := Try.sizeOf226
  v53 := Try.zeroValue226 }

theorem fLen : laysLen_ren.f 125 = 189 := by kernel_rfl
def halfN (n : Nat) : Nat := 2 ^ (Lib.bitLen (n - 1) - 1)
theorem bitLen_bd {x : Nat} (h0 : x ≠ 0) (h : x < 512) : 1 ≤ Lib.bitLen x ∧ Lib.bitLen x ≤ 9 ∧ 2 ^ (Lib.bitLen x - 1) ≤ x ∧ x < 2 ^ Lib.bitLen x := by
  obtain ⟨h1, h2, h3⟩ := Lib.bitLenAux_bounds 64 x (Nat.lt_trans h (by decide)) h0
  refine ⟨h1, ?_, h2, h3⟩
  rcases Nat.lt_or_ge 9 (Lib.bitLen x) with h9 | h9
  · exfalso
    have h4 : 2 ^ 9 ≤ 2 ^ (Lib.bitLenAux 64 x - 1) := Nat.pow_le_pow_right (by omega) (by have : Lib.bitLen x = Lib.bitLenAux 64 x := rfl; omega)
    omega
  · exact h9
theorem halfN_bd {n : Nat} (h2 : 2 ≤ n) (h : n ≤ 512) : 1 ≤ halfN n ∧ halfN n < n ∧ n ≤ 2 * halfN n := by
  obtain ⟨h1, h9, h3, h4⟩ := bitLen_bd (x := n - 1) (by omega) (by omega)
  have h5 : 2 ^ Lib.bitLen (n - 1) = 2 * 2 ^ (Lib.bitLen (n - 1) - 1) := by
    rw [← Nat.pow_succ', Nat.succ_eq_add_one, Nat.sub_add_cancel h1]
  have h6 : 0 < 2 ^ (Lib.bitLen (n - 1) - 1) := Nat.two_pow_pos _
  unfold halfN
  omega
theorem halfN_eq {n j : Nat} (h2 : 2 ≤ n) (h : n ≤ 512) (h1 : 2 ^ j < n) (h3 : n ≤ 2 * 2 ^ j) : halfN n = 2 ^ j := by
  obtain ⟨k1, k2, k3⟩ := halfN_bd h2 h
  unfold halfN at *
  generalize Lib.bitLen (n - 1) - 1 = b at *
  have : b = j := by
    rcases Nat.lt_trichotomy b j with hb | hb | hb
    · have h5 : 2 ^ (b + 1) ≤ 2 ^ j := Nat.pow_le_pow_right (by omega) hb
      rw [Nat.pow_succ] at h5
      omega
    · exact hb
    · have h5 : 2 ^ (j + 1) ≤ 2 ^ b := Nat.pow_le_pow_right (by omega) hb
      rw [Nat.pow_succ] at h5
      omega
  rw [this]

set_option maxRecDepth 100000 in
set_option maxHeartbeats 400000 in
theorem Len_bits_c (x : Nat) (w : World) (h : x < 512) : Calls Try.prog 189 #[.int .u64 x] w fun e w' => e = .returned (.int .i64 (Lib.bitLen x : Nat)) ∧ w = w' := by
  have := Any.bits_Len laysLen x w (by omega) (by omega)
  rw [fLen, Int.toNat_natCast] at this
  exact this.mono fun _ _ hh => ⟨hh.1, hh.2.symm⟩
set_option maxRecDepth 100000 in
set_option maxHeartbeats 400000 in
theorem implHalfOf_c (n : Nat) (w : World) (h2 : 2 ≤ n) (h : n ≤ 512) : Calls Try.prog 204 #[.int .i64 n] w fun e w' => e = .returned (.int .i64 (halfN n : Nat)) ∧ w = w' := by
  obtain ⟨h1, h9, _, _⟩ := bitLen_bd (x := n - 1) (by omega) (by omega)
  have hq : inR (n : Int) 2 512 = true := inR_true.2 ⟨by omega, by omega⟩
  have HQ := Lib.hid hq
  have HH : Hid (halfN n = 2 ^ (Lib.bitLen (n - 1) - 1)) := Lib.hid rfl
  have HL := Lib.hid (fun W => Len_bits_c (n - 1) W (by omega))
  obtain ⟨x, hx⟩ : ∃ x, x = n - 1 := ⟨_, rfl⟩
  have E1 : (n : Int) - 1 = x := by omega
  have E2 : IntKind.i64.wrap ((n : Int) - 1) = x := by rw [IntKind.wrap_i64]; omega
  have E3 : IntKind.u64.wrap (x : Int) = x := by rw [IntKind.wrap_u64]; omega
  rw [← hx] at HL HH h1 h9
  clear hq hx
  generalize Lib.bitLen x = b at *
  go_enter Try.func204, Try.ntmps204
  go_wp2_with fail
  refine (inRange_c n 2 512 _).mono ?_
  rintro e w1 ⟨rfl, rfl⟩
  rw [HQ.out]
  go_wp2_with fail
  refine (HL.out _).mono ?_
  rintro e w1 ⟨rfl, rfl⟩
  rcases (show b = 1 ∨ b = 2 ∨ b = 3 ∨ b = 4 ∨ b = 5 ∨ b = 6 ∨ b = 7 ∨ b = 8 ∨ b = 9 by omega) with rfl | rfl | rfl | rfl | rfl | rfl | rfl | rfl | rfl
  all_goals
    go_wp2
    go_ret
    exact ⟨by rw [HH.out]; rfl, rfl⟩
set_option maxRecDepth 100000 in
set_option maxHeartbeats 400000 in
theorem specHalfOf_c (n : Nat) (w : World) (h2 : 2 ≤ n) (h : n ≤ 512) : Calls Try.prog 174 #[.int .i64 n] w fun e w' => e = .returned (.int .i64 (halfN n : Nat)) ∧ w = w' := by
  have hq : inR (n : Int) 2 512 = true := inR_true.2 ⟨by omega, by omega⟩
  have HQ := Lib.hid hq
  clear hq
  have hn5 : (n : Int) ≤ 512 := by omega
  go_enter Try.func174, Try.ntmps174
  go_wp2_with fail
  refine (l01In_c n 2 512 _).mono ?_
  rintro e w1 ⟨rfl, rfl⟩
  rw [HQ.out]
  go_wp2
  go_loop [3] (fun p => ∃ q j : Nat, p = .int .i64 q ∧ q = 2 ^ j ∧ q < n) (fun p => n - (intOf p).toNat)
  case atStart => exact ⟨1, 0, rfl, rfl, by omega⟩
  case round =>
    obtain ⟨q, j, rfl, hq, hlt⟩ := hrel
    have hpos : 0 < q := by rw [hq]; exact Nat.two_pow_pos _
    have HQ2 := Lib.hid hq
    clear hq
    rcases Nat.lt_or_ge (2 * q) n with hs | hs
    · go_wp2
      go_round
      case rel => exact ⟨2 * q, j + 1, by go_num, by rw [Nat.pow_succ, ← HQ2.out]; omega, hs⟩
      case measure => simp [intOf]; omega
    · have HE : Hid (halfN n = q) := Lib.hid (by rw [halfN_eq (j := j) h2 h (by rw [← HQ2.out]; exact hlt) (by rw [← HQ2.out]; exact hs), ← HQ2.out])
      go_wp2
      go_ret
      exact ⟨by rw [HE.out]; rfl, rfl⟩
end Go.Proofs.Ytojjjhbiccgjkaa
