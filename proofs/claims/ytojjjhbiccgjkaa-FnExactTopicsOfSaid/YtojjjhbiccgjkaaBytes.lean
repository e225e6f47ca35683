/- Words read out of a text, and written into one. -/
import Derived.Test.YtojjjhbiccgjkaaWord
import Derived.Test.YtojjjhbiccgjkaaKit2
import Derived.Deep.QuietTactic
import Derived.BigQuiet
namespace Go.Proofs.Ytojjjhbiccgjkaa
set_option linter.unusedVariables false
set_option linter.unusedSimpArgs false
open Go.RowKit

def wordAt (s : ByteArray) (k : Nat) (h : k + 4 ≤ s.size) : Int := ((((s[k].toNat : Int) * 256 + s[k + 1].toNat) * 256 + s[k + 2].toNat) * 256 + s[k + 3].toNat)
def wordText (x : Int) : ByteArray := strOfNums [x / 16777216, x / 65536 % 256, x / 256 % 256, x % 256]
theorem byte_lt (b : UInt8) : (0 : Int) ≤ (b.toNat : Int) ∧ (b.toNat : Int) < 256 := ⟨Int.natCast_nonneg _, by have := b.toNat_lt; omega⟩
def wordUp (s : ByteArray) (k : Nat) (h : k + 4 ≤ s.size) : Nat → Int
  | 0 => 0
  | 1 => s[k].toNat
  | 2 => (s[k].toNat : Int) * 256 + s[k + 1].toNat
  | 3 => ((s[k].toNat : Int) * 256 + s[k + 1].toNat) * 256 + s[k + 2].toNat
  | _ => wordAt s k h
theorem wordUp_w (s : ByteArray) (k : Nat) (h : k + 4 ≤ s.size) (j : Nat) (hj : j < 4) : 0 ≤ wordUp s k h j ∧ wordUp s k h j < 16777216 := by
  have b0 := byte_lt s[k]
  have b1 := byte_lt s[k + 1]
  have b2 := byte_lt s[k + 2]
  rcases j with _ | _ | _ | _ | j
  · have e : wordUp s k h 0 = 0 := rfl
    rw [e]; omega
  · have e : wordUp s k h (0 + 1) = s[k].toNat := rfl
    rw [e]; omega
  · have e : wordUp s k h (0 + 1 + 1) = (s[k].toNat : Int) * 256 + s[k + 1].toNat := rfl
    rw [e]; omega
  · have e : wordUp s k h (0 + 1 + 1 + 1) = ((s[k].toNat : Int) * 256 + s[k + 1].toNat) * 256 + s[k + 2].toNat := rfl
    rw [e]; omega
  · omega
theorem or_word (b0 b1 b2 b3 : Int) (h0 : 0 ≤ b0 ∧ b0 < 256) (h1 : 0 ≤ b1 ∧ b1 < 256) (h2 : 0 ≤ b2 ∧ b2 < 256) (h3 : 0 ≤ b3 ∧ b3 < 256) :
    bits .or .u32 (bits .or .u32 (bits .or .u32 (b0 % 4294967296 * 16777216 % 4294967296) (b1 % 4294967296 * 65536 % 4294967296)) (b2 % 4294967296 * 256 % 4294967296)) (b3 % 4294967296) = ((b0 * 256 + b1) * 256 + b2) * 256 + b3 := by
  rw [bits_join .u32 32 (by decide) wraps32 24 (b0 % 4294967296 * 16777216 % 4294967296) (b1 % 4294967296 * 65536 % 4294967296) (by omega) (by omega) (by omega) (by omega) (by omega) (by omega)]
  rw [bits_join .u32 32 (by decide) wraps32 16 _ (b2 % 4294967296 * 256 % 4294967296) (by omega) (by omega) (by omega) (by omega) (by omega) (by omega)]
  rw [bits_join .u32 32 (by decide) wraps32 8 _ (b3 % 4294967296) (by omega) (by omega) (by omega) (by omega) (by omega) (by omega)]
  omega
theorem wordUp_next (s : ByteArray) (k : Nat) (h : k + 4 ≤ s.size) (j : Nat) (hj : j < 4) (q : Nat) (hqs : q < s.size) (hq : q = k + j) : wordUp s k h (j + 1) = wordUp s k h j * 256 + (s[q]'hqs).toNat := by
  subst hq
  match j, hj with
  | 0, _ =>
    show (s[k].toNat : Int) = 0 * 256 + (s[k + 0].toNat : Int)
    simp
  | 1, _ => rfl
  | 2, _ => rfl
  | 3, _ => rfl
theorem wordAt_w (s : ByteArray) (k : Nat) (h : k + 4 ≤ s.size) : 0 ≤ wordAt s k h ∧ wordAt s k h < 4294967296 := by
  unfold wordAt
  have b0 := byte_lt s[k]
  have b1 := byte_lt s[k + 1]
  have b2 := byte_lt s[k + 2]
  have b3 := byte_lt s[k + 3]
  omega
theorem below_drewN (w : World) (n : Nat) : Below w.heap.size w (w.drewN n) := ⟨rfl, rfl, rfl, Nat.le_refl _, fun _ _ => rfl⟩
set_option maxRecDepth 100000 in
set_option maxHeartbeats 400000 in
theorem implWordAt_c (s : ByteArray) (k : Nat) (w : World) (hs : s.size ≤ maxLen) (h : k + 4 ≤ s.size) : Calls Try.prog 199 #[.string s, .int .i64 k] w fun e w' => e = .returned (.int .u32 (wordAt s k h)) ∧ Below w.heap.size w w' := by
  unfold maxLen at hs
  obtain ⟨k1, hk1⟩ : ∃ j, j = k + 1 := ⟨_, rfl⟩
  obtain ⟨k2, hk2⟩ : ∃ j, j = k + 2 := ⟨_, rfl⟩
  obtain ⟨k3, hk3⟩ : ∃ j, j = k + 3 := ⟨_, rfl⟩
  have i0 : (k : Int) < (s.size : Int) := by omega
  have i1 : (k1 : Int) < (s.size : Int) := by omega
  have i2 : (k2 : Int) < (s.size : Int) := by omega
  have i3 : (k3 : Int) < (s.size : Int) := by omega
  have w1 : IntKind.i64.wrap ((k : Int) + 1) = k1 := by rw [IntKind.wrap_i64]; omega
  have w2 : IntKind.i64.wrap ((k : Int) + 2) = k2 := by rw [IntKind.wrap_i64]; omega
  have w3 : IntKind.i64.wrap ((k : Int) + 3) = k3 := by rw [IntKind.wrap_i64]; omega
  have H := Lib.hid (And.intro hk1 (And.intro hk2 hk3))
  clear hk1 hk2 hk3
  go_enter Try.func199, Try.ntmps199
  go_wp2
  go_quiet (fail)
  go_wp2
  go_ret
  obtain ⟨rfl, rfl, rfl⟩ := H.out
  exact ⟨ret_int (or_word _ _ _ _ (byte_lt _) (byte_lt _) (byte_lt _) (byte_lt _)), below_drewN w nq⟩
set_option maxRecDepth 100000 in
set_option maxHeartbeats 400000 in
theorem specWordAt_c (s : ByteArray) (k : Nat) (w : World) (hs : s.size ≤ maxLen) (h : k + 4 ≤ s.size) : Calls Try.prog 225 #[.string s, .int .i64 k] w fun e w' => e = .returned (.int .u32 (wordAt s k h)) ∧ w = w' := by
  unfold maxLen at hs
  go_enter Try.func225, Try.ntmps225
  go_wp2
  go_loop [5, 6] (fun v i => ∃ j : Nat, j ≤ 4 ∧ i = .int .i64 j ∧ v = .int .u32 (wordUp s k h j)) (fun _ i => 4 - (intOf i).toNat)
  case atStart => exact ⟨0, Nat.zero_le _, rfl, rfl⟩
  case round =>
    obtain ⟨j, hj, rfl, rfl⟩ := hrel
    by_cases hlt : j < 4
    · obtain ⟨q, hq⟩ : ∃ q, q = k + j := ⟨_, rfl⟩
      have i0 : (q : Int) < (s.size : Int) := by omega
      have w1 : IntKind.i64.wrap ((k : Int) + j) = q := by rw [IntKind.wrap_i64]; omega
      have w2 : (k : Int) + j = q := by omega
      have hqs : q < s.size := by omega
      have hu := wordUp_w s k h j hlt
      have hn := wordUp_next s k h j hlt q hqs hq
      have HN := Lib.hid hn
      have HQ := Lib.hid hq
      clear hn hq
      generalize wordUp s k h j = y at *
      have b0 := byte_lt s[q]
      go_wp2
      go_round
      case rel => exact ⟨j + 1, by omega, by go_num, by rw [HN.out]⟩
      case measure => simp [intOf]; omega
    · obtain rfl : j = 4 := by omega
      go_wp2
      go_ret
      exact ⟨rfl, rfl⟩
set_option maxRecDepth 100000 in
set_option maxHeartbeats 400000 in
theorem implWordText_c (x : Int) (w : World) (h : 0 ≤ x ∧ x < 4294967296) : Calls Try.prog 202 #[.int .u32 x] w fun e w' => e = .returned (.string (wordText x)) ∧ Below w.heap.size w w' := by
  have hc := conv_4 (P := Try.prog) 119 5 9 rfl rfl rfl w (x / 16777216) (x / 65536 % 256) (x / 256 % 256) (x % 256)
  go_enter Try.func202, Try.ntmps202
  go_wp2
  go_ret
  exact ⟨rfl, (Below.refl _ _).alloc (Nat.le_refl _) _⟩
set_option maxRecDepth 100000 in
set_option maxHeartbeats 400000 in
theorem specWordText_c (x : Int) (w : World) (h : 0 ≤ x ∧ x < 4294967296) : Calls Try.prog 224 #[.int .u32 x] w fun e w' => e = .returned (.string (wordText x)) ∧ Below w.heap.size w w' := by
  have hc := conv_4 (P := Try.prog) 119 5 9 rfl rfl rfl w (x / 16777216) (x / 65536 % 256) (x / 256 % 256) (x % 256)
  go_enter Try.func224, Try.ntmps224
  go_wp2
  go_ret
  exact ⟨rfl, (Below.refl _ _).alloc (Nat.le_refl _) _⟩
end Go.Proofs.Ytojjjhbiccgjkaa
