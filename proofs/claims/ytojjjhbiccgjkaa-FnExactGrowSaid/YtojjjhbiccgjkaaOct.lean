/- Numbers in bytes. -/
import Derived.Test.YtojjjhbiccgjkaaRef9
namespace Go.Proofs.Ytojjjhbiccgjkaa
set_option linter.unusedVariables false
set_option linter.unusedSimpArgs false
open Go.RowKit

def octB (n : Int) : ByteArray := strOfNums [n % 256]
theorem octB_size (n : Int) : (octB n).size = 1 := rfl
def pairB (n : Int) : ByteArray := octB (n / 256) ++ octB n
theorem pairB_size (n : Int) : (pairB n).size = 2 := rfl
def divN (n : Int) : Nat → Int
  | 0 => n
  | j + 1 => divN n j / 256
def numUp (n : Int) : Nat → ByteArray
  | 0 => ByteArray.empty
  | j + 1 => octB (divN n j) ++ numUp n j
theorem numUp_size (n : Int) : ∀ j, (numUp n j).size = j
  | 0 => rfl
  | j + 1 => by rw [numUp, ByteArray.size_append, octB_size, numUp_size n j]; omega
theorem divN_bd {n : Int} (h0 : 0 ≤ n) (h : n ≤ 4611686018427387904) : ∀ j, 0 ≤ divN n j ∧ divN n j ≤ 4611686018427387904
  | 0 => ⟨h0, h⟩
  | j + 1 => by have := divN_bd h0 h j; rw [divN]; omega
theorem numUp_1 (n : Int) : numUp n 1 = octB n := ByteArray.append_empty
theorem numUp_2 (n : Int) : numUp n 2 = pairB n := by
  show octB (n / 256) ++ (octB n ++ ByteArray.empty) = _
  rw [ByteArray.append_empty]; rfl
def shortB (t : ByteArray) : ByteArray := octB t.size ++ t

set_option maxRecDepth 100000 in
set_option maxHeartbeats 400000 in
theorem octet_c (n : Int) (w : World) (h0 : 0 ≤ n) (h : n ≤ 4611686018427387904) : Calls Try.prog 167 #[.int .i64 n] w fun e w' => e = .returned (.string (octB n)) ∧ Below w.heap.size w w' := by
  have hc := conv_1 (P := Try.prog) 119 5 9 rfl rfl rfl w (n % 256)
  go_enter Try.func167, Try.ntmps167
  go_wp2
  go_ret
  exact ⟨rfl, (Below.refl _ _).alloc (Nat.le_refl _) _⟩
set_option maxRecDepth 100000 in
set_option maxHeartbeats 400000 in
theorem pair_c (n : Int) (w : World) (h0 : 0 ≤ n) (h : n ≤ 100000000) : Calls Try.prog 105 #[.int .i64 n] w fun e w' => e = .returned (.string (pairB n)) ∧ Below w.heap.size w w' := by
  have hP : pairB n = octB (n / 256) ++ octB n := rfl
  have HP := Lib.hid hP
  clear hP
  have h1 := octB_size (n / 256)
  have h2 := octB_size n
  have hs := fun W => run_string_add_sum (P := Try.prog) W (octB (n / 256)) (octB n) (by omega)
  obtain ⟨m, hm⟩ : ∃ m, m = n / 256 := ⟨_, rfl⟩
  have c1 := fun W => octet_c m W (by omega) (by omega)
  have c2 := fun W => octet_c n W (by omega) (by omega)
  have H1 := Lib.hid c1
  have H2 := Lib.hid c2
  rw [← hm] at hs
  have HM := Lib.hid hm
  clear c1 c2 h1 h2
  generalize ho1 : octB m = o1 at *
  generalize ho2 : octB n = o2 at *
  have HO := Lib.hid ho1
  have HO2 := Lib.hid ho2
  clear ho1 ho2 hm
  go_enter Try.func105, Try.ntmps105
  go_wp2_with fail
  rw [← HM.out]
  refine (H1.out _).mono ?_
  rintro e w1 ⟨rfl, hb1⟩
  have HB1 := Lib.hid hb1
  clear hb1
  go_wp2_with fail
  refine (H2.out _).mono ?_
  rintro e w2 ⟨rfl, hb2⟩
  have HB2 := Lib.hid (below_then HB1.out hb2 HB1.out.size)
  clear hb2 HB1
  go_wp2
  go_ret
  exact ⟨by rw [HP.out, ← HM.out, HO.out]; rfl, HB2.out⟩
set_option maxRecDepth 100000 in
set_option maxHeartbeats 400000 in
theorem short_c (t : ByteArray) (w : World) (h : t.size ≤ 100000000) : Calls Try.prog 240 #[.string t] w fun e w' => e = .returned (.string (shortB t)) ∧ Below w.heap.size w w' := by
  have h1 := octB_size t.size
  have hP : shortB t = octB t.size ++ t := rfl
  have HP := Lib.hid hP
  have hs := fun W => run_string_add_sum (P := Try.prog) W (octB t.size) t (by omega)
  have c1 := fun W => octet_c t.size W (by omega) (by omega)
  have H1 := Lib.hid c1
  clear c1 h1 hP
  generalize octB t.size = o1 at *
  go_enter Try.func240, Try.ntmps240
  go_wp2_with fail
  refine (H1.out _).mono ?_
  rintro e w1 ⟨rfl, hb1⟩
  have HB1 := Lib.hid hb1
  clear hb1
  go_wp2
  go_ret
  exact ⟨by rw [HP.out]; rfl, HB1.out⟩
set_option maxRecDepth 100000 in
set_option maxHeartbeats 400000 in
theorem l03Number_c (n : Int) (k : Nat) (w : World) (h0 : 0 ≤ n) (h : n ≤ 4611686018427387904) (hk : k ≤ 8) : Calls Try.prog 102 #[.int .i64 n, .int .i64 k] w fun e w' => e = .returned (.string (numUp n k)) ∧ Below w.heap.size w w' := by
  go_enter Try.func102, Try.ntmps102
  go_wp2
  go_loopw [0, 5, 6] (fun x s i wx => ∃ j : Nat, j ≤ k ∧ i = .int .i64 j ∧ x = .int .i64 (divN n j) ∧ s = .string (numUp n j) ∧ Below w.heap.size w wx) (fun _ _ i _ => k - (intOf i).toNat)
  case atStart => exact ⟨0, Nat.zero_le _, rfl, rfl, rfl, Below.refl _ _⟩
  case round =>
    obtain ⟨j, hj, rfl, rfl, rfl, hb⟩ := hrel
    have HB := Lib.hid hb
    have hz := hb.size
    clear hb
    by_cases hlt : j < k
    · obtain ⟨d0, d1⟩ := divN_bd h0 h j
      have hD : divN n (j + 1) = divN n j / 256 := rfl
      have hN : numUp n (j + 1) = octB (divN n j) ++ numUp n j := rfl
      have hns := numUp_size n j
      have HD := Lib.hid hD
      have HN := Lib.hid hN
      clear hD hN
      generalize divN n j = d at *
      generalize numUp n j = s at *
      have hoct : octB d = strOfNums [d % 256] := rfl
      have hc := fun W : World => conv_1 (P := Try.prog) 119 5 9 rfl rfl rfl W (d % 256)
      have hos : (strOfNums [d % 256]).size = 1 := rfl
      have hsum := fun W : World => run_string_add_sum (P := Try.prog) W (strOfNums [d % 256]) s (by omega)
      have HO := Lib.hid hoct
      have E1 : d.tmod 256 = d % 256 := Int.tmod_eq_emod_of_nonneg d0
      have E2 : d.tdiv 256 = d / 256 := Int.tdiv_eq_ediv_of_nonneg d0
      clear hns hos hoct
      go_wp2
      go_roundw
      case rel => exact ⟨j + 1, by omega, by go_num, by rw [HD.out], by rw [HN.out, HO.out], HB.out.alloc hz _⟩
      case measure => simp [intOf]; omega
    · obtain rfl : j = k := by omega
      go_wp2
      go_ret
      exact ⟨rfl, HB.out⟩
set_option maxRecDepth 100000 in
set_option maxHeartbeats 400000 in
theorem l03Short_c (t : ByteArray) (w : World) (h : t.size ≤ 100000000) : Calls Try.prog 239 #[.string t] w fun e w' => e = .returned (.string (shortB t)) ∧ Below w.heap.size w w' := by
  have h1 := octB_size t.size
  have hP : shortB t = octB t.size ++ t := rfl
  have HP := Lib.hid hP
  have hs := fun W => run_string_add_sum (P := Try.prog) W (octB t.size) t (by omega)
  have c1 := fun W => l03Number_c t.size 1 W (by omega) (by omega) (by omega)
  simp only [numUp_1] at c1
  have H1 := Lib.hid c1
  clear c1 h1 hP
  generalize octB t.size = o1 at *
  go_enter Try.func239, Try.ntmps239
  go_wp2_with fail
  refine (H1.out _).mono ?_
  rintro e w1 ⟨rfl, hb1⟩
  have HB1 := Lib.hid hb1
  clear hb1
  go_wp2
  go_ret
  exact ⟨by rw [HP.out]; rfl, HB1.out⟩
end Go.Proofs.Ytojjjhbiccgjkaa
