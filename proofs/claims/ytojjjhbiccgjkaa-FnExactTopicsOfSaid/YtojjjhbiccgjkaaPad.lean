/- The pad of a text. -/
import Derived.Test.YtojjjhbiccgjkaaRep
namespace Go.Proofs.Ytojjjhbiccgjkaa
set_option linter.unusedVariables false
set_option linter.unusedSimpArgs false
open Go.RowKit

def zerosT (c : Nat) : ByteArray := ⟨(Lib.repeatL [0] c).toArray⟩
def padT (n : Nat) : ByteArray := ⟨#[128]⟩ ++ zerosT ((119 - n % 64) % 64) ++ wordText 0 ++ wordText n
theorem zerosT_size (c : Nat) : (zerosT c).size = c := by
  show (Lib.repeatL [0] c).toArray.size = c
  simp [Lib.repeatL_length]
theorem wordText_size (x : Int) : (wordText x).size = 4 := rfl
set_option maxRecDepth 100000 in
set_option maxHeartbeats 400000 in
theorem padOf_c (n : Nat) (w : World) (hn : n ≤ 4000) : Calls Try.prog 166 #[.int .i64 n] w fun e w' => e = .returned (.string (padT n)) ∧ Below w.heap.size w w' := by
  obtain ⟨z, hz⟩ : ∃ z, z = (119 - n % 64) % 64 := ⟨_, rfl⟩
  have hz2 : z < 64 := by omega
  have E0 : (n : Int).tmod 64 = (n % 64 : Nat) := by rw [Int.tmod_eq_emod_of_nonneg (by omega)]; omega
  obtain ⟨m, hm⟩ : ∃ m, m = n % 64 := ⟨_, rfl⟩
  rw [← hm] at E0 hz
  have E1 : (119 - (m : Int)).tmod 64 = z := by rw [Int.tmod_eq_emod_of_nonneg (by omega)]; omega
  have hm2 : m < 64 := by omega
  have hR := fun W => Repeat_c ⟨#[0]⟩ z W (by omega) (by show 1 * z ≤ _; omega)
  have hP : padT n = ⟨#[128]⟩ ++ zerosT z ++ wordText 0 ++ wordText n := by rw [hz, hm]; rfl
  have HR := Lib.hid hR
  have HP := Lib.hid hP
  have h1 : ((⟨#[128]⟩ : ByteArray)).size = 1 := rfl
  have h2 := zerosT_size z
  have h3 := wordText_size 0
  have h4 := wordText_size n
  have hW0 := fun W => implWordText_c 0 W (by omega)
  have hWn := fun W => implWordText_c n W (by omega)
  have HW0 := Lib.hid hW0
  have HWn := Lib.hid hWn
  clear hW0 hWn
  have HA : Hid (∀ n : Int, 0 ≤ n → n ≤ 4000 → n / 4294967296 % 4294967296 = 0 ∧ n % 4294967296 = n) := fun n _ _ => by omega
  clear hz hm hR hP
  go_enter Try.func166, Try.ntmps166
  go_wp2_with fail
  refine (HR.out _).mono ?_
  rintro e w1 ⟨rfl, hb1⟩
  have HB1 := Lib.hid hb1
  clear hb1
  rw [show (⟨(Lib.repeatL [0] z).toArray⟩ : ByteArray) = zerosT z from rfl]
  generalize zerosT z = r at *
  have c1 := fun (W : World) => run_string_add_sum (P := Try.prog) W ⟨#[128]⟩ r (by omega)
  go_wp2_with fail
  rw [show (n : Int) / 4294967296 = 0 by omega]
  refine (HW0.out _).mono ?_
  rintro e w2 ⟨rfl, hb2⟩
  have HB2 := Lib.hid (below_then HB1.out hb2 HB1.out.size)
  clear hb2
  have s1 : ((⟨#[128]⟩ : ByteArray) ++ r).size = 1 + z := by rw [ByteArray.size_append, h1, h2]
  generalize (⟨#[128]⟩ : ByteArray) ++ r = p1 at *
  generalize wordText 0 = q0 at *
  have c2 := fun (W : World) => run_string_add_sum (P := Try.prog) W p1 q0 (by omega)
  clear c1 h1 h2 HR HB1
  go_wp2_with fail
  refine (HWn.out _).mono ?_
  rintro e w3 ⟨rfl, hb3⟩
  have HB3 := Lib.hid (below_then HB2.out hb3 HB2.out.size)
  clear hb3
  have s2 : (p1 ++ q0).size = 1 + z + 4 := by rw [ByteArray.size_append, s1, h3]
  generalize p1 ++ q0 = p2 at *
  generalize wordText n = q1 at *
  have c3 := fun (W : World) => run_string_add_sum (P := Try.prog) W p2 q1 (by omega)
  clear c2 s1 h3 HB2
  go_wp2
  go_ret
  exact ⟨by rw [HP.out]; rfl, HB3.out⟩
end Go.Proofs.Ytojjjhbiccgjkaa
