/- Right names, entries, receipts. -/
import Derived.Test.YtmmepogjocfefaaGreatNum
namespace Go.Proofs.YtmmepogjocfefaaGreat
set_option linter.unusedVariables false
set_option linter.unusedSimpArgs false
open Go.RowKit

/-- a byte of a name -/
def nb (x : Int) : Bool := (decide (97 ≤ x) && decide (x ≤ 122)) || (decide (48 ≤ x) && decide (x ≤ 57)) || decide (x = 45)
def nbs (l : List UInt8) : Bool := l.all fun b => nb (b.toNat : Int)
def nameOk (s : ByteArray) : Bool := inR s.size 1 20 && nbs s.data.toList
theorem take_snoc (s : ByteArray) (k : Nat) (h : k < s.size) : s.data.toList.take (k + 1) = s.data.toList.take k ++ [s[k]] := by
 have hl : k < s.data.toList.length := by rw [Array.length_toList]; exact h
 rw [List.take_succ_eq_append_getElem hl]; rfl
theorem nbs_snoc {s : ByteArray} {k : Nat} (h : k < s.size) (h1 : nbs (s.data.toList.take k) = true) (h2 : nb ((s[k]'h).toNat : Int) = true) : nbs (s.data.toList.take (k + 1)) = true := by
 rw [take_snoc s k h, nbs, List.all_append, ← nbs, h1, List.all_cons, h2]; rfl
theorem nbs_bad {s : ByteArray} {k : Nat} (h : k < s.size) (h2 : nb ((s[k]'h).toNat : Int) = false) : nbs s.data.toList = false := by
 have hl : k < s.data.toList.length := by rw [Array.length_toList]; exact h
 rw [nbs, List.all_eq_false]
 exact ⟨s.data.toList[k]'hl, List.getElem_mem _, by rw [Bool.not_eq_true]; exact h2⟩
theorem nbs_all {s : ByteArray} (h1 : nbs (s.data.toList.take s.size) = true) : nbs s.data.toList = true := by
 rwa [List.take_of_length_le (by rw [Array.length_toList]; exact Nat.le_refl _)] at h1

set_option maxRecDepth 100000 in
set_option maxHeartbeats 400000 in
theorem implNameOk_c (s : ByteArray) (w : World) (hs : s.size ≤ maxLen) : Calls Tryz.prog 187 #[.string s] w fun e w' => e = .returned (.bool (nameOk s)) ∧ w = w' := by
 unfold maxLen at hs
 go_enter Tryz.func187, Tryz.ntmps187
 go_wp2
 go_loop [3] (fun i => ∃ k : Nat, k ≤ s.size ∧ i = .int .i64 k ∧ nbs (s.data.toList.take k) = true) (fun i => s.size - (intOf i).toNat)
 case atStart => exact ⟨0, Nat.zero_le _, rfl, rfl⟩
 case round =>
  obtain ⟨k, hk, rfl, hp⟩ := hrel
  have HP := Lib.hid hp
  clear hp
  by_cases hlt : k < s.size
  ·go_wp2
   all_goals first
    | (go_round
       case rel => exact ⟨k + 1, by omega, by go_num, nbs_snoc hlt HP.out (by clear HP; simp only [nb, Bool.not_eq_true', Bool.not_eq_false', decide_eq_true_eq, decide_eq_false_iff_not, beq_iff_eq, beq_eq_false_iff_ne, Bool.or_eq_true, Bool.or_eq_false_iff, Bool.and_eq_true, Bool.and_eq_false_iff, ne_eq] at *; omega)⟩
       case measure => simp [intOf]; omega)
    | (go_ret
       exact ⟨ret_bool (by rw [nameOk, nbs_bad hlt (by clear HP; simp only [nb, Bool.not_eq_true', Bool.not_eq_false', decide_eq_true_eq, decide_eq_false_iff_not, beq_iff_eq, beq_eq_false_iff_ne, Bool.or_eq_true, Bool.or_eq_false_iff, Bool.and_eq_true, Bool.and_eq_false_iff, ne_eq] at *; omega), Bool.and_false]), rfl⟩)
  ·obtain rfl : k = s.size := by omega
   go_wp2_with fail
   refine (inRange_c _ 1 20 _).mono ?_
   rintro e w1 ⟨rfl, rfl⟩
   go_wp2
   go_ret
   exact ⟨ret_bool (by rw [nameOk, nbs_all HP.out, Bool.and_true]), rfl⟩

set_option maxRecDepth 100000 in
set_option maxHeartbeats 400000 in
theorem specNameOk_c (s : ByteArray) (w : World) (hs : s.size ≤ maxLen) : Calls Tryz.prog 153 #[.string s] w fun e w' => e = .returned (.bool (nameOk s)) ∧ w = w' := by
 unfold maxLen at hs
 go_enter Tryz.func153, Tryz.ntmps153
 go_wp2_with fail
 refine (l01In_c _ 1 20 _).mono ?_
 rintro e w1 ⟨rfl, rfl⟩
 rcases h1 : inR s.size 1 20 with _ | _
 ·go_wp2
  go_ret
  exact ⟨ret_bool (by rw [nameOk, h1]; rfl), rfl⟩
 ·have H1 := Lib.hid h1
  go_wp2
  clear h1
  go_loop [3] (fun i => ∃ k : Nat, k ≤ s.size ∧ i = .int .i64 k ∧ nbs (s.data.toList.take k) = true) (fun i => s.size - (intOf i).toNat)
  case atStart => exact ⟨0, Nat.zero_le _, rfl, rfl⟩
  case round =>
   obtain ⟨k, hk, rfl, hp⟩ := hrel
   have HP := Lib.hid hp
   clear hp
   by_cases hlt : k < s.size
   ·go_wp2
    all_goals first
     | (go_round
        case rel => exact ⟨k + 1, by omega, by go_num, nbs_snoc hlt HP.out (by clear HP; simp only [nb, Bool.not_eq_true', Bool.not_eq_false', decide_eq_true_eq, decide_eq_false_iff_not, beq_iff_eq, beq_eq_false_iff_ne, Bool.or_eq_true, Bool.or_eq_false_iff, Bool.and_eq_true, Bool.and_eq_false_iff, ne_eq] at *; omega)⟩
        case measure => simp [intOf]; omega)
     | (go_ret
        exact ⟨ret_bool (by rw [nameOk, nbs_bad hlt (by clear HP; simp only [nb, Bool.not_eq_true', Bool.not_eq_false', decide_eq_true_eq, decide_eq_false_iff_not, beq_iff_eq, beq_eq_false_iff_ne, Bool.or_eq_true, Bool.or_eq_false_iff, Bool.and_eq_true, Bool.and_eq_false_iff, ne_eq] at *; omega), Bool.and_false]), rfl⟩)
   ·obtain rfl : k = s.size := by omega
    go_wp2
    go_ret
    exact ⟨ret_bool (by rw [nameOk, nbs_all HP.out, Bool.and_true, H1.out]), rfl⟩
end Go.Proofs.YtmmepogjocfefaaGreat
