/- The steps of proofs. -/
import Derived.Test.YtojjjhbiccgjkaaWay
namespace Go.Proofs.Ytojjjhbiccgjkaa
set_option linter.unusedVariables false
set_option linter.unusedSimpArgs false
open Go.RowKit

def stIn (z a : Int) : Int := if 0 ≤ a ∧ a < z ∧ z ≤ 512 then ((inSt 513 z.toNat a.toNat : Nat) : Int) else -1
def stBe (s z : Int) : Int := if 0 ≤ s ∧ s ≤ z ∧ z ≤ 512 then (if s = 0 then 0 else ((beSt 513 s.toNat z.toNat true : Nat) : Int)) else -1

set_option maxRecDepth 100000 in
set_option maxHeartbeats 4000000 in
theorem implStepsIn_c (z a : Int) (w : World) : Calls Try.prog 178 #[.int .i64 z, .int .i64 a] w fun e w' => e = .returned (.int .i64 (stIn z a)) ∧ w = w' := by
  have HD : Hid (stIn z a = if 0 ≤ a ∧ a < z ∧ z ≤ 512 then ((inSt 513 z.toNat a.toNat : Nat) : Int) else -1) := Lib.hid rfl
  generalize stIn z a = R at *
  rcases (show a < 0 ∨ (0 ≤ a ∧ z ≤ a) ∨ (0 ≤ a ∧ a < z ∧ 512 < z) ∨ (0 ≤ a ∧ a < z ∧ z ≤ 512) by omega) with h1 | ⟨h1, h2⟩ | ⟨h1, h2, h3⟩ | ⟨h1, h2, h3⟩
  · rw [if_neg (by omega)] at HD
    go_enter Try.func178, Try.ntmps178
    go_wp2
    go_ret
    exact ⟨by rw [HD.out]; rfl, rfl⟩
  · rw [if_neg (by omega)] at HD
    go_enter Try.func178, Try.ntmps178
    go_wp2
    go_ret
    exact ⟨by rw [HD.out]; rfl, rfl⟩
  · rw [if_neg (by omega)] at HD
    go_enter Try.func178, Try.ntmps178
    go_wp2
    go_ret
    exact ⟨by rw [HD.out]; rfl, rfl⟩
  · rw [if_pos ⟨h1, h2, h3⟩] at HD
    obtain ⟨n, rfl⟩ : ∃ n : Nat, z = n := ⟨z.toNat, by omega⟩
    obtain ⟨b, rfl⟩ : ∃ b : Nat, a = b := ⟨a.toNat, by omega⟩
    rw [Int.toNat_natCast, Int.toNat_natCast] at HD
    obtain ⟨T, hT⟩ : ∃ T, T = inSt 513 n b := ⟨_, rfl⟩
    rw [← hT] at HD
    have HT := Lib.hid hT
    clear hT
    go_enter Try.func178, Try.ntmps178
    go_wp2
    have D1 : decide ((b : Int) < 0) = false := decide_eq_false (by omega)
    have D2 : decide (n ≤ b) = false := decide_eq_false (by omega)
    have D3 : decide ((512 : Int) < (n : Int)) = false := decide_eq_false (by omega)
    try simp only [D1, D2, D3, Bool.or_false, Bool.not_true, Bool.or_self]
    clear D1 D2 D3
    go_loop [0, 1, 5, 6] (fun s t k _ => ∃ q c j f : Nat, s = .int .i64 q ∧ t = .int .i64 c ∧ k = .int .i64 j ∧ c < q ∧ q < f + 1 ∧ j + q ≤ n ∧ T = j + inSt (f + 1) q c) (fun s _ _ _ => (intOf s).toNat)
    case atStart => exact ⟨n, b, 0, 512, rfl, rfl, rfl, by omega, by omega, by omega, by rw [HT.out, Nat.zero_add]⟩
    case round =>
      obtain ⟨q, c, j, f, rfl, rfl, rfl, hcq, hqf, hjq, htj⟩ := hrel
      rcases Nat.lt_or_ge 1 q with hq | hq
      · obtain ⟨k1, k2, k3⟩ := halfN_bd hq (by omega)
        have HH := Lib.hid (fun W => implHalfOf_c q W hq (by omega))
        rcases Nat.lt_or_ge c (halfN q) with hc | hc
        · rw [inSt_lo hq hc] at htj
          have HTJ := Lib.hid htj
          clear htj HT
          generalize halfN q = k at *
          go_wp2_with fail
          refine (HH.out _).mono ?_
          rintro e w1 ⟨rfl, rfl⟩
          go_wp2
          go_round
          case rel => exact ⟨k, c, j + 1, f - 1, rfl, rfl, by go_num, hc, by omega, by omega, by rw [HTJ.out, Nat.sub_add_cancel (by omega)]; omega⟩
          case measure => simp [intOf]; omega
        · rw [inSt_hi hq (by omega)] at htj
          have HTJ := Lib.hid htj
          clear htj HT
          generalize halfN q = k at *
          obtain ⟨q2, hq2⟩ : ∃ q2, q2 = q - k := ⟨_, rfl⟩
          obtain ⟨c2, hc2⟩ : ∃ c2, c2 = c - k := ⟨_, rfl⟩
          have E1 : IntKind.i64.wrap ((q : Int) - k) = q2 := by rw [IntKind.wrap_i64]; omega
          have E2 : IntKind.i64.wrap ((c : Int) - k) = c2 := by rw [IntKind.wrap_i64]; omega
          have E3 : (q : Int) - k = q2 := by omega
          have E4 : (c : Int) - k = c2 := by omega
          have HQ := Lib.hid (And.intro hq2 hc2)
          clear hq2 hc2
          go_wp2_with fail
          refine (HH.out _).mono ?_
          rintro e w1 ⟨rfl, rfl⟩
          go_wp2
          go_round
          case rel =>
            obtain ⟨h8, h9⟩ := HQ.out
            exact ⟨q2, c2, j + 1, f - 1, rfl, rfl, by go_num, by omega, by omega, by omega, by rw [HTJ.out, Nat.sub_add_cancel (by omega), h8, h9]; omega⟩
          case measure => obtain ⟨h8, h9⟩ := HQ.out; simp [intOf]; omega
      · rw [inSt_end hq] at htj
        obtain rfl : T = j := by omega
        clear HT htj
        go_wp2
        go_ret
        exact ⟨by rw [HD.out]; try rfl, rfl⟩
set_option maxRecDepth 100000 in
set_option maxHeartbeats 4000000 in
theorem specStepsIn_c (z a : Int) (w : World) : Calls Try.prog 177 #[.int .i64 z, .int .i64 a] w fun e w' => e = .returned (.int .i64 (stIn z a)) ∧ w = w' := by
  have HD : Hid (stIn z a = if 0 ≤ a ∧ a < z ∧ z ≤ 512 then ((inSt 513 z.toNat a.toNat : Nat) : Int) else -1) := Lib.hid rfl
  generalize stIn z a = R at *
  have HZ := Lib.hid (fun W => l04Size_c z W)
  rcases hq1 : inR z 0 512 with _ | _
  · have hz : ¬ (0 ≤ z ∧ z ≤ 512) := fun h => by rw [inR_true.2 h] at hq1; cases hq1
    rw [if_neg (by omega)] at HD
    rw [hq1] at HZ
    go_enter Try.func177, Try.ntmps177
    go_wp2_with fail
    refine (HZ.out _).mono ?_
    rintro e w1 ⟨rfl, rfl⟩
    go_wp2
    go_ret
    exact ⟨by rw [HD.out]; rfl, rfl⟩
  have hz := inR_true.1 hq1
  have HI := Lib.hid (fun W => l01In_c a 0 (z - 1) W)
  rw [hq1] at HZ
  rcases hq2 : inR a 0 (z - 1) with _ | _
  · have ha : ¬ (0 ≤ a ∧ a ≤ z - 1) := fun h => by rw [inR_true.2 h] at hq2; cases hq2
    rw [if_neg (by omega)] at HD
    rw [hq2] at HI
    clear hq1 hq2
    go_enter Try.func177, Try.ntmps177
    go_wp2_with fail
    refine (HZ.out _).mono ?_
    rintro e w1 ⟨rfl, rfl⟩
    go_wp2_with fail
    refine (HI.out _).mono ?_
    rintro e w1 ⟨rfl, rfl⟩
    go_wp2
    go_ret
    exact ⟨by rw [HD.out]; rfl, rfl⟩
  · have ha := inR_true.1 hq2
    rw [if_pos (by omega)] at HD
    rw [hq2] at HI
    clear hq1 hq2
    obtain ⟨n, rfl⟩ : ∃ n : Nat, z = n := ⟨z.toNat, by omega⟩
    obtain ⟨b, rfl⟩ : ∃ b : Nat, a = b := ⟨a.toNat, by omega⟩
    rw [Int.toNat_natCast, Int.toNat_natCast] at HD
    obtain ⟨T, hT⟩ : ∃ T, T = inSt 513 n b := ⟨_, rfl⟩
    rw [← hT] at HD
    have HT := Lib.hid hT
    clear hT
    go_enter Try.func177, Try.ntmps177
    go_wp2_with fail
    refine (HZ.out _).mono ?_
    rintro e w1 ⟨rfl, rfl⟩
    go_wp2_with fail
    refine (HI.out _).mono ?_
    rintro e w1 ⟨rfl, rfl⟩
    go_wp2
    have D1 : decide ((b : Int) < 0) = false := decide_eq_false (by omega)
    have D2 : decide (n ≤ b) = false := decide_eq_false (by omega)
    have D3 : decide ((512 : Int) < (n : Int)) = false := decide_eq_false (by omega)
    try simp only [D1, D2, D3, Bool.or_false, Bool.not_true, Bool.or_self]
    clear D1 D2 D3
    go_loop [0, 1, 5, 6] (fun s t k _ => ∃ q c j f : Nat, s = .int .i64 q ∧ t = .int .i64 c ∧ k = .int .i64 j ∧ c < q ∧ q < f + 1 ∧ j + q ≤ n ∧ T = j + inSt (f + 1) q c) (fun s _ _ _ => (intOf s).toNat)
    case atStart => exact ⟨n, b, 0, 512, rfl, rfl, rfl, by omega, by omega, by omega, by rw [HT.out, Nat.zero_add]⟩
    case round =>
      obtain ⟨q, c, j, f, rfl, rfl, rfl, hcq, hqf, hjq, htj⟩ := hrel
      rcases Nat.lt_or_ge 1 q with hq | hq
      · obtain ⟨k1, k2, k3⟩ := halfN_bd hq (by omega)
        have HH := Lib.hid (fun W => specHalfOf_c q W hq (by omega))
        rcases Nat.lt_or_ge c (halfN q) with hc | hc
        · rw [inSt_lo hq hc] at htj
          have HTJ := Lib.hid htj
          clear htj HT
          generalize halfN q = k at *
          go_wp2_with fail
          refine (HH.out _).mono ?_
          rintro e w1 ⟨rfl, rfl⟩
          go_wp2
          go_round
          case rel => exact ⟨k, c, j + 1, f - 1, rfl, rfl, by go_num, hc, by omega, by omega, by rw [HTJ.out, Nat.sub_add_cancel (by omega)]; omega⟩
          case measure => simp [intOf]; omega
        · rw [inSt_hi hq (by omega)] at htj
          have HTJ := Lib.hid htj
          clear htj HT
          generalize halfN q = k at *
          obtain ⟨q2, hq2⟩ : ∃ q2, q2 = q - k := ⟨_, rfl⟩
          obtain ⟨c2, hc2⟩ : ∃ c2, c2 = c - k := ⟨_, rfl⟩
          have E1 : IntKind.i64.wrap ((q : Int) - k) = q2 := by rw [IntKind.wrap_i64]; omega
          have E2 : IntKind.i64.wrap ((c : Int) - k) = c2 := by rw [IntKind.wrap_i64]; omega
          have E3 : (q : Int) - k = q2 := by omega
          have E4 : (c : Int) - k = c2 := by omega
          have HQ := Lib.hid (And.intro hq2 hc2)
          clear hq2 hc2
          go_wp2_with fail
          refine (HH.out _).mono ?_
          rintro e w1 ⟨rfl, rfl⟩
          go_wp2
          go_round
          case rel =>
            obtain ⟨h8, h9⟩ := HQ.out
            exact ⟨q2, c2, j + 1, f - 1, rfl, rfl, by go_num, by omega, by omega, by omega, by rw [HTJ.out, Nat.sub_add_cancel (by omega), h8, h9]; omega⟩
          case measure => obtain ⟨h8, h9⟩ := HQ.out; simp [intOf]; omega
      · rw [inSt_end hq] at htj
        obtain rfl : T = j := by omega
        clear HT htj
        go_wp2
        go_ret
        exact ⟨by rw [HD.out]; try rfl, rfl⟩
set_option maxRecDepth 100000 in
set_option maxHeartbeats 4000000 in
theorem implStepsBetween_c (s z : Int) (w : World) : Calls Try.prog 175 #[.int .i64 s, .int .i64 z] w fun e w' => e = .returned (.int .i64 (stBe s z)) ∧ w = w' := by
  have HD : Hid (stBe s z = if 0 ≤ s ∧ s ≤ z ∧ z ≤ 512 then (if s = 0 then 0 else ((beSt 513 s.toNat z.toNat true : Nat) : Int)) else -1) := Lib.hid rfl
  generalize stBe s z = R at *
  rcases (show s < 0 ∨ (0 ≤ s ∧ z < s) ∨ (0 ≤ s ∧ s ≤ z ∧ 512 < z) ∨ (s = 0 ∧ s ≤ z ∧ z ≤ 512) ∨ (1 ≤ s ∧ s ≤ z ∧ z ≤ 512) by omega) with h1 | ⟨h1, h2⟩ | ⟨h1, h2, h3⟩ | ⟨h1, h2, h3⟩ | ⟨h1, h2, h3⟩
  · rw [if_neg (by omega)] at HD
    go_enter Try.func175, Try.ntmps175
    go_wp2
    go_ret
    exact ⟨by rw [HD.out]; rfl, rfl⟩
  · rw [if_neg (by omega)] at HD
    go_enter Try.func175, Try.ntmps175
    go_wp2
    go_ret
    exact ⟨by rw [HD.out]; rfl, rfl⟩
  · rw [if_neg (by omega)] at HD
    go_enter Try.func175, Try.ntmps175
    go_wp2
    go_ret
    exact ⟨by rw [HD.out]; rfl, rfl⟩
  · rw [if_pos (by omega), if_pos h1] at HD
    subst h1
    go_enter Try.func175, Try.ntmps175
    go_wp2
    go_ret
    exact ⟨by rw [HD.out]; rfl, rfl⟩
  · rw [if_pos (by omega), if_neg (by omega)] at HD
    obtain ⟨n, rfl⟩ : ∃ n : Nat, z = n := ⟨z.toNat, by omega⟩
    obtain ⟨a, rfl⟩ : ∃ a : Nat, s = a := ⟨s.toNat, by omega⟩
    rw [Int.toNat_natCast, Int.toNat_natCast] at HD
    obtain ⟨T, hT⟩ : ∃ T, T = beSt 513 a n true := ⟨_, rfl⟩
    rw [← hT] at HD
    have HT := Lib.hid hT
    clear hT
    go_enter Try.func175, Try.ntmps175
    go_wp2
    have D1 : decide ((a : Int) < 0) = false := decide_eq_false (by omega)
    have D2 : decide (n < a) = false := decide_eq_false (by omega)
    have D3 : decide ((512 : Int) < (n : Int)) = false := decide_eq_false (by omega)
    have D4 : decide ((a : Int) = 0) = false := decide_eq_false (by omega)
    have D5 : decide (a = 0) = false := decide_eq_false (by omega)
    have D6 : ((a : Int) == 0) = false := beq_eq_false_iff_ne.2 (by omega)
    try simp only [D1, D2, D3, D4, D5, D6, Bool.or_false, Bool.not_true, Bool.or_self]
    clear D1 D2 D3 D4 D5 D6
    go_loop [0, 1, 5, 6, 7] (fun s t k b _ => ∃ (q c j f : Nat) (wh : Bool), s = .int .i64 q ∧ t = .int .i64 c ∧ k = .int .i64 j ∧ b = .bool wh ∧ 1 ≤ q ∧ q ≤ c ∧ c < f + 1 ∧ j + c ≤ n ∧ T = j + beSt (f + 1) q c wh) (fun _ t _ _ _ => (intOf t).toNat)
    case atStart => exact ⟨a, n, 0, 512, true, rfl, rfl, rfl, rfl, by omega, by omega, by omega, by omega, by rw [HT.out, Nat.zero_add]⟩
    case round =>
      obtain ⟨q, c, j, f, wh, rfl, rfl, rfl, rfl, h1q, hqc, hcf, hjc, htj⟩ := hrel
      rcases Nat.lt_or_ge q c with hq | hq
      · obtain ⟨k1, k2, k3⟩ := halfN_bd (show 2 ≤ c by omega) (by omega)
        have HH := Lib.hid (fun W => implHalfOf_c c W (by omega) (by omega))
        by_cases hc : q ≤ halfN c
        · rw [beSt_lo hq hc] at htj
          have HTJ := Lib.hid htj
          clear htj HT
          generalize halfN c = k at *
          go_wp2_with fail
          refine (HH.out _).mono ?_
          rintro e w1 ⟨rfl, rfl⟩
          go_wp2
          go_round
          case rel => exact ⟨q, k, j + 1, f - 1, wh, rfl, rfl, by go_num, rfl, h1q, hc, by omega, by omega, by rw [HTJ.out, Nat.sub_add_cancel (by omega)]; omega⟩
          case measure => simp [intOf]; omega
        · rw [beSt_hi hq hc] at htj
          have HTJ := Lib.hid htj
          clear htj HT
          generalize halfN c = k at *
          obtain ⟨q2, hq2⟩ : ∃ q2, q2 = q - k := ⟨_, rfl⟩
          obtain ⟨c2, hc2⟩ : ∃ c2, c2 = c - k := ⟨_, rfl⟩
          have E1 : IntKind.i64.wrap ((q : Int) - k) = q2 := by rw [IntKind.wrap_i64]; omega
          have E2 : IntKind.i64.wrap ((c : Int) - k) = c2 := by rw [IntKind.wrap_i64]; omega
          have E3 : (q : Int) - k = q2 := by omega
          have E4 : (c : Int) - k = c2 := by omega
          have HQ := Lib.hid (And.intro hq2 hc2)
          clear hq2 hc2
          go_wp2_with fail
          refine (HH.out _).mono ?_
          rintro e w1 ⟨rfl, rfl⟩
          go_wp2
          go_round
          case rel =>
            obtain ⟨h8, h9⟩ := HQ.out
            exact ⟨q2, c2, j + 1, f - 1, false, rfl, rfl, by go_num, rfl, by omega, by omega, by omega, by omega, by rw [HTJ.out, Nat.sub_add_cancel (by omega), h8, h9]; omega⟩
          case measure => obtain ⟨h8, h9⟩ := HQ.out; simp [intOf]; omega
      · rw [beSt_end hq] at htj
        have hqc2 : q = c := by omega
        subst hqc2
        clear HT
        cases wh
        · obtain rfl : T = j + 1 := by simpa using htj
          clear htj
          go_wp2
          go_ret
          exact ⟨by rw [HD.out]; go_num, rfl⟩
        · obtain rfl : T = j := by simpa using htj
          clear htj
          go_wp2
          go_ret
          exact ⟨by rw [HD.out]; try rfl, rfl⟩
set_option maxRecDepth 100000 in
set_option maxHeartbeats 4000000 in
theorem specStepsBetween_c (s z : Int) (w : World) : Calls Try.prog 173 #[.int .i64 s, .int .i64 z] w fun e w' => e = .returned (.int .i64 (stBe s z)) ∧ w = w' := by
  have HD : Hid (stBe s z = if 0 ≤ s ∧ s ≤ z ∧ z ≤ 512 then (if s = 0 then 0 else ((beSt 513 s.toNat z.toNat true : Nat) : Int)) else -1) := Lib.hid rfl
  generalize stBe s z = R at *
  have HZ := Lib.hid (fun W => l04Size_c z W)
  rcases hq1 : inR z 0 512 with _ | _
  · have hz : ¬ (0 ≤ z ∧ z ≤ 512) := fun h => by rw [inR_true.2 h] at hq1; cases hq1
    rw [if_neg (by omega)] at HD
    rw [hq1] at HZ
    go_enter Try.func173, Try.ntmps173
    go_wp2_with fail
    refine (HZ.out _).mono ?_
    rintro e w1 ⟨rfl, rfl⟩
    go_wp2
    go_ret
    exact ⟨by rw [HD.out]; rfl, rfl⟩
  have hz := inR_true.1 hq1
  have HI := Lib.hid (fun W => l01In_c s 0 z W)
  rw [hq1] at HZ
  rcases hq2 : inR s 0 z with _ | _
  · have ha : ¬ (0 ≤ s ∧ s ≤ z) := fun h => by rw [inR_true.2 h] at hq2; cases hq2
    rw [if_neg (by omega)] at HD
    rw [hq2] at HI
    clear hq1 hq2
    go_enter Try.func173, Try.ntmps173
    go_wp2_with fail
    refine (HZ.out _).mono ?_
    rintro e w1 ⟨rfl, rfl⟩
    go_wp2_with fail
    refine (HI.out _).mono ?_
    rintro e w1 ⟨rfl, rfl⟩
    go_wp2
    go_ret
    exact ⟨by rw [HD.out]; rfl, rfl⟩
  have ha := inR_true.1 hq2
  rw [hq2] at HI
  clear hq1 hq2
  rcases (show s = 0 ∨ 1 ≤ s by omega) with h1 | h1
  · rw [if_pos (by omega), if_pos h1] at HD
    subst h1
    go_enter Try.func173, Try.ntmps173
    go_wp2_with fail
    refine (HZ.out _).mono ?_
    rintro e w1 ⟨rfl, rfl⟩
    go_wp2_with fail
    refine (HI.out _).mono ?_
    rintro e w1 ⟨rfl, rfl⟩
    go_wp2
    go_ret
    exact ⟨by rw [HD.out]; rfl, rfl⟩
  · rw [if_pos (by omega), if_neg (by omega)] at HD
    obtain ⟨n, rfl⟩ : ∃ n : Nat, z = n := ⟨z.toNat, by omega⟩
    obtain ⟨a, rfl⟩ : ∃ a : Nat, s = a := ⟨s.toNat, by omega⟩
    rw [Int.toNat_natCast, Int.toNat_natCast] at HD
    obtain ⟨T, hT⟩ : ∃ T, T = beSt 513 a n true := ⟨_, rfl⟩
    rw [← hT] at HD
    have HT := Lib.hid hT
    clear hT
    go_enter Try.func173, Try.ntmps173
    go_wp2_with fail
    refine (HZ.out _).mono ?_
    rintro e w1 ⟨rfl, rfl⟩
    go_wp2_with fail
    refine (HI.out _).mono ?_
    rintro e w1 ⟨rfl, rfl⟩
    go_wp2
    have D1 : decide ((a : Int) < 0) = false := decide_eq_false (by omega)
    have D2 : decide (n < a) = false := decide_eq_false (by omega)
    have D3 : decide ((512 : Int) < (n : Int)) = false := decide_eq_false (by omega)
    have D4 : decide ((a : Int) = 0) = false := decide_eq_false (by omega)
    have D5 : decide (a = 0) = false := decide_eq_false (by omega)
    have D6 : ((a : Int) == 0) = false := beq_eq_false_iff_ne.2 (by omega)
    try simp only [D1, D2, D3, D4, D5, D6, Bool.or_false, Bool.not_true, Bool.or_self]
    clear D1 D2 D3 D4 D5 D6
    go_loop [0, 1, 5, 6, 7] (fun s t k b _ => ∃ (q c j f : Nat) (wh : Bool), s = .int .i64 q ∧ t = .int .i64 c ∧ k = .int .i64 j ∧ b = .bool wh ∧ 1 ≤ q ∧ q ≤ c ∧ c < f + 1 ∧ j + c ≤ n ∧ T = j + beSt (f + 1) q c wh) (fun _ t _ _ _ => (intOf t).toNat)
    case atStart => exact ⟨a, n, 0, 512, true, rfl, rfl, rfl, rfl, by omega, by omega, by omega, by omega, by rw [HT.out, Nat.zero_add]⟩
    case round =>
      obtain ⟨q, c, j, f, wh, rfl, rfl, rfl, rfl, h1q, hqc, hcf, hjc, htj⟩ := hrel
      rcases Nat.lt_or_ge q c with hq | hq
      · obtain ⟨k1, k2, k3⟩ := halfN_bd (show 2 ≤ c by omega) (by omega)
        have HH := Lib.hid (fun W => specHalfOf_c c W (by omega) (by omega))
        by_cases hc : q ≤ halfN c
        · rw [beSt_lo hq hc] at htj
          have HTJ := Lib.hid htj
          clear htj HT
          generalize halfN c = k at *
          go_wp2_with fail
          refine (HH.out _).mono ?_
          rintro e w1 ⟨rfl, rfl⟩
          go_wp2
          go_round
          case rel => exact ⟨q, k, j + 1, f - 1, wh, rfl, rfl, by go_num, rfl, h1q, hc, by omega, by omega, by rw [HTJ.out, Nat.sub_add_cancel (by omega)]; omega⟩
          case measure => simp [intOf]; omega
        · rw [beSt_hi hq hc] at htj
          have HTJ := Lib.hid htj
          clear htj HT
          generalize halfN c = k at *
          obtain ⟨q2, hq2⟩ : ∃ q2, q2 = q - k := ⟨_, rfl⟩
          obtain ⟨c2, hc2⟩ : ∃ c2, c2 = c - k := ⟨_, rfl⟩
          have E1 : IntKind.i64.wrap ((q : Int) - k) = q2 := by rw [IntKind.wrap_i64]; omega
          have E2 : IntKind.i64.wrap ((c : Int) - k) = c2 := by rw [IntKind.wrap_i64]; omega
          have E3 : (q : Int) - k = q2 := by omega
          have E4 : (c : Int) - k = c2 := by omega
          have HQ := Lib.hid (And.intro hq2 hc2)
          clear hq2 hc2
          go_wp2_with fail
          refine (HH.out _).mono ?_
          rintro e w1 ⟨rfl, rfl⟩
          go_wp2
          go_round
          case rel =>
            obtain ⟨h8, h9⟩ := HQ.out
            exact ⟨q2, c2, j + 1, f - 1, false, rfl, rfl, by go_num, rfl, by omega, by omega, by omega, by omega, by rw [HTJ.out, Nat.sub_add_cancel (by omega), h8, h9]; omega⟩
          case measure => obtain ⟨h8, h9⟩ := HQ.out; simp [intOf]; omega
      · rw [beSt_end hq] at htj
        have hqc2 : q = c := by omega
        subst hqc2
        clear HT
        cases wh
        · obtain rfl : T = j + 1 := by simpa using htj
          clear htj
          go_wp2
          go_ret
          exact ⟨by rw [HD.out]; go_num, rfl⟩
        · obtain rfl : T = j := by simpa using htj
          clear htj
          go_wp2
          go_ret
          exact ⟨by rw [HD.out]; try rfl, rfl⟩
end Go.Proofs.Ytojjjhbiccgjkaa
