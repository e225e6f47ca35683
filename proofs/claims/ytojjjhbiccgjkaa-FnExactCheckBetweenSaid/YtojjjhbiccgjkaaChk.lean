/- CheckBetween of the program and of the reference. -/
import Derived.Test.YtojjjhbiccgjkaaTxBe
namespace Go.Proofs.Ytojjjhbiccgjkaa
set_option linter.unusedVariables false
set_option linter.unusedSimpArgs false
open Go.RowKit

def ckZero (width : Int) (sr : ByteArray) (n : Int) (r : ByteArray) (k : Nat) : Bool := inR width 1 32 && inR n 0 512 && decide (k = 0) && decide ((r.size : Int) = width) && (sr.toList == (emptyT width).toList) && (decide (0 < n) || (r.toList == (emptyT width).toList))
def ckBe (width s : Int) (sr : ByteArray) (n : Int) (r : ByteArray) (pr : List ByteArray) : Bool :=
  if 1 ≤ s then beOk width s sr n pr && ((beAll width s sr n pr).s.toList == sr.toList) && ((beAll width s sr n pr).b.toList == r.toList) else if s < 0 then false else ckZero width sr n r pr.length

set_option maxRecDepth 100000 in
set_option maxHeartbeats 4000000 in
theorem implCheckBetween_c (width s : Int) (sr : ByteArray) (n : Int) (r : ByteArray) (P : Option Addr) (cp lo hi k : Nat) (pr : List ByteArray) (w : World) (hP : Rd w lo hi P (strs pr)) (hk : pr.length = k) (hkl : k ≤ 1048576) (hkc : k ≤ cp) :
    Calls Try.prog 80 #[.int .i64 width, .int .i64 s, .string sr, .int .i64 n, .string r, .slice P k cp] w fun e w' => e = .returned (.bool (ckBe width s sr n r pr)) ∧ Below w.heap.size w w' := by
  rcases (show 1 ≤ s ∨ s < 0 ∨ s = 0 by omega) with h1 | h1 | h1
  · have HDEF : Hid (ckBe width s sr n r pr = (beOk width s sr n pr && ((beAll width s sr n pr).s.toList == sr.toList) && ((beAll width s sr n pr).b.toList == r.toList))) := Lib.hid (by rw [ckBe, if_pos h1])
    have HC := Lib.hid (implRootsBy_c width s sr n P cp lo hi k pr w hP hk hkl hkc)
    clear hP hk
    generalize ckBe width s sr n r pr = q at *
    generalize beOk width s sr n pr = ok at *
    generalize beAll width s sr n pr = wy at *
    obtain ⟨x, y, t⟩ := wy
    go_enter Try.func80, Try.ntmps80
    go_wp2_with fail
    refine HC.out.mono ?_
    rintro e w1 ⟨rfl, hb⟩
    have HB := Lib.hid hb
    clear hb HC
    cases ok <;> rcases h2 : (x.toList == sr.toList) with _ | _ <;> rcases h3 : (y.toList == r.toList) with _ | _
    all_goals
      go_wp2
      go_ret
      exact ⟨ret_bool (by rw [HDEF.out, h2, h3]; rfl), HB.out⟩
  · have HDEF : Hid (ckBe width s sr n r pr = false) := Lib.hid (by rw [ckBe, if_neg (by omega), if_pos h1])
    clear hP hk
    go_enter Try.func80, Try.ntmps80
    go_wp2
    go_ret
    exact ⟨ret_bool (by rw [HDEF.out]), Below.refl _ _⟩
  · subst h1
    have HDEF : Hid (ckBe width 0 sr n r pr = ckZero width sr n r k) := Lib.hid (by rw [ckBe, if_neg (by omega), if_neg (by omega), hk])
    have HZ : Hid (ckZero width sr n r k = (inR width 1 32 && inR n 0 512 && decide (k = 0) && decide ((r.size : Int) = width) && (sr.toList == (emptyT width).toList) && (decide (0 < n) || (r.toList == (emptyT width).toList)))) := Lib.hid rfl
    have HE := Lib.hid (fun W => emptyRoot_c width W)
    have HQ := Lib.hid (fun W => isWidth_c width W)
    have HS := Lib.hid (fun W => isSize_c n W)
    clear hP hk
    rw [HDEF.out]
    clear HDEF
    generalize ckZero width sr n r k = q at *
    generalize emptyT width = em at *
    generalize inR width 1 32 = q1 at *
    generalize inR n 0 512 = q2 at *
    go_enter Try.func80, Try.ntmps80
    go_wp2_with fail
    refine (HQ.out _).mono ?_
    rintro e w1 ⟨rfl, rfl⟩
    rcases q1 with _ | _
    · go_wp2
      go_ret
      exact ⟨ret_bool (by rw [HZ.out]; rfl), Below.refl _ _⟩
    go_wp2_with fail
    refine (HS.out _).mono ?_
    rintro e w1 ⟨rfl, rfl⟩
    rcases q2 with _ | _
    · go_wp2
      go_ret
      exact ⟨ret_bool (by rw [HZ.out]; rfl), Below.refl _ _⟩
    rcases Nat.eq_zero_or_pos k with hk0 | hk0
    case inr =>
      have hk1 : ((k : Int) == 0) = false := beq_eq_false_iff_ne.2 (by omega)
      rw [decide_eq_false (show ¬ k = 0 by omega)] at HZ
      go_wp2
      go_ret
      exact ⟨ret_bool (by rw [HZ.out]; rfl), Below.refl _ _⟩
    subst hk0
    rw [decide_eq_true rfl] at HZ
    by_cases hr : (r.size : Int) = width
    case neg =>
      rw [decide_eq_false hr] at HZ
      go_wp2
      go_ret
      exact ⟨ret_bool (by rw [HZ.out]; rfl), Below.refl _ _⟩
    rw [decide_eq_true hr] at HZ
    go_wp2_with fail
    refine (HE.out _).mono ?_
    rintro e w1 ⟨rfl, hb⟩
    have HB := Lib.hid hb
    clear hb HE hr
    rcases h2 : (sr.toList == em.toList) with _ | _ <;> rcases h3 : (r.toList == em.toList) with _ | _ <;> rcases (show 0 < n ∨ n ≤ 0 by omega) with h4 | h4
    all_goals
      first | (have h5 : decide (0 < n) = true := decide_eq_true h4) | (have h5 : decide (0 < n) = false := decide_eq_false (by omega))
      rw [h2, h3, h5] at HZ
      go_wp2
      go_ret
      exact ⟨ret_bool (by rw [HZ.out]; rfl), HB.out⟩
set_option maxRecDepth 100000 in
set_option maxHeartbeats 4000000 in
theorem specCheckBetween_c (width s : Int) (sr : ByteArray) (n : Int) (r : ByteArray) (P : Option Addr) (cp lo hi k : Nat) (pr : List ByteArray) (w : World) (hP : Rd w lo hi P (strs pr)) (hk : pr.length = k) (hkl : k ≤ 1048576) (hkc : k ≤ cp) :
    Calls Try.prog 79 #[.int .i64 width, .int .i64 s, .string sr, .int .i64 n, .string r, .slice P k cp] w fun e w' => e = .returned (.bool (ckBe width s sr n r pr)) ∧ Below w.heap.size w w' := by
  by_cases h1 : s = 0
  case neg =>
    have HDEF : Hid (ckBe width s sr n r pr = (beOk width s sr n pr && ((beAll width s sr n pr).s.toList == sr.toList) && ((beAll width s sr n pr).b.toList == r.toList))) := Lib.hid (by
      rw [ckBe]
      rcases (show 1 ≤ s ∨ s < 0 by omega) with h2 | h2
      · rw [if_pos h2]
      · rw [if_neg (by omega), if_pos h2]
        have : beOk width s sr n pr = false := by rw [beOk, decide_eq_false (show ¬ 1 ≤ s by omega), Bool.and_false, Bool.false_and]
        rw [this]; rfl)
    have HC := Lib.hid (specRootsBy_c width s sr n P cp lo hi k pr w hP hk hkl hkc)
    have h6 : (s == 0) = false := beq_eq_false_iff_ne.2 h1
    clear hP hk
    generalize ckBe width s sr n r pr = q at *
    generalize beOk width s sr n pr = ok at *
    generalize beAll width s sr n pr = wy at *
    obtain ⟨x, y, t⟩ := wy
    go_enter Try.func79, Try.ntmps79
    go_wp2_with fail
    refine HC.out.mono ?_
    rintro e w1 ⟨rfl, hb⟩
    have HB := Lib.hid hb
    clear hb HC
    cases ok <;> rcases h2 : (x.toList == sr.toList) with _ | _ <;> rcases h3 : (y.toList == r.toList) with _ | _
    all_goals
      go_wp2
      go_ret
      exact ⟨ret_bool (by rw [HDEF.out, h2, h3]; rfl), HB.out⟩
  · subst h1
    have HDEF : Hid (ckBe width 0 sr n r pr = ckZero width sr n r k) := Lib.hid (by rw [ckBe, if_neg (by omega), if_neg (by omega), hk])
    have HZ : Hid (ckZero width sr n r k = (inR width 1 32 && inR n 0 512 && decide (k = 0) && decide ((r.size : Int) = width) && (sr.toList == (emptyT width).toList) && (decide (0 < n) || (r.toList == (emptyT width).toList)))) := Lib.hid rfl
    have HE := Lib.hid (fun W => specEmptyRoot_c width W)
    have HS := Lib.hid (fun W => l04Size_c n W)
    clear hP hk
    rw [HDEF.out]
    clear HDEF
    generalize ckZero width sr n r k = q at *
    generalize emptyT width = em at *
    generalize inR width 1 32 = q1 at *
    generalize inR n 0 512 = q2 at *
    go_enter Try.func79, Try.ntmps79
    go_wp2_with fail
    refine (HE.out _).mono ?_
    rintro e w1 ⟨rfl, hb⟩
    have HB := Lib.hid hb
    clear hb HE
    rcases q1 with _ | _
    · go_wp2
      go_ret
      exact ⟨ret_bool (by rw [HZ.out]; rfl), HB.out⟩
    go_wp2_with fail
    refine (HS.out _).mono ?_
    rintro e w2 ⟨rfl, rfl⟩
    rcases q2 with _ | _
    · go_wp2
      go_ret
      exact ⟨ret_bool (by rw [HZ.out]; rfl), HB.out⟩
    rcases Nat.eq_zero_or_pos k with hk0 | hk0
    case inr =>
      have hk1 : ((k : Int) == 0) = false := beq_eq_false_iff_ne.2 (by omega)
      rw [decide_eq_false (show ¬ k = 0 by omega)] at HZ
      go_wp2
      go_ret
      exact ⟨ret_bool (by rw [HZ.out]; rfl), HB.out⟩
    subst hk0
    rw [decide_eq_true rfl] at HZ
    rcases h2 : (sr.toList == em.toList) with _ | _
    · rw [h2] at HZ
      go_wp2
      go_ret
      exact ⟨ret_bool (by rw [HZ.out]; simp), HB.out⟩
    rw [h2] at HZ
    by_cases hr : (r.size : Int) = width
    case neg =>
      rw [decide_eq_false hr] at HZ
      go_wp2
      go_ret
      exact ⟨ret_bool (by rw [HZ.out]; rfl), HB.out⟩
    rw [decide_eq_true hr] at HZ
    rcases h3 : (r.toList == em.toList) with _ | _ <;> rcases (show 0 < n ∨ n ≤ 0 by omega) with h4 | h4
    all_goals
      first | (have h5 : decide (0 < n) = true := decide_eq_true h4) | (have h5 : decide (0 < n) = false := decide_eq_false (by omega))
      rw [h3, h5] at HZ
      go_wp2
      go_ret
      exact ⟨ret_bool (by rw [HZ.out]; rfl), HB.out⟩
end Go.Proofs.Ytojjjhbiccgjkaa
