/- l02Mixed of the reference. -/
import Derived.Test.YtojjjhbiccgjkaaRef7
namespace Go.Proofs.Ytojjjhbiccgjkaa
set_option linter.unusedVariables false
set_option linter.unusedSimpArgs false
open Go.RowKit

theorem blockAt_extract (t : ByteArray) (a : Nat) (h : a + 64 ≤ t.size) : blockAt (t.extract a (a + 64)) 0 = blockAt t a := by
  apply List.map_congr_left
  intro i hi
  rw [List.mem_range] at hi
  rw [wAt_extract t a (a + 64) (0 + 4 * i) (by omega) (by omega), Nat.zero_add]
set_option maxRecDepth 100000 in
set_option maxHeartbeats 400000 in
theorem l02Mixed_c (A : Option Addr) (c lo hi : Nat) (s : List Int) (t : ByteArray) (w : World) (hs : Wds 8 s) (ht : t.size ≤ 100000) (hA : Rd w lo hi A (ws s)) :
    Calls Try.prog 161 #[.slice A 8 c, .string t] w fun e w' => ∃ A' c', e = .returned (.slice A' 8 c') ∧ Below w.heap.size w w' ∧ Rd w' 0 w'.heap.size A' (ws (mixText s t (t.size / 64))) := by
  have HS := Lib.hid hs
  have HA := Lib.hid hA.base
  have ht2 : (t.size : Int) ≤ 100000 := by omega
  clear hs hA
  go_enter Try.func161, Try.ntmps161
  go_wp2
  go_loopw [0, 5] (fun v i wx => ∃ (k : Nat) (A0 : Option Addr) (c0 : Nat), 64 * k ≤ t.size ∧ i = .int .i64 (64 * k : Nat) ∧ v = .slice A0 8 c0 ∧ Below w.heap.size w wx ∧ Rd wx 0 wx.heap.size A0 (ws (mixText s t k))) (fun _ i _ => t.size - (intOf i).toNat)
  case atStart => exact ⟨0, A, c, by omega, rfl, rfl, Below.refl _ _, HA.out⟩
  case round =>
    obtain ⟨k, A0, c0, hk, rfl, rfl, hb, hx⟩ := hrel
    have HV : Hid (Wds 8 (mixText s t k)) := mixText_w HS.out t k
    have HMK : Hid (mixText s t (k + 1) = mixAll1 (mixText s t k) (blockAt t (64 * k))) := Lib.hid rfl
    have HB := Lib.hid hb
    have HX := Lib.hid hx
    obtain ⟨m, hm⟩ : ∃ m, m = 64 * k := ⟨_, rfl⟩
    rw [← hm] at HMK
    rw [← hm]
    have HM := Lib.hid hm
    have hk2 : m ≤ t.size := by omega
    clear hb hx hk
    by_cases h64 : m + 64 ≤ t.size
    · have hkk : k + 1 ≤ t.size / 64 := by omega
      have hbe := blockAt_extract t m h64
      have hbw := blockAt_wds t m
      have hse : (t.extract m (m + 64)).size = 64 := by rw [ByteArray.size_extract]; omega
      have HW := fun W => specWordsOf_c (t.extract m (m + 64)) W hse
      rw [hbe] at HW
      have HW2 := Lib.hid HW
      have HBW := Lib.hid hbw
      have h64i : (m : Int) + 64 ≤ t.size := by omega
      generalize blockAt t m = bl at *
      clear hm HW hbe hbw hse
      go_wp2_with fail
      refine (HW2.out _).mono ?_
      rintro e w1 ⟨A1, c1, rfl, hb1, hr1⟩
      have HX1 := Lib.hid (HX.out.below hb1)
      have HR1 := Lib.hid hr1
      have HB1 := Lib.hid (below_then HB.out hb1 HB.out.size)
      clear hb1 hr1 HX HB
      go_wp2_with fail
      refine (specMixIn_c A0 A1 c0 c1 _ _ _ _ _ bl _ HV.out HBW.out HX1.out HR1.out).mono ?_
      rintro e w2 ⟨A2, c2, rfl, hb2, hr2⟩
      have HR2 := Lib.hid hr2
      have HB2 := Lib.hid (below_then HB1.out hb2 HB1.out.size)
      clear hb2 hr2 HX1 HB1
      go_wp2
      go_roundw
      case rel =>
        have := HM.out
        refine ⟨k + 1, A2, c2, by omega, ?_, rfl, HB2.out, ?_⟩
        · rw [show 64 * (k + 1) = m + 64 by omega]; rfl
        · rw [HMK.out]; exact HR2.out.base
      case measure => simp [intOf]; omega
    · have hkk : k = t.size / 64 := by omega
      have h64i : ¬ (m : Int) + 64 ≤ t.size := by omega
      have HKK := Lib.hid hkk
      clear hm hkk
      go_wp2
      go_ret
      exact ⟨A0, ⟨c0, rfl⟩, HB.out, by rw [← HKK.out]; exact HX.out⟩
end Go.Proofs.Ytojjjhbiccgjkaa
