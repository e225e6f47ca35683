/- What the laws' own helpers do to a slice of ints. -/
import Derived.Test.YtjmhebmjlnianaaStr
namespace Go.Proofs.Ytjmhebmjlnianaa
set_option linter.unusedVariables false
set_option linter.unusedSimpArgs false
open Go.RowKit

/-- number k of a slice of ints -/
theorem Rd.int {w : World} {lo hi : Nat} {A : Option Addr} {l : List Int} (h : Rd w lo hi A (ints l)) {k : Nat} (hk : k < l.length) :
    ∃ b off s, A = some ⟨b, off, none⟩ ∧ b < w.heap.size ∧ l[k]? = some s ∧ w.cell? ⟨b, off + k, none⟩ = some (.int .i64 s) := by
  obtain ⟨b, off, h1, h2, h3⟩ := h.at_ (j := k) (by simpa [ints] using hk)
  exact ⟨b, off, l[k], h1, h2, List.getElem?_eq_getElem hk, h3 k _ (ints_get (List.getElem?_eq_getElem hk))⟩

set_option maxRecDepth 100000 in
set_option maxHeartbeats 400000 in
theorem eqIntS_c (A A' : Option Addr) (c c' lo hi lo' hi' n n' : Nat) (l : List Int) (w : World) (hr : Rd w lo hi A (ints l)) (hr' : Rd w lo' hi' A' (ints l)) (hn : l.length = n) (hn' : l.length = n') (hl : n ≤ maxLen) :
    Calls Try.prog 53 #[.slice A n c, .slice A' n' c'] w fun e w' => e = .returned (.bool true) ∧ Below w.heap.size w w' := by
  obtain rfl : n = n' := by omega
  unfold maxLen at hl
  have HN := Lib.hid hn
  clear hn hn'
  go_enter Try.func53, Try.ntmps53
  go_wp2
  go_loopw [5] (fun i wr => ∃ k : Nat, k ≤ n ∧ i = .int .i64 k ∧ ∃ m, wr = w.drewN m) (fun i _ => n - (intOf i).toNat)
  case atStart => exact ⟨0, Nat.zero_le _, rfl, 0, rfl⟩
  case round =>
    obtain ⟨k, hk, rfl, m, rfl⟩ := hrel
    by_cases hlt : k < n
    · obtain ⟨b, off, s, rfl, hb, hks, hc⟩ := hr.int (k := k) (by rw [HN.out]; omega)
      obtain ⟨b', off', s', rfl, hb', hks', hc'⟩ := hr'.int (k := k) (by rw [HN.out]; omega)
      obtain rfl : s = s' := by rw [hks] at hks'; exact Option.some.inj hks'
      clear hks hks' hr hr'
      go_wp2
      go_quiet (fail)
      go_wp2
      go_roundw
      case rel => exact ⟨k + 1, by omega, by go_num, _, rfl⟩
      case measure => simp [intOf]; omega
    · go_wp2
      go_ret
      exact ⟨rfl, below_drewN (Below.refl _ _) _⟩

/-- n marks, from the k-th on -/
def mksInt (k n : Nat) : List Int := (List.range n).map fun i => ((k + i : Nat) : Int)
theorem mksInt_len (k n : Nat) : (mksInt k n).length = n := by simp [mksInt]
theorem mksInt_get {k n i : Nat} (h : i < n) : (mksInt k n)[i]? = some ((k + i : Nat) : Int) := by simp [mksInt, h]

set_option maxRecDepth 100000 in
set_option maxHeartbeats 400000 in
theorem markIntS_c (A : Option Addr) (c lo hi k0 n : Nat) (x : Int) (xs : List Value) (w : World) (hx : x = (k0 : Int)) (hr : Own w lo hi A xs) (hn : xs.length = n) (hl : k0 + n ≤ 100000000) :
    Calls Try.prog 55 #[.slice A n c, .int .i64 x] w fun e w' => e = .returned (.int .i64 (k0 + n : Nat)) ∧ Only lo hi w w' ∧ Own w' lo hi A (ints (mksInt k0 n)) := by
  subst hx
  have HN := Lib.hid hn
  clear hn
  go_enter Try.func55, Try.ntmps55
  go_wp2
  go_loopw [1, 5] (fun kk i wr => ∃ i0 : Nat, i0 ≤ n ∧ i = .int .i64 i0 ∧ kk = .int .i64 (k0 + i0 : Nat) ∧ Only lo hi w wr ∧ Own wr lo hi A ((ints (mksInt k0 n)).take i0 ++ xs.drop i0)) (fun _ i _ => n - (intOf i).toNat)
  case atStart => exact ⟨0, Nat.zero_le _, rfl, rfl, Only.refl _ _ _, by rw [List.take_zero, List.drop_zero, List.nil_append]; exact hr⟩
  case round =>
    obtain ⟨i0, hi0, rfl, rfl, ho, hw⟩ := hrel
    have HO := Lib.hid ho
    clear ho hr
    by_cases hlt : i0 < n
    · have hlen : ((ints (mksInt k0 n)).take i0 ++ xs.drop i0).length = n := by
        rw [List.length_append, List.length_take, List.length_drop, ints_len, mksInt_len, HN.out]; omega
      obtain ⟨b, off, rfl, h2, h3, h4, hc, hz⟩ := hw.at_ (j := i0) (by omega)
      obtain ⟨v0, hc0⟩ : ∃ v, wr.cell? ⟨b, off + i0, none⟩ = some v := ⟨_, hc i0 _ (List.getElem?_eq_getElem (by omega))⟩
      have hz0 := hz i0
      have HW := Lib.hid (hw.set (j := i0) (by omega) (.int .i64 ((k0 + i0 : Nat) : Int)))
      have HE := Lib.hid (set_next (ys := xs) (ints_get (mksInt_get (k := k0) hlt)) (by rw [HN.out]; exact hlt))
      clear hc hz hw hlen
      go_wp2
      go_roundw
      case rel => exact ⟨i0 + 1, by omega, by go_num, by go_num, HO.out.setCell h2 h3 _, by rw [← HE.out]; exact HW.out⟩
      case measure => simp [intOf]; omega
    · go_wp2
      go_ret
      obtain rfl : i0 = n := by omega
      refine ⟨rfl, HO.out, ?_⟩
      have := hw
      rwa [List.take_of_length_le (by rw [ints_len, mksInt_len]; exact Nat.le_refl _), List.drop_eq_nil_of_le (by rw [HN.out]; exact Nat.le_refl _), List.append_nil] at this
set_option maxRecDepth 100000 in
set_option maxHeartbeats 400000 in
theorem heldIntS_c (A : Option Addr) (c lo hi k0 n : Nat) (x : Int) (w : World) (hx : x = (k0 : Int)) (hr : Rd w lo hi A (ints (mksInt k0 n))) (hl : k0 + n ≤ 100000000) :
    Calls Try.prog 56 #[.slice A n c, .int .i64 x] w fun e w' => e = .returned (.int .i64 (k0 + n : Nat)) ∧ Below w.heap.size w w' := by
  subst hx
  go_enter Try.func56, Try.ntmps56
  go_wp2
  go_loop [1, 5] (fun kk i => ∃ i0 : Nat, i0 ≤ n ∧ i = .int .i64 i0 ∧ kk = .int .i64 (k0 + i0 : Nat)) (fun _ i => n - (intOf i).toNat)
  case atStart => exact ⟨0, Nat.zero_le _, rfl, rfl⟩
  case round =>
    obtain ⟨i0, hi0, rfl, rfl⟩ := hrel
    by_cases hlt : i0 < n
    · obtain ⟨b, off, s, rfl, hb, hks, hc⟩ := hr.int (k := i0) (by rw [mksInt_len]; exact hlt)
      obtain rfl : ((k0 + i0 : Nat) : Int) = s := by rw [mksInt_get hlt] at hks; exact Option.some.inj hks
      clear hr hks
      go_wp2
      go_round
      case rel => exact ⟨i0 + 1, by omega, by go_num, by go_num⟩
      case measure => simp [intOf]; omega
    · go_wp2
      go_ret
      obtain rfl : i0 = n := by omega
      exact ⟨rfl, Below.refl _ _⟩
end Go.Proofs.Ytjmhebmjlnianaa
