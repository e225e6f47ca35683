/- Part 11 of the proof of FnDeeds: lemmas and contracts. -/
import Derived.Test.YtoccjgcokffkbaaGreatTd10
import Derived.Shelf.Small.Bits
import Derived.Lib.ItoaNum
import Derived.Ground.NamesProg
import Derived.Lib.Agree
namespace Go.Proofs.YtoccjgcokffkbaaGreat
set_option linter.unusedVariables false
set_option linter.unusedSimpArgs false
set_option maxHeartbeats 20000000
section
open Go.RowKit
def dR (width : Int) (l : List ByteArray) : Nat → ByteArray
 | 0 => l.getD (l.length - 1) ByteArray.empty
 | j + 1 => fH width (l.getD (l.length - 2 - j) ByteArray.empty) (dR width l j)
def aU (width : Int) (l : List ByteArray) : ByteArray := if l.length = 0 then aQ width else dR width l (l.length - 1)
def aS (l : List ByteArray) : Nat := l.length - 1
theorem rootF_size {width : Int} {l : List ByteArray} (hw : inR width 1 32 = true) (ha : bE width l = true) : ∀ {j : Nat}, j < l.length → ((dR width l j).size : Int) = width
 | 0, h => cz ha _ (gV (by omega))
 | j + 1, h => nodeT_size hw (cz ha _ (gV (by omega))) (rootF_size hw ha (by omega))
theorem rngRoot_size {width : Int} {l : List ByteArray} (hw : inR width 1 32 = true) (ha : bE width l = true) : ((aU width l).size : Int) = width := by
 rw [aU]; split
 ·exact emptyT_size hw
 exact rootF_size hw ha (by omega)
def rrT (width z : Int) (l : List ByteArray) : ByteArray := if dH width z l then aU width l else ByteArray.empty
def rrN (width z : Int) (l : List ByteArray) : Nat := if dH width z l then aS l else 0
structure RAt (w : World) (z : Int) (A : Option Addr) (m c : Nat) (wx : World) : Prop where
 below : Below w.heap.size w wx
 r : aa wx w.heap.size [.int .i64 z, .slice A m c]
theorem RAt.next {w : World} {z : Int} {A : Option Addr} {m c : Nat} {wx wy : World} (h : RAt w z A m c wx) (hb : Below wx.heap.size wx wy) : RAt w z A m c wy := ⟨ak h.below hb h.below.size, h.r.below hb⟩
set_option maxRecDepth 100000 in
theorem root_c (width z : Int) (A : Option Addr) (c lo hi m : Nat) (l : List ByteArray) (w : World) (hr : Rd w lo hi A (strs l)) (hn : l.length = m) (hl : m ≤ 1000) (hw : inR width 1 32 = true) (ha : bE width l = true) :
  Calls Tryz.prog 185 #[.agg #[.int .i64 z, .slice A m c], .int .i64 width] w fun e w' => e = .returned (.tuple #[.string (aU width l), .int .i64 (aS l : Nat)]) ∧ Below w.heap.size w w' := by
 have HN := lH hn
 have HR : Hid (Rd w 0 w.heap.size A (strs l)) := lH hr.base
 have HW := lH hw
 have HA := lH ha
 have hw2 := az.1 hw
 rcases (show m = 0 ∨ 0 < m by omega) with hm0 | hm0
 ·have HD : Hid (aU width l = aQ width ∧ aS l = 0) := lH ⟨by rw [aU, if_pos (by omega)], by rw [aS]; omega⟩
  subst hm0; clear hr hn hw ha
  go_enter Tryz.func185, Tryz.ntmps185
  go_wp2_with fail
  refine (emptyRoot_c width _).mono ?_
  rintro e w1 ⟨rfl, hb1⟩
  have HB1 := lH (ak ((Below.refl _ _).alloc (Nat.le_refl _) _) hb1 (by simp))
  clear hb1; generalize aQ width = em at *; go_wp2
  go_ret2
  exact ⟨by rw [HD.out.1, HD.out.2]; rfl, HB1.out⟩
 obtain ⟨t0, ht0⟩ : ∃ t0, m = t0 + 1 := ⟨m - 1, by omega⟩
 have HD : Hid (aU width l = dR width l t0 ∧ aS l = t0) := lH ⟨by rw [aU, if_neg (by omega)]; congr 1; omega, by rw [aS]; omega⟩
 obtain ⟨b, off, s, rfl, hb, hks, hc⟩ := hr.str (k := t0) (by omega)
 have hs0 : Hid (s = dR width l 0) := lH (by rw [dR, hn, show m - 1 = t0 by omega, List.getD_eq_getElem?_getD, hks]; rfl)
 have E1 : IntKind.i64.wrap ((m : Int) - 1) = t0 := by rw [IntKind.wrap_i64]; omega
 have E2 : (m : Int) - 1 = t0 := by omega
 have E3 : (0 : Int) ≤ t0 := by omega
 have E4 : (t0 : Int) < m := by omega
 have hml : (m : Int) ≤ 1000 := by omega
 have hm1 : ¬ (m : Int) = 0 := by omega
 have hm2 : ((m : Int) == 0) = false := by simpa using hm1
 have HT0 := lH ht0
 clear hr hn hw ha hks hm1 ht0
 go_enter Tryz.func185, Tryz.ntmps185
 go_wp2
 go_loopw [7, 8] (fun rv iv wx => ∃ (j t : Nat) (i : Int), t + j + 1 = m ∧ i = t - 1 ∧ iv = .int .i64 i ∧ rv = .string (dR width l j) ∧ RAt w z (some ⟨b, off, none⟩) m c wx) (fun _ iv _ => (intOf iv + 1).toNat)
 case atStart => exact ⟨0, t0, _, by have := HT0.out; omega, rfl, by first | rfl | (congr 1), by rw [hs0.out], ⟨(Below.refl _ _).alloc (Nat.le_refl _) _, aa.new w _ _⟩⟩
 case round =>
  clear E1 E2 E3 E4 hc hs0; obtain ⟨j, t, i, htj, hi, rfl, rfl, hA⟩ := hrel
  have HA2 := lH hA
  have hxr := hA.r.2.1
  rcases (show t = 0 ∨ 0 < t by omega) with h0 | h0
  ·have hjt : j = t0 := by have := HT0.out; omega
   subst hjt
   have hi2 : i = -1 := by omega
   subst hi2; clear hA hi htj; clear h0; generalize dR width l j = rr at *; go_wp2
   go_ret2
   exact ⟨by rw [HD.out.1, HD.out.2]; rfl, HA2.out.below⟩
  obtain ⟨p, hp⟩ : ∃ p, t = p + 1 := ⟨t - 1, by omega⟩
  obtain rfl : i = (p : Int) := by omega
  obtain ⟨b2, off2, s, e2, hb2, hks, hc⟩ := (HR.out.lowB hA.below (Nat.le_refl _)).str (k := p) (by rw [HN.out]; omega)
  cases e2
  have HNX : Hid (dR width l (j + 1) = fH width s (dR width l j)) := lH (by rw [dR, HN.out, show m - 2 - j = p by omega, List.getD_eq_getElem?_getD, hks]; rfl)
  have hsz := cz HA.out s (List.mem_of_getElem? hks)
  have hrz := rootF_size HW.out HA.out (j := j) (by rw [HN.out]; omega)
  have E4 : (p : Int) < m := by omega
  have E5 : IntKind.i64.wrap ((p : Int) - 1) = p - 1 := by rw [IntKind.wrap_i64]; omega
  have HQ := lH (And.intro htj hp)
  clear hA hks htj hp hi h0; generalize dR width l j = rr at *
  have HND := lH (fun W => node_c width s rr W (by omega) (by omega))
  generalize fH width s rr = nd at *; clear hsz hrz
  go_wp2_with fail
  refine (HND.out _).mono ?_
  rintro e w5 ⟨rfl, hb5⟩
  have HA5 := lH (HA2.out.next hb5)
  clear hb5 HA2 hxr hc; go_wp2
  go_roundw
  case rel => exact ⟨j + 1, p, _, by have := HQ.out; omega, rfl, by first | rfl | (congr 1), by rw [HNX.out], HA5.out⟩
  case measure => first | (simp [intOf]; done) | (simp [intOf]; omega)
set_option maxRecDepth 100000 in
theorem fO (width z : Int) (A : Option Addr) (c lo hi m : Nat) (l : List ByteArray) (w : World) (hr : Rd w lo hi A (strs l)) (hn : l.length = m) (hl : m ≤ 1048576) :
  Calls Tryz.prog 159 #[.int .i64 width, .agg #[.int .i64 z, .slice A m c]] w fun e w' => e = .returned (.tuple #[.string (rrT width z l), .int .i64 (rrN width z l : Nat), .bool (dH width z l)]) ∧ Below w.heap.size w w' := by
 have HN := lH hn
 have HR : Hid (Rd w 0 w.heap.size A (strs l)) := lH hr.base
 have HRK := lH (fun W (h : Rd W 0 W.heap.size A (strs l)) => specRangeOk_c width z A c 0 W.heap.size m l W h hn hl)
 rcases hq : dH width z l with _ | _
 ·have HD : Hid (rrT width z l = ⟨#[]⟩ ∧ rrN width z l = 0) := lH ⟨by rw [rrT, hq]; rfl, by rw [rrN, hq]; rfl⟩
  rw [hq] at HRK
  clear hq hr hn
  have HB : Hid (Below w.heap.size w w) := Below.refl _ _
  go_enter Tryz.func159, Tryz.ntmps159
  go_wp2_with fail
  refine af (fun w1 hw => ?_)
  have hz1 : w.heap.size + 1 ≤ w1.heap.size := zA
  have hbn : Below w.heap.size w w1 := zB
  replace HB := bT HB hbn; clear hbn
  have HXr : Hid (aa w1 (w.heap.size) [.int .i64 z, .slice A m c]) := zG2
  obtain ⟨hkr, hxr, hfr⟩ := HXr.out; clear hw
  refine (HRK.out _ (HR.out.below HB.out).base).mono ?_
  rintro e w2 ⟨rfl, hb⟩
  have hzw2 : w1.heap.size ≤ w2.heap.size := hb.size
  replace HB := bT HB hb; replace HXr := nB HXr hb; clear hxr hfr hkr; obtain ⟨hkr, hxr, hfr⟩ := HXr.out; clear hb; go_wp2
  refine bodyPost_ret (v := .tuple #[.string ⟨#[]⟩, .int .i64 0, .bool false]) (by simp [results, Tryz.results159, go_sem]) rfl ?_
  exact ⟨by rw [HD.out.1, HD.out.2]; rfl, HB.out⟩
 obtain ⟨hz1, hz2, hpl, ha, hw⟩ := bZ hq
 have hw2 := az.1 hw
 have HD : Hid (rrT width z l = aU width l ∧ rrN width z l = aS l) := lH ⟨by rw [rrT, hq]; rfl, by rw [rrN, hq]; rfl⟩
 rw [hq] at HRK
 have HW := lH hw
 have HA := lH ha
 have hm10 : m ≤ 10 := by have := popC_le z; omega
 rcases (show z = 0 ∨ 0 < z by omega) with h0 | h0
 ·have hm0 : m = 0 := by rw [← hn, hpl, h0]; decide
  have HD2 : Hid (aU width l = aQ width ∧ aS l = 0) := lH ⟨by rw [aU, if_pos (by omega)], by rw [aS]; omega⟩
  have HE := lH (fun W => specEmptyRoot_c width W)
  rw [hw] at HE
  subst h0; clear hq hr hn ha hw hpl hm0; generalize aQ width = em at *
  have HB : Hid (Below w.heap.size w w) := Below.refl _ _
  go_enter Tryz.func159, Tryz.ntmps159
  go_wp2_with fail
  refine af (fun w1 hw => ?_)
  have hz1 : w.heap.size + 1 ≤ w1.heap.size := zA
  have hbn : Below w.heap.size w w1 := zB
  replace HB := bT HB hbn; clear hbn
  have HXr : Hid (aa w1 (w.heap.size) [.int .i64 0, .slice A m c]) := zG2
  obtain ⟨hkr, hxr, hfr⟩ := HXr.out; clear hw
  refine (HRK.out _ (HR.out.below HB.out).base).mono ?_
  rintro e w2 ⟨rfl, hb⟩
  have hzw2 : w1.heap.size ≤ w2.heap.size := hb.size
  replace HB := bT HB hb; replace HXr := nB HXr hb; clear hxr hfr hkr; obtain ⟨hkr, hxr, hfr⟩ := HXr.out; clear hb
  go_wp2_with fail
  refine af (fun w3 hw => ?_)
  have hz3 : w2.heap.size + 0 ≤ w3.heap.size := zA
  have hbn : Below w2.heap.size w2 w3 := zB
  replace HB := bT HB hbn; replace HXr := nB HXr hbn; clear hxr hfr hkr; obtain ⟨hkr, hxr, hfr⟩ := HXr.out; clear hbn; clear hw
  refine (HE.out _).mono ?_
  rintro e w4 ⟨rfl, hb⟩
  have hzw4 : w3.heap.size ≤ w4.heap.size := hb.size
  replace HB := bT HB hb; replace HXr := nB HXr hb; clear hxr hfr hkr; obtain ⟨hkr, hxr, hfr⟩ := HXr.out; clear hb; go_wp2
  refine bodyPost_ret (v := .tuple #[.string em, .int .i64 0, .bool true]) (by simp [results, Tryz.results159, go_sem]) rfl ?_
  exact ⟨by rw [HD.out.1, HD.out.2, HD2.out.1, HD2.out.2]; rfl, HB.out⟩
 have hm0 : 0 < m := by
  obtain ⟨n1, hn1⟩ : ∃ n1 : Nat, z.toNat = n1 + 1 := ⟨z.toNat - 1, by omega⟩
  have h1 := (tz_pop n1 (by omega)).2
  rw [← hn, hpl, show z = ((n1 + 1 : Nat) : Int) by omega, popC_nat (by omega)]
  omega
 obtain ⟨t0, ht0⟩ : ∃ t0, m = t0 + 1 := ⟨m - 1, by omega⟩
 have HD2 : Hid (aU width l = dR width l t0 ∧ aS l = t0) := lH ⟨by rw [aU, if_neg (by omega)]; congr 1; omega, by rw [aS]; omega⟩
 obtain ⟨b, off, s, rfl, hb, hks, hc⟩ := hr.str (k := t0) (by omega)
 have hs0 : Hid (s = dR width l 0) := lH (by rw [dR, hn, show m - 1 = t0 by omega, List.getD_eq_getElem?_getD, hks]; rfl)
 have E1 : IntKind.i64.wrap ((m : Int) - 1) = t0 := by rw [IntKind.wrap_i64]; omega
 have E2 : (m : Int) - 1 = t0 := by omega
 have E3 : (0 : Int) ≤ t0 := by omega
 have E4 : (t0 : Int) < m := by omega
 have E6 : IntKind.i64.wrap ((m : Int) - 2) = t0 - 1 := by rw [IntKind.wrap_i64]; omega
 have hz0 : ¬ z = 0 := by omega
 have hz00 : (z == 0) = false := by simpa using hz0
 have HT0 := lH ht0
 have HE6 : Hid ((m : Int) - 2 = t0 - 1) := lH (by omega)
 clear hq hr hn hw ha hks hpl ht0 hz0
 have HB : Hid (Below w.heap.size w w) := Below.refl _ _
 go_enter Tryz.func159, Tryz.ntmps159
 go_wp2_with fail
 refine af (fun w1 hw => ?_)
 have hz1 : w.heap.size + 1 ≤ w1.heap.size := zA
 have hbn : Below w.heap.size w w1 := zB
 replace HB := bT HB hbn
 clear hbn
 have HXr : Hid (aa w1 (w.heap.size) [.int .i64 z, .slice (some ⟨b, off, none⟩) m c]) := zG2
 obtain ⟨hkr, hxr, hfr⟩ := HXr.out
 clear hw
 refine (HRK.out _ (HR.out.below HB.out).base).mono ?_
 rintro e w2 ⟨rfl, hb⟩
 have hzw2 : w1.heap.size ≤ w2.heap.size := hb.size
 replace HB := bT HB hb
 replace HXr := nB HXr hb
 clear hxr hfr hkr
 obtain ⟨hkr, hxr, hfr⟩ := HXr.out
 clear hb
 have hc2 := (Below.cell HB.out (p := ⟨b, off + t0, none⟩) hb).trans hc
 have HAT : Hid (RAt w z (some ⟨b, off, none⟩) m c w2) := lH ⟨HB.out, HXr.out⟩
 clear hc
 go_wp2
 go_loopw [9, 10] (fun rv iv wx => ∃ (j t : Nat) (i : Int), t + j + 1 = m ∧ i = t - 1 ∧ iv = .int .i64 i ∧ rv = .string (dR width l j) ∧ RAt w z (some ⟨b, off, none⟩) m c wx) (fun _ iv _ => (intOf iv + 1).toNat)
 case atStart => exact ⟨0, t0, _, by have := HT0.out; omega, HE6.out, by first | rfl | exact congrArg (Value.int .i64) HE6.out.symm, by rw [hs0.out], HAT.out⟩
 case round =>
  clear E1 E2 E3 E4 E6 hc2 hs0 HAT HXr hxr hfr hkr; obtain ⟨j, t, i, htj, hi, rfl, rfl, hA⟩ := hrel
  have HA2 := lH hA
  have hxr := hA.r.2.1
  rcases (show t = 0 ∨ 0 < t by omega) with h0 | h0
  ·have hjt : j = t0 := by have := HT0.out; omega
   subst hjt
   have hi2 : i = -1 := by omega
   subst hi2
   have E8 : IntKind.i64.wrap ((m : Int) - 1) = j := by rw [IntKind.wrap_i64]; have := HT0.out; omega
   have E9 : (m : Int) - 1 = j := by have := HT0.out; omega
   clear hA hi htj; clear h0; generalize dR width l j = rr at *; go_wp2
   go_quiet (fail)
   go_wp2
   refine bodyPost_ret (v := .tuple #[.string rr, .int .i64 (j : Nat), .bool true]) (by simp [results, Tryz.results159, go_sem]) rfl ?_
   exact ⟨by rw [HD.out.1, HD.out.2, HD2.out.1, HD2.out.2], HA2.out.below.trans (Below.mono (below_drewN _ _) HA2.out.below.size)⟩
  obtain ⟨p, hp⟩ : ∃ p, t = p + 1 := ⟨t - 1, by omega⟩
  obtain rfl : i = (p : Int) := by omega
  obtain ⟨b2, off2, s, e2, hb2, hks, hc⟩ := (HR.out.lowB hA.below (Nat.le_refl _)).str (k := p) (by rw [HN.out]; omega)
  cases e2
  have HNX : Hid (dR width l (j + 1) = fH width s (dR width l j)) := lH (by rw [dR, HN.out, show m - 2 - j = p by omega, List.getD_eq_getElem?_getD, hks]; rfl)
  have hsz := cz HA.out s (List.mem_of_getElem? hks)
  have hrz := rootF_size HW.out HA.out (j := j) (by rw [HN.out]; omega)
  have E4 : (p : Int) < m := by omega
  have E5 : IntKind.i64.wrap ((p : Int) - 1) = p - 1 := by rw [IntKind.wrap_i64]; omega
  have HQ := lH (And.intro htj hp)
  clear hA hks htj hp hi h0; generalize dR width l j = rr at *
  have HND := lH (fun W => specNodeHash_c width s rr W HW.out hsz hrz)
  generalize fH width s rr = nd at *; clear hsz hrz
  go_wp2_with fail
  refine (HND.out _).mono ?_
  rintro e w5 ⟨rfl, hb5⟩
  have HA5 := lH (HA2.out.next hb5)
  clear hb5 HA2 hxr hc; go_wp2
  go_roundw
  case rel => exact ⟨j + 1, p, _, by have := HQ.out; omega, rfl, by first | rfl | (congr 1), by rw [HNX.out], HA5.out⟩
  case measure => first | (simp [intOf]; done) | (simp [intOf]; omega)
end
section
open Go.Shelf Go.RowKit
def halfN (n : Nat) : Nat := 2 ^ (Lib.bitLen (n - 1) - 1)
theorem bitLen_bd {x : Nat} (h0 : x ≠ 0) (h : x < 512) : 1 ≤ Lib.bitLen x ∧ Lib.bitLen x ≤ 9 ∧ 2 ^ (Lib.bitLen x - 1) ≤ x ∧ x < 2 ^ Lib.bitLen x := by
 obtain ⟨h1, h2, h3⟩ := Lib.bitLenAux_bounds 64 x (Nat.lt_trans h (by decide)) h0
 refine ⟨h1, ?_, h2, h3⟩
 rcases Nat.lt_or_ge 9 (Lib.bitLen x) with h9 | h9
 ·exfalso
  have h4 : 2 ^ 9 ≤ 2 ^ (Lib.bitLenAux 64 x - 1) := Nat.pow_le_pow_right (by omega) (by have : Lib.bitLen x = Lib.bitLenAux 64 x := rfl; omega)
  omega
 exact h9
theorem halfN_bd {n : Nat} (h2 : 2 ≤ n) (h : n ≤ 512) : 1 ≤ halfN n ∧ halfN n < n ∧ n ≤ 2 * halfN n := by
 obtain ⟨h1, h9, h3, h4⟩ := bitLen_bd (x := n - 1) (by omega) (by omega)
 have h5 : 2 ^ Lib.bitLen (n - 1) = 2 * 2 ^ (Lib.bitLen (n - 1) - 1) := by
  rw [← Nat.pow_succ', Nat.succ_eq_add_one, Nat.sub_add_cancel h1]
 have h6 : 0 < 2 ^ (Lib.bitLen (n - 1) - 1) := Nat.two_pow_pos _
 unfold halfN
 omega
theorem halfN_eq {n j : Nat} (h2 : 2 ≤ n) (h : n ≤ 512) (h1 : 2 ^ j < n) (h3 : n ≤ 2 * 2 ^ j) : halfN n = 2 ^ j := by
 obtain ⟨k1, k2, k3⟩ := halfN_bd h2 h
 unfold halfN at *
 generalize Lib.bitLen (n - 1) - 1 = b at *
 have : b = j := by
  rcases Nat.lt_trichotomy b j with hb | hb | hb
  ·have h5 : 2 ^ (b + 1) ≤ 2 ^ j := Nat.pow_le_pow_right (by omega) hb
   rw [Nat.pow_succ] at h5
   omega
  ·exact hb
  have h5 : 2 ^ (j + 1) ≤ 2 ^ b := Nat.pow_le_pow_right (by omega) hb
  rw [Nat.pow_succ] at h5
  omega
 rw [this]
end
section
open Go.RowKit
def bz (width : Int) : Nat → List ByteArray → ByteArray
 | 0, _ => ByteArray.empty
 | f + 1, l => if l.length = 0 then aQ width else if l.length = 1 then l.getD 0 ByteArray.empty else fH width (bz width f (l.take (halfN l.length))) (bz width f (l.drop (halfN l.length)))
theorem areH_sub {width : Int} {l l' : List ByteArray} (h : bE width l = true) (hs : ∀ s ∈ l', s ∈ l) : bE width l' = true := by
 rw [bE, List.all_eq_true]
 intro s hm
 exact decide_eq_true (cz h s (hs s hm))
theorem rootFu_size {width : Int} (hw : inR width 1 32 = true) : ∀ {f : Nat} {l : List ByteArray}, l.length < f → l.length ≤ 512 → bE width l = true → ((bz width f l).size : Int) = width
 | 0, l, h, _, _ => by omega
 | f + 1, l, h, h5, ha => by
   rw [bz]
   split
   ·exact emptyT_size hw
   split
   ·rename_i h0 h1
    refine cz ha _ ?_
    rw [List.getD_eq_getElem?_getD, List.getElem?_eq_getElem (by omega)]
    exact List.getElem_mem (by omega)
   rename_i h0 h1
   obtain ⟨k1, k2, k3⟩ := halfN_bd (n := l.length) (by omega) h5
   exact nodeT_size hw (rootFu_size hw (by rw [List.length_take]; omega) (by rw [List.length_take]; omega) (areH_sub ha (fun s hs => List.mem_of_mem_take hs)))
    (rootFu_size hw (by rw [List.length_drop]; omega) (by rw [List.length_drop]; omega) (areH_sub ha (fun s hs => List.mem_of_mem_drop hs)))
theorem Rd.takeS {w : World} {lo hi : Nat} {A : Option Addr} {l : List ByteArray} (h : Rd w lo hi A (strs l)) (k : Nat) : Rd w lo hi A (strs (l.take k)) := by
 refine Rd.pre (ys := strs (l.drop k)) ?_
 rw [strs, strs, ← List.map_append, List.take_append_drop]
 exact h
theorem Rd.dropS {w : World} {lo hi b off : Nat} {l : List ByteArray} (h : Rd w lo hi (some ⟨b, off, none⟩) (strs l)) (k : Nat) : Rd w lo hi (some ⟨b, off + k, none⟩) (strs (l.drop k)) := by
 intro hn
 have hne : strs l ≠ [] := by
  intro e
  apply hn
  have : l = [] := List.map_eq_nil_iff.1 e
  rw [this, List.drop_nil]
  rfl
 obtain ⟨b', off', e, h2, h3, h4, h5⟩ := h hne
 cases e
 refine ⟨b, off + k, rfl, h2, h3, h4, fun j u hu => ?_⟩
 have := h5 (k + j) u (by rw [← hu, strs, strs, List.map_drop, List.getElem?_drop])
 rwa [← Nat.add_assoc] at this
theorem fu_step {width : Int} {f n : Nat} {l : List ByteArray} (hn : l.length = n) (h2 : 2 ≤ n) : bz width (f + 1) l = fH width (bz width f (l.take (halfN n))) (bz width f (l.drop (halfN n))) := by
 rw [bz, if_neg (by omega), if_neg (by omega), hn]
theorem fu_zero {width : Int} {f : Nat} {l : List ByteArray} (hn : l.length = 0) : bz width (f + 1) l = aQ width := by rw [bz, if_pos hn]
theorem fu_one {width : Int} {f : Nat} {l : List ByteArray} {s : ByteArray} (hn : l.length = 1) (hs : l[0]? = some s) : bz width (f + 1) l = s := by
 rw [bz, if_neg (by omega), if_pos hn, List.getD_eq_getElem?_getD, hs]; rfl
end
section
def perf (width : Int) : Nat → List ByteArray → ByteArray
 | 0, l => l.getD 0 ByteArray.empty
 | j + 1, l => fH width (perf width j (l.take (2 ^ j))) (perf width j (l.drop (2 ^ j)))
def pks (width : Int) : Nat → List ByteArray → List ByteArray
 | 0, _ => []
 | j + 1, l => if 2 ^ j ≤ l.length then perf width j (l.take (2 ^ j)) :: pks width j (l.drop (2 ^ j)) else pks width j l
theorem pks_nil (width : Int) : ∀ j, pks width j [] = []
 | 0 => rfl
 | j + 1 => by rw [pks, if_neg (by have := Nat.pow_pos (n := j) (show 0 < 2 by omega); simp)]; exact pks_nil width j
theorem tz_low : ∀ j : Nat, j < 10 → ∀ m : Nat, m < 512 → m + 1 < 2 ^ j → tz (2 ^ j + m) = tz m := by decide +kernel
theorem tz_top : ∀ j : Nat, j < 10 → tz (2 ^ j - 1) = j := by decide +kernel
theorem merge1_cons {width : Int} {p : ByteArray} {q : List ByteArray} (h : 2 ≤ q.length) : fI width (p :: q) = p :: fI width q := by
 obtain ⟨n, hn⟩ : ∃ n, q.length = n + 2 := ⟨q.length - 2, by omega⟩
 rw [fI, fI, List.length_cons, hn]
 simp
theorem mergeK_cons {width : Int} {p : ByteArray} {q : List ByteArray} : ∀ {j : Nat}, j < q.length → dC width (p :: q) j = p :: dC width q j
 | 0, _ => rfl
 | j + 1, h => by
   rw [dC, mergeK_cons (by omega), dC]
   exact merge1_cons (by rw [mergeK_len (by omega)]; omega)
theorem pks_grow (width : Int) (x : ByteArray) : ∀ (j : Nat) (l : List ByteArray), j < 10 → l.length < 2 ^ j → tz l.length ≤ (pks width j l).length ∧
  (l.length + 1 < 2 ^ j → dC width (pks width j l ++ [x]) (tz l.length) = pks width j (l ++ [x])) ∧
  (l.length + 1 = 2 ^ j → dC width (pks width j l ++ [x]) (tz l.length) = [perf width j (l ++ [x])])
 | 0, l, _, h => by
   have : l = [] := List.eq_nil_of_length_eq_zero (by simpa using h)
   subst this
   refine ⟨Nat.zero_le _, fun h => by simp at h, fun _ => rfl⟩
 | j + 1, l, hj, h => by
   have hp : 0 < 2 ^ j := Nat.pow_pos (by omega)
   have hq : 2 ^ j ≤ 2 ^ 8 := Nat.pow_le_pow_right (by omega) (by omega)
   have hs : 2 ^ (j + 1) = 2 * 2 ^ j := by rw [Nat.pow_succ]; omega
   by_cases hl : 2 ^ j ≤ l.length
   ·obtain ⟨a, b, rfl, ha⟩ : ∃ a b, l = a ++ b ∧ a.length = 2 ^ j := ⟨l.take (2 ^ j), l.drop (2 ^ j), (List.take_append_drop _ _).symm, by rw [List.length_take]; omega⟩
    rw [List.length_append] at h hl ⊢
    obtain ⟨i1, i2, i3⟩ := pks_grow width x j b (by omega) (by omega)
    have e1 : pks width (j + 1) (a ++ b) = perf width j a :: pks width j b := by
     rw [pks, if_pos (by rw [List.length_append]; omega), ← ha, List.take_left, List.drop_left]
    have e2 : pks width (j + 1) (a ++ b ++ [x]) = perf width j a :: pks width j (b ++ [x]) := by
     rw [pks, if_pos (by simp; omega), List.append_assoc, ← ha, List.take_left, List.drop_left]
    have hc : dC width (perf width j a :: (pks width j b ++ [x])) (tz b.length) = perf width j a :: dC width (pks width j b ++ [x]) (tz b.length) := mergeK_cons (by rw [List.length_append]; simp; omega)
    rcases (show b.length + 1 < 2 ^ j ∨ b.length + 1 = 2 ^ j by omega) with hb | hb
    ·have ht : tz (a.length + b.length) = tz b.length := by rw [ha]; exact tz_low j (by omega) _ (by omega) hb
     rw [ht, e1]
     refine ⟨by simp; omega, fun _ => ?_, fun hx => by omega⟩
     rw [e2, List.cons_append, hc, i2 hb]
    have ht : tz (a.length + b.length) = tz b.length + 1 := by
     rw [show a.length + b.length = 2 ^ (j + 1) - 1 by omega, show b.length = 2 ^ j - 1 by omega, tz_top _ (by omega), tz_top _ (by omega)]
    rw [ht, e1]
    refine ⟨by simp; omega, fun hx => by omega, fun _ => ?_⟩
    rw [List.cons_append, dC, hc, i3 hb, perf, List.append_assoc, ← ha, List.take_left, List.drop_left]
    rfl
   obtain ⟨i1, i2, i3⟩ := pks_grow width x j l (by omega) (by omega)
   have e1 : pks width (j + 1) l = pks width j l := by rw [pks, if_neg hl]
   rw [e1]
   refine ⟨i1, fun _ => ?_, fun hx => by omega⟩
   rcases (show l.length + 1 < 2 ^ j ∨ l.length + 1 = 2 ^ j by omega) with hb | hb
   ·rw [i2 hb, pks, if_neg (by simp; omega)]
   rw [i3 hb, pks, if_pos (by simp; omega), List.take_of_length_le (by simp; omega), List.drop_of_length_le (by simp; omega), pks_nil]
theorem growUp_pks (width : Int) (L : List ByteArray) : ∀ k : Nat, k ≤ L.length → k < 512 → ax width 0 [] L k = pks width 9 (L.take k)
 | 0, _, _ => by rw [List.take_zero, pks_nil]; rfl
 | k + 1, hk, h5 => by
   have hg : L[k]? = some (L.getD k ByteArray.empty) := by rw [List.getD_eq_getElem?_getD, List.getElem?_eq_getElem (by omega)]; rfl
   have hlen : (L.take k).length = k := by rw [List.length_take]; omega
   obtain ⟨_, h2, _⟩ := pks_grow width (L.getD k ByteArray.empty) 9 (L.take k) (by omega) (by rw [hlen]; exact (by omega : k < 2 ^ 9))
   rw [ax, growUp_pks width L k (by omega) (by omega), gU, Nat.zero_add]
   rw [hlen] at h2
   rw [h2 (show k + 1 < 2 ^ 9 by omega), List.take_add_one, hg]
   rfl
theorem perf_fu {width : Int} : ∀ {j f : Nat} {l : List ByteArray}, j ≤ 9 → l.length = 2 ^ j → l.length < f → perf width j l = bz width f l
 | 0, 0, l, _, h, hf => by omega
 | 0, f + 1, l, _, h, hf => by
   rw [fu_one h (s := l.getD 0 ByteArray.empty) (by rw [List.getD_eq_getElem?_getD, List.getElem?_eq_getElem (by rw [h]; exact Nat.one_pos)]; rfl)]; rfl
 | j + 1, 0, l, _, h, hf => by omega
 | j + 1, f + 1, l, hj, h, hf => by
   have hp : 0 < 2 ^ j := Nat.pow_pos (by omega)
   have hq : 2 ^ j ≤ 2 ^ 8 := Nat.pow_le_pow_right (by omega) (by omega)
   have hs : 2 ^ (j + 1) = 2 * 2 ^ j := by rw [Nat.pow_succ]; omega
   rw [fu_step h (by omega), halfN_eq (j := j) (by omega) (by omega) (by omega) (by omega), perf]
   rw [perf_fu (f := f) (by omega) (by rw [List.length_take]; omega) (by rw [List.length_take]; omega), perf_fu (f := f) (by omega) (by rw [List.length_drop]; omega) (by rw [List.length_drop]; omega)]
theorem rootF_cons {width : Int} {p : ByteArray} {q : List ByteArray} : ∀ {j : Nat}, j < q.length → dR width (p :: q) j = dR width q j
 | 0, h => by
   obtain ⟨n, hn⟩ : ∃ n, q.length = n + 1 := ⟨q.length - 1, by omega⟩
   rw [dR, dR, List.length_cons, hn, Nat.add_sub_cancel, Nat.add_sub_cancel, List.getD_cons_succ]
 | j + 1, h => by
   rw [dR, dR, rootF_cons (by omega), List.length_cons, show q.length + 1 - 2 - j = (q.length - 2 - j) + 1 by omega, List.getD_cons_succ]
theorem rngRoot_cons {width : Int} {p : ByteArray} {q : List ByteArray} (h : q ≠ []) : aU width (p :: q) = fH width p (aU width q) := by
 obtain ⟨n, hn⟩ : ∃ n, q.length = n + 1 := ⟨q.length - 1, by have := List.length_pos_iff.2 h; omega⟩
 rw [aU, aU, if_neg (by simp), if_neg (by omega), List.length_cons, hn, Nat.add_sub_cancel, dR, rootF_cons (by omega), Nat.add_sub_cancel, List.length_cons, hn, show n + 1 + 1 - 2 - n = 0 by omega]
 rfl
theorem pks_root {width : Int} : ∀ {j f : Nat} {l : List ByteArray}, j ≤ 9 → l.length < 2 ^ j → l.length < f → l ≠ [] → pks width j l ≠ [] ∧ aU width (pks width j l) = bz width f l
 | 0, f, l, _, h, hf, hn => absurd (List.eq_nil_of_length_eq_zero (by simpa using h)) hn
 | j + 1, f, l, hj, h, hf, hn => by
   have hp : 0 < 2 ^ j := Nat.pow_pos (by omega)
   have hq : 2 ^ j ≤ 2 ^ 8 := Nat.pow_le_pow_right (by omega) (by omega)
   have hs : 2 ^ (j + 1) = 2 * 2 ^ j := by rw [Nat.pow_succ]; omega
   by_cases hl : 2 ^ j ≤ l.length
   ·obtain ⟨a, b, rfl, ha⟩ : ∃ a b, l = a ++ b ∧ a.length = 2 ^ j := ⟨l.take (2 ^ j), l.drop (2 ^ j), (List.take_append_drop _ _).symm, by rw [List.length_take]; omega⟩
    have e1 : pks width (j + 1) (a ++ b) = perf width j a :: pks width j b := by
     rw [pks, if_pos (by rw [List.length_append]; omega), ← ha, List.take_left, List.drop_left]
    rw [List.length_append] at h hl hf
    rw [e1]
    refine ⟨List.cons_ne_nil _ _, ?_⟩
    by_cases hb : b = []
    ·subst hb
     rw [pks_nil, List.append_nil]
     rw [← perf_fu (j := j) (by omega) ha (by simp at hf; omega)]
     rfl
    have hb1 := List.length_pos_iff.2 hb
    obtain ⟨g, rfl⟩ : ∃ g, f = g + 1 := ⟨f - 1, by omega⟩
    obtain ⟨i1, i2⟩ := pks_root (width := width) (j := j) (f := g) (l := b) (by omega) (by omega) (by omega) hb
    rw [rngRoot_cons i1, i2, fu_step (n := 2 ^ j + b.length) (by rw [List.length_append]; omega) (by omega), halfN_eq (j := j) (by omega) (by omega) (by omega) (by omega)]
    rw [← ha, List.take_left, List.drop_left, perf_fu (j := j) (f := g) (by omega) ha (by omega)]
   rw [pks, if_neg hl]
   exact pks_root (by omega) (by omega) hf hn
theorem growUp_root {width : Int} {L : List ByteArray} {k : Nat} (hk : k ≤ L.length) (h5 : k ≤ 512) : aU width (ax width 0 [] L k) = bz width 513 (L.take k) := by
 have hlen : (L.take k).length = k := by rw [List.length_take]; omega
 rcases (show k = 0 ∨ (0 < k ∧ k < 512) ∨ k = 512 by omega) with h | h | h
 ·subst h
  rw [List.take_zero, fu_zero rfl]; rfl
 ·rw [growUp_pks width L k hk h.2]
  exact (pks_root (j := 9) (by omega) (by rw [hlen]; exact h.2) (by omega) (fun e => by rw [e] at hlen; simp at hlen; omega)).2
 subst h
 have hg : L[511]? = some (L.getD 511 ByteArray.empty) := by rw [List.getD_eq_getElem?_getD, List.getElem?_eq_getElem (by omega)]; rfl
 have h3 := (pks_grow width (L.getD 511 ByteArray.empty) 9 (L.take 511) (by omega) (by rw [List.length_take]; omega)).2.2
 have hl1 : (L.take 511).length = 511 := by rw [List.length_take]; omega
 rw [hl1] at h3
 have ht : L.take 512 = L.take 511 ++ [L.getD 511 ByteArray.empty] := by rw [List.take_add_one (l := L) (i := 511), hg]; rfl
 rw [ax, growUp_pks width L 511 (by omega) (by omega), gU, Nat.zero_add, h3 rfl, ← perf_fu (j := 9) (by omega) hlen (by omega), ht]
 rfl
end
section
open Go.RowKit
theorem gL : (Tryz.prog.info? 43).map (fun i => (i.zero, i.size, i.bytes)) = some (some (.agg #[.string ByteArray.empty, .string ByteArray.empty, .int .i64 0]), 3, 40) := by kernel_rfl
def bX (r : Rcp) : Bool := bU r.reader && (bU r.topic && inR r.index 0 511)
theorem rcpOk_all {r : Rcp} (h : bX r = true) : r.reader.size ≤ 20 ∧ r.topic.size ≤ 20 ∧ 0 ≤ r.index ∧ r.index ≤ 511 := by
 rw [bX, Bool.and_eq_true, Bool.and_eq_true, bU, bU, Bool.and_eq_true, Bool.and_eq_true] at h
 have h1 := az.1 h.1.1
 have h2 := az.1 h.2.1.1
 have h3 := az.1 h.2.2
 omega
def rcpTextB (r : Rcp) : ByteArray := ⟨#[82]⟩ ++ dz r.reader ++ dz r.topic ++ cO r.index
def aK (r : Rcp) : ByteArray := if bX r then rcpTextB r else ByteArray.empty
theorem dO (r : Rcp) : (aK r).size ≤ 100 := by
 by_cases h : bX r = true
 ·have := rcpOk_all h
  rw [aK, if_pos h, rcpTextB]
  simp only [ByteArray.size_append, bi, dE]
  rw [show ((⟨#[82]⟩ : ByteArray)).size = 1 from rfl]
  omega
 rw [aK, if_neg h]; exact Nat.zero_le _
def dm (width : Int) (r : Rcp) : ByteArray := if bX r = true then eD width 2 (aK r) else ⟨#[]⟩
def gq (width : Int) (r : Rcp) : Bool := bX r && bM width 2 (aK r)
set_option maxRecDepth 100000 in
theorem implReceiptOk_c (r : Rcp) (w : World) (hf : r.fits) :
  Calls Tryz.prog 139 #[.agg #[.string r.reader, .string r.topic, .int .i64 r.index]] w fun e w' => e = .returned (.bool (bX r)) ∧ Below w.heap.size w w' := by
 obtain ⟨reader, topic, index⟩ := r
 obtain ⟨_, hreader, htopic⟩ := hf
 simp only at htopic hreader
 go_enter Tryz.func139, Tryz.ntmps139
 go_wp2_with fail
 refine (implNameOk_c _ _ hreader).mono ?_
 rintro e w1 ⟨rfl, rfl⟩
 rcases h1 : bU reader with _ | _
 ·go_wp2
  go_ret
  exact ⟨aj (by rw [bX, h1]; rfl), (Below.refl _ _).alloc (Nat.le_refl _) _⟩
 have H1 := lH h1
 clear h1
 go_wp2_with fail
 refine (implNameOk_c _ _ htopic).mono ?_
 rintro e w1 ⟨rfl, rfl⟩
 rcases h2 : bU topic with _ | _
 ·go_wp2
  go_ret
  exact ⟨aj (by rw [bX, H1.out, h2]; rfl), (Below.refl _ _).alloc (Nat.le_refl _) _⟩
 have H2 := lH h2
 clear h2
 go_wp2_with fail
 refine (isIndex_c _ _).mono ?_
 rintro e w1 ⟨rfl, rfl⟩
 go_wp2
 go_ret
 exact ⟨aj (by rw [bX, H1.out, H2.out]; rfl), (Below.refl _ _).alloc (Nat.le_refl _) _⟩
set_option maxRecDepth 100000 in
theorem specReceiptOk_c (r : Rcp) (w : World) (hf : r.fits) :
  Calls Tryz.prog 104 #[.agg #[.string r.reader, .string r.topic, .int .i64 r.index]] w fun e w' => e = .returned (.bool (bX r)) ∧ Below w.heap.size w w' := by
 obtain ⟨reader, topic, index⟩ := r
 obtain ⟨_, hreader, htopic⟩ := hf
 simp only at htopic hreader
 go_enter Tryz.func104, Tryz.ntmps104
 go_wp2_with fail
 refine (specNameOk_c _ _ hreader).mono ?_
 rintro e w1 ⟨rfl, rfl⟩
 rcases h1 : bU reader with _ | _
 ·go_wp2
  go_ret
  exact ⟨aj (by rw [bX, h1]; rfl), (Below.refl _ _).alloc (Nat.le_refl _) _⟩
 have H1 := lH h1
 clear h1
 go_wp2_with fail
 refine (specNameOk_c _ _ htopic).mono ?_
 rintro e w1 ⟨rfl, rfl⟩
 rcases h2 : bU topic with _ | _
 ·go_wp2
  go_ret
  exact ⟨aj (by rw [bX, H1.out, h2]; rfl), (Below.refl _ _).alloc (Nat.le_refl _) _⟩
 have H2 := lH h2
 clear h2
 go_wp2_with fail
 refine (gK _ 0 511 _).mono ?_
 rintro e w1 ⟨rfl, rfl⟩
 go_wp2
 go_ret
 exact ⟨aj (by rw [bX, H1.out, H2.out]; rfl), (Below.refl _ _).alloc (Nat.le_refl _) _⟩
set_option maxRecDepth 100000 in
theorem gN (e : Rcp) (w : World) (hf : e.fits) : Calls Tryz.prog 141 #[.agg #[.string e.reader, .string e.topic, .int .i64 e.index]] w fun r w' => r = .returned (.tuple #[.string (aK e), .bool (bX e)]) ∧ Below w.heap.size w w' := by
 have HO := lH (fun W => implReceiptOk_c e W hf)
 rcases hq : bX e with _ | _
 ·have HM : Hid (aK e = ⟨#[]⟩) := by rw [Hid, aK, hq]; rfl
  rw [hq] at HO
  clear hq
  have HB : Hid (Below w.heap.size w w) := Below.refl _ _
  go_enter Tryz.func141, Tryz.ntmps141
  go_wp2_with fail
  refine af (fun w1 hw => ?_)
  have hz1 : w.heap.size + 1 ≤ w1.heap.size := zA
  have hbn : Below w.heap.size w w1 := zB
  replace HB := bT HB hbn; clear hbn
  have HXh : Hid (aa w1 (w.heap.size) [.string e.reader, .string e.topic, .int .i64 e.index]) := zG3
  obtain ⟨hkh, hxh, hfh⟩ := HXh.out; clear hw
  refine (HO.out _).mono ?_
  rintro e w2 ⟨rfl, hb⟩
  have hzw2 : w1.heap.size ≤ w2.heap.size := hb.size
  replace HB := bT HB hb; replace HXh := nB HXh hb; clear hxh hfh hkh; obtain ⟨hkh, hxh, hfh⟩ := HXh.out; clear hb; go_wp2
  refine bodyPost_ret (v := .tuple #[.string ⟨#[]⟩, .bool false]) (by simp [results, Tryz.results141, go_sem]) rfl ?_
  exact ⟨by rw [HM.out], HB.out⟩
 obtain ⟨g1, g2, g3, g4⟩ := rcpOk_all hq
 have HM : Hid (aK e = ⟨#[82]⟩ ++ dz e.reader ++ dz e.topic ++ cO e.index) := by rw [Hid, aK, hq]; rfl
 rw [hq] at HO
 have n1 := lH (fun W => short_c e.reader W (by omega))
 have n2 := lH (fun W => short_c e.topic W (by omega))
 have n3 := lH (fun W => pair_c e.index W g3 (by omega))
 have e1 := dE e.reader
 have e2 := dE e.topic
 have e3 := bi e.index
 have e0 : ((⟨#[82]⟩ : ByteArray)).size = 1 := rfl
 clear hq hf
 generalize dz e.reader = p1 at *
 generalize dz e.topic = p2 at *
 generalize cO e.index = p3 at *
 obtain ⟨s1, hs1⟩ : ∃ s, s = ⟨#[82]⟩ ++ p1 := ⟨_, rfl⟩
 have c1 := fun W : World => run_string_add_sum (P := Tryz.prog) W ⟨#[82]⟩ p1 (by omega)
 have z1 : s1.size ≤ 22 := by rw [hs1, ByteArray.size_append]; omega
 rw [← hs1] at c1
 have HS1 := lH hs1
 clear hs1
 obtain ⟨s2, hs2⟩ : ∃ s, s = s1 ++ p2 := ⟨_, rfl⟩
 have c2 := fun W : World => run_string_add_sum (P := Tryz.prog) W s1 p2 (by omega)
 have z2 : s2.size ≤ 44 := by rw [hs2, ByteArray.size_append]; omega
 rw [← hs2] at c2
 have HS2 := lH hs2
 clear hs2
 obtain ⟨s3, hs3⟩ : ∃ s, s = s2 ++ p3 := ⟨_, rfl⟩
 have c3 := fun W : World => run_string_add_sum (P := Tryz.prog) W s2 p3 (by omega)
 have z3 : s3.size ≤ 48 := by rw [hs3, ByteArray.size_append]; omega
 rw [← hs3] at c3
 have HS3 := lH hs3
 clear hs3
 have HB : Hid (Below w.heap.size w w) := Below.refl _ _
 go_enter Tryz.func141, Tryz.ntmps141
 go_wp2_with fail
 refine af (fun w1 hw => ?_)
 have hz1 : w.heap.size + 1 ≤ w1.heap.size := zA
 have hbn : Below w.heap.size w w1 := zB
 replace HB := bT HB hbn
 clear hbn
 have HXh : Hid (aa w1 (w.heap.size) [.string e.reader, .string e.topic, .int .i64 e.index]) := zG3
 obtain ⟨hkh, hxh, hfh⟩ := HXh.out
 clear hw
 refine (HO.out _).mono ?_
 rintro e w2 ⟨rfl, hb⟩
 have hzw2 : w1.heap.size ≤ w2.heap.size := hb.size
 replace HB := bT HB hb
 replace HXh := nB HXh hb
 clear hxh hfh hkh
 obtain ⟨hkh, hxh, hfh⟩ := HXh.out
 clear hb
 have l0 : ∀ v : Later w2, v.v.cell? ⟨w.heap.size, 0, none⟩ = some (.string e.reader) := fun v => (ag v _ _ hkh).trans (hxh 0)
 have l1 : ∀ v : Later w2, v.v.cell? ⟨w.heap.size, 1, none⟩ = some (.string e.topic) := fun v => (ag v _ _ hkh).trans (hxh 1)
 have l2 : ∀ v : Later w2, v.v.cell? ⟨w.heap.size, 2, none⟩ = some (.int .i64 e.index) := fun v => (ag v _ _ hkh).trans (hxh 2)
 go_wp2_with fail
 refine aA (by kernel_rfl) (by kernel_rfl) ?_
 repeat (go_big_quiet_step ((first | with_reducible exact aC (n1.out _) | with_reducible exact aC (n2.out _) | with_reducible exact aC (n3.out _))))
 refine wpQuiet_nil ?_
 intro w9 h9
 have hb9 := aP h9
 have HB9 := lH (ak HB.out hb9 HB.out.size)
 clear l0 l1 l2 h9 hb9
 go_wp2
 refine bodyPost_ret (v := .tuple #[.string s3, .bool true]) (by simp [results, Tryz.results141, go_sem]) rfl ?_
 exact ⟨by rw [HM.out, HS3.out, HS2.out, HS1.out], HB9.out⟩
set_option maxRecDepth 100000 in
theorem gD (e : Rcp) (w : World) (hf : e.fits) : Calls Tryz.prog 63 #[.agg #[.string e.reader, .string e.topic, .int .i64 e.index]] w fun r w' => r = .returned (.tuple #[.string (aK e), .bool (bX e)]) ∧ Below w.heap.size w w' := by
 have HO := lH (fun W => specReceiptOk_c e W hf)
 rcases hq : bX e with _ | _
 ·have HM : Hid (aK e = ⟨#[]⟩) := by rw [Hid, aK, hq]; rfl
  rw [hq] at HO
  clear hq
  have HB : Hid (Below w.heap.size w w) := Below.refl _ _
  go_enter Tryz.func63, Tryz.ntmps63
  go_wp2_with fail
  refine af (fun w1 hw => ?_)
  have hz1 : w.heap.size + 1 ≤ w1.heap.size := zA
  have hbn : Below w.heap.size w w1 := zB
  replace HB := bT HB hbn; clear hbn
  have HXh : Hid (aa w1 (w.heap.size) [.string e.reader, .string e.topic, .int .i64 e.index]) := zG3
  obtain ⟨hkh, hxh, hfh⟩ := HXh.out; clear hw
  refine (HO.out _).mono ?_
  rintro e w2 ⟨rfl, hb⟩
  have hzw2 : w1.heap.size ≤ w2.heap.size := hb.size
  replace HB := bT HB hb; replace HXh := nB HXh hb; clear hxh hfh hkh; obtain ⟨hkh, hxh, hfh⟩ := HXh.out; clear hb; go_wp2
  refine bodyPost_ret (v := .tuple #[.string ⟨#[]⟩, .bool false]) (by simp [results, Tryz.results63, go_sem]) rfl ?_
  exact ⟨by rw [HM.out], HB.out⟩
 obtain ⟨g1, g2, g3, g4⟩ := rcpOk_all hq
 have HM : Hid (aK e = ⟨#[82]⟩ ++ dz e.reader ++ dz e.topic ++ cO e.index) := by rw [Hid, aK, hq]; rfl
 rw [hq] at HO
 have n1 := lH (fun W => l03Short_c e.reader W (by omega))
 have n2 := lH (fun W => l03Short_c e.topic W (by omega))
 have n3 := lH (fun W => fB (n := e.index) W g3 (by omega))
 have e1 := dE e.reader
 have e2 := dE e.topic
 have e3 := bi e.index
 have e0 : ((⟨#[82]⟩ : ByteArray)).size = 1 := rfl
 clear hq hf
 generalize dz e.reader = p1 at *
 generalize dz e.topic = p2 at *
 generalize cO e.index = p3 at *
 obtain ⟨s1, hs1⟩ : ∃ s, s = ⟨#[82]⟩ ++ p1 := ⟨_, rfl⟩
 have c1 := fun W : World => run_string_add_sum (P := Tryz.prog) W ⟨#[82]⟩ p1 (by omega)
 have z1 : s1.size ≤ 22 := by rw [hs1, ByteArray.size_append]; omega
 rw [← hs1] at c1
 have HS1 := lH hs1
 clear hs1
 obtain ⟨s2, hs2⟩ : ∃ s, s = s1 ++ p2 := ⟨_, rfl⟩
 have c2 := fun W : World => run_string_add_sum (P := Tryz.prog) W s1 p2 (by omega)
 have z2 : s2.size ≤ 44 := by rw [hs2, ByteArray.size_append]; omega
 rw [← hs2] at c2
 have HS2 := lH hs2
 clear hs2
 obtain ⟨s3, hs3⟩ : ∃ s, s = s2 ++ p3 := ⟨_, rfl⟩
 have c3 := fun W : World => run_string_add_sum (P := Tryz.prog) W s2 p3 (by omega)
 have z3 : s3.size ≤ 48 := by rw [hs3, ByteArray.size_append]; omega
 rw [← hs3] at c3
 have HS3 := lH hs3
 clear hs3
 have HB : Hid (Below w.heap.size w w) := Below.refl _ _
 go_enter Tryz.func63, Tryz.ntmps63
 go_wp2_with fail
 refine af (fun w1 hw => ?_)
 have hz1 : w.heap.size + 1 ≤ w1.heap.size := zA
 have hbn : Below w.heap.size w w1 := zB
 replace HB := bT HB hbn
 clear hbn
 have HXh : Hid (aa w1 (w.heap.size) [.string e.reader, .string e.topic, .int .i64 e.index]) := zG3
 obtain ⟨hkh, hxh, hfh⟩ := HXh.out
 clear hw
 refine (HO.out _).mono ?_
 rintro e w2 ⟨rfl, hb⟩
 have hzw2 : w1.heap.size ≤ w2.heap.size := hb.size
 replace HB := bT HB hb
 replace HXh := nB HXh hb
 clear hxh hfh hkh
 obtain ⟨hkh, hxh, hfh⟩ := HXh.out
 clear hb
 have l0 : ∀ v : Later w2, v.v.cell? ⟨w.heap.size, 0, none⟩ = some (.string e.reader) := fun v => (ag v _ _ hkh).trans (hxh 0)
 have l1 : ∀ v : Later w2, v.v.cell? ⟨w.heap.size, 1, none⟩ = some (.string e.topic) := fun v => (ag v _ _ hkh).trans (hxh 1)
 have l2 : ∀ v : Later w2, v.v.cell? ⟨w.heap.size, 2, none⟩ = some (.int .i64 e.index) := fun v => (ag v _ _ hkh).trans (hxh 2)
 go_wp2_with fail
 refine aA (by kernel_rfl) (by kernel_rfl) ?_
 repeat (go_big_quiet_step ((first | with_reducible exact aC (n1.out _) | with_reducible exact aC (n2.out _) | with_reducible exact aC (n3.out _))))
 refine wpQuiet_nil ?_
 intro w9 h9
 have hb9 := aP h9
 have HB9 := lH (ak HB.out hb9 HB.out.size)
 clear l0 l1 l2 h9 hb9
 go_wp2
 refine bodyPost_ret (v := .tuple #[.string s3, .bool true]) (by simp [results, Tryz.results63, go_sem]) rfl ?_
 exact ⟨by rw [HM.out, HS3.out, HS2.out, HS1.out], HB9.out⟩
set_option maxRecDepth 100000 in
theorem implReceiptHash_c (width : Int) (e : Rcp) (w : World) (hf : e.fits) : Calls Tryz.prog 149 #[.int .i64 width, .agg #[.string e.reader, .string e.topic, .int .i64 e.index]] w fun r w' => r = .returned (.tuple #[.string (dm width e), .bool (gq width e)]) ∧ Below w.heap.size w w' := by
 have HO := lH (fun W => gN e W hf)
 have HD := lH (fun W => gP width 2 (aK e) W (by have := dO e; unfold maxLen; omega))
 have HB1 : Hid (dm width e = if bX e = true then eD width 2 (aK e) else ⟨#[]⟩) := lH rfl
 have HB2 : Hid (gq width e = (bX e && bM width 2 (aK e))) := lH rfl
 clear hf
 generalize bX e = q at *
 generalize aK e = tx at *
 generalize dm width e = lh at *
 generalize gq width e = lo at *
 generalize eD width 2 tx = dg at *
 generalize bM width 2 tx = dk at *
 have HB : Hid (Below w.heap.size w w) := Below.refl _ _
 go_enter Tryz.func149, Tryz.ntmps149
 go_wp2_with fail
 refine af (fun w1 hw => ?_)
 have hz1 : w.heap.size + 1 ≤ w1.heap.size := zA
 have hbn : Below w.heap.size w w1 := zB
 replace HB := bT HB hbn
 clear hbn
 have HXh : Hid (aa w1 (w.heap.size) [.string e.reader, .string e.topic, .int .i64 e.index]) := zG3
 obtain ⟨hkh, hxh, hfh⟩ := HXh.out
 clear hw
 refine (HO.out _).mono ?_
 rintro e w2 ⟨rfl, hb⟩
 have hzw2 : w1.heap.size ≤ w2.heap.size := hb.size
 replace HB := bT HB hb
 replace HXh := nB HXh hb
 clear hxh hfh hkh
 obtain ⟨hkh, hxh, hfh⟩ := HXh.out
 clear hb
 rcases q with _ | _
 ·go_wp2
  refine bodyPost_ret (v := .tuple #[.string ⟨#[]⟩, .bool false]) (by simp [results, Tryz.results149, go_sem]) rfl ?_
  exact ⟨by rw [HB1.out, HB2.out]; rfl, HB.out⟩
 go_wp2_with fail
 refine af (fun w3 hw => ?_)
 have hz3 : w2.heap.size + 0 ≤ w3.heap.size := zA
 have hbn : Below w2.heap.size w2 w3 := zB
 replace HB := bT HB hbn
 replace HXh := nB HXh hbn
 clear hxh hfh hkh
 obtain ⟨hkh, hxh, hfh⟩ := HXh.out
 clear hbn
 clear hw
 refine (HD.out _).mono ?_
 rintro e w4 ⟨rfl, hb⟩
 have hzw4 : w3.heap.size ≤ w4.heap.size := hb.size
 replace HB := bT HB hb
 replace HXh := nB HXh hb
 clear hxh hfh hkh
 obtain ⟨hkh, hxh, hfh⟩ := HXh.out
 clear hb
 go_wp2
 refine bodyPost_ret (v := .tuple #[.string dg, .bool dk]) (by simp [results, Tryz.results149, go_sem]) rfl ?_
 exact ⟨by rw [HB1.out, HB2.out]; rfl, HB.out⟩
set_option maxRecDepth 100000 in
theorem specReceiptHash_c (width : Int) (e : Rcp) (w : World) (hf : e.fits) : Calls Tryz.prog 32 #[.int .i64 width, .agg #[.string e.reader, .string e.topic, .int .i64 e.index]] w fun r w' => r = .returned (.tuple #[.string (dm width e), .bool (gq width e)]) ∧ Below w.heap.size w w' := by
 have HO := lH (fun W => gD e W hf)
 have HD := lH (fun W => gF width 2 (aK e) W (by have := dO e; unfold maxLen; omega))
 have HB1 : Hid (dm width e = if bX e = true then eD width 2 (aK e) else ⟨#[]⟩) := lH rfl
 have HB2 : Hid (gq width e = (bX e && bM width 2 (aK e))) := lH rfl
 clear hf
 generalize bX e = q at *
 generalize aK e = tx at *
 generalize dm width e = lh at *
 generalize gq width e = lo at *
 generalize eD width 2 tx = dg at *
 generalize bM width 2 tx = dk at *
 have HB : Hid (Below w.heap.size w w) := Below.refl _ _
 go_enter Tryz.func32, Tryz.ntmps32
 go_wp2_with fail
 refine af (fun w1 hw => ?_)
 have hz1 : w.heap.size + 1 ≤ w1.heap.size := zA
 have hbn : Below w.heap.size w w1 := zB
 replace HB := bT HB hbn
 clear hbn
 have HXh : Hid (aa w1 (w.heap.size) [.string e.reader, .string e.topic, .int .i64 e.index]) := zG3
 obtain ⟨hkh, hxh, hfh⟩ := HXh.out
 clear hw
 refine (HO.out _).mono ?_
 rintro e w2 ⟨rfl, hb⟩
 have hzw2 : w1.heap.size ≤ w2.heap.size := hb.size
 replace HB := bT HB hb
 replace HXh := nB HXh hb
 clear hxh hfh hkh
 obtain ⟨hkh, hxh, hfh⟩ := HXh.out
 clear hb
 rcases q with _ | _
 ·go_wp2
  refine bodyPost_ret (v := .tuple #[.string ⟨#[]⟩, .bool false]) (by simp [results, Tryz.results32, go_sem]) rfl ?_
  exact ⟨by rw [HB1.out, HB2.out]; rfl, HB.out⟩
 go_wp2_with fail
 refine af (fun w3 hw => ?_)
 have hz3 : w2.heap.size + 0 ≤ w3.heap.size := zA
 have hbn : Below w2.heap.size w2 w3 := zB
 replace HB := bT HB hbn
 replace HXh := nB HXh hbn
 clear hxh hfh hkh
 obtain ⟨hkh, hxh, hfh⟩ := HXh.out
 clear hbn
 clear hw
 refine (HD.out _).mono ?_
 rintro e w4 ⟨rfl, hb⟩
 have hzw4 : w3.heap.size ≤ w4.heap.size := hb.size
 replace HB := bT HB hb
 replace HXh := nB HXh hb
 clear hxh hfh hkh
 obtain ⟨hkh, hxh, hfh⟩ := HXh.out
 clear hb
 go_wp2
 refine bodyPost_ret (v := .tuple #[.string dg, .bool dk]) (by simp [results, Tryz.results32, go_sem]) rfl ?_
 exact ⟨by rw [HB1.out, HB2.out]; rfl, HB.out⟩
end
end Go.Proofs.YtoccjgcokffkbaaGreat
