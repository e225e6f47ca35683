/- Roots of ranges. -/
import Derived.Test.YtmmepogjocfefaaGreatGrws
namespace Go.Proofs.YtmmepogjocfefaaGreat
set_option linter.unusedVariables false
set_option linter.unusedSimpArgs false
open Go.RowKit

def rootF (width : Int) (l : List ByteArray) : Nat → ByteArray
 | 0 => l.getD (l.length - 1) ByteArray.empty
 | j + 1 => nodeT width (l.getD (l.length - 2 - j) ByteArray.empty) (rootF width l j)
def rngRoot (width : Int) (l : List ByteArray) : ByteArray := if l.length = 0 then emptyT width else rootF width l (l.length - 1)
def rngMade (l : List ByteArray) : Nat := l.length - 1
theorem rootF_size {width : Int} {l : List ByteArray} (hw : inR width 1 32 = true) (ha : areH width l = true) : ∀ {j : Nat}, j < l.length → ((rootF width l j).size : Int) = width
 | 0, h => areH_mem ha _ (getD_mem (by omega))
 | j + 1, h => nodeT_size hw (areH_mem ha _ (getD_mem (by omega))) (rootF_size hw ha (by omega))
theorem rngRoot_size {width : Int} {l : List ByteArray} (hw : inR width 1 32 = true) (ha : areH width l = true) : ((rngRoot width l).size : Int) = width := by
 rw [rngRoot]; split
 ·exact emptyT_size hw
 ·exact rootF_size hw ha (by omega)
def rrT (width z : Int) (l : List ByteArray) : ByteArray := if rngOk width z l then rngRoot width l else ByteArray.empty
def rrN (width z : Int) (l : List ByteArray) : Nat := if rngOk width z l then rngMade l else 0
structure RAt (w : World) (z : Int) (A : Option Addr) (m c : Nat) (wx : World) : Prop where
 below : Below w.heap.size w wx
 r : NewBox wx w.heap.size [.int .i64 z, .slice A m c]
theorem RAt.next {w : World} {z : Int} {A : Option Addr} {m c : Nat} {wx wy : World} (h : RAt w z A m c wx) (hb : Below wx.heap.size wx wy) : RAt w z A m c wy := ⟨below_then h.below hb h.below.size, h.r.below hb⟩

set_option maxRecDepth 100000 in
set_option maxHeartbeats 4000000 in
theorem root_c (width z : Int) (A : Option Addr) (c lo hi m : Nat) (l : List ByteArray) (w : World) (hr : Rd w lo hi A (strs l)) (hn : l.length = m) (hl : m ≤ 1000) (hw : inR width 1 32 = true) (ha : areH width l = true) :
  Calls Tryz.prog 194 #[.agg #[.int .i64 z, .slice A m c], .int .i64 width] w fun e w' => e = .returned (.tuple #[.string (rngRoot width l), .int .i64 (rngMade l : Nat)]) ∧ Below w.heap.size w w' := by
 have HN := Lib.hid hn
 have HR : Hid (Rd w 0 w.heap.size A (strs l)) := Lib.hid hr.base
 have HW := Lib.hid hw
 have HA := Lib.hid ha
 have hw2 := inR_true.1 hw
 rcases (show m = 0 ∨ 0 < m by omega) with hm0 | hm0
 ·have HD : Hid (rngRoot width l = emptyT width ∧ rngMade l = 0) := Lib.hid ⟨by rw [rngRoot, if_pos (by omega)], by rw [rngMade]; omega⟩
  subst hm0
  clear hr hn hw ha
  go_enter Tryz.func194, Tryz.ntmps194
  go_wp2_with fail
  refine (emptyRoot_c width _).mono ?_
  rintro e w1 ⟨rfl, hb1⟩
  have HB1 := Lib.hid (below_then ((Below.refl _ _).alloc (Nat.le_refl _) _) hb1 (by simp))
  clear hb1
  generalize emptyT width = em at *
  go_wp2
  go_ret2
  exact ⟨by rw [HD.out.1, HD.out.2]; rfl, HB1.out⟩
 ·obtain ⟨t0, ht0⟩ : ∃ t0, m = t0 + 1 := ⟨m - 1, by omega⟩
  have HD : Hid (rngRoot width l = rootF width l t0 ∧ rngMade l = t0) := Lib.hid ⟨by rw [rngRoot, if_neg (by omega)]; congr 1; omega, by rw [rngMade]; omega⟩
  obtain ⟨b, off, s, rfl, hb, hks, hc⟩ := hr.str (k := t0) (by omega)
  have hs0 : Hid (s = rootF width l 0) := Lib.hid (by rw [rootF, hn, show m - 1 = t0 by omega, List.getD_eq_getElem?_getD, hks]; rfl)
  have E1 : IntKind.i64.wrap ((m : Int) - 1) = t0 := by rw [IntKind.wrap_i64]; omega
  have E2 : (m : Int) - 1 = t0 := by omega
  have E3 : (0 : Int) ≤ t0 := by omega
  have E4 : (t0 : Int) < m := by omega
  have hml : (m : Int) ≤ 1000 := by omega
  have hm1 : ¬ (m : Int) = 0 := by omega
  have hm2 : ((m : Int) == 0) = false := by simpa using hm1
  have HT0 := Lib.hid ht0
  clear hr hn hw ha hks hm1 ht0
  go_enter Tryz.func194, Tryz.ntmps194
  go_wp2
  go_loopw [7, 8] (fun rv iv wx => ∃ (j t : Nat) (i : Int), t + j + 1 = m ∧ i = t - 1 ∧ iv = .int .i64 i ∧ rv = .string (rootF width l j) ∧ RAt w z (some ⟨b, off, none⟩) m c wx) (fun _ iv _ => (intOf iv + 1).toNat)
  case atStart => exact ⟨0, t0, _, by have := HT0.out; omega, rfl, by first | rfl | (congr 1), by rw [hs0.out], ⟨(Below.refl _ _).alloc (Nat.le_refl _) _, NewBox.new w _ _⟩⟩
  case round =>
   clear E1 E2 E3 E4 hc hs0
   obtain ⟨j, t, i, htj, hi, rfl, rfl, hA⟩ := hrel
   have HA2 := Lib.hid hA
   have hxr := hA.r.2.1
   rcases (show t = 0 ∨ 0 < t by omega) with h0 | h0
   ·have hjt : j = t0 := by have := HT0.out; omega
    subst hjt
    have hi2 : i = -1 := by omega
    subst hi2
    clear hA hi htj
    clear h0
    generalize rootF width l j = rr at *
    go_wp2
    go_ret2
    exact ⟨by rw [HD.out.1, HD.out.2]; rfl, HA2.out.below⟩
   ·obtain ⟨p, hp⟩ : ∃ p, t = p + 1 := ⟨t - 1, by omega⟩
    obtain rfl : i = (p : Int) := by omega
    obtain ⟨b2, off2, s, e2, hb2, hks, hc⟩ := (HR.out.lowB hA.below (Nat.le_refl _)).str (k := p) (by rw [HN.out]; omega)
    cases e2
    have HNX : Hid (rootF width l (j + 1) = nodeT width s (rootF width l j)) := Lib.hid (by rw [rootF, HN.out, show m - 2 - j = p by omega, List.getD_eq_getElem?_getD, hks]; rfl)
    have hsz := areH_mem HA.out s (List.mem_of_getElem? hks)
    have hrz := rootF_size HW.out HA.out (j := j) (by rw [HN.out]; omega)
    have E4 : (p : Int) < m := by omega
    have E5 : IntKind.i64.wrap ((p : Int) - 1) = p - 1 := by rw [IntKind.wrap_i64]; omega
    have HQ := Lib.hid (And.intro htj hp)
    clear hA hks htj hp hi h0
    generalize rootF width l j = rr at *
    have HND := Lib.hid (fun W => node_c width s rr W (by omega) (by omega))
    generalize nodeT width s rr = nd at *
    clear hsz hrz
    go_wp2_with fail
    refine (HND.out _).mono ?_
    rintro e w5 ⟨rfl, hb5⟩
    have HA5 := Lib.hid (HA2.out.next hb5)
    clear hb5 HA2 hxr hc
    go_wp2
    go_roundw
    case rel => exact ⟨j + 1, p, _, by have := HQ.out; omega, rfl, by first | rfl | (congr 1), by rw [HNX.out], HA5.out⟩
    case measure => first | (simp [intOf]; done) | (simp [intOf]; omega)
set_option maxRecDepth 100000 in
set_option maxHeartbeats 4000000 in
theorem specRangeRoot_c (width z : Int) (A : Option Addr) (c lo hi m : Nat) (l : List ByteArray) (w : World) (hr : Rd w lo hi A (strs l)) (hn : l.length = m) (hl : m ≤ 1048576) :
  Calls Tryz.prog 115 #[.int .i64 width, .agg #[.int .i64 z, .slice A m c]] w fun e w' => e = .returned (.tuple #[.string (rrT width z l), .int .i64 (rrN width z l : Nat), .bool (rngOk width z l)]) ∧ Below w.heap.size w w' := by
 have HN := Lib.hid hn
 have HR : Hid (Rd w 0 w.heap.size A (strs l)) := Lib.hid hr.base
 have HRK := Lib.hid (fun W (h : Rd W 0 W.heap.size A (strs l)) => specRangeOk_c width z A c 0 W.heap.size m l W h hn hl)
 rcases hq : rngOk width z l with _ | _
 ·have HD : Hid (rrT width z l = ⟨#[]⟩ ∧ rrN width z l = 0) := Lib.hid ⟨by rw [rrT, hq]; rfl, by rw [rrN, hq]; rfl⟩
  rw [hq] at HRK
  clear hq hr hn
  have HB : Hid (Below w.heap.size w w) := Below.refl _ _
  go_enter Tryz.func115, Tryz.ntmps115
  go_wp2_with fail
  refine calls_named (fun w1 hw => ?_)
  have hz1 : w.heap.size + 1 ≤ w1.heap.size := by rw [hw]; first | omega | (simp [World.setCell]; done) | (simp [World.setCell]; omega)
  have hzz1 : w.heap.size ≤ w1.heap.size := by omega
  have hbn : Below w.heap.size w w1 := by rw [hw]; exact (by ((repeat (first | ((with_reducible refine Below.alloc ?_ ?_ _); rotate_left 1; (focus (first | omega | (simp; done) | (simp; omega)))) | (with_reducible refine Below.drew ?_) | ((with_reducible refine Below.setCell ?_ ?_ _); rotate_left 1; (focus (first | omega | (simp; done) | (simp; omega)))))); exact Below.refl _ _))
  replace HB := Lib.hid (below_then HB.out hbn HB.out.size)
  clear hbn
  have HXr : Hid (NewBox w1 (w.heap.size) [.int .i64 z, .slice A m c]) := by rw [Hid, hw]; exact ⟨by first | omega | (simp [World.setCell]; done) | (simp [World.setCell]; omega), fun o => by rcases o with _ | _ | o <;> go_simp, fun o => by go_simp⟩
  have hxr := HXr.out.2.1
  have hfr := HXr.out.2.2
  have hkr := HXr.out.1
  clear hw
  refine (HRK.out _ (HR.out.below HB.out).base).mono ?_
  rintro e w2 ⟨rfl, hb⟩
  have hzw2 : w1.heap.size ≤ w2.heap.size := hb.size
  have hzzw2 : w.heap.size ≤ w2.heap.size := by omega
  replace HB := Lib.hid (below_then HB.out hb HB.out.size)
  replace HXr := Lib.hid (HXr.out.below hb)
  clear hxr hfr hkr
  have hxr := HXr.out.2.1
  have hfr := HXr.out.2.2
  have hkr := HXr.out.1
  clear hb
  go_wp2
  refine bodyPost_ret (v := .tuple #[.string ⟨#[]⟩, .int .i64 0, .bool false]) (by simp [results, Tryz.results115, go_sem]) rfl ?_
  exact ⟨by rw [HD.out.1, HD.out.2]; rfl, HB.out⟩
 ·obtain ⟨hz1, hz2, hpl, ha, hw⟩ := rngOk_all hq
  have hw2 := inR_true.1 hw
  have HD : Hid (rrT width z l = rngRoot width l ∧ rrN width z l = rngMade l) := Lib.hid ⟨by rw [rrT, hq]; rfl, by rw [rrN, hq]; rfl⟩
  rw [hq] at HRK
  have HW := Lib.hid hw
  have HA := Lib.hid ha
  have hm10 : m ≤ 10 := by have := popC_le z; omega
  rcases (show z = 0 ∨ 0 < z by omega) with h0 | h0
  ·have hm0 : m = 0 := by rw [← hn, hpl, h0]; decide
   have HD2 : Hid (rngRoot width l = emptyT width ∧ rngMade l = 0) := Lib.hid ⟨by rw [rngRoot, if_pos (by omega)], by rw [rngMade]; omega⟩
   have HE := Lib.hid (fun W => specEmptyRoot_c width W)
   rw [hw] at HE
   subst h0
   clear hq hr hn ha hw hpl hm0
   generalize emptyT width = em at *
   have HB : Hid (Below w.heap.size w w) := Below.refl _ _
   go_enter Tryz.func115, Tryz.ntmps115
   go_wp2_with fail
   refine calls_named (fun w1 hw => ?_)
   have hz1 : w.heap.size + 1 ≤ w1.heap.size := by rw [hw]; first | omega | (simp [World.setCell]; done) | (simp [World.setCell]; omega)
   have hzz1 : w.heap.size ≤ w1.heap.size := by omega
   have hbn : Below w.heap.size w w1 := by rw [hw]; exact (by ((repeat (first | ((with_reducible refine Below.alloc ?_ ?_ _); rotate_left 1; (focus (first | omega | (simp; done) | (simp; omega)))) | (with_reducible refine Below.drew ?_) | ((with_reducible refine Below.setCell ?_ ?_ _); rotate_left 1; (focus (first | omega | (simp; done) | (simp; omega)))))); exact Below.refl _ _))
   replace HB := Lib.hid (below_then HB.out hbn HB.out.size)
   clear hbn
   have HXr : Hid (NewBox w1 (w.heap.size) [.int .i64 0, .slice A m c]) := by rw [Hid, hw]; exact ⟨by first | omega | (simp [World.setCell]; done) | (simp [World.setCell]; omega), fun o => by rcases o with _ | _ | o <;> go_simp, fun o => by go_simp⟩
   have hxr := HXr.out.2.1
   have hfr := HXr.out.2.2
   have hkr := HXr.out.1
   clear hw
   refine (HRK.out _ (HR.out.below HB.out).base).mono ?_
   rintro e w2 ⟨rfl, hb⟩
   have hzw2 : w1.heap.size ≤ w2.heap.size := hb.size
   have hzzw2 : w.heap.size ≤ w2.heap.size := by omega
   replace HB := Lib.hid (below_then HB.out hb HB.out.size)
   replace HXr := Lib.hid (HXr.out.below hb)
   clear hxr hfr hkr
   have hxr := HXr.out.2.1
   have hfr := HXr.out.2.2
   have hkr := HXr.out.1
   clear hb
   go_wp2_with fail
   refine calls_named (fun w3 hw => ?_)
   have hz3 : w2.heap.size + 0 ≤ w3.heap.size := by rw [hw]; first | omega | (simp [World.setCell]; done) | (simp [World.setCell]; omega)
   have hzz3 : w.heap.size ≤ w3.heap.size := by omega
   have hbn : Below w2.heap.size w2 w3 := by rw [hw]; exact (by ((repeat (first | ((with_reducible refine Below.alloc ?_ ?_ _); rotate_left 1; (focus (first | omega | (simp; done) | (simp; omega)))) | (with_reducible refine Below.drew ?_) | ((with_reducible refine Below.setCell ?_ ?_ _); rotate_left 1; (focus (first | omega | (simp; done) | (simp; omega)))))); exact Below.refl _ _))
   replace HB := Lib.hid (below_then HB.out hbn HB.out.size)
   replace HXr := Lib.hid (HXr.out.below hbn)
   clear hxr hfr hkr
   have hxr := HXr.out.2.1
   have hfr := HXr.out.2.2
   have hkr := HXr.out.1
   clear hbn
   clear hw
   refine (HE.out _).mono ?_
   rintro e w4 ⟨rfl, hb⟩
   have hzw4 : w3.heap.size ≤ w4.heap.size := hb.size
   have hzzw4 : w.heap.size ≤ w4.heap.size := by omega
   replace HB := Lib.hid (below_then HB.out hb HB.out.size)
   replace HXr := Lib.hid (HXr.out.below hb)
   clear hxr hfr hkr
   have hxr := HXr.out.2.1
   have hfr := HXr.out.2.2
   have hkr := HXr.out.1
   clear hb
   go_wp2
   refine bodyPost_ret (v := .tuple #[.string em, .int .i64 0, .bool true]) (by simp [results, Tryz.results115, go_sem]) rfl ?_
   exact ⟨by rw [HD.out.1, HD.out.2, HD2.out.1, HD2.out.2]; rfl, HB.out⟩
  ·have hm0 : 0 < m := by
    obtain ⟨n1, hn1⟩ : ∃ n1 : Nat, z.toNat = n1 + 1 := ⟨z.toNat - 1, by omega⟩
    have h1 := (tz_pop n1 (by omega)).2
    rw [← hn, hpl, show z = ((n1 + 1 : Nat) : Int) by omega, popC_nat (by omega)]
    omega
   obtain ⟨t0, ht0⟩ : ∃ t0, m = t0 + 1 := ⟨m - 1, by omega⟩
   have HD2 : Hid (rngRoot width l = rootF width l t0 ∧ rngMade l = t0) := Lib.hid ⟨by rw [rngRoot, if_neg (by omega)]; congr 1; omega, by rw [rngMade]; omega⟩
   obtain ⟨b, off, s, rfl, hb, hks, hc⟩ := hr.str (k := t0) (by omega)
   have hs0 : Hid (s = rootF width l 0) := Lib.hid (by rw [rootF, hn, show m - 1 = t0 by omega, List.getD_eq_getElem?_getD, hks]; rfl)
   have E1 : IntKind.i64.wrap ((m : Int) - 1) = t0 := by rw [IntKind.wrap_i64]; omega
   have E2 : (m : Int) - 1 = t0 := by omega
   have E3 : (0 : Int) ≤ t0 := by omega
   have E4 : (t0 : Int) < m := by omega
   have E6 : IntKind.i64.wrap ((m : Int) - 2) = t0 - 1 := by rw [IntKind.wrap_i64]; omega
   have hz0 : ¬ z = 0 := by omega
   have hz00 : (z == 0) = false := by simpa using hz0
   have HT0 := Lib.hid ht0
   have HE6 : Hid ((m : Int) - 2 = t0 - 1) := Lib.hid (by omega)
   clear hq hr hn hw ha hks hpl ht0 hz0
   have HB : Hid (Below w.heap.size w w) := Below.refl _ _
   go_enter Tryz.func115, Tryz.ntmps115
   go_wp2_with fail
   refine calls_named (fun w1 hw => ?_)
   have hz1 : w.heap.size + 1 ≤ w1.heap.size := by rw [hw]; first | omega | (simp [World.setCell]; done) | (simp [World.setCell]; omega)
   have hzz1 : w.heap.size ≤ w1.heap.size := by omega
   have hbn : Below w.heap.size w w1 := by rw [hw]; exact (by ((repeat (first | ((with_reducible refine Below.alloc ?_ ?_ _); rotate_left 1; (focus (first | omega | (simp; done) | (simp; omega)))) | (with_reducible refine Below.drew ?_) | ((with_reducible refine Below.setCell ?_ ?_ _); rotate_left 1; (focus (first | omega | (simp; done) | (simp; omega)))))); exact Below.refl _ _))
   replace HB := Lib.hid (below_then HB.out hbn HB.out.size)
   clear hbn
   have HXr : Hid (NewBox w1 (w.heap.size) [.int .i64 z, .slice (some ⟨b, off, none⟩) m c]) := by rw [Hid, hw]; exact ⟨by first | omega | (simp [World.setCell]; done) | (simp [World.setCell]; omega), fun o => by rcases o with _ | _ | o <;> go_simp, fun o => by go_simp⟩
   have hxr := HXr.out.2.1
   have hfr := HXr.out.2.2
   have hkr := HXr.out.1
   clear hw
   refine (HRK.out _ (HR.out.below HB.out).base).mono ?_
   rintro e w2 ⟨rfl, hb⟩
   have hzw2 : w1.heap.size ≤ w2.heap.size := hb.size
   have hzzw2 : w.heap.size ≤ w2.heap.size := by omega
   replace HB := Lib.hid (below_then HB.out hb HB.out.size)
   replace HXr := Lib.hid (HXr.out.below hb)
   clear hxr hfr hkr
   have hxr := HXr.out.2.1
   have hfr := HXr.out.2.2
   have hkr := HXr.out.1
   clear hb
   have hc2 := (Below.cell HB.out (p := ⟨b, off + t0, none⟩) hb).trans hc
   have HAT : Hid (RAt w z (some ⟨b, off, none⟩) m c w2) := Lib.hid ⟨HB.out, HXr.out⟩
   clear hc
   go_wp2
   go_loopw [9, 10] (fun rv iv wx => ∃ (j t : Nat) (i : Int), t + j + 1 = m ∧ i = t - 1 ∧ iv = .int .i64 i ∧ rv = .string (rootF width l j) ∧ RAt w z (some ⟨b, off, none⟩) m c wx) (fun _ iv _ => (intOf iv + 1).toNat)
   case atStart => exact ⟨0, t0, _, by have := HT0.out; omega, HE6.out, by first | rfl | exact congrArg (Value.int .i64) HE6.out.symm, by rw [hs0.out], HAT.out⟩
   case round =>
    clear E1 E2 E3 E4 E6 hc2 hs0 HAT HXr hxr hfr hkr
    obtain ⟨j, t, i, htj, hi, rfl, rfl, hA⟩ := hrel
    have HA2 := Lib.hid hA
    have hxr := hA.r.2.1
    rcases (show t = 0 ∨ 0 < t by omega) with h0 | h0
    ·have hjt : j = t0 := by have := HT0.out; omega
     subst hjt
     have hi2 : i = -1 := by omega
     subst hi2
     have E8 : IntKind.i64.wrap ((m : Int) - 1) = j := by rw [IntKind.wrap_i64]; have := HT0.out; omega
     have E9 : (m : Int) - 1 = j := by have := HT0.out; omega
     clear hA hi htj
     clear h0
     generalize rootF width l j = rr at *
     go_wp2
     go_quiet (fail)
     go_wp2
     refine bodyPost_ret (v := .tuple #[.string rr, .int .i64 (j : Nat), .bool true]) (by simp [results, Tryz.results115, go_sem]) rfl ?_
     exact ⟨by rw [HD.out.1, HD.out.2, HD2.out.1, HD2.out.2], HA2.out.below.trans (Below.mono (below_drewN _ _) HA2.out.below.size)⟩
    ·obtain ⟨p, hp⟩ : ∃ p, t = p + 1 := ⟨t - 1, by omega⟩
     obtain rfl : i = (p : Int) := by omega
     obtain ⟨b2, off2, s, e2, hb2, hks, hc⟩ := (HR.out.lowB hA.below (Nat.le_refl _)).str (k := p) (by rw [HN.out]; omega)
     cases e2
     have HNX : Hid (rootF width l (j + 1) = nodeT width s (rootF width l j)) := Lib.hid (by rw [rootF, HN.out, show m - 2 - j = p by omega, List.getD_eq_getElem?_getD, hks]; rfl)
     have hsz := areH_mem HA.out s (List.mem_of_getElem? hks)
     have hrz := rootF_size HW.out HA.out (j := j) (by rw [HN.out]; omega)
     have E4 : (p : Int) < m := by omega
     have E5 : IntKind.i64.wrap ((p : Int) - 1) = p - 1 := by rw [IntKind.wrap_i64]; omega
     have HQ := Lib.hid (And.intro htj hp)
     clear hA hks htj hp hi h0
     generalize rootF width l j = rr at *
     have HND := Lib.hid (fun W => specNodeHash_c width s rr W HW.out hsz hrz)
     generalize nodeT width s rr = nd at *
     clear hsz hrz
     go_wp2_with fail
     refine (HND.out _).mono ?_
     rintro e w5 ⟨rfl, hb5⟩
     have HA5 := Lib.hid (HA2.out.next hb5)
     clear hb5 HA2 hxr hc
     go_wp2
     go_roundw
     case rel => exact ⟨j + 1, p, _, by have := HQ.out; omega, rfl, by first | rfl | (congr 1), by rw [HNX.out], HA5.out⟩
     case measure => first | (simp [intOf]; done) | (simp [intOf]; omega)
end Go.Proofs.YtmmepogjocfefaaGreat
