/- Part 11 of the proof of FnProofs: lemmas and contracts. -/
import Derived.Test.YtoccjgcokffkbaaGreatTq10
import Derived.Test.YtoccjgcokffkbaaGreatTq6
import Derived.Shelf.Small.Bits
import Derived.Lib.ItoaNum
import Derived.Ground.NamesProg
import Derived.Lib.Agree
import Derived.Test.YtoccjgcokffkbaaGreatTq7
import Derived.Test.YtoccjgcokffkbaaGreatTq2
import Derived.Test.YtoccjgcokffkbaaGreatTq1
namespace Go.Proofs.YtoccjgcokffkbaaGreat
set_option linter.unusedVariables false
set_option linter.unusedSimpArgs false
set_option maxHeartbeats 20000000
section
open Go.RowKit
def rootF (width : Int) (l : List ByteArray) : Nat → ByteArray
 | 0 => l.getD (l.length - 1) ByteArray.empty
 | j + 1 => nodeT width (l.getD (l.length - 2 - j) ByteArray.empty) (rootF width l j)
def rngRoot (width : Int) (l : List ByteArray) : ByteArray := if l.length = 0 then emptyT width else rootF width l (l.length - 1)
def rngMade (l : List ByteArray) : Nat := l.length - 1
theorem rootF_size {width : Int} {l : List ByteArray} (hw : inR width 1 32 = true) (ha : areH width l = true) : ∀ {j : Nat}, j < l.length → ((rootF width l j).size : Int) = width
 | 0, h => areH_mem ha _ (getD_mem (by omega))
 | j + 1, h => nodeT_size hw (areH_mem ha _ (getD_mem (by omega))) (rootF_size hw ha (by omega))
theorem rngRoot_size {width : Int} {l : List ByteArray} (hw : inR width 1 32 = true) (ha : areH width l = true) : ((rngRoot width l).size : Int) = width := by
 rw [rngRoot]; split
 ·exact emptyT_size hw
 ·exact rootF_size hw ha (by omega)
def rrT (width z : Int) (l : List ByteArray) : ByteArray := if rngOk width z l then rngRoot width l else ByteArray.empty
def rrN (width z : Int) (l : List ByteArray) : Nat := if rngOk width z l then rngMade l else 0
structure RAt (w : World) (z : Int) (A : Option Addr) (m c : Nat) (wx : World) : Prop where
 below : Below w.heap.size w wx
 r : NewBox wx w.heap.size [.int .i64 z, .slice A m c]
theorem RAt.next {w : World} {z : Int} {A : Option Addr} {m c : Nat} {wx wy : World} (h : RAt w z A m c wx) (hb : Below wx.heap.size wx wy) : RAt w z A m c wy := ⟨below_then h.below hb h.below.size, h.r.below hb⟩
set_option maxRecDepth 100000 in
theorem root_c (width z : Int) (A : Option Addr) (c lo hi m : Nat) (l : List ByteArray) (w : World) (hr : Rd w lo hi A (strs l)) (hn : l.length = m) (hl : m ≤ 1000) (hw : inR width 1 32 = true) (ha : areH width l = true) :
  Calls Tryz.prog 185 #[.agg #[.int .i64 z, .slice A m c], .int .i64 width] w fun e w' => e = .returned (.tuple #[.string (rngRoot width l), .int .i64 (rngMade l : Nat)]) ∧ Below w.heap.size w w' := by
 have HN := lH hn
 have HR : Hid (Rd w 0 w.heap.size A (strs l)) := lH hr.base
 have HW := lH hw
 have HA := lH ha
 have hw2 := inR_true.1 hw
 rcases (show m = 0 ∨ 0 < m by omega) with hm0 | hm0
 ·have HD : Hid (rngRoot width l = emptyT width ∧ rngMade l = 0) := lH ⟨by rw [rngRoot, if_pos (by omega)], by rw [rngMade]; omega⟩
  subst hm0
  clear hr hn hw ha
  go_enter Tryz.func185, Tryz.ntmps185
  go_wp2_with fail
  refine (emptyRoot_c width _).mono ?_
  rintro e w1 ⟨rfl, hb1⟩
  have HB1 := lH (below_then ((Below.refl _ _).alloc (Nat.le_refl _) _) hb1 (by simp))
  clear hb1
  generalize emptyT width = em at *
  go_wp2
  go_ret2
  exact ⟨by rw [HD.out.1, HD.out.2]; rfl, HB1.out⟩
 ·obtain ⟨t0, ht0⟩ : ∃ t0, m = t0 + 1 := ⟨m - 1, by omega⟩
  have HD : Hid (rngRoot width l = rootF width l t0 ∧ rngMade l = t0) := lH ⟨by rw [rngRoot, if_neg (by omega)]; congr 1; omega, by rw [rngMade]; omega⟩
  obtain ⟨b, off, s, rfl, hb, hks, hc⟩ := hr.str (k := t0) (by omega)
  have hs0 : Hid (s = rootF width l 0) := lH (by rw [rootF, hn, show m - 1 = t0 by omega, List.getD_eq_getElem?_getD, hks]; rfl)
  have E1 : IntKind.i64.wrap ((m : Int) - 1) = t0 := by rw [IntKind.wrap_i64]; omega
  have E2 : (m : Int) - 1 = t0 := by omega
  have E3 : (0 : Int) ≤ t0 := by omega
  have E4 : (t0 : Int) < m := by omega
  have hml : (m : Int) ≤ 1000 := by omega
  have hm1 : ¬ (m : Int) = 0 := by omega
  have hm2 : ((m : Int) == 0) = false := by simpa using hm1
  have HT0 := lH ht0
  clear hr hn hw ha hks hm1 ht0
  go_enter Tryz.func185, Tryz.ntmps185
  go_wp2
  go_loopw [7, 8] (fun rv iv wx => ∃ (j t : Nat) (i : Int), t + j + 1 = m ∧ i = t - 1 ∧ iv = .int .i64 i ∧ rv = .string (rootF width l j) ∧ RAt w z (some ⟨b, off, none⟩) m c wx) (fun _ iv _ => (intOf iv + 1).toNat)
  case atStart => exact ⟨0, t0, _, by have := HT0.out; omega, rfl, by first | rfl | (congr 1), by rw [hs0.out], ⟨(Below.refl _ _).alloc (Nat.le_refl _) _, NewBox.new w _ _⟩⟩
  case round =>
   clear E1 E2 E3 E4 hc hs0
   obtain ⟨j, t, i, htj, hi, rfl, rfl, hA⟩ := hrel
   have HA2 := lH hA
   have hxr := hA.r.2.1
   rcases (show t = 0 ∨ 0 < t by omega) with h0 | h0
   ·have hjt : j = t0 := by have := HT0.out; omega
    subst hjt
    have hi2 : i = -1 := by omega
    subst hi2
    clear hA hi htj
    clear h0
    generalize rootF width l j = rr at *
    go_wp2
    go_ret2
    exact ⟨by rw [HD.out.1, HD.out.2]; rfl, HA2.out.below⟩
   ·obtain ⟨p, hp⟩ : ∃ p, t = p + 1 := ⟨t - 1, by omega⟩
    obtain rfl : i = (p : Int) := by omega
    obtain ⟨b2, off2, s, e2, hb2, hks, hc⟩ := (HR.out.lowB hA.below (Nat.le_refl _)).str (k := p) (by rw [HN.out]; omega)
    cases e2
    have HNX : Hid (rootF width l (j + 1) = nodeT width s (rootF width l j)) := lH (by rw [rootF, HN.out, show m - 2 - j = p by omega, List.getD_eq_getElem?_getD, hks]; rfl)
    have hsz := areH_mem HA.out s (List.mem_of_getElem? hks)
    have hrz := rootF_size HW.out HA.out (j := j) (by rw [HN.out]; omega)
    have E4 : (p : Int) < m := by omega
    have E5 : IntKind.i64.wrap ((p : Int) - 1) = p - 1 := by rw [IntKind.wrap_i64]; omega
    have HQ := lH (And.intro htj hp)
    clear hA hks htj hp hi h0
    generalize rootF width l j = rr at *
    have HND := lH (fun W => node_c width s rr W (by omega) (by omega))
    generalize nodeT width s rr = nd at *
    clear hsz hrz
    go_wp2_with fail
    refine (HND.out _).mono ?_
    rintro e w5 ⟨rfl, hb5⟩
    have HA5 := lH (HA2.out.next hb5)
    clear hb5 HA2 hxr hc
    go_wp2
    go_roundw
    case rel => exact ⟨j + 1, p, _, by have := HQ.out; omega, rfl, by first | rfl | (congr 1), by rw [HNX.out], HA5.out⟩
    case measure => first | (simp [intOf]; done) | (simp [intOf]; omega)
set_option maxRecDepth 100000 in
theorem specRangeRoot_c (width z : Int) (A : Option Addr) (c lo hi m : Nat) (l : List ByteArray) (w : World) (hr : Rd w lo hi A (strs l)) (hn : l.length = m) (hl : m ≤ 1048576) :
  Calls Tryz.prog 159 #[.int .i64 width, .agg #[.int .i64 z, .slice A m c]] w fun e w' => e = .returned (.tuple #[.string (rrT width z l), .int .i64 (rrN width z l : Nat), .bool (rngOk width z l)]) ∧ Below w.heap.size w w' := by
 have HN := lH hn
 have HR : Hid (Rd w 0 w.heap.size A (strs l)) := lH hr.base
 have HRK := lH (fun W (h : Rd W 0 W.heap.size A (strs l)) => specRangeOk_c width z A c 0 W.heap.size m l W h hn hl)
 rcases hq : rngOk width z l with _ | _
 ·have HD : Hid (rrT width z l = ⟨#[]⟩ ∧ rrN width z l = 0) := lH ⟨by rw [rrT, hq]; rfl, by rw [rrN, hq]; rfl⟩
  rw [hq] at HRK
  clear hq hr hn
  have HB : Hid (Below w.heap.size w w) := Below.refl _ _
  go_enter Tryz.func159, Tryz.ntmps159
  go_wp2_with fail
  refine calls_named (fun w1 hw => ?_)
  have hz1 : w.heap.size + 1 ≤ w1.heap.size := by rw [hw]; first | omega | simp [World.setCell] <;> omega
  have hzz1 : w.heap.size ≤ w1.heap.size := by omega
  have hbn : Below w.heap.size w w1 := by rw [hw]; exact (by repeat with_reducible first | exact bR _ | apply bA | apply bD)
  replace HB := lH (below_then HB.out hbn HB.out.size)
  clear hbn
  have HXr : Hid (NewBox w1 (w.heap.size) [.int .i64 z, .slice A m c]) := by rw [Hid, hw]; exact ⟨by first | omega | (simp [World.setCell]; done) | (simp [World.setCell]; omega), fun o => by rcases o with _ | _ | o <;> go_simp, fun o => by go_simp⟩
  obtain ⟨hkr, hxr, hfr⟩ := HXr.out
  clear hw
  refine (HRK.out _ (HR.out.below HB.out).base).mono ?_
  rintro e w2 ⟨rfl, hb⟩
  have hzw2 : w1.heap.size ≤ w2.heap.size := hb.size
  have hzzw2 : w.heap.size ≤ w2.heap.size := by omega
  replace HB := lH (below_then HB.out hb HB.out.size)
  replace HXr := lH (HXr.out.below hb)
  clear hxr hfr hkr
  obtain ⟨hkr, hxr, hfr⟩ := HXr.out
  clear hb
  go_wp2
  refine bodyPost_ret (v := .tuple #[.string ⟨#[]⟩, .int .i64 0, .bool false]) (by simp [results, Tryz.results159, go_sem]) rfl ?_
  exact ⟨by rw [HD.out.1, HD.out.2]; rfl, HB.out⟩
 ·obtain ⟨hz1, hz2, hpl, ha, hw⟩ := rngOk_all hq
  have hw2 := inR_true.1 hw
  have HD : Hid (rrT width z l = rngRoot width l ∧ rrN width z l = rngMade l) := lH ⟨by rw [rrT, hq]; rfl, by rw [rrN, hq]; rfl⟩
  rw [hq] at HRK
  have HW := lH hw
  have HA := lH ha
  have hm10 : m ≤ 10 := by have := popC_le z; omega
  rcases (show z = 0 ∨ 0 < z by omega) with h0 | h0
  ·have hm0 : m = 0 := by rw [← hn, hpl, h0]; decide
   have HD2 : Hid (rngRoot width l = emptyT width ∧ rngMade l = 0) := lH ⟨by rw [rngRoot, if_pos (by omega)], by rw [rngMade]; omega⟩
   have HE := lH (fun W => specEmptyRoot_c width W)
   rw [hw] at HE
   subst h0
   clear hq hr hn ha hw hpl hm0
   generalize emptyT width = em at *
   have HB : Hid (Below w.heap.size w w) := Below.refl _ _
   go_enter Tryz.func159, Tryz.ntmps159
   go_wp2_with fail
   refine calls_named (fun w1 hw => ?_)
   have hz1 : w.heap.size + 1 ≤ w1.heap.size := by rw [hw]; first | omega | simp [World.setCell] <;> omega
   have hzz1 : w.heap.size ≤ w1.heap.size := by omega
   have hbn : Below w.heap.size w w1 := by rw [hw]; exact (by repeat with_reducible first | exact bR _ | apply bA | apply bD)
   replace HB := lH (below_then HB.out hbn HB.out.size)
   clear hbn
   have HXr : Hid (NewBox w1 (w.heap.size) [.int .i64 0, .slice A m c]) := by rw [Hid, hw]; exact ⟨by first | omega | (simp [World.setCell]; done) | (simp [World.setCell]; omega), fun o => by rcases o with _ | _ | o <;> go_simp, fun o => by go_simp⟩
   obtain ⟨hkr, hxr, hfr⟩ := HXr.out
   clear hw
   refine (HRK.out _ (HR.out.below HB.out).base).mono ?_
   rintro e w2 ⟨rfl, hb⟩
   have hzw2 : w1.heap.size ≤ w2.heap.size := hb.size
   have hzzw2 : w.heap.size ≤ w2.heap.size := by omega
   replace HB := lH (below_then HB.out hb HB.out.size)
   replace HXr := lH (HXr.out.below hb)
   clear hxr hfr hkr
   obtain ⟨hkr, hxr, hfr⟩ := HXr.out
   clear hb
   go_wp2_with fail
   refine calls_named (fun w3 hw => ?_)
   have hz3 : w2.heap.size + 0 ≤ w3.heap.size := by rw [hw]; first | omega | simp [World.setCell] <;> omega
   have hzz3 : w.heap.size ≤ w3.heap.size := by omega
   have hbn : Below w2.heap.size w2 w3 := by rw [hw]; exact (by repeat with_reducible first | exact bR _ | apply bA | apply bD)
   replace HB := lH (below_then HB.out hbn HB.out.size)
   replace HXr := lH (HXr.out.below hbn)
   clear hxr hfr hkr
   obtain ⟨hkr, hxr, hfr⟩ := HXr.out
   clear hbn
   clear hw
   refine (HE.out _).mono ?_
   rintro e w4 ⟨rfl, hb⟩
   have hzw4 : w3.heap.size ≤ w4.heap.size := hb.size
   have hzzw4 : w.heap.size ≤ w4.heap.size := by omega
   replace HB := lH (below_then HB.out hb HB.out.size)
   replace HXr := lH (HXr.out.below hb)
   clear hxr hfr hkr
   obtain ⟨hkr, hxr, hfr⟩ := HXr.out
   clear hb
   go_wp2
   refine bodyPost_ret (v := .tuple #[.string em, .int .i64 0, .bool true]) (by simp [results, Tryz.results159, go_sem]) rfl ?_
   exact ⟨by rw [HD.out.1, HD.out.2, HD2.out.1, HD2.out.2]; rfl, HB.out⟩
  ·have hm0 : 0 < m := by
    obtain ⟨n1, hn1⟩ : ∃ n1 : Nat, z.toNat = n1 + 1 := ⟨z.toNat - 1, by omega⟩
    have h1 := (tz_pop n1 (by omega)).2
    rw [← hn, hpl, show z = ((n1 + 1 : Nat) : Int) by omega, popC_nat (by omega)]
    omega
   obtain ⟨t0, ht0⟩ : ∃ t0, m = t0 + 1 := ⟨m - 1, by omega⟩
   have HD2 : Hid (rngRoot width l = rootF width l t0 ∧ rngMade l = t0) := lH ⟨by rw [rngRoot, if_neg (by omega)]; congr 1; omega, by rw [rngMade]; omega⟩
   obtain ⟨b, off, s, rfl, hb, hks, hc⟩ := hr.str (k := t0) (by omega)
   have hs0 : Hid (s = rootF width l 0) := lH (by rw [rootF, hn, show m - 1 = t0 by omega, List.getD_eq_getElem?_getD, hks]; rfl)
   have E1 : IntKind.i64.wrap ((m : Int) - 1) = t0 := by rw [IntKind.wrap_i64]; omega
   have E2 : (m : Int) - 1 = t0 := by omega
   have E3 : (0 : Int) ≤ t0 := by omega
   have E4 : (t0 : Int) < m := by omega
   have E6 : IntKind.i64.wrap ((m : Int) - 2) = t0 - 1 := by rw [IntKind.wrap_i64]; omega
   have hz0 : ¬ z = 0 := by omega
   have hz00 : (z == 0) = false := by simpa using hz0
   have HT0 := lH ht0
   have HE6 : Hid ((m : Int) - 2 = t0 - 1) := lH (by omega)
   clear hq hr hn hw ha hks hpl ht0 hz0
   have HB : Hid (Below w.heap.size w w) := Below.refl _ _
   go_enter Tryz.func159, Tryz.ntmps159
   go_wp2_with fail
   refine calls_named (fun w1 hw => ?_)
   have hz1 : w.heap.size + 1 ≤ w1.heap.size := by rw [hw]; first | omega | simp [World.setCell] <;> omega
   have hzz1 : w.heap.size ≤ w1.heap.size := by omega
   have hbn : Below w.heap.size w w1 := by rw [hw]; exact (by repeat with_reducible first | exact bR _ | apply bA | apply bD)
   replace HB := lH (below_then HB.out hbn HB.out.size)
   clear hbn
   have HXr : Hid (NewBox w1 (w.heap.size) [.int .i64 z, .slice (some ⟨b, off, none⟩) m c]) := by rw [Hid, hw]; exact ⟨by first | omega | (simp [World.setCell]; done) | (simp [World.setCell]; omega), fun o => by rcases o with _ | _ | o <;> go_simp, fun o => by go_simp⟩
   obtain ⟨hkr, hxr, hfr⟩ := HXr.out
   clear hw
   refine (HRK.out _ (HR.out.below HB.out).base).mono ?_
   rintro e w2 ⟨rfl, hb⟩
   have hzw2 : w1.heap.size ≤ w2.heap.size := hb.size
   have hzzw2 : w.heap.size ≤ w2.heap.size := by omega
   replace HB := lH (below_then HB.out hb HB.out.size)
   replace HXr := lH (HXr.out.below hb)
   clear hxr hfr hkr
   obtain ⟨hkr, hxr, hfr⟩ := HXr.out
   clear hb
   have hc2 := (Below.cell HB.out (p := ⟨b, off + t0, none⟩) hb).trans hc
   have HAT : Hid (RAt w z (some ⟨b, off, none⟩) m c w2) := lH ⟨HB.out, HXr.out⟩
   clear hc
   go_wp2
   go_loopw [9, 10] (fun rv iv wx => ∃ (j t : Nat) (i : Int), t + j + 1 = m ∧ i = t - 1 ∧ iv = .int .i64 i ∧ rv = .string (rootF width l j) ∧ RAt w z (some ⟨b, off, none⟩) m c wx) (fun _ iv _ => (intOf iv + 1).toNat)
   case atStart => exact ⟨0, t0, _, by have := HT0.out; omega, HE6.out, by first | rfl | exact congrArg (Value.int .i64) HE6.out.symm, by rw [hs0.out], HAT.out⟩
   case round =>
    clear E1 E2 E3 E4 E6 hc2 hs0 HAT HXr hxr hfr hkr
    obtain ⟨j, t, i, htj, hi, rfl, rfl, hA⟩ := hrel
    have HA2 := lH hA
    have hxr := hA.r.2.1
    rcases (show t = 0 ∨ 0 < t by omega) with h0 | h0
    ·have hjt : j = t0 := by have := HT0.out; omega
     subst hjt
     have hi2 : i = -1 := by omega
     subst hi2
     have E8 : IntKind.i64.wrap ((m : Int) - 1) = j := by rw [IntKind.wrap_i64]; have := HT0.out; omega
     have E9 : (m : Int) - 1 = j := by have := HT0.out; omega
     clear hA hi htj
     clear h0
     generalize rootF width l j = rr at *
     go_wp2
     go_quiet (fail)
     go_wp2
     refine bodyPost_ret (v := .tuple #[.string rr, .int .i64 (j : Nat), .bool true]) (by simp [results, Tryz.results159, go_sem]) rfl ?_
     exact ⟨by rw [HD.out.1, HD.out.2, HD2.out.1, HD2.out.2], HA2.out.below.trans (Below.mono (below_drewN _ _) HA2.out.below.size)⟩
    ·obtain ⟨p, hp⟩ : ∃ p, t = p + 1 := ⟨t - 1, by omega⟩
     obtain rfl : i = (p : Int) := by omega
     obtain ⟨b2, off2, s, e2, hb2, hks, hc⟩ := (HR.out.lowB hA.below (Nat.le_refl _)).str (k := p) (by rw [HN.out]; omega)
     cases e2
     have HNX : Hid (rootF width l (j + 1) = nodeT width s (rootF width l j)) := lH (by rw [rootF, HN.out, show m - 2 - j = p by omega, List.getD_eq_getElem?_getD, hks]; rfl)
     have hsz := areH_mem HA.out s (List.mem_of_getElem? hks)
     have hrz := rootF_size HW.out HA.out (j := j) (by rw [HN.out]; omega)
     have E4 : (p : Int) < m := by omega
     have E5 : IntKind.i64.wrap ((p : Int) - 1) = p - 1 := by rw [IntKind.wrap_i64]; omega
     have HQ := lH (And.intro htj hp)
     clear hA hks htj hp hi h0
     generalize rootF width l j = rr at *
     have HND := lH (fun W => specNodeHash_c width s rr W HW.out hsz hrz)
     generalize nodeT width s rr = nd at *
     clear hsz hrz
     go_wp2_with fail
     refine (HND.out _).mono ?_
     rintro e w5 ⟨rfl, hb5⟩
     have HA5 := lH (HA2.out.next hb5)
     clear hb5 HA2 hxr hc
     go_wp2
     go_roundw
     case rel => exact ⟨j + 1, p, _, by have := HQ.out; omega, rfl, by first | rfl | (congr 1), by rw [HNX.out], HA5.out⟩
     case measure => first | (simp [intOf]; done) | (simp [intOf]; omega)
end
section
open Go.Shelf Go.RowKit
def laysLen_ren : Go.Shelf.Ren := ⟨fun | 125 => 167 | 128 => 200 | 129 => 201 | n => n, fun | 46 => 161 | 3 => 3 | 51 => 215 | 53 => 249 | 4 => 4 | 5 => 5 | 9 => 9 | n => n, fun | n => n⟩
theorem laysLen : Go.Proofs.Lays.n125 Tryz.prog laysLen_ren := {
 mixed := by kernel_rfl
 f125 := Tryz.func167.trans (congrArg some (by kernel_rfl))
 f128 := Tryz.func200.trans (congrArg some (by kernel_rfl))
 f129 := Tryz.func201.trans (congrArg some (by kernel_rfl))
 t3 := Tryz.underlying3
 a3 := Tryz.isAgg3
 z3 := Tryz.sizeOf3
 v3 := Tryz.zeroValue3
 t4 := Tryz.underlying4
 a4 := Tryz.isAgg4
 z4 := Tryz.sizeOf4
 v4 := Tryz.zeroValue4
 t5 := Tryz.underlying5
 a5 := Tryz.isAgg5
 z5 := Tryz.sizeOf5
 v5 := Tryz.zeroValue5
 t9 := Tryz.underlying9
 a9 := Tryz.isAgg9
 z9 := Tryz.sizeOf9
 v9 := Tryz.zeroValue9
 t46 := Tryz.underlying161
 a46 := Tryz.isAgg161
 z46 := Tryz.sizeOf161
 v46 := Tryz.zeroValue161
 t51 := Tryz.underlying215
 a51 := Tryz.isAgg215
 z51 := Tryz.sizeOf215
 v51 := Tryz.zeroValue215
 t53 := Tryz.underlying249
 a53 := Tryz.isAgg249
 z53 := Tryz.sizeOf249
 v53 := Tryz.zeroValue249 }
theorem fLen : laysLen_ren.f 125 = 167 := by kernel_rfl
def halfN (n : Nat) : Nat := 2 ^ (Lib.bitLen (n - 1) - 1)
theorem bitLen_bd {x : Nat} (h0 : x ≠ 0) (h : x < 512) : 1 ≤ Lib.bitLen x ∧ Lib.bitLen x ≤ 9 ∧ 2 ^ (Lib.bitLen x - 1) ≤ x ∧ x < 2 ^ Lib.bitLen x := by
 obtain ⟨h1, h2, h3⟩ := Lib.bitLenAux_bounds 64 x (Nat.lt_trans h (by decide)) h0
 refine ⟨h1, ?_, h2, h3⟩
 rcases Nat.lt_or_ge 9 (Lib.bitLen x) with h9 | h9
 ·exfalso
  have h4 : 2 ^ 9 ≤ 2 ^ (Lib.bitLenAux 64 x - 1) := Nat.pow_le_pow_right (by omega) (by have : Lib.bitLen x = Lib.bitLenAux 64 x := rfl; omega)
  omega
 ·exact h9
theorem halfN_bd {n : Nat} (h2 : 2 ≤ n) (h : n ≤ 512) : 1 ≤ halfN n ∧ halfN n < n ∧ n ≤ 2 * halfN n := by
 obtain ⟨h1, h9, h3, h4⟩ := bitLen_bd (x := n - 1) (by omega) (by omega)
 have h5 : 2 ^ Lib.bitLen (n - 1) = 2 * 2 ^ (Lib.bitLen (n - 1) - 1) := by
  rw [← Nat.pow_succ', Nat.succ_eq_add_one, Nat.sub_add_cancel h1]
 have h6 : 0 < 2 ^ (Lib.bitLen (n - 1) - 1) := Nat.two_pow_pos _
 unfold halfN
 omega
theorem halfN_eq {n j : Nat} (h2 : 2 ≤ n) (h : n ≤ 512) (h1 : 2 ^ j < n) (h3 : n ≤ 2 * 2 ^ j) : halfN n = 2 ^ j := by
 obtain ⟨k1, k2, k3⟩ := halfN_bd h2 h
 unfold halfN at *
 generalize Lib.bitLen (n - 1) - 1 = b at *
 have : b = j := by
  rcases Nat.lt_trichotomy b j with hb | hb | hb
  ·have h5 : 2 ^ (b + 1) ≤ 2 ^ j := Nat.pow_le_pow_right (by omega) hb
   rw [Nat.pow_succ] at h5
   omega
  ·exact hb
  ·have h5 : 2 ^ (j + 1) ≤ 2 ^ b := Nat.pow_le_pow_right (by omega) hb
   rw [Nat.pow_succ] at h5
   omega
 rw [this]
set_option maxRecDepth 100000 in
theorem Len_bits_c (x : Nat) (w : World) (h : x < 512) : Calls Tryz.prog 167 #[.int .u64 x] w fun e w' => e = .returned (.int .i64 (Lib.bitLen x : Nat)) ∧ w = w' := by
 have := Any.bits_Len laysLen x w (by omega) (by omega)
 rw [fLen, Int.toNat_natCast] at this
 exact this.mono fun _ _ hh => ⟨hh.1, hh.2.symm⟩
set_option maxRecDepth 100000 in
theorem implHalfOf_c (n : Nat) (w : World) (h2 : 2 ≤ n) (h : n ≤ 512) : Calls Tryz.prog 116 #[.int .i64 n] w fun e w' => e = .returned (.int .i64 (halfN n : Nat)) ∧ w = w' := by
 obtain ⟨h1, h9, _, _⟩ := bitLen_bd (x := n - 1) (by omega) (by omega)
 have hq : inR (n : Int) 2 512 = true := inR_true.2 ⟨by omega, by omega⟩
 have HQ := lH hq
 have HH : Hid (halfN n = 2 ^ (Lib.bitLen (n - 1) - 1)) := lH rfl
 have HL := lH (fun W => Len_bits_c (n - 1) W (by omega))
 obtain ⟨x, hx⟩ : ∃ x, x = n - 1 := ⟨_, rfl⟩
 have E1 : (n : Int) - 1 = x := by omega
 have E2 : IntKind.i64.wrap ((n : Int) - 1) = x := by rw [IntKind.wrap_i64]; omega
 have E3 : IntKind.u64.wrap (x : Int) = x := by rw [IntKind.wrap_u64]; omega
 rw [← hx] at HL HH h1 h9
 clear hq hx
 generalize Lib.bitLen x = b at *
 go_enter Tryz.func116, Tryz.ntmps116
 go_wp2_with fail
 refine (inRange_c n 2 512 _).mono ?_
 rintro e w1 ⟨rfl, rfl⟩
 rw [HQ.out]
 go_wp2_with fail
 refine (HL.out _).mono ?_
 rintro e w1 ⟨rfl, rfl⟩
 rcases (show b = 1 ∨ b = 2 ∨ b = 3 ∨ b = 4 ∨ b = 5 ∨ b = 6 ∨ b = 7 ∨ b = 8 ∨ b = 9 by omega) with rfl | rfl | rfl | rfl | rfl | rfl | rfl | rfl | rfl
 all_goals
  go_wp2
  go_ret
  exact ⟨by rw [HH.out]; rfl, rfl⟩
end
section
open Go.RowKit
def rootFu (width : Int) : Nat → List ByteArray → ByteArray
 | 0, _ => ByteArray.empty
 | f + 1, l => if l.length = 0 then emptyT width else if l.length = 1 then l.getD 0 ByteArray.empty else nodeT width (rootFu width f (l.take (halfN l.length))) (rootFu width f (l.drop (halfN l.length)))
theorem areH_sub {width : Int} {l l' : List ByteArray} (h : areH width l = true) (hs : ∀ s ∈ l', s ∈ l) : areH width l' = true := by
 rw [areH, List.all_eq_true]
 intro s hm
 exact decide_eq_true (areH_mem h s (hs s hm))
theorem rootFu_size {width : Int} (hw : inR width 1 32 = true) : ∀ {f : Nat} {l : List ByteArray}, l.length < f → l.length ≤ 512 → areH width l = true → ((rootFu width f l).size : Int) = width
 | 0, l, h, _, _ => by omega
 | f + 1, l, h, h5, ha => by
   rw [rootFu]
   split
   ·exact emptyT_size hw
   ·split
    ·rename_i h0 h1
     refine areH_mem ha _ ?_
     rw [List.getD_eq_getElem?_getD, List.getElem?_eq_getElem (by omega)]
     exact List.getElem_mem (by omega)
    ·rename_i h0 h1
     obtain ⟨k1, k2, k3⟩ := halfN_bd (n := l.length) (by omega) h5
     exact nodeT_size hw (rootFu_size hw (by rw [List.length_take]; omega) (by rw [List.length_take]; omega) (areH_sub ha (fun s hs => List.mem_of_mem_take hs)))
      (rootFu_size hw (by rw [List.length_drop]; omega) (by rw [List.length_drop]; omega) (areH_sub ha (fun s hs => List.mem_of_mem_drop hs)))
theorem Rd.takeS {w : World} {lo hi : Nat} {A : Option Addr} {l : List ByteArray} (h : Rd w lo hi A (strs l)) (k : Nat) : Rd w lo hi A (strs (l.take k)) := by
 refine Rd.pre (ys := strs (l.drop k)) ?_
 rw [strs, strs, ← List.map_append, List.take_append_drop]
 exact h
theorem Rd.dropS {w : World} {lo hi b off : Nat} {l : List ByteArray} (h : Rd w lo hi (some ⟨b, off, none⟩) (strs l)) (k : Nat) : Rd w lo hi (some ⟨b, off + k, none⟩) (strs (l.drop k)) := by
 intro hn
 have hne : strs l ≠ [] := by
  intro e
  apply hn
  have : l = [] := List.map_eq_nil_iff.1 e
  rw [this, List.drop_nil]
  rfl
 obtain ⟨b', off', e, h2, h3, h4, h5⟩ := h hne
 cases e
 refine ⟨b, off + k, rfl, h2, h3, h4, fun j u hu => ?_⟩
 have := h5 (k + j) u (by rw [← hu, strs, strs, List.map_drop, List.getElem?_drop])
 rwa [← Nat.add_assoc] at this
theorem fu_step {width : Int} {f n : Nat} {l : List ByteArray} (hn : l.length = n) (h2 : 2 ≤ n) : rootFu width (f + 1) l = nodeT width (rootFu width f (l.take (halfN n))) (rootFu width f (l.drop (halfN n))) := by
 rw [rootFu, if_neg (by omega), if_neg (by omega), hn]
theorem fu_zero {width : Int} {f : Nat} {l : List ByteArray} (hn : l.length = 0) : rootFu width (f + 1) l = emptyT width := by rw [rootFu, if_pos hn]
theorem fu_one {width : Int} {f : Nat} {l : List ByteArray} {s : ByteArray} (hn : l.length = 1) (hs : l[0]? = some s) : rootFu width (f + 1) l = s := by
 rw [rootFu, if_neg (by omega), if_pos hn, List.getD_eq_getElem?_getD, hs]; rfl
set_option maxRecDepth 100000 in
theorem rootOf_c (width : Int) (hw : inR width 1 32 = true) : ∀ (f : Nat) (A : Option Addr) (c lo hi n : Nat) (l : List ByteArray) (w : World), Rd w lo hi A (strs l) → l.length = n → n ≤ 512 → n < f → n ≤ c → areH width l = true →
  Calls Tryz.prog 117 #[.int .i64 width, .slice A n c] w fun e w' => e = .returned (.string (rootFu width f l)) ∧ Below w.heap.size w w'
 | 0, A, c, lo, hi, n, l, w, hr, hn, h5, hf, hc, ha => by omega
 | f + 1, A, c, lo, hi, n, l, w, hr, hn, h5, hf, hc, ha => by
   have IH := lH (rootOf_c width hw f)
   have hw2 := inR_true.1 hw
   rcases (show n = 0 ∨ n = 1 ∨ 2 ≤ n by omega) with h0 | h0 | h0
   ·have HD := lH (fu_zero (width := width) (f := f) (hn.trans h0))
    have HE := lH (fun W => emptyRoot_c width W)
    subst h0
    clear hr hn ha hw
    generalize emptyT width = em at *
    go_enter Tryz.func117, Tryz.ntmps117
    go_wp2_with fail
    refine (HE.out _).mono ?_
    rintro e w1 ⟨rfl, hb1⟩
    have HB1 := lH hb1
    clear hb1
    go_wp2
    go_ret
    exact ⟨by rw [HD.out]; rfl, HB1.out⟩
   ·obtain ⟨b, off, s, rfl, hb, hks, hcl⟩ := hr.str (k := 0) (by omega)
    have HD := lH (fu_one (width := width) (f := f) (hn.trans h0) hks)
    subst h0
    clear hr hn ha hw hks
    simp only [Nat.add_zero] at hcl
    go_enter Tryz.func117, Tryz.ntmps117
    go_wp2
    go_ret
    exact ⟨by rw [HD.out]; rfl, Below.refl _ _⟩
   ·obtain ⟨b, off, s, rfl, hb, hks, hcl⟩ := hr.str (k := 0) (by omega)
    have HD := lH (fu_step (width := width) (f := f) hn h0)
    obtain ⟨k1, k2, k3⟩ := halfN_bd h0 h5
    have HHF := lH (fun W => implHalfOf_c n W h0 h5)
    have hla : (l.take (halfN n)).length = halfN n := by rw [List.length_take]; omega
    have hlb : (l.drop (halfN n)).length = n - halfN n := by rw [List.length_drop, hn]
    have haa := areH_sub ha (fun s hs => List.mem_of_mem_take hs : ∀ s ∈ l.take (halfN n), s ∈ l)
    have hab := areH_sub ha (fun s hs => List.mem_of_mem_drop hs : ∀ s ∈ l.drop (halfN n), s ∈ l)
    have hsa := rootFu_size hw (f := f) (l := l.take (halfN n)) (by omega) (by omega) haa
    have hsb := rootFu_size hw (f := f) (l := l.drop (halfN n)) (by omega) (by omega) hab
    have HR1 : Hid (Rd w 0 w.heap.size (some ⟨b, off, none⟩) (strs (l.take (halfN n)))) := lH (hr.takeS _).base
    have HR2 : Hid (Rd w 0 w.heap.size (some ⟨b, off + halfN n, none⟩) (strs (l.drop (halfN n)))) := lH (hr.dropS _).base
    obtain ⟨k, hk⟩ : ∃ k, k = halfN n := ⟨_, rfl⟩
    rw [← hk] at HD HHF hla hlb haa hab hsa hsb HR1 HR2 k1 k2 k3
    have HI1 := lH (fun W (r : Rd W 0 W.heap.size (some ⟨b, off, none⟩) (strs (l.take k))) => IH.out (some ⟨b, off, none⟩) c 0 W.heap.size k (l.take k) W r hla (by omega) (by omega) (by omega) haa)
    have HI2 := lH (fun W (r : Rd W 0 W.heap.size (some ⟨b, off + k, none⟩) (strs (l.drop k))) => IH.out (some ⟨b, off + k, none⟩) (c - k) 0 W.heap.size (n - k) (l.drop k) W r hlb (by omega) (by omega) (by omega) hab)
    generalize rootFu width f (l.take k) = ra at *
    generalize rootFu width f (l.drop k) = rb at *
    have HND := lH (fun W => node_c width ra rb W (by omega) (by omega))
    generalize nodeT width ra rb = nd at *
    have E1 : (k : Int) ≤ (n : Int) := by omega
    have E2 : (k : Int) ≤ (c : Int) := by omega
    have E3 : (n : Int) ≤ (c : Int) := by omega
    have E4 : ¬ (k : Int) = c := by omega
    have E5 : ¬ k = c := by omega
    clear hr hn hf ha hks hcl hk hla hlb haa hab hsa hsb IH hw
    go_enter Tryz.func117, Tryz.ntmps117
    go_wp2_with fail
    refine (HHF.out _).mono ?_
    rintro e w1 ⟨rfl, rfl⟩
    have HL1 := lH (fun v : Later w => HI1.out v.v (HR1.out.below v.h).base)
    have HL2 := lH (fun v : Later w => HI2.out v.v (HR2.out.below v.h).base)
    go_wp2
    refine wp_region_later (by kernel_rfl) (by kernel_rfl) ?_
    repeat (go_big_quiet_step ((first | with_reducible exact later_call (HL1.out _) | with_reducible exact later_call (HL2.out _) | with_reducible exact later_call (HND.out _))))
    refine wpQuiet_nil ?_
    intro w4 h4
    have HB4 := lH (later_below h4)
    clear h4
    go_wp2
    go_ret
    exact ⟨by rw [HD.out]; rfl, HB4.out⟩
end
section
def perf (width : Int) : Nat → List ByteArray → ByteArray
 | 0, l => l.getD 0 ByteArray.empty
 | j + 1, l => nodeT width (perf width j (l.take (2 ^ j))) (perf width j (l.drop (2 ^ j)))
def pks (width : Int) : Nat → List ByteArray → List ByteArray
 | 0, _ => []
 | j + 1, l => if 2 ^ j ≤ l.length then perf width j (l.take (2 ^ j)) :: pks width j (l.drop (2 ^ j)) else pks width j l
theorem pks_nil (width : Int) : ∀ j, pks width j [] = []
 | 0 => rfl
 | j + 1 => by rw [pks, if_neg (by have := Nat.pow_pos (n := j) (show 0 < 2 by omega); simp)]; exact pks_nil width j
theorem tz_low : ∀ j : Nat, j < 10 → ∀ m : Nat, m < 512 → m + 1 < 2 ^ j → tz (2 ^ j + m) = tz m := by decide +kernel
theorem tz_top : ∀ j : Nat, j < 10 → tz (2 ^ j - 1) = j := by decide +kernel
theorem merge1_cons {width : Int} {p : ByteArray} {q : List ByteArray} (h : 2 ≤ q.length) : merge1 width (p :: q) = p :: merge1 width q := by
 obtain ⟨n, hn⟩ : ∃ n, q.length = n + 2 := ⟨q.length - 2, by omega⟩
 rw [merge1, merge1, List.length_cons, hn]
 simp
theorem mergeK_cons {width : Int} {p : ByteArray} {q : List ByteArray} : ∀ {j : Nat}, j < q.length → mergeK width (p :: q) j = p :: mergeK width q j
 | 0, _ => rfl
 | j + 1, h => by
   rw [mergeK, mergeK_cons (by omega), mergeK]
   exact merge1_cons (by rw [mergeK_len (by omega)]; omega)
theorem pks_grow (width : Int) (x : ByteArray) : ∀ (j : Nat) (l : List ByteArray), j < 10 → l.length < 2 ^ j → tz l.length ≤ (pks width j l).length ∧
  (l.length + 1 < 2 ^ j → mergeK width (pks width j l ++ [x]) (tz l.length) = pks width j (l ++ [x])) ∧
  (l.length + 1 = 2 ^ j → mergeK width (pks width j l ++ [x]) (tz l.length) = [perf width j (l ++ [x])])
 | 0, l, _, h => by
   have : l = [] := List.eq_nil_of_length_eq_zero (by simpa using h)
   subst this
   refine ⟨Nat.zero_le _, fun h => by simp at h, fun _ => rfl⟩
 | j + 1, l, hj, h => by
   have hp : 0 < 2 ^ j := Nat.pow_pos (by omega)
   have hq : 2 ^ j ≤ 2 ^ 8 := Nat.pow_le_pow_right (by omega) (by omega)
   have hs : 2 ^ (j + 1) = 2 * 2 ^ j := by rw [Nat.pow_succ]; omega
   by_cases hl : 2 ^ j ≤ l.length
   ·obtain ⟨a, b, rfl, ha⟩ : ∃ a b, l = a ++ b ∧ a.length = 2 ^ j := ⟨l.take (2 ^ j), l.drop (2 ^ j), (List.take_append_drop _ _).symm, by rw [List.length_take]; omega⟩
    rw [List.length_append] at h hl ⊢
    obtain ⟨i1, i2, i3⟩ := pks_grow width x j b (by omega) (by omega)
    have e1 : pks width (j + 1) (a ++ b) = perf width j a :: pks width j b := by
     rw [pks, if_pos (by rw [List.length_append]; omega), ← ha, List.take_left, List.drop_left]
    have e2 : pks width (j + 1) (a ++ b ++ [x]) = perf width j a :: pks width j (b ++ [x]) := by
     rw [pks, if_pos (by simp; omega), List.append_assoc, ← ha, List.take_left, List.drop_left]
    have hc : mergeK width (perf width j a :: (pks width j b ++ [x])) (tz b.length) = perf width j a :: mergeK width (pks width j b ++ [x]) (tz b.length) := mergeK_cons (by rw [List.length_append]; simp; omega)
    rcases (show b.length + 1 < 2 ^ j ∨ b.length + 1 = 2 ^ j by omega) with hb | hb
    ·have ht : tz (a.length + b.length) = tz b.length := by rw [ha]; exact tz_low j (by omega) _ (by omega) hb
     rw [ht, e1]
     refine ⟨by simp; omega, fun _ => ?_, fun hx => by omega⟩
     rw [e2, List.cons_append, hc, i2 hb]
    ·have ht : tz (a.length + b.length) = tz b.length + 1 := by
      rw [show a.length + b.length = 2 ^ (j + 1) - 1 by omega, show b.length = 2 ^ j - 1 by omega, tz_top _ (by omega), tz_top _ (by omega)]
     rw [ht, e1]
     refine ⟨by simp; omega, fun hx => by omega, fun _ => ?_⟩
     rw [List.cons_append, mergeK, hc, i3 hb, perf, List.append_assoc, ← ha, List.take_left, List.drop_left]
     rfl
   ·obtain ⟨i1, i2, i3⟩ := pks_grow width x j l (by omega) (by omega)
    have e1 : pks width (j + 1) l = pks width j l := by rw [pks, if_neg hl]
    rw [e1]
    refine ⟨i1, fun _ => ?_, fun hx => by omega⟩
    rcases (show l.length + 1 < 2 ^ j ∨ l.length + 1 = 2 ^ j by omega) with hb | hb
    ·rw [i2 hb, pks, if_neg (by simp; omega)]
    ·rw [i3 hb, pks, if_pos (by simp; omega), List.take_of_length_le (by simp; omega), List.drop_of_length_le (by simp; omega), pks_nil]
theorem growUp_pks (width : Int) (L : List ByteArray) : ∀ k : Nat, k ≤ L.length → k < 512 → growUp width 0 [] L k = pks width 9 (L.take k)
 | 0, _, _ => by rw [List.take_zero, pks_nil]; rfl
 | k + 1, hk, h5 => by
   have hg : L[k]? = some (L.getD k ByteArray.empty) := by rw [List.getD_eq_getElem?_getD, List.getElem?_eq_getElem (by omega)]; rfl
   have hlen : (L.take k).length = k := by rw [List.length_take]; omega
   obtain ⟨_, h2, _⟩ := pks_grow width (L.getD k ByteArray.empty) 9 (L.take k) (by omega) (by rw [hlen]; exact (by omega : k < 2 ^ 9))
   rw [growUp, growUp_pks width L k (by omega) (by omega), growOne, Nat.zero_add]
   rw [hlen] at h2
   rw [h2 (show k + 1 < 2 ^ 9 by omega), List.take_add_one, hg]
   rfl
theorem perf_fu {width : Int} : ∀ {j f : Nat} {l : List ByteArray}, j ≤ 9 → l.length = 2 ^ j → l.length < f → perf width j l = rootFu width f l
 | 0, 0, l, _, h, hf => by omega
 | 0, f + 1, l, _, h, hf => by
   rw [fu_one h (s := l.getD 0 ByteArray.empty) (by rw [List.getD_eq_getElem?_getD, List.getElem?_eq_getElem (by rw [h]; exact Nat.one_pos)]; rfl)]; rfl
 | j + 1, 0, l, _, h, hf => by omega
 | j + 1, f + 1, l, hj, h, hf => by
   have hp : 0 < 2 ^ j := Nat.pow_pos (by omega)
   have hq : 2 ^ j ≤ 2 ^ 8 := Nat.pow_le_pow_right (by omega) (by omega)
   have hs : 2 ^ (j + 1) = 2 * 2 ^ j := by rw [Nat.pow_succ]; omega
   rw [fu_step h (by omega), halfN_eq (j := j) (by omega) (by omega) (by omega) (by omega), perf]
   rw [perf_fu (f := f) (by omega) (by rw [List.length_take]; omega) (by rw [List.length_take]; omega), perf_fu (f := f) (by omega) (by rw [List.length_drop]; omega) (by rw [List.length_drop]; omega)]
theorem rootF_cons {width : Int} {p : ByteArray} {q : List ByteArray} : ∀ {j : Nat}, j < q.length → rootF width (p :: q) j = rootF width q j
 | 0, h => by
   obtain ⟨n, hn⟩ : ∃ n, q.length = n + 1 := ⟨q.length - 1, by omega⟩
   rw [rootF, rootF, List.length_cons, hn, Nat.add_sub_cancel, Nat.add_sub_cancel, List.getD_cons_succ]
 | j + 1, h => by
   rw [rootF, rootF, rootF_cons (by omega), List.length_cons, show q.length + 1 - 2 - j = (q.length - 2 - j) + 1 by omega, List.getD_cons_succ]
theorem rngRoot_cons {width : Int} {p : ByteArray} {q : List ByteArray} (h : q ≠ []) : rngRoot width (p :: q) = nodeT width p (rngRoot width q) := by
 obtain ⟨n, hn⟩ : ∃ n, q.length = n + 1 := ⟨q.length - 1, by have := List.length_pos_iff.2 h; omega⟩
 rw [rngRoot, rngRoot, if_neg (by simp), if_neg (by omega), List.length_cons, hn, Nat.add_sub_cancel, rootF, rootF_cons (by omega), Nat.add_sub_cancel, List.length_cons, hn, show n + 1 + 1 - 2 - n = 0 by omega]
 rfl
theorem pks_root {width : Int} : ∀ {j f : Nat} {l : List ByteArray}, j ≤ 9 → l.length < 2 ^ j → l.length < f → l ≠ [] → pks width j l ≠ [] ∧ rngRoot width (pks width j l) = rootFu width f l
 | 0, f, l, _, h, hf, hn => absurd (List.eq_nil_of_length_eq_zero (by simpa using h)) hn
 | j + 1, f, l, hj, h, hf, hn => by
   have hp : 0 < 2 ^ j := Nat.pow_pos (by omega)
   have hq : 2 ^ j ≤ 2 ^ 8 := Nat.pow_le_pow_right (by omega) (by omega)
   have hs : 2 ^ (j + 1) = 2 * 2 ^ j := by rw [Nat.pow_succ]; omega
   by_cases hl : 2 ^ j ≤ l.length
   ·obtain ⟨a, b, rfl, ha⟩ : ∃ a b, l = a ++ b ∧ a.length = 2 ^ j := ⟨l.take (2 ^ j), l.drop (2 ^ j), (List.take_append_drop _ _).symm, by rw [List.length_take]; omega⟩
    have e1 : pks width (j + 1) (a ++ b) = perf width j a :: pks width j b := by
     rw [pks, if_pos (by rw [List.length_append]; omega), ← ha, List.take_left, List.drop_left]
    rw [List.length_append] at h hl hf
    rw [e1]
    refine ⟨List.cons_ne_nil _ _, ?_⟩
    by_cases hb : b = []
    ·subst hb
     rw [pks_nil, List.append_nil]
     rw [← perf_fu (j := j) (by omega) ha (by simp at hf; omega)]
     rfl
    ·have hb1 := List.length_pos_iff.2 hb
     obtain ⟨g, rfl⟩ : ∃ g, f = g + 1 := ⟨f - 1, by omega⟩
     obtain ⟨i1, i2⟩ := pks_root (width := width) (j := j) (f := g) (l := b) (by omega) (by omega) (by omega) hb
     rw [rngRoot_cons i1, i2, fu_step (n := 2 ^ j + b.length) (by rw [List.length_append]; omega) (by omega), halfN_eq (j := j) (by omega) (by omega) (by omega) (by omega)]
     rw [← ha, List.take_left, List.drop_left, perf_fu (j := j) (f := g) (by omega) ha (by omega)]
   ·rw [pks, if_neg hl]
    exact pks_root (by omega) (by omega) hf hn
theorem growUp_root {width : Int} {L : List ByteArray} {k : Nat} (hk : k ≤ L.length) (h5 : k ≤ 512) : rngRoot width (growUp width 0 [] L k) = rootFu width 513 (L.take k) := by
 have hlen : (L.take k).length = k := by rw [List.length_take]; omega
 rcases (show k = 0 ∨ (0 < k ∧ k < 512) ∨ k = 512 by omega) with h | h | h
 ·subst h
  rw [List.take_zero, fu_zero rfl]; rfl
 ·rw [growUp_pks width L k hk h.2]
  exact (pks_root (j := 9) (by omega) (by rw [hlen]; exact h.2) (by omega) (fun e => by rw [e] at hlen; simp at hlen; omega)).2
 ·subst h
  have hg : L[511]? = some (L.getD 511 ByteArray.empty) := by rw [List.getD_eq_getElem?_getD, List.getElem?_eq_getElem (by omega)]; rfl
  have h3 := (pks_grow width (L.getD 511 ByteArray.empty) 9 (L.take 511) (by omega) (by rw [List.length_take]; omega)).2.2
  have hl1 : (L.take 511).length = 511 := by rw [List.length_take]; omega
  rw [hl1] at h3
  have ht : L.take 512 = L.take 511 ++ [L.getD 511 ByteArray.empty] := by rw [List.take_add_one (l := L) (i := 511), hg]; rfl
  rw [growUp, growUp_pks width L 511 (by omega) (by omega), growOne, Nat.zero_add, h3 rfl, ← perf_fu (j := 9) (by omega) hlen (by omega), ht]
  rfl
end
section
open Go.RowKit
theorem info_Receipt : (Tryz.prog.info? 43).map (fun i => (i.zero, i.size, i.bytes)) = some (some (.agg #[.string ByteArray.empty, .string ByteArray.empty, .int .i64 0]), 3, 40) := by kernel_rfl
end
end Go.Proofs.YtoccjgcokffkbaaGreat
