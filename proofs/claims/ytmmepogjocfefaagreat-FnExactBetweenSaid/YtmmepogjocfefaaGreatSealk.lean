/- SealOk. -/
import Derived.Test.YtmmepogjocfefaaGreatRoot
import Derived.Test.YtmmepogjocfefaaGreatHds4
namespace Go.Proofs.YtmmepogjocfefaaGreat
set_option linter.unusedVariables false
set_option linter.unusedSimpArgs false
open Go.RowKit

def sealFit (h : Hd) (z1 z2 : Int) (r1 r2 : ByteArray) : Bool := (h.size == z1) && (h.root.toList == r1.toList) && (h.taken == z2) && (h.troot.toList == r2.toList)
def sealOk (width z1 : Int) (l1 : List ByteArray) (z2 : Int) (l2 : List ByteArray) (h : Hd) : Bool := rngOk width z1 l1 && rngOk width z2 l2 && headOk width h && sealFit h z1 z2 (rrT width z1 l1) (rrT width z2 l2)

set_option maxRecDepth 100000 in
set_option maxHeartbeats 4000000 in
theorem specSealOk_c (width z1 z2 : Int) (A1 A2 : Option Addr) (c1 c2 lo1 hi1 lo2 hi2 m1 m2 : Nat) (l1 l2 : List ByteArray) (h : Hd) (w : World) (hR1 : Rd w lo1 hi1 A1 (strs l1)) (hR2 : Rd w lo2 hi2 A2 (strs l2)) (hn1 : l1.length = m1) (hn2 : l2.length = m2) (hm1 : m1 ≤ 1048576) (hm2 : m2 ≤ 1048576) (hz : h.bulk ≤ 1048576) :
  Calls Tryz.prog 71 #[.int .i64 width, .agg #[.int .i64 z1, .slice A1 m1 c1, .int .i64 z2, .slice A2 m2 c2, .int .i64 h.num, .int .i64 h.size, .string h.root, .int .i64 h.taken, .string h.troot]] w fun e w' => e = .returned (.bool (sealOk width z1 l1 z2 l2 h)) ∧ Below w.heap.size w w' := by
 have HC1 := Lib.hid (fun W (h : Rd W 0 W.heap.size A1 (strs l1)) => specRangeRoot_c width z1 A1 c1 0 W.heap.size m1 l1 W h hn1 hm1)
 have HC2 := Lib.hid (fun W (h : Rd W 0 W.heap.size A2 (strs l2)) => specRangeRoot_c width z2 A2 c2 0 W.heap.size m2 l2 W h hn2 hm2)
 have HC3 := Lib.hid (fun W => specHeadOk_c width h W hz)
 have HR1 : Hid (Rd w 0 w.heap.size A1 (strs l1)) := Lib.hid hR1.base
 have HR2 : Hid (Rd w 0 w.heap.size A2 (strs l2)) := Lib.hid hR2.base
 have HDEF : Hid (sealOk width z1 l1 z2 l2 h = (rngOk width z1 l1 && rngOk width z2 l2 && headOk width h && ((h.size == z1) && (h.root.toList == (rrT width z1 l1).toList) && (h.taken == z2) && (h.troot.toList == (rrT width z2 l2).toList)))) := Lib.hid rfl
 clear hR1 hR2 hn1 hn2
 generalize sealOk width z1 l1 z2 l2 h = so at *
 generalize rngOk width z1 l1 = q1 at *
 generalize rngOk width z2 l2 = q2 at *
 generalize headOk width h = q3 at *
 generalize rrT width z1 l1 = r1 at *
 generalize rrT width z2 l2 = r2 at *
 generalize rrN width z1 l1 = n1 at *
 generalize rrN width z2 l2 = n2 at *
 have HB : Hid (Below w.heap.size w w) := Below.refl _ _
 go_enter Tryz.func71, Tryz.ntmps71
 go_wp2_with fail
 refine calls_named (fun w1 hw => ?_)
 have hz1 : w.heap.size + 1 ≤ w1.heap.size := by rw [hw]; first | omega | (simp [World.setCell]; done) | (simp [World.setCell]; omega)
 have hzz1 : w.heap.size ≤ w1.heap.size := by omega
 have hbn : Below w.heap.size w w1 := by rw [hw]; exact (by ((repeat (first | ((with_reducible refine Below.alloc ?_ ?_ _); rotate_left 1; (focus (first | omega | (simp; done) | (simp; omega)))) | (with_reducible refine Below.drew ?_) | ((with_reducible refine Below.setCell ?_ ?_ _); rotate_left 1; (focus (first | omega | (simp; done) | (simp; omega)))))); exact Below.refl _ _))
 replace HB := Lib.hid (below_then HB.out hbn HB.out.size)
 clear hbn
 have HXs : Hid (NewBox w1 (w.heap.size) [.int .i64 z1, .slice A1 m1 c1, .int .i64 z2, .slice A2 m2 c2, .int .i64 h.num, .int .i64 h.size, .string h.root, .int .i64 h.taken, .string h.troot]) := by rw [Hid, hw]; exact ⟨by first | omega | (simp [World.setCell]; done) | (simp [World.setCell]; omega), fun o => by rcases o with _ | _ | _ | _ | _ | _ | _ | _ | _ | o <;> go_simp, fun o => by go_simp⟩
 have hxs := HXs.out.2.1
 have hfs := HXs.out.2.2
 have hks := HXs.out.1
 clear hw
 refine (HC1.out _ (HR1.out.below HB.out).base).mono ?_
 rintro e w2 ⟨rfl, hb⟩
 have hzw2 : w1.heap.size ≤ w2.heap.size := hb.size
 have hzzw2 : w.heap.size ≤ w2.heap.size := by omega
 replace HB := Lib.hid (below_then HB.out hb HB.out.size)
 replace HXs := Lib.hid (HXs.out.below hb)
 clear hxs hfs hks
 have hxs := HXs.out.2.1
 have hfs := HXs.out.2.2
 have hks := HXs.out.1
 clear hb
 go_wp2_with fail
 refine calls_named (fun w3 hw => ?_)
 have hz3 : w2.heap.size + 0 ≤ w3.heap.size := by rw [hw]; first | omega | (simp [World.setCell]; done) | (simp [World.setCell]; omega)
 have hzz3 : w.heap.size ≤ w3.heap.size := by omega
 have hbn : Below w2.heap.size w2 w3 := by rw [hw]; exact (by ((repeat (first | ((with_reducible refine Below.alloc ?_ ?_ _); rotate_left 1; (focus (first | omega | (simp; done) | (simp; omega)))) | (with_reducible refine Below.drew ?_) | ((with_reducible refine Below.setCell ?_ ?_ _); rotate_left 1; (focus (first | omega | (simp; done) | (simp; omega)))))); exact Below.refl _ _))
 replace HB := Lib.hid (below_then HB.out hbn HB.out.size)
 replace HXs := Lib.hid (HXs.out.below hbn)
 clear hxs hfs hks
 have hxs := HXs.out.2.1
 have hfs := HXs.out.2.2
 have hks := HXs.out.1
 clear hbn
 clear hw
 refine (HC2.out _ (HR2.out.below HB.out).base).mono ?_
 rintro e w4 ⟨rfl, hb⟩
 have hzw4 : w3.heap.size ≤ w4.heap.size := hb.size
 have hzzw4 : w.heap.size ≤ w4.heap.size := by omega
 replace HB := Lib.hid (below_then HB.out hb HB.out.size)
 replace HXs := Lib.hid (HXs.out.below hb)
 clear hxs hfs hks
 have hxs := HXs.out.2.1
 have hfs := HXs.out.2.2
 have hks := HXs.out.1
 clear hb
 rcases q1 with _ | _
 ·go_wp2
  go_ret
  exact ⟨ret_bool (by rw [HDEF.out]; rfl), HB.out⟩
 ·rcases q2 with _ | _
  ·go_wp2
   go_ret
   exact ⟨ret_bool (by rw [HDEF.out]; rfl), HB.out⟩
  ·skip
   go_wp2_with fail
   refine calls_named (fun w5 hw => ?_)
   have hz5 : w4.heap.size + 0 ≤ w5.heap.size := by rw [hw]; first | omega | (simp [World.setCell]; done) | (simp [World.setCell]; omega)
   have hzz5 : w.heap.size ≤ w5.heap.size := by omega
   have hbn : Below w4.heap.size w4 w5 := by rw [hw]; exact (by ((repeat (first | ((with_reducible refine Below.alloc ?_ ?_ _); rotate_left 1; (focus (first | omega | (simp; done) | (simp; omega)))) | (with_reducible refine Below.drew ?_) | ((with_reducible refine Below.setCell ?_ ?_ _); rotate_left 1; (focus (first | omega | (simp; done) | (simp; omega)))))); exact Below.refl _ _))
   replace HB := Lib.hid (below_then HB.out hbn HB.out.size)
   replace HXs := Lib.hid (HXs.out.below hbn)
   clear hxs hfs hks
   have hxs := HXs.out.2.1
   have hfs := HXs.out.2.2
   have hks := HXs.out.1
   clear hbn
   clear hw
   refine (HC3.out _).mono ?_
   rintro e w6 ⟨rfl, hb⟩
   have hzw6 : w5.heap.size ≤ w6.heap.size := hb.size
   have hzzw6 : w.heap.size ≤ w6.heap.size := by omega
   replace HB := Lib.hid (below_then HB.out hb HB.out.size)
   replace HXs := Lib.hid (HXs.out.below hb)
   clear hxs hfs hks
   have hxs := HXs.out.2.1
   have hfs := HXs.out.2.2
   have hks := HXs.out.1
   clear hb
   rcases q3 with _ | _
   ·go_wp2
    go_ret
    exact ⟨ret_bool (by rw [HDEF.out]; rfl), HB.out⟩
   ·rcases h1 : (h.size == z1) with _ | _ <;> rcases h2 : (h.root.toList == r1.toList) with _ | _ <;> rcases h3 : (h.taken == z2) with _ | _ <;> rcases h4 : (h.troot.toList == r2.toList) with _ | _
    all_goals
     rw [h1, h2, h3, h4] at HDEF
     go_wp2
     go_ret
     exact ⟨ret_bool (by rw [HDEF.out]; rfl), HB.out⟩
end Go.Proofs.YtmmepogjocfefaaGreat
