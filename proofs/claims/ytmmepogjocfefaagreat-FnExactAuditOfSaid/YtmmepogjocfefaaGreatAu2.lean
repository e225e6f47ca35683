/- AuditOf, of both. -/
import Derived.Test.YtmmepogjocfefaaGreatAu
namespace Go.Proofs.YtmmepogjocfefaaGreat
set_option linter.unusedVariables false
set_option linter.unusedSimpArgs false
open Go.RowKit
def aoZ (width : Int) (es : List Ent) (rs : List Rcp) (hs : List Hd) (z1 : Int) (l1 : List ByteArray) (z2 : Int) (l2 : List ByteArray) (h : Hd) (r : Rcp) (c : Int) : Int := if brkOk width es rs hs z1 l1 z2 l2 h then auZ rs hs r c else 0
def aoC (width : Int) (es : List Ent) (rs : List Rcp) (hs : List Hd) (z1 : Int) (l1 : List ByteArray) (z2 : Int) (l2 : List ByteArray) (h : Hd) (r : Rcp) (c : Int) : Int := if brkOk width es rs hs z1 l1 z2 l2 h then auC rs hs r c else 1
def aoL (width : Int) (es : List Ent) (rs : List Rcp) (hs : List Hd) (z1 : Int) (l1 : List ByteArray) (z2 : Int) (l2 : List ByteArray) (h : Hd) (r : Rcp) (c : Int) : List ByteArray := if brkOk width es rs hs z1 l1 z2 l2 h then auL width rs hs r c else []
theorem aoL_len {width : Int} {es : List Ent} {rs : List Rcp} {hs : List Hd} {z1 : Int} {l1 : List ByteArray} {z2 : Int} {l2 : List ByteArray} {h : Hd} {r : Rcp} {c : Int} : (aoL width es rs hs z1 l1 z2 l2 h r c).length ≤ 512 := by
 rw [aoL]
 split
 ·rename_i hb
  have hp := brkOk_parts hb
  rw [auL]
  split
  ·have h5 := rcpsOk_len hp.rcps
   have hl : ((takenM width rs).take c.toNat).length ≤ 512 := by rw [List.length_take, takenM_len]; omega
   exact Nat.le_trans (inc_le rfl hl) hl
  ·exact Nat.zero_le _
 ·exact Nat.zero_le _
set_option maxRecDepth 100000 in
set_option maxHeartbeats 4000000 in
theorem implAuditOf_c (r : Rcp) (hrf : r.fits) (c : Int) (width z1 z2 : Int) (E R H A1 A2 : Option Addr) (ne nr nh ce cr ch c1 c2 lo1 hi1 lo2 hi2 lo3 hi3 lo4 hi4 lo5 hi5 m1 m2 : Nat) (es : List Ent) (rs : List Rcp) (hs : List Hd) (l1 l2 : List ByteArray) (h : Hd) (w : World) (hE : Rd w lo1 hi1 E (ents es)) (hR : Rd w lo2 hi2 R (rcps rs)) (hH : Rd w lo3 hi3 H (hds hs)) (hA1 : Rd w lo4 hi4 A1 (strs l1)) (hA2 : Rd w lo5 hi5 A2 (strs l2)) (hne : es.length = ne) (hnr : rs.length = nr) (hnh : hs.length = nh) (hm1 : l1.length = m1) (hm2 : l2.length = m2)
  (b1 : ne ≤ 1048576) (b2 : nr ≤ 1048576) (b3 : nh + sumBy Hd.bulk hs ≤ 1048576) (b4 : m1 ≤ 1048576) (b5 : m2 ≤ 1048576) (b6 : ne ≤ ce) (b7 : nr ≤ cr) (b8 : nh ≤ ch) (hfe : ∀ x ∈ es, x.fits) (hfr : ∀ x ∈ rs, x.fits) (hfh : ∀ x ∈ hs, x.fits) (hf : h.fits) (hsb : h.bulk ≤ 1048576) :
  Calls Tryz.prog 15 #[.agg #[.int .i64 width, .slice E ne ce, .slice R nr cr, .slice H nh ch, .int .i64 z1, .slice A1 m1 c1, .int .i64 z2, .slice A2 m2 c2, .int .i64 h.num, .int .i64 h.size, .string h.root, .int .i64 h.taken, .string h.troot], .agg #[.string r.reader, .string r.topic, .int .i64 r.index], .int .i64 c] w (AuPost w (aoZ width es rs hs z1 l1 z2 l2 h r c) (aoL width es rs hs z1 l1 z2 l2 h r c) (aoC width es rs hs z1 l1 z2 l2 h r c)) := by
 have HBK := Lib.hid (fun W (r0 : Rd W 0 W.heap.size E (ents es)) (r1 : Rd W 0 W.heap.size R (rcps rs)) (r2 : Rd W 0 W.heap.size H (hds hs)) (r3 : Rd W 0 W.heap.size A1 (strs l1)) (r4 : Rd W 0 W.heap.size A2 (strs l2)) => implBrokerOk_c width z1 z2 E R H A1 A2 ne nr nh ce cr ch c1 c2 0 W.heap.size 0 W.heap.size 0 W.heap.size 0 W.heap.size 0 W.heap.size m1 m2 es rs hs l1 l2 h W r0 r1 r2 r3 r4 hne hnr hnh hm1 hm2 b1 b2 b3 b4 b5 b6 b7 b8 hfe hfr hfh hf hsb)
 have HD0 : Hid (aoZ width es rs hs z1 l1 z2 l2 h r c = if brkOk width es rs hs z1 l1 z2 l2 h then auZ rs hs r c else 0) := Lib.hid rfl
 have HD1 : Hid (aoL width es rs hs z1 l1 z2 l2 h r c = if brkOk width es rs hs z1 l1 z2 l2 h then auL width rs hs r c else []) := Lib.hid rfl
 have HD3 : Hid (aoC width es rs hs z1 l1 z2 l2 h r c = if brkOk width es rs hs z1 l1 z2 l2 h then auC rs hs r c else 1) := Lib.hid rfl
 have HBC := Lib.hid (fun (hb : brkOk width es rs hs z1 l1 z2 l2 h = true) W p (q : NewBox W p [.int .i64 width, .slice E ne ce, .slice R nr cr, .slice H nh ch, .int .i64 z1, .slice A1 m1 c1, .int .i64 z2, .slice A2 m2 c2, .int .i64 h.num, .int .i64 h.size, .string h.root, .int .i64 h.taken, .string h.troot]) (r1 : Rd W 0 W.heap.size R (rcps rs)) (r2 : Rd W 0 W.heap.size H (hds hs)) => audit_c width z1 z2 p E R H A1 A2 ne nr nh ce cr ch c1 c2 0 W.heap.size 0 W.heap.size m1 m2 es rs hs h r c W q r1 r2 hnr hnh b2 (by omega) b7 hfr hrf (brkOk_parts hb))
 generalize brkOk width es rs hs z1 l1 z2 l2 h = bk at *
 generalize aoZ width es rs hs z1 l1 z2 l2 h r c = v0 at *
 generalize aoL width es rs hs z1 l1 z2 l2 h r c = v1 at *
 generalize aoC width es rs hs z1 l1 z2 l2 h r c = v3 at *
 generalize auZ rs hs r c = t0 at *
 generalize auL width rs hs r c = t1 at *
 generalize auC rs hs r c = t3 at *
 have HB : Hid (Below w.heap.size w w) := Below.refl _ _
 have HOE : Hid (Rd w (0) (w.heap.size) (E) (ents es)) := Rd.base hE
 have HOR : Hid (Rd w (0) (w.heap.size) (R) (rcps rs)) := Rd.base hR
 have HOH : Hid (Rd w (0) (w.heap.size) (H) (hds hs)) := Rd.base hH
 have HOX : Hid (Rd w (0) (w.heap.size) (A1) (strs l1)) := Rd.base hA1
 have HOY : Hid (Rd w (0) (w.heap.size) (A2) (strs l2)) := Rd.base hA2
 clear hE hR hH hA1 hA2
 clear hne hnr hnh hm1 hm2 hfe hfr hfh hf hrf
 go_enter Tryz.func15, Tryz.ntmps15
 go_wp2_with fail
 refine calls_named (fun w1 hw => ?_)
 have hz1 : w.heap.size + 2 ≤ w1.heap.size := by rw [hw]; first | omega | (simp [World.setCell]; done) | (simp [World.setCell]; omega)
 have hzz1 : w.heap.size ≤ w1.heap.size := by omega
 have hbn : Below w.heap.size w w1 := by rw [hw]; exact (by ((repeat (first | ((with_reducible refine Below.alloc ?_ ?_ _); rotate_left 1; (focus (first | omega | (simp; done) | (simp; omega)))) | (with_reducible refine Below.drew ?_) | ((with_reducible refine Below.setCell ?_ ?_ _); rotate_left 1; (focus (first | omega | (simp; done) | (simp; omega)))))); exact Below.refl _ _))
 replace HB := Lib.hid (below_then HB.out hbn HB.out.size)
 replace HOE := Lib.hid (HOE.out.below hbn)
 replace HOR := Lib.hid (HOR.out.below hbn)
 replace HOH := Lib.hid (HOH.out.below hbn)
 replace HOX := Lib.hid (HOX.out.below hbn)
 replace HOY := Lib.hid (HOY.out.below hbn)
 clear hbn
 have HXb : Hid (NewBox w1 (w.heap.size) [.int .i64 width, .slice E ne ce, .slice R nr cr, .slice H nh ch, .int .i64 z1, .slice A1 m1 c1, .int .i64 z2, .slice A2 m2 c2, .int .i64 h.num, .int .i64 h.size, .string h.root, .int .i64 h.taken, .string h.troot]) := by rw [Hid, hw]; exact ⟨by first | omega | (simp [World.setCell]; done) | (simp [World.setCell]; omega), fun o => by rcases o with _ | _ | _ | _ | _ | _ | _ | _ | _ | _ | _ | _ | _ | o <;> go_simp, fun o => by go_simp⟩
 have hxb := HXb.out.2.1
 have hfb := HXb.out.2.2
 have hkb := HXb.out.1
 have HXr : Hid (NewBox w1 (w.heap.size + 1) [.string r.reader, .string r.topic, .int .i64 r.index]) := by rw [Hid, hw]; exact ⟨by first | omega | (simp [World.setCell]; done) | (simp [World.setCell]; omega), fun o => by rcases o with _ | _ | _ | o <;> go_simp, fun o => by go_simp⟩
 have hxr := HXr.out.2.1
 have hfr := HXr.out.2.2
 have hkr := HXr.out.1
 clear hw
 refine (HBK.out _ HOE.out.base HOR.out.base HOH.out.base HOX.out.base HOY.out.base).mono ?_
 rintro e w2 ⟨rfl, hb⟩
 have hzw2 : w1.heap.size ≤ w2.heap.size := hb.size
 have hzzw2 : w.heap.size ≤ w2.heap.size := by omega
 replace HB := Lib.hid (below_then HB.out hb HB.out.size)
 replace HOE := Lib.hid (HOE.out.below hb)
 replace HOR := Lib.hid (HOR.out.below hb)
 replace HOH := Lib.hid (HOH.out.below hb)
 replace HOX := Lib.hid (HOX.out.below hb)
 replace HOY := Lib.hid (HOY.out.below hb)
 replace HXb := Lib.hid (HXb.out.below hb)
 clear hxb hfb hkb
 have hxb := HXb.out.2.1
 have hfb := HXb.out.2.2
 have hkb := HXb.out.1
 replace HXr := Lib.hid (HXr.out.below hb)
 clear hxr hfr hkr
 have hxr := HXr.out.2.1
 have hfr := HXr.out.2.2
 have hkr := HXr.out.1
 clear hb
 clear HOX
 clear HOY
 clear HOE
 clear HBK
 rcases bk with _ | _
 ·have HEQ : Hid (v3 = 1 ∧ v0 = 0 ∧ v1 = []) := Lib.hid ⟨HD3.out, HD0.out, HD1.out⟩
  clear HBC HD0 HD1 HD3
  go_wp2
  refine bodyPost_named (fun w3 hw => ?_)
  have hz3 : w2.heap.size + 0 ≤ w3.heap.size := by rw [hw]; first | omega | (simp [World.setCell]; done) | (simp [World.setCell]; omega)
  have hzz3 : w.heap.size ≤ w3.heap.size := by omega
  have hbn : Below w2.heap.size w2 w3 := by rw [hw]; exact (by ((repeat (first | ((with_reducible refine Below.alloc ?_ ?_ _); rotate_left 1; (focus (first | omega | (simp; done) | (simp; omega)))) | (with_reducible refine Below.drew ?_) | ((with_reducible refine Below.setCell ?_ ?_ _); rotate_left 1; (focus (first | omega | (simp; done) | (simp; omega)))))); exact Below.refl _ _))
  replace HB := Lib.hid (below_then HB.out hbn HB.out.size)
  replace HOR := Lib.hid (HOR.out.below hbn)
  replace HOH := Lib.hid (HOH.out.below hbn)
  replace HXb := Lib.hid (HXb.out.below hbn)
  clear hxb hfb hkb
  have hxb := HXb.out.2.1
  have hfb := HXb.out.2.2
  have hkb := HXb.out.1
  replace HXr := Lib.hid (HXr.out.below hbn)
  clear hxr hfr hkr
  have hxr := HXr.out.2.1
  have hfr := HXr.out.2.2
  have hkr := HXr.out.1
  clear hbn
  clear hw
  refine bodyPost_ret (v := .tuple #[.int .i64 0, .slice none 0 0, .int .i64 1]) (by simp [results, Tryz.results15, go_sem]) rfl ?_
  rw [HEQ.out.1, HEQ.out.2.1, HEQ.out.2.2]
  exact au_none _ _ HB.out 1
 ·have e0 : v0 = t0 := HD0.out
  have e1 : v1 = t1 := HD1.out
  have e3 : v3 = t3 := HD3.out
  subst e0 e1 e3
  clear HD0 HD1 HD3
  go_wp2_with fail
  refine calls_named (fun w3 hw => ?_)
  have hz3 : w2.heap.size + 0 ≤ w3.heap.size := by rw [hw]; first | omega | (simp [World.setCell]; done) | (simp [World.setCell]; omega)
  have hzz3 : w.heap.size ≤ w3.heap.size := by omega
  have hbn : Below w2.heap.size w2 w3 := by rw [hw]; exact (by ((repeat (first | ((with_reducible refine Below.alloc ?_ ?_ _); rotate_left 1; (focus (first | omega | (simp; done) | (simp; omega)))) | (with_reducible refine Below.drew ?_) | ((with_reducible refine Below.setCell ?_ ?_ _); rotate_left 1; (focus (first | omega | (simp; done) | (simp; omega)))))); exact Below.refl _ _))
  replace HB := Lib.hid (below_then HB.out hbn HB.out.size)
  replace HOR := Lib.hid (HOR.out.below hbn)
  replace HOH := Lib.hid (HOH.out.below hbn)
  replace HXb := Lib.hid (HXb.out.below hbn)
  clear hxb hfb hkb
  have hxb := HXb.out.2.1
  have hfb := HXb.out.2.2
  have hkb := HXb.out.1
  replace HXr := Lib.hid (HXr.out.below hbn)
  clear hxr hfr hkr
  have hxr := HXr.out.2.1
  have hfr := HXr.out.2.2
  have hkr := HXr.out.1
  clear hbn
  clear hw
  refine (HBC.out (by first | trivial | rfl) _ _ HXb.out HOR.out.base HOH.out.base).mono ?_
  rintro e w4 ⟨⟨A3, c3, rfl, ho⟩, hb⟩
  have hzw4 : w3.heap.size ≤ w4.heap.size := hb.size
  have hzzw4 : w.heap.size ≤ w4.heap.size := by omega
  replace HB := Lib.hid (below_then HB.out hb HB.out.size)
  replace HOR := Lib.hid (HOR.out.below hb)
  replace HOH := Lib.hid (HOH.out.below hb)
  replace HXb := Lib.hid (HXb.out.below hb)
  clear hxb hfb hkb
  have hxb := HXb.out.2.1
  have hfb := HXb.out.2.2
  have hkb := HXb.out.1
  replace HXr := Lib.hid (HXr.out.below hb)
  clear hxr hfr hkr
  have hxr := HXr.out.2.1
  have hfr := HXr.out.2.2
  have hkr := HXr.out.1
  clear hb
  have HOU : Hid (Own w4 (w3.heap.size) (w4.heap.size) (A3) (strs v1)) := ho
  clear ho HBC
  go_wp2
  refine bodyPost_named (fun w5 hw => ?_)
  have hz5 : w4.heap.size + 0 ≤ w5.heap.size := by rw [hw]; first | omega | (simp [World.setCell]; done) | (simp [World.setCell]; omega)
  have hzz5 : w.heap.size ≤ w5.heap.size := by omega
  have hbn : Below w4.heap.size w4 w5 := by rw [hw]; exact (by ((repeat (first | ((with_reducible refine Below.alloc ?_ ?_ _); rotate_left 1; (focus (first | omega | (simp; done) | (simp; omega)))) | (with_reducible refine Below.drew ?_) | ((with_reducible refine Below.setCell ?_ ?_ _); rotate_left 1; (focus (first | omega | (simp; done) | (simp; omega)))))); exact Below.refl _ _))
  replace HB := Lib.hid (below_then HB.out hbn HB.out.size)
  replace HOR := Lib.hid (HOR.out.below hbn)
  replace HOH := Lib.hid (HOH.out.below hbn)
  replace HOU := Lib.hid (HOU.out.below hbn)
  replace HXb := Lib.hid (HXb.out.below hbn)
  clear hxb hfb hkb
  have hxb := HXb.out.2.1
  have hfb := HXb.out.2.2
  have hkb := HXb.out.1
  replace HXr := Lib.hid (HXr.out.below hbn)
  clear hxr hfr hkr
  have hxr := HXr.out.2.1
  have hfr := HXr.out.2.2
  have hkr := HXr.out.1
  clear hbn
  clear hw
  refine bodyPost_ret (v := .tuple #[.int .i64 v0, .slice A3 v1.length c3, .int .i64 v3]) (by simp [results, Tryz.results15, go_sem]) rfl ?_
  exact ⟨⟨A3, c3, rfl, HOU.out.mono (by omega) (by omega) (by omega)⟩, HB.out⟩
set_option maxRecDepth 100000 in
set_option maxHeartbeats 4000000 in
theorem specAuditOf_c (r : Rcp) (hrf : r.fits) (c : Int) (width z1 z2 : Int) (E R H A1 A2 : Option Addr) (ne nr nh ce cr ch c1 c2 lo1 hi1 lo2 hi2 lo3 hi3 lo4 hi4 lo5 hi5 m1 m2 : Nat) (es : List Ent) (rs : List Rcp) (hs : List Hd) (l1 l2 : List ByteArray) (h : Hd) (w : World) (hE : Rd w lo1 hi1 E (ents es)) (hR : Rd w lo2 hi2 R (rcps rs)) (hH : Rd w lo3 hi3 H (hds hs)) (hA1 : Rd w lo4 hi4 A1 (strs l1)) (hA2 : Rd w lo5 hi5 A2 (strs l2)) (hne : es.length = ne) (hnr : rs.length = nr) (hnh : hs.length = nh) (hm1 : l1.length = m1) (hm2 : l2.length = m2)
  (b1 : ne ≤ 1048576) (b2 : nr ≤ 1048576) (b3 : nh + sumBy Hd.bulk hs ≤ 1048576) (b4 : m1 ≤ 1048576) (b5 : m2 ≤ 1048576) (b6 : ne ≤ ce) (b7 : nr ≤ cr) (b8 : nh ≤ ch) (hfe : ∀ x ∈ es, x.fits) (hfr : ∀ x ∈ rs, x.fits) (hfh : ∀ x ∈ hs, x.fits) (hf : h.fits) (hsb : h.bulk ≤ 1048576) :
  Calls Tryz.prog 12 #[.agg #[.int .i64 width, .slice E ne ce, .slice R nr cr, .slice H nh ch, .int .i64 z1, .slice A1 m1 c1, .int .i64 z2, .slice A2 m2 c2, .int .i64 h.num, .int .i64 h.size, .string h.root, .int .i64 h.taken, .string h.troot], .agg #[.string r.reader, .string r.topic, .int .i64 r.index], .int .i64 c] w (AuPost w (aoZ width es rs hs z1 l1 z2 l2 h r c) (aoL width es rs hs z1 l1 z2 l2 h r c) (aoC width es rs hs z1 l1 z2 l2 h r c)) := by
 have HBK := Lib.hid (fun W (r0 : Rd W 0 W.heap.size E (ents es)) (r1 : Rd W 0 W.heap.size R (rcps rs)) (r2 : Rd W 0 W.heap.size H (hds hs)) (r3 : Rd W 0 W.heap.size A1 (strs l1)) (r4 : Rd W 0 W.heap.size A2 (strs l2)) => specBrokerOk_c width z1 z2 E R H A1 A2 ne nr nh ce cr ch c1 c2 0 W.heap.size 0 W.heap.size 0 W.heap.size 0 W.heap.size 0 W.heap.size m1 m2 es rs hs l1 l2 h W r0 r1 r2 r3 r4 hne hnr hnh hm1 hm2 b1 b2 b3 b4 b5 b6 b7 b8 hfe hfr hfh hf hsb)
 have HD0 : Hid (aoZ width es rs hs z1 l1 z2 l2 h r c = if brkOk width es rs hs z1 l1 z2 l2 h then auZ rs hs r c else 0) := Lib.hid rfl
 have HD1 : Hid (aoL width es rs hs z1 l1 z2 l2 h r c = if brkOk width es rs hs z1 l1 z2 l2 h then auL width rs hs r c else []) := Lib.hid rfl
 have HD3 : Hid (aoC width es rs hs z1 l1 z2 l2 h r c = if brkOk width es rs hs z1 l1 z2 l2 h then auC rs hs r c else 1) := Lib.hid rfl
 have HBC := Lib.hid (fun (hb : brkOk width es rs hs z1 l1 z2 l2 h = true) W (r1 : Rd W 0 W.heap.size R (rcps rs)) (r2 : Rd W 0 W.heap.size H (hds hs)) => l12Audit_c width z1 z2 E R H A1 A2 ne nr nh ce cr ch c1 c2 0 W.heap.size 0 W.heap.size m1 m2 es rs hs h r c W r1 r2 hnr hnh b2 (by omega) b7 hfr hrf (brkOk_parts hb))
 generalize brkOk width es rs hs z1 l1 z2 l2 h = bk at *
 generalize aoZ width es rs hs z1 l1 z2 l2 h r c = v0 at *
 generalize aoL width es rs hs z1 l1 z2 l2 h r c = v1 at *
 generalize aoC width es rs hs z1 l1 z2 l2 h r c = v3 at *
 generalize auZ rs hs r c = t0 at *
 generalize auL width rs hs r c = t1 at *
 generalize auC rs hs r c = t3 at *
 have HB : Hid (Below w.heap.size w w) := Below.refl _ _
 have HOE : Hid (Rd w (0) (w.heap.size) (E) (ents es)) := Rd.base hE
 have HOR : Hid (Rd w (0) (w.heap.size) (R) (rcps rs)) := Rd.base hR
 have HOH : Hid (Rd w (0) (w.heap.size) (H) (hds hs)) := Rd.base hH
 have HOX : Hid (Rd w (0) (w.heap.size) (A1) (strs l1)) := Rd.base hA1
 have HOY : Hid (Rd w (0) (w.heap.size) (A2) (strs l2)) := Rd.base hA2
 clear hE hR hH hA1 hA2
 clear hne hnr hnh hm1 hm2 hfe hfr hfh hf hrf
 go_enter Tryz.func12, Tryz.ntmps12
 go_wp2_with fail
 refine calls_named (fun w1 hw => ?_)
 have hz1 : w.heap.size + 2 ≤ w1.heap.size := by rw [hw]; first | omega | (simp [World.setCell]; done) | (simp [World.setCell]; omega)
 have hzz1 : w.heap.size ≤ w1.heap.size := by omega
 have hbn : Below w.heap.size w w1 := by rw [hw]; exact (by ((repeat (first | ((with_reducible refine Below.alloc ?_ ?_ _); rotate_left 1; (focus (first | omega | (simp; done) | (simp; omega)))) | (with_reducible refine Below.drew ?_) | ((with_reducible refine Below.setCell ?_ ?_ _); rotate_left 1; (focus (first | omega | (simp; done) | (simp; omega)))))); exact Below.refl _ _))
 replace HB := Lib.hid (below_then HB.out hbn HB.out.size)
 replace HOE := Lib.hid (HOE.out.below hbn)
 replace HOR := Lib.hid (HOR.out.below hbn)
 replace HOH := Lib.hid (HOH.out.below hbn)
 replace HOX := Lib.hid (HOX.out.below hbn)
 replace HOY := Lib.hid (HOY.out.below hbn)
 clear hbn
 have HXb : Hid (NewBox w1 (w.heap.size) [.int .i64 width, .slice E ne ce, .slice R nr cr, .slice H nh ch, .int .i64 z1, .slice A1 m1 c1, .int .i64 z2, .slice A2 m2 c2, .int .i64 h.num, .int .i64 h.size, .string h.root, .int .i64 h.taken, .string h.troot]) := by rw [Hid, hw]; exact ⟨by first | omega | (simp [World.setCell]; done) | (simp [World.setCell]; omega), fun o => by rcases o with _ | _ | _ | _ | _ | _ | _ | _ | _ | _ | _ | _ | _ | o <;> go_simp, fun o => by go_simp⟩
 have hxb := HXb.out.2.1
 have hfb := HXb.out.2.2
 have hkb := HXb.out.1
 have HXr : Hid (NewBox w1 (w.heap.size + 1) [.string r.reader, .string r.topic, .int .i64 r.index]) := by rw [Hid, hw]; exact ⟨by first | omega | (simp [World.setCell]; done) | (simp [World.setCell]; omega), fun o => by rcases o with _ | _ | _ | o <;> go_simp, fun o => by go_simp⟩
 have hxr := HXr.out.2.1
 have hfr := HXr.out.2.2
 have hkr := HXr.out.1
 clear hw
 refine (HBK.out _ HOE.out.base HOR.out.base HOH.out.base HOX.out.base HOY.out.base).mono ?_
 rintro e w2 ⟨rfl, hb⟩
 have hzw2 : w1.heap.size ≤ w2.heap.size := hb.size
 have hzzw2 : w.heap.size ≤ w2.heap.size := by omega
 replace HB := Lib.hid (below_then HB.out hb HB.out.size)
 replace HOE := Lib.hid (HOE.out.below hb)
 replace HOR := Lib.hid (HOR.out.below hb)
 replace HOH := Lib.hid (HOH.out.below hb)
 replace HOX := Lib.hid (HOX.out.below hb)
 replace HOY := Lib.hid (HOY.out.below hb)
 replace HXb := Lib.hid (HXb.out.below hb)
 clear hxb hfb hkb
 have hxb := HXb.out.2.1
 have hfb := HXb.out.2.2
 have hkb := HXb.out.1
 replace HXr := Lib.hid (HXr.out.below hb)
 clear hxr hfr hkr
 have hxr := HXr.out.2.1
 have hfr := HXr.out.2.2
 have hkr := HXr.out.1
 clear hb
 clear HOX
 clear HOY
 clear HOE
 clear HBK
 rcases bk with _ | _
 ·have HEQ : Hid (v3 = 1 ∧ v0 = 0 ∧ v1 = []) := Lib.hid ⟨HD3.out, HD0.out, HD1.out⟩
  clear HBC HD0 HD1 HD3
  go_wp2
  refine bodyPost_named (fun w3 hw => ?_)
  have hz3 : w2.heap.size + 1 ≤ w3.heap.size := by rw [hw]; first | omega | (simp [World.setCell]; done) | (simp [World.setCell]; omega)
  have hzz3 : w.heap.size ≤ w3.heap.size := by omega
  have hbn : Below w2.heap.size w2 w3 := by rw [hw]; exact (by ((repeat (first | ((with_reducible refine Below.alloc ?_ ?_ _); rotate_left 1; (focus (first | omega | (simp; done) | (simp; omega)))) | (with_reducible refine Below.drew ?_) | ((with_reducible refine Below.setCell ?_ ?_ _); rotate_left 1; (focus (first | omega | (simp; done) | (simp; omega)))))); exact Below.refl _ _))
  replace HB := Lib.hid (below_then HB.out hbn HB.out.size)
  replace HOR := Lib.hid (HOR.out.below hbn)
  replace HOH := Lib.hid (HOH.out.below hbn)
  replace HXb := Lib.hid (HXb.out.below hbn)
  clear hxb hfb hkb
  have hxb := HXb.out.2.1
  have hfb := HXb.out.2.2
  have hkb := HXb.out.1
  replace HXr := Lib.hid (HXr.out.below hbn)
  clear hxr hfr hkr
  have hxr := HXr.out.2.1
  have hfr := HXr.out.2.2
  have hkr := HXr.out.1
  clear hbn
  have HXe1 : Hid (NewBox w3 (w2.heap.size) []) := by rw [Hid, hw]; exact ⟨by first | omega | (simp [World.setCell]; done) | (simp [World.setCell]; omega), fun o => by rcases o with o <;> go_simp, fun o => by go_simp⟩
  have hxe1 := HXe1.out.2.1
  have hfe1 := HXe1.out.2.2
  have hke1 := HXe1.out.1
  clear hw
  refine bodyPost_ret (v := .tuple #[.int .i64 0, .slice (some ⟨w2.heap.size, 0, none⟩) 0 0, .int .i64 1]) (by simp [results, Tryz.results12, go_sem]) rfl ?_
  rw [HEQ.out.1, HEQ.out.2.1, HEQ.out.2.2]
  exact au_none _ _ HB.out 1
 ·have e0 : v0 = t0 := HD0.out
  have e1 : v1 = t1 := HD1.out
  have e3 : v3 = t3 := HD3.out
  subst e0 e1 e3
  clear HD0 HD1 HD3
  go_wp2_with fail
  refine calls_named (fun w3 hw => ?_)
  have hz3 : w2.heap.size + 0 ≤ w3.heap.size := by rw [hw]; first | omega | (simp [World.setCell]; done) | (simp [World.setCell]; omega)
  have hzz3 : w.heap.size ≤ w3.heap.size := by omega
  have hbn : Below w2.heap.size w2 w3 := by rw [hw]; exact (by ((repeat (first | ((with_reducible refine Below.alloc ?_ ?_ _); rotate_left 1; (focus (first | omega | (simp; done) | (simp; omega)))) | (with_reducible refine Below.drew ?_) | ((with_reducible refine Below.setCell ?_ ?_ _); rotate_left 1; (focus (first | omega | (simp; done) | (simp; omega)))))); exact Below.refl _ _))
  replace HB := Lib.hid (below_then HB.out hbn HB.out.size)
  replace HOR := Lib.hid (HOR.out.below hbn)
  replace HOH := Lib.hid (HOH.out.below hbn)
  replace HXb := Lib.hid (HXb.out.below hbn)
  clear hxb hfb hkb
  have hxb := HXb.out.2.1
  have hfb := HXb.out.2.2
  have hkb := HXb.out.1
  replace HXr := Lib.hid (HXr.out.below hbn)
  clear hxr hfr hkr
  have hxr := HXr.out.2.1
  have hfr := HXr.out.2.2
  have hkr := HXr.out.1
  clear hbn
  clear hw
  refine (HBC.out (by first | trivial | rfl) _ HOR.out.base HOH.out.base).mono ?_
  rintro e w4 ⟨⟨A3, c3, rfl, ho⟩, hb⟩
  have hzw4 : w3.heap.size ≤ w4.heap.size := hb.size
  have hzzw4 : w.heap.size ≤ w4.heap.size := by omega
  replace HB := Lib.hid (below_then HB.out hb HB.out.size)
  replace HOR := Lib.hid (HOR.out.below hb)
  replace HOH := Lib.hid (HOH.out.below hb)
  replace HXb := Lib.hid (HXb.out.below hb)
  clear hxb hfb hkb
  have hxb := HXb.out.2.1
  have hfb := HXb.out.2.2
  have hkb := HXb.out.1
  replace HXr := Lib.hid (HXr.out.below hb)
  clear hxr hfr hkr
  have hxr := HXr.out.2.1
  have hfr := HXr.out.2.2
  have hkr := HXr.out.1
  clear hb
  have HOU : Hid (Own w4 (w3.heap.size) (w4.heap.size) (A3) (strs v1)) := ho
  clear ho HBC
  go_wp2
  refine bodyPost_named (fun w5 hw => ?_)
  have hz5 : w4.heap.size + 0 ≤ w5.heap.size := by rw [hw]; first | omega | (simp [World.setCell]; done) | (simp [World.setCell]; omega)
  have hzz5 : w.heap.size ≤ w5.heap.size := by omega
  have hbn : Below w4.heap.size w4 w5 := by rw [hw]; exact (by ((repeat (first | ((with_reducible refine Below.alloc ?_ ?_ _); rotate_left 1; (focus (first | omega | (simp; done) | (simp; omega)))) | (with_reducible refine Below.drew ?_) | ((with_reducible refine Below.setCell ?_ ?_ _); rotate_left 1; (focus (first | omega | (simp; done) | (simp; omega)))))); exact Below.refl _ _))
  replace HB := Lib.hid (below_then HB.out hbn HB.out.size)
  replace HOR := Lib.hid (HOR.out.below hbn)
  replace HOH := Lib.hid (HOH.out.below hbn)
  replace HOU := Lib.hid (HOU.out.below hbn)
  replace HXb := Lib.hid (HXb.out.below hbn)
  clear hxb hfb hkb
  have hxb := HXb.out.2.1
  have hfb := HXb.out.2.2
  have hkb := HXb.out.1
  replace HXr := Lib.hid (HXr.out.below hbn)
  clear hxr hfr hkr
  have hxr := HXr.out.2.1
  have hfr := HXr.out.2.2
  have hkr := HXr.out.1
  clear hbn
  clear hw
  refine bodyPost_ret (v := .tuple #[.int .i64 v0, .slice A3 v1.length c3, .int .i64 v3]) (by simp [results, Tryz.results12, go_sem]) rfl ?_
  exact ⟨⟨A3, c3, rfl, HOU.out.mono (by omega) (by omega) (by omega)⟩, HB.out⟩
end Go.Proofs.YtmmepogjocfefaaGreat
