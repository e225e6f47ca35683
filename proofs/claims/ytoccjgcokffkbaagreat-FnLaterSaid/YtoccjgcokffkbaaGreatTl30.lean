/- Part 30 of the proof of FnLater: lemmas and contracts. -/
import Derived.Test.YtoccjgcokffkbaaGreatTl29
import Derived.Test.YtoccjgcokffkbaaGreatTl27
import Derived.Test.YtoccjgcokffkbaaGreatTl28
import Derived.Test.YtoccjgcokffkbaaGreatTl15
import Derived.Test.YtoccjgcokffkbaaGreatTl14
namespace Go.Proofs.YtoccjgcokffkbaaGreat
set_option linter.unusedVariables false
set_option linter.unusedSimpArgs false
set_option maxHeartbeats 20000000
section
open Go.RowKit
def hfH (width : Int) (es : List Ent) (rs : List Rcp) (hs : List Hd) (z1 : Int) (l1 : List ByteArray) (z2 : Int) (l2 : List ByteArray) (h : Hd) (a c : Int) : Hd := if brkOk width es rs hs z1 l1 z2 l2 h then frH (lastHd hs) a c else noHd
def hfC (width : Int) (es : List Ent) (rs : List Rcp) (hs : List Hd) (z1 : Int) (l1 : List ByteArray) (z2 : Int) (l2 : List ByteArray) (h : Hd) (a c : Int) : Int := if brkOk width es rs hs z1 l1 z2 l2 h then frC (lastHd hs) a c else 1
def hfL1 (width : Int) (es : List Ent) (rs : List Rcp) (hs : List Hd) (z1 : Int) (l1 : List ByteArray) (z2 : Int) (l2 : List ByteArray) (h : Hd) (a c : Int) : List ByteArray := if brkOk width es rs hs z1 l1 z2 l2 h then fr1 width es (lastHd hs) a c else []
def hfL2 (width : Int) (es : List Ent) (rs : List Rcp) (hs : List Hd) (z1 : Int) (l1 : List ByteArray) (z2 : Int) (l2 : List ByteArray) (h : Hd) (a c : Int) : List ByteArray := if brkOk width es rs hs z1 l1 z2 l2 h then fr2 width rs (lastHd hs) a c else []
set_option maxRecDepth 100000 in
theorem implHeadFrom_c (a c : Int) (width z1 z2 : Int) (E R H A1 A2 : Option Addr) (ne nr nh ce cr ch c1 c2 lo1 hi1 lo2 hi2 lo3 hi3 lo4 hi4 lo5 hi5 m1 m2 : Nat) (es : List Ent) (rs : List Rcp) (hs : List Hd) (l1 l2 : List ByteArray) (h : Hd) (w : World) (hE : Rd w lo1 hi1 E (ents es)) (hR : Rd w lo2 hi2 R (rcps rs)) (hH : Rd w lo3 hi3 H (hds hs)) (hA1 : Rd w lo4 hi4 A1 (strs l1)) (hA2 : Rd w lo5 hi5 A2 (strs l2)) (hne : es.length = ne) (hnr : rs.length = nr) (hnh : hs.length = nh) (hm1 : l1.length = m1) (hm2 : l2.length = m2)
  (b1 : ne ≤ 1048576) (b2 : nr ≤ 1048576) (b3 : nh + sumBy Hd.bulk hs ≤ 1048576) (b4 : m1 ≤ 1048576) (b5 : m2 ≤ 1048576) (b6 : ne ≤ ce) (b7 : nr ≤ cr) (b8 : nh ≤ ch) (hfe : ∀ x ∈ es, x.fits) (hfr : ∀ x ∈ rs, x.fits) (hfh : ∀ x ∈ hs, x.fits) (hf : h.fits) (hsb : h.bulk ≤ 1048576) :
  Calls Tryz.prog 15 #[.agg #[.int .i64 width, .slice E ne ce, .slice R nr cr, .slice H nh ch, .int .i64 z1, .slice A1 m1 c1, .int .i64 z2, .slice A2 m2 c2, .int .i64 h.num, .int .i64 h.size, .string h.root, .int .i64 h.taken, .string h.troot], .int .i64 a, .int .i64 c] w (HfPost w (hfH width es rs hs z1 l1 z2 l2 h a c) (hfL1 width es rs hs z1 l1 z2 l2 h a c) (hfL2 width es rs hs z1 l1 z2 l2 h a c) (hfC width es rs hs z1 l1 z2 l2 h a c)) := by
 have HBK := lH (fun W (r0 : Rd W 0 W.heap.size E (ents es)) (r1 : Rd W 0 W.heap.size R (rcps rs)) (r2 : Rd W 0 W.heap.size H (hds hs)) (r3 : Rd W 0 W.heap.size A1 (strs l1)) (r4 : Rd W 0 W.heap.size A2 (strs l2)) => implBrokerOk_c width z1 z2 E R H A1 A2 ne nr nh ce cr ch c1 c2 0 W.heap.size 0 W.heap.size 0 W.heap.size 0 W.heap.size 0 W.heap.size m1 m2 es rs hs l1 l2 h W r0 r1 r2 r3 r4 hne hnr hnh hm1 hm2 b1 b2 b3 b4 b5 b6 b7 b8 hfe hfr hfh hf hsb)
 have HD0 : Hid (hfH width es rs hs z1 l1 z2 l2 h a c = if brkOk width es rs hs z1 l1 z2 l2 h then frH (lastHd hs) a c else noHd) := lH rfl
 have HD1 : Hid (hfL1 width es rs hs z1 l1 z2 l2 h a c = if brkOk width es rs hs z1 l1 z2 l2 h then fr1 width es (lastHd hs) a c else []) := lH rfl
 have HD2 : Hid (hfL2 width es rs hs z1 l1 z2 l2 h a c = if brkOk width es rs hs z1 l1 z2 l2 h then fr2 width rs (lastHd hs) a c else []) := lH rfl
 have HD3 : Hid (hfC width es rs hs z1 l1 z2 l2 h a c = if brkOk width es rs hs z1 l1 z2 l2 h then frC (lastHd hs) a c else 1) := lH rfl
 have HBC := lH (fun (hb : brkOk width es rs hs z1 l1 z2 l2 h = true) W p (q : NewBox W p [.int .i64 width, .slice E ne ce, .slice R nr cr, .slice H nh ch, .int .i64 z1, .slice A1 m1 c1, .int .i64 z2, .slice A2 m2 c2, .int .i64 h.num, .int .i64 h.size, .string h.root, .int .i64 h.taken, .string h.troot]) (r0 : Rd W 0 W.heap.size E (ents es)) (r1 : Rd W 0 W.heap.size R (rcps rs)) (r2 : Rd W 0 W.heap.size H (hds hs)) => (headFrom_c width z1 z2 p E R H A1 A2 ne nr nh ce cr ch c1 c2 0 W.heap.size 0 W.heap.size 0 W.heap.size m1 m2 es rs hs h a c W q r0 r1 r2 hne hnr hnh b1 b2 (by omega) b6 b7 hfe hfr (brkOk_parts hb)).mono (fun _ _ h => h.two))
 generalize brkOk width es rs hs z1 l1 z2 l2 h = bk at *
 generalize hfH width es rs hs z1 l1 z2 l2 h a c = v0 at *
 generalize hfL1 width es rs hs z1 l1 z2 l2 h a c = v1 at *
 generalize hfL2 width es rs hs z1 l1 z2 l2 h a c = v2 at *
 generalize hfC width es rs hs z1 l1 z2 l2 h a c = v3 at *
 generalize frH (lastHd hs) a c = t0 at *
 generalize fr1 width es (lastHd hs) a c = t1 at *
 generalize fr2 width rs (lastHd hs) a c = t2 at *
 generalize frC (lastHd hs) a c = t3 at *
 have HB : Hid (Below w.heap.size w w) := Below.refl _ _
 have HOE : Hid (Rd w (0) (w.heap.size) (E) (ents es)) := Rd.base hE
 have HOR : Hid (Rd w (0) (w.heap.size) (R) (rcps rs)) := Rd.base hR
 have HOH : Hid (Rd w (0) (w.heap.size) (H) (hds hs)) := Rd.base hH
 have HOX : Hid (Rd w (0) (w.heap.size) (A1) (strs l1)) := Rd.base hA1
 have HOY : Hid (Rd w (0) (w.heap.size) (A2) (strs l2)) := Rd.base hA2
 clear hE hR hH hA1 hA2
 clear hne hnr hnh hm1 hm2 hfe hfr hfh hf
 go_enter Tryz.func15, Tryz.ntmps15
 go_wp2_with fail
 refine calls_named (fun w1 hw => ?_)
 have hz1 : w.heap.size + 2 ≤ w1.heap.size := by rw [hw]; first | omega | simp [World.setCell] <;> omega
 have hzz1 : w.heap.size ≤ w1.heap.size := by omega
 have hbn : Below w.heap.size w w1 := by rw [hw]; exact (by repeat with_reducible first | exact bR _ | apply bA | apply bD)
 replace HB := lH (below_then HB.out hbn HB.out.size)
 replace HOE := lH (HOE.out.below hbn)
 replace HOR := lH (HOR.out.below hbn)
 replace HOH := lH (HOH.out.below hbn)
 replace HOX := lH (HOX.out.below hbn)
 replace HOY := lH (HOY.out.below hbn)
 clear hbn
 have HXb : Hid (NewBox w1 (w.heap.size) [.int .i64 width, .slice E ne ce, .slice R nr cr, .slice H nh ch, .int .i64 z1, .slice A1 m1 c1, .int .i64 z2, .slice A2 m2 c2, .int .i64 h.num, .int .i64 h.size, .string h.root, .int .i64 h.taken, .string h.troot]) := by rw [Hid, hw]; exact ⟨by first | omega | (simp [World.setCell]; done) | (simp [World.setCell]; omega), fun o => by rcases o with _ | _ | _ | _ | _ | _ | _ | _ | _ | _ | _ | _ | _ | o <;> go_simp, fun o => by go_simp⟩
 obtain ⟨hkb, hxb, hfb⟩ := HXb.out
 have HXq : Hid (NewBox w1 (w.heap.size + 1) [.int .i64 0, .int .i64 0, .string ⟨#[]⟩, .int .i64 0, .string ⟨#[]⟩]) := by rw [Hid, hw]; exact ⟨by first | omega | (simp [World.setCell]; done) | (simp [World.setCell]; omega), fun o => by rcases o with _ | _ | _ | _ | _ | o <;> go_simp, fun o => by go_simp⟩
 obtain ⟨hkq, hxq, hfq⟩ := HXq.out
 clear hw
 refine (HBK.out _ HOE.out.base HOR.out.base HOH.out.base HOX.out.base HOY.out.base).mono ?_
 rintro e w2 ⟨rfl, hb⟩
 have hzw2 : w1.heap.size ≤ w2.heap.size := hb.size
 have hzzw2 : w.heap.size ≤ w2.heap.size := by omega
 replace HB := lH (below_then HB.out hb HB.out.size)
 replace HOE := lH (HOE.out.below hb)
 replace HOR := lH (HOR.out.below hb)
 replace HOH := lH (HOH.out.below hb)
 replace HOX := lH (HOX.out.below hb)
 replace HOY := lH (HOY.out.below hb)
 replace HXb := lH (HXb.out.below hb)
 clear hxb hfb hkb
 obtain ⟨hkb, hxb, hfb⟩ := HXb.out
 replace HXq := lH (HXq.out.below hb)
 clear hxq hfq hkq
 obtain ⟨hkq, hxq, hfq⟩ := HXq.out
 clear hb
 clear HOX
 clear HOY
 clear HBK
 rcases bk with _ | _
 ·have e0 : v0 = noHd := HD0.out
  have e1 : v1 = [] := HD1.out
  have e2 : v2 = [] := HD2.out
  have e3 : v3 = 1 := HD3.out
  subst e0 e1 e2 e3
  clear HBC HD0 HD1 HD2 HD3
  go_wp2
  refine bodyPost_named (fun w3 hw => ?_)
  have hz3 : w2.heap.size + 0 ≤ w3.heap.size := by rw [hw]; first | omega | simp [World.setCell] <;> omega
  have hzz3 : w.heap.size ≤ w3.heap.size := by omega
  replace HB : Hid (Below w.heap.size w w3) := by rw [Hid, hw]; exact (by ((repeat first | with_reducible apply bA | with_reducible apply bD | (with_reducible refine bS ?_ ?_; (focus (first | omega | (simp; done) | (simp; omega))))); exact HB.out))
  replace HOE : Hid (Rd w3 (0) (w.heap.size) (E) (ents es)) := by rw [Hid, hw]; (repeat (first | (with_reducible refine Rd.alloc ?_ _) | (with_reducible refine Rd.drew ?_) | ((with_reducible refine Rd.setCell ?_ ?_ _); rotate_left 1; (focus (first | omega | (simp; done) | (simp; omega)))))); exact HOE.out
  replace HOR : Hid (Rd w3 (0) (w.heap.size) (R) (rcps rs)) := by rw [Hid, hw]; (repeat (first | (with_reducible refine Rd.alloc ?_ _) | (with_reducible refine Rd.drew ?_) | ((with_reducible refine Rd.setCell ?_ ?_ _); rotate_left 1; (focus (first | omega | (simp; done) | (simp; omega)))))); exact HOR.out
  replace HOH : Hid (Rd w3 (0) (w.heap.size) (H) (hds hs)) := by rw [Hid, hw]; (repeat (first | (with_reducible refine Rd.alloc ?_ _) | (with_reducible refine Rd.drew ?_) | ((with_reducible refine Rd.setCell ?_ ?_ _); rotate_left 1; (focus (first | omega | (simp; done) | (simp; omega)))))); exact HOH.out
  replace HXb : Hid (NewBox w3 (w.heap.size) [.int .i64 width, .slice E ne ce, .slice R nr cr, .slice H nh ch, .int .i64 z1, .slice A1 m1 c1, .int .i64 z2, .slice A2 m2 c2, .int .i64 h.num, .int .i64 h.size, .string h.root, .int .i64 h.taken, .string h.troot]) := by rw [Hid, hw]; (repeat (first | (with_reducible refine NewBox.alloc ?_ _) | (with_reducible refine NewBox.drew ?_) | ((with_reducible refine NewBox.setCell ?_ ?_ _); rotate_left 1; (focus (first | omega | (simp; done) | (simp; omega)))))); exact HXb.out
  clear hxb hfb hkb
  obtain ⟨hkb, hxb, hfb⟩ := HXb.out
  replace HXq : Hid (NewBox w3 (w.heap.size + 1) [.int .i64 0, .int .i64 0, .string ⟨#[]⟩, .int .i64 0, .string ⟨#[]⟩]) := by rw [Hid, hw]; apply NewBox.cast; (focus ((repeat (first | (with_reducible apply NewBox.alloc) | (with_reducible apply NewBox.drew) | (with_reducible apply NewBox.set1) | ((with_reducible apply NewBox.far); (focus (first | omega | (simp; done) | (simp; omega)))))); exact HXq.out)); rfl
  clear hxq hfq hkq
  obtain ⟨hkq, hxq, hfq⟩ := HXq.out
  clear hw
  refine bodyPost_ret (v := .tuple #[.agg #[.int .i64 0, .int .i64 0, .string ⟨#[]⟩, .int .i64 0, .string ⟨#[]⟩], .slice none 0 0, .slice none 0 0, .int .i64 1]) (by simp [results, Tryz.results15, go_sem, hxq]) rfl ?_
  exact hf_none _ _ _ _ HB.out 1
 ·have e0 : v0 = t0 := HD0.out
  have e1 : v1 = t1 := HD1.out
  have e2 : v2 = t2 := HD2.out
  have e3 : v3 = t3 := HD3.out
  subst e0 e1 e2 e3
  clear HD0 HD1 HD2 HD3
  go_wp2_with fail
  refine calls_named (fun w3 hw => ?_)
  have hz3 : w2.heap.size + 0 ≤ w3.heap.size := by rw [hw]; first | omega | simp [World.setCell] <;> omega
  have hzz3 : w.heap.size ≤ w3.heap.size := by omega
  have hbn : Below w2.heap.size w2 w3 := by rw [hw]; exact (by repeat with_reducible first | exact bR _ | apply bA | apply bD)
  replace HB := lH (below_then HB.out hbn HB.out.size)
  replace HOE := lH (HOE.out.below hbn)
  replace HOR := lH (HOR.out.below hbn)
  replace HOH := lH (HOH.out.below hbn)
  replace HXb := lH (HXb.out.below hbn)
  clear hxb hfb hkb
  obtain ⟨hkb, hxb, hfb⟩ := HXb.out
  replace HXq := lH (HXq.out.below hbn)
  clear hxq hfq hkq
  obtain ⟨hkq, hxq, hfq⟩ := HXq.out
  clear hbn
  clear hw
  refine (HBC.out (by first | trivial | rfl) _ _ HXb.out HOE.out.base HOR.out.base HOH.out.base).mono ?_
  rintro e w4 ⟨⟨A3, c3, x3, y3, A4, c4, x4, y4, rfl, o3, o4, hdis⟩, hb⟩
  have hzw4 : w3.heap.size ≤ w4.heap.size := hb.size
  have hzzw4 : w.heap.size ≤ w4.heap.size := by omega
  replace HB := lH (below_then HB.out hb HB.out.size)
  replace HOE := lH (HOE.out.below hb)
  replace HOR := lH (HOR.out.below hb)
  replace HOH := lH (HOH.out.below hb)
  replace HXb := lH (HXb.out.below hb)
  clear hxb hfb hkb
  obtain ⟨hkb, hxb, hfb⟩ := HXb.out
  replace HXq := lH (HXq.out.below hb)
  clear hxq hfq hkq
  obtain ⟨hkq, hxq, hfq⟩ := HXq.out
  clear hb
  have HOU : Hid (Own w4 (x3) (y3) (A3) (strs v1)) := o3.2.2
  have HOV : Hid (Own w4 (x4) (y4) (A4) (strs v2)) := o4.2.2
  have o31 := o3.1
  have o32 := o3.2.1
  have o41 := o4.1
  have o42 := o4.2.1
  clear o3 o4 HBC
  go_wp2
  refine bodyPost_named (fun w5 hw => ?_)
  have hz5 : w4.heap.size + 0 ≤ w5.heap.size := by rw [hw]; first | omega | simp [World.setCell] <;> omega
  have hzz5 : w.heap.size ≤ w5.heap.size := by omega
  replace HB : Hid (Below w.heap.size w w5) := by rw [Hid, hw]; exact (by ((repeat first | with_reducible apply bA | with_reducible apply bD | (with_reducible refine bS ?_ ?_; (focus (first | omega | (simp; done) | (simp; omega))))); exact HB.out))
  replace HOE : Hid (Rd w5 (0) (w.heap.size) (E) (ents es)) := by rw [Hid, hw]; (repeat (first | (with_reducible refine Rd.alloc ?_ _) | (with_reducible refine Rd.drew ?_) | ((with_reducible refine Rd.setCell ?_ ?_ _); rotate_left 1; (focus (first | omega | (simp; done) | (simp; omega)))))); exact HOE.out
  replace HOR : Hid (Rd w5 (0) (w.heap.size) (R) (rcps rs)) := by rw [Hid, hw]; (repeat (first | (with_reducible refine Rd.alloc ?_ _) | (with_reducible refine Rd.drew ?_) | ((with_reducible refine Rd.setCell ?_ ?_ _); rotate_left 1; (focus (first | omega | (simp; done) | (simp; omega)))))); exact HOR.out
  replace HOH : Hid (Rd w5 (0) (w.heap.size) (H) (hds hs)) := by rw [Hid, hw]; (repeat (first | (with_reducible refine Rd.alloc ?_ _) | (with_reducible refine Rd.drew ?_) | ((with_reducible refine Rd.setCell ?_ ?_ _); rotate_left 1; (focus (first | omega | (simp; done) | (simp; omega)))))); exact HOH.out
  replace HOU : Hid (Own w5 (x3) (y3) (A3) (strs v1)) := by rw [Hid, hw]; (repeat (first | (with_reducible refine Own.alloc ?_ _) | (with_reducible refine Own.drew ?_) | ((with_reducible refine Own.setCell ?_ ?_ _); rotate_left 1; (focus (first | omega | (simp; done) | (simp; omega)))))); exact HOU.out
  replace HOV : Hid (Own w5 (x4) (y4) (A4) (strs v2)) := by rw [Hid, hw]; (repeat (first | (with_reducible refine Own.alloc ?_ _) | (with_reducible refine Own.drew ?_) | ((with_reducible refine Own.setCell ?_ ?_ _); rotate_left 1; (focus (first | omega | (simp; done) | (simp; omega)))))); exact HOV.out
  replace HXb : Hid (NewBox w5 (w.heap.size) [.int .i64 width, .slice E ne ce, .slice R nr cr, .slice H nh ch, .int .i64 z1, .slice A1 m1 c1, .int .i64 z2, .slice A2 m2 c2, .int .i64 h.num, .int .i64 h.size, .string h.root, .int .i64 h.taken, .string h.troot]) := by rw [Hid, hw]; (repeat (first | (with_reducible refine NewBox.alloc ?_ _) | (with_reducible refine NewBox.drew ?_) | ((with_reducible refine NewBox.setCell ?_ ?_ _); rotate_left 1; (focus (first | omega | (simp; done) | (simp; omega)))))); exact HXb.out
  clear hxb hfb hkb
  obtain ⟨hkb, hxb, hfb⟩ := HXb.out
  replace HXq : Hid (NewBox w5 (w.heap.size + 1) [.int .i64 v0.num, .int .i64 v0.size, .string v0.root, .int .i64 v0.taken, .string v0.troot]) := by rw [Hid, hw]; apply NewBox.cast; (focus ((repeat (first | (with_reducible apply NewBox.alloc) | (with_reducible apply NewBox.drew) | (with_reducible apply NewBox.set1) | ((with_reducible apply NewBox.far); (focus (first | omega | (simp; done) | (simp; omega)))))); exact HXq.out)); rfl
  clear hxq hfq hkq
  obtain ⟨hkq, hxq, hfq⟩ := HXq.out
  clear hw
  refine bodyPost_ret (v := .tuple #[.agg #[.int .i64 v0.num, .int .i64 v0.size, .string v0.root, .int .i64 v0.taken, .string v0.troot], .slice A3 v1.length c3, .slice A4 v2.length c4, .int .i64 v3]) (by simp [results, Tryz.results15, go_sem, hxq]) rfl ?_
  exact ⟨A3, c3, x3, y3, A4, c4, x4, y4, rfl, ⟨by omega, by omega, HOU.out⟩, ⟨by omega, by omega, HOV.out⟩, hdis, HB.out⟩
section
variable {width : Int} {es : List Ent} {rs : List Rcp} {hs : List Hd}
theorem ck_two {L : List ByteArray} {s t : Nat} (hw : inR width 1 32 = true) (hL : L.length ≤ 512) (ha : areH width L = true) (hst : s ≤ t) (ht : t ≤ L.length) :
  ckBe width s (rootFu width 513 (L.take s)) t (rootFu width 513 (L.take t)) (conTx width (L.take t) s) = true := by
 have h := cons_ok (width := width) (l := L.take t) (n := t) (s := s) hw (by rw [List.length_take]; omega) (by omega) (areH_sub ha (fun s hs => List.mem_of_mem_take hs)) hst
 rwa [List.take_take, Nat.min_eq_left hst] at h
theorem btw_ok (h : BrkParts width es rs hs) {i k : Nat} {x y : Hd} (hx : hs[i]? = some x) (hy : hs[k]? = some y) (hik : i ≤ k) :
  bwIn (lastHd hs) x.size y.size x.taken y.taken = true ∧ btC (lastHd hs) x.size y.size x.taken y.taken = 0 ∧ ckBe width x.size x.root y.size y.root (btL1 width es (lastHd hs) x.size y.size x.taken y.taken) = true ∧
  ckBe width x.taken x.troot y.taken y.troot (btL2 width rs (lastHd hs) x.size y.size x.taken y.taken) = true ∧ (btL1 width es (lastHd hs) x.size y.size x.taken y.taken).length ≤ 512 ∧ (btL2 width rs (lastHd hs) x.size y.size x.taken y.taken).length ≤ 512 := by
 obtain ⟨s1, t1, a1, a2, a3, a4, a5, a6⟩ := hd_at h hx
 obtain ⟨s2, t2, b1, b2, b3, b4, b5, b6⟩ := hd_at h hy
 have hk := (List.getElem?_eq_some_iff.1 hy).1
 have u1 := hds_up h hx hik hy
 have u2 := hds_up h hy (k := hs.length - 1) (by omega) (lastHd_get h.pos)
 have hb : bwIn (lastHd hs) x.size y.size x.taken y.taken = true := bwIn_yes (by omega) u1.1 u2.1 (by omega) u1.2 u2.2
 have l1 := logOk_len h.log
 have l2 := rcpsOk_len h.rcps
 refine ⟨hb, by rw [btC, if_pos hb], ?_, ?_, by rw [btL1, if_pos hb]; exact conTx_len, by rw [btL2, if_pos hb]; exact conTx_len⟩
 ·rw [btL1, if_pos hb, a5, b5, a1, b1, Int.toNat_natCast]
  exact ck_two h.wd (by rw [leavesM_len]; exact l1) (leavesM_are h.wd h.log) (by omega) (by rw [leavesM_len]; exact b3)
 ·rw [btL2, if_pos hb, a6, b6, a2, b2, Int.toNat_natCast]
  exact ck_two h.wd (by rw [takenM_len]; exact l2) (takenM_are h.wd h.rcps) (by omega) (by rw [takenM_len]; exact b4)
theorem bw_eq (h : BrkParts width es rs hs) (a b c d : Int) :
  bwC width es rs hs (lastHd hs).size (pk1 width es hs) (lastHd hs).taken (pk2 width rs hs) (lastHd hs) a b c d = btC (lastHd hs) a b c d ∧ bwL1 width es rs hs (lastHd hs).size (pk1 width es hs) (lastHd hs).taken (pk2 width rs hs) (lastHd hs) a b c d = btL1 width es (lastHd hs) a b c d ∧
  bwL2 width es rs hs (lastHd hs).size (pk1 width es hs) (lastHd hs).taken (pk2 width rs hs) (lastHd hs) a b c d = btL2 width rs (lastHd hs) a b c d := by
 rw [bwC, bwL1, bwL2, if_pos h.ok, if_pos h.ok, if_pos h.ok]; exact ⟨rfl, rfl, rfl⟩
theorem hf_eq (h : BrkParts width es rs hs) {a c : Int} (hb : bwIn (lastHd hs) a (lastHd hs).size c (lastHd hs).taken = true) :
  hfC width es rs hs (lastHd hs).size (pk1 width es hs) (lastHd hs).taken (pk2 width rs hs) (lastHd hs) a c = 0 ∧ hfH width es rs hs (lastHd hs).size (pk1 width es hs) (lastHd hs).taken (pk2 width rs hs) (lastHd hs) a c = lastHd hs ∧
  hfL1 width es rs hs (lastHd hs).size (pk1 width es hs) (lastHd hs).taken (pk2 width rs hs) (lastHd hs) a c = btL1 width es (lastHd hs) a (lastHd hs).size c (lastHd hs).taken ∧
  hfL2 width es rs hs (lastHd hs).size (pk1 width es hs) (lastHd hs).taken (pk2 width rs hs) (lastHd hs) a c = btL2 width rs (lastHd hs) a (lastHd hs).size c (lastHd hs).taken := by
 rw [hfC, hfH, hfL1, hfL2, if_pos h.ok, if_pos h.ok, if_pos h.ok, if_pos h.ok, frC, frH, btC, if_pos hb, if_pos hb]; exact ⟨rfl, rfl, rfl, rfl⟩
end
set_option maxRecDepth 100000 in
theorem implBetween_c (a b c d : Int) (width z1 z2 : Int) (E R H A1 A2 : Option Addr) (ne nr nh ce cr ch c1 c2 lo1 hi1 lo2 hi2 lo3 hi3 lo4 hi4 lo5 hi5 m1 m2 : Nat) (es : List Ent) (rs : List Rcp) (hs : List Hd) (l1 l2 : List ByteArray) (h : Hd) (w : World) (hE : Rd w lo1 hi1 E (ents es)) (hR : Rd w lo2 hi2 R (rcps rs)) (hH : Rd w lo3 hi3 H (hds hs)) (hA1 : Rd w lo4 hi4 A1 (strs l1)) (hA2 : Rd w lo5 hi5 A2 (strs l2)) (hne : es.length = ne) (hnr : rs.length = nr) (hnh : hs.length = nh) (hm1 : l1.length = m1) (hm2 : l2.length = m2)
  (b1 : ne ≤ 1048576) (b2 : nr ≤ 1048576) (b3 : nh + sumBy Hd.bulk hs ≤ 1048576) (b4 : m1 ≤ 1048576) (b5 : m2 ≤ 1048576) (b6 : ne ≤ ce) (b7 : nr ≤ cr) (b8 : nh ≤ ch) (hfe : ∀ x ∈ es, x.fits) (hfr : ∀ x ∈ rs, x.fits) (hfh : ∀ x ∈ hs, x.fits) (hf : h.fits) (hsb : h.bulk ≤ 1048576) :
  Calls Tryz.prog 17 #[.agg #[.int .i64 width, .slice E ne ce, .slice R nr cr, .slice H nh ch, .int .i64 z1, .slice A1 m1 c1, .int .i64 z2, .slice A2 m2 c2, .int .i64 h.num, .int .i64 h.size, .string h.root, .int .i64 h.taken, .string h.troot], .int .i64 a, .int .i64 b, .int .i64 c, .int .i64 d] w (BwPost w (bwL1 width es rs hs z1 l1 z2 l2 h a b c d) (bwL2 width es rs hs z1 l1 z2 l2 h a b c d) (bwC width es rs hs z1 l1 z2 l2 h a b c d)) := by
 have HBK := lH (fun W (r0 : Rd W 0 W.heap.size E (ents es)) (r1 : Rd W 0 W.heap.size R (rcps rs)) (r2 : Rd W 0 W.heap.size H (hds hs)) (r3 : Rd W 0 W.heap.size A1 (strs l1)) (r4 : Rd W 0 W.heap.size A2 (strs l2)) => implBrokerOk_c width z1 z2 E R H A1 A2 ne nr nh ce cr ch c1 c2 0 W.heap.size 0 W.heap.size 0 W.heap.size 0 W.heap.size 0 W.heap.size m1 m2 es rs hs l1 l2 h W r0 r1 r2 r3 r4 hne hnr hnh hm1 hm2 b1 b2 b3 b4 b5 b6 b7 b8 hfe hfr hfh hf hsb)
 have HD1 : Hid (bwL1 width es rs hs z1 l1 z2 l2 h a b c d = if brkOk width es rs hs z1 l1 z2 l2 h then btL1 width es (lastHd hs) a b c d else []) := lH rfl
 have HD2 : Hid (bwL2 width es rs hs z1 l1 z2 l2 h a b c d = if brkOk width es rs hs z1 l1 z2 l2 h then btL2 width rs (lastHd hs) a b c d else []) := lH rfl
 have HD3 : Hid (bwC width es rs hs z1 l1 z2 l2 h a b c d = if brkOk width es rs hs z1 l1 z2 l2 h then btC (lastHd hs) a b c d else 1) := lH rfl
 have HBC := lH (fun (hb : brkOk width es rs hs z1 l1 z2 l2 h = true) W p (q : NewBox W p [.int .i64 width, .slice E ne ce, .slice R nr cr, .slice H nh ch, .int .i64 z1, .slice A1 m1 c1, .int .i64 z2, .slice A2 m2 c2, .int .i64 h.num, .int .i64 h.size, .string h.root, .int .i64 h.taken, .string h.troot]) (r0 : Rd W 0 W.heap.size E (ents es)) (r1 : Rd W 0 W.heap.size R (rcps rs)) (r2 : Rd W 0 W.heap.size H (hds hs)) => between_c width z1 z2 p E R H A1 A2 ne nr nh ce cr ch c1 c2 0 W.heap.size 0 W.heap.size 0 W.heap.size m1 m2 es rs hs h a b c d W q r0 r1 r2 hne hnr hnh b1 b2 (by omega) b6 b7 hfe hfr (brkOk_parts hb))
 generalize brkOk width es rs hs z1 l1 z2 l2 h = bk at *
 generalize bwL1 width es rs hs z1 l1 z2 l2 h a b c d = v1 at *
 generalize bwL2 width es rs hs z1 l1 z2 l2 h a b c d = v2 at *
 generalize bwC width es rs hs z1 l1 z2 l2 h a b c d = v3 at *
 generalize btL1 width es (lastHd hs) a b c d = t1 at *
 generalize btL2 width rs (lastHd hs) a b c d = t2 at *
 generalize btC (lastHd hs) a b c d = t3 at *
 have HB : Hid (Below w.heap.size w w) := Below.refl _ _
 have HOE : Hid (Rd w (0) (w.heap.size) (E) (ents es)) := Rd.base hE
 have HOR : Hid (Rd w (0) (w.heap.size) (R) (rcps rs)) := Rd.base hR
 have HOH : Hid (Rd w (0) (w.heap.size) (H) (hds hs)) := Rd.base hH
 have HOX : Hid (Rd w (0) (w.heap.size) (A1) (strs l1)) := Rd.base hA1
 have HOY : Hid (Rd w (0) (w.heap.size) (A2) (strs l2)) := Rd.base hA2
 clear hE hR hH hA1 hA2
 clear hne hnr hnh hm1 hm2 hfe hfr hfh hf
 go_enter Tryz.func17, Tryz.ntmps17
 go_wp2_with fail
 refine calls_named (fun w1 hw => ?_)
 have hz1 : w.heap.size + 1 ≤ w1.heap.size := by rw [hw]; first | omega | simp [World.setCell] <;> omega
 have hzz1 : w.heap.size ≤ w1.heap.size := by omega
 have hbn : Below w.heap.size w w1 := by rw [hw]; exact (by repeat with_reducible first | exact bR _ | apply bA | apply bD)
 replace HB := lH (below_then HB.out hbn HB.out.size)
 replace HOE := lH (HOE.out.below hbn)
 replace HOR := lH (HOR.out.below hbn)
 replace HOH := lH (HOH.out.below hbn)
 replace HOX := lH (HOX.out.below hbn)
 replace HOY := lH (HOY.out.below hbn)
 clear hbn
 have HXb : Hid (NewBox w1 (w.heap.size) [.int .i64 width, .slice E ne ce, .slice R nr cr, .slice H nh ch, .int .i64 z1, .slice A1 m1 c1, .int .i64 z2, .slice A2 m2 c2, .int .i64 h.num, .int .i64 h.size, .string h.root, .int .i64 h.taken, .string h.troot]) := by rw [Hid, hw]; exact ⟨by first | omega | (simp [World.setCell]; done) | (simp [World.setCell]; omega), fun o => by rcases o with _ | _ | _ | _ | _ | _ | _ | _ | _ | _ | _ | _ | _ | o <;> go_simp, fun o => by go_simp⟩
 obtain ⟨hkb, hxb, hfb⟩ := HXb.out
 clear hw
 refine (HBK.out _ HOE.out.base HOR.out.base HOH.out.base HOX.out.base HOY.out.base).mono ?_
 rintro e w2 ⟨rfl, hb⟩
 have hzw2 : w1.heap.size ≤ w2.heap.size := hb.size
 have hzzw2 : w.heap.size ≤ w2.heap.size := by omega
 replace HB := lH (below_then HB.out hb HB.out.size)
 replace HOE := lH (HOE.out.below hb)
 replace HOR := lH (HOR.out.below hb)
 replace HOH := lH (HOH.out.below hb)
 replace HOX := lH (HOX.out.below hb)
 replace HOY := lH (HOY.out.below hb)
 replace HXb := lH (HXb.out.below hb)
 clear hxb hfb hkb
 obtain ⟨hkb, hxb, hfb⟩ := HXb.out
 clear hb
 rcases bk with _ | _
 ·have e1 : v1 = [] := HD1.out
  have e2 : v2 = [] := HD2.out
  have e3 : v3 = 1 := HD3.out
  subst e1 e2 e3
  go_wp2
  refine bodyPost_named (fun w77 hw => ?_)
  have hb77 : Hid (Below w.heap.size w w77) := by rw [Hid, hw]; exact (by ((repeat first | with_reducible apply bA | with_reducible apply bD | (with_reducible refine bS ?_ ?_; (focus (first | omega | (simp; done) | (simp; omega))))); exact HB.out))
  clear hw
  refine bodyPost_ret (v := .tuple #[.slice none 0 0, .slice none 0 0, .int .i64 1]) (by simp [results, Tryz.results17, go_sem]) rfl ?_
  exact bw_empty _ _ _ _ hb77.out 1
 ·have e1 : v1 = t1 := HD1.out
  have e2 : v2 = t2 := HD2.out
  have e3 : v3 = t3 := HD3.out
  subst e1 e2 e3
  have HBW := HB
  go_wp2_with fail
  refine (HBC.out (by first | trivial | rfl) _ _ HXb.out HOE.out.base HOR.out.base HOH.out.base).mono ?_
  rintro e wM hpost
  have HPOST := lH (hpost.lift HB.out)
  obtain ⟨A3, c3, x3, y3, A4, c4, x4, y4, rfl, -⟩ := hpost
  clear HBC
  go_wp2
  refine bodyPost_ret (v := .tuple #[.slice A3 v1.length c3, .slice A4 v2.length c4, .int .i64 v3]) (by simp [results, Tryz.results17, go_sem]) rfl ?_
  exact HPOST.out
def TwoL (w w' : World) (l1 l2 : List ByteArray) (A1 A2 : Option Addr) (c1 c2 : Nat) : Prop := Own w' w.heap.size w'.heap.size A1 (strs l1) ∧ Own w' w.heap.size w'.heap.size A2 (strs l2) ∧ l1.length ≤ c1 ∧ l2.length ≤ c2
theorem betweenB_c (width : Int) (E R H A1 A2 : Option Addr) (ne nr nh ce cr ch c1 c2 m1 m2 : Nat) (es : List Ent) (rs : List Rcp) (hs : List Hd) (l1 l2 : List ByteArray) (h : Hd) (x y : Hd) (i k : Nat) (hx : hs[i]? = some x) (hy : hs[k]? = some y) (hik : i ≤ k) (W : World) (hk : BrkK W 0 W.heap.size ⟨E, R, H, A1, A2, ce, cr, ch, c1, c2⟩ ⟨width, es, rs, hs⟩) (hne : es.length = ne) (hnr : rs.length = nr) (hnh : hs.length = nh) (hl1 : pk1 width es hs = l1) (hl2 : pk2 width rs hs = l2) (hm1 : l1.length = m1) (hm2 : l2.length = m2) (hh : lastHd hs = h) :
  Calls Tryz.prog 17 #[.agg #[.int .i64 width, .slice E ne ce, .slice R nr cr, .slice H nh ch, .int .i64 h.size, .slice A1 m1 c1, .int .i64 h.taken, .slice A2 m2 c2, .int .i64 h.num, .int .i64 h.size, .string h.root, .int .i64 h.taken, .string h.troot], .int .i64 x.size, .int .i64 y.size, .int .i64 x.taken, .int .i64 y.taken] W (fun e w' => ∃ A3 c3 A4 c4, e = .returned (.tuple #[.slice A3 (btL1 width es h x.size y.size x.taken y.taken).length c3, .slice A4 (btL2 width rs h x.size y.size x.taken y.taken).length c4, .int .i64 0]) ∧ TwoL W w' (btL1 width es h x.size y.size x.taken y.taken) (btL2 width rs h x.size y.size x.taken y.taken) A3 A4 c3 c4 ∧ Below W.heap.size W w') := by
 obtain ⟨f1, f2, f3, g1, g2, g3, g4, f4, g5, g6, g7⟩ := parts_fits hk.ok
 dsimp only at f1 f2 f3 g1 g2 g3 g4 f4 g5 g6 g7
 subst hne
 subst hnr
 subst hnh
 subst hl1
 subst hl2
 subst hm1
 subst hm2
 subst hh
 obtain ⟨q1, q2, q3⟩ := bw_eq hk.ok x.size y.size x.taken y.taken
 have q4 := (btw_ok hk.ok hx hy hik).2.1
 have h9 := implBetween_c x.size y.size x.taken y.taken width (lastHd hs).size (lastHd hs).taken E R H A1 A2 es.length rs.length hs.length ce cr ch c1 c2 0 W.heap.size 0 W.heap.size 0 W.heap.size 0 W.heap.size 0 W.heap.size (pk1 width es hs).length (pk2 width rs hs).length es rs hs (pk1 width es hs) (pk2 width rs hs) (lastHd hs) W hk.rE hk.rR hk.rH hk.r1 hk.r2 rfl rfl rfl rfl rfl (by omega) (by omega) (by omega) (by omega) (by omega) hk.kE hk.kR hk.kH f1 f2 f3 f4 (by omega)
 dsimp only at q1 q2 q3 q4
 rw [q1, q2, q3, q4] at h9
 refine h9.mono ?_
 rintro e w' ⟨A1', c1', x1, y1, A2', c2', x2, y2, he, o1, o2, hd, hb⟩
 exact ⟨A1', c1', A2', c2', he, ⟨o1.2.2.mono o1.1 o1.2.1 (Nat.le_refl _), o2.2.2.mono o2.1 o2.2.1 (Nat.le_refl _), hd.2.1, hd.2.2⟩, hb⟩
theorem headFromB_c (width : Int) (E R H A1 A2 : Option Addr) (ne nr nh ce cr ch c1 c2 m1 m2 : Nat) (es : List Ent) (rs : List Rcp) (hs : List Hd) (l1 l2 : List ByteArray) (h : Hd) (x : Hd) (i : Nat) (hx : hs[i]? = some x) (W : World) (hk : BrkK W 0 W.heap.size ⟨E, R, H, A1, A2, ce, cr, ch, c1, c2⟩ ⟨width, es, rs, hs⟩) (hne : es.length = ne) (hnr : rs.length = nr) (hnh : hs.length = nh) (hl1 : pk1 width es hs = l1) (hl2 : pk2 width rs hs = l2) (hm1 : l1.length = m1) (hm2 : l2.length = m2) (hh : lastHd hs = h) :
  Calls Tryz.prog 15 #[.agg #[.int .i64 width, .slice E ne ce, .slice R nr cr, .slice H nh ch, .int .i64 h.size, .slice A1 m1 c1, .int .i64 h.taken, .slice A2 m2 c2, .int .i64 h.num, .int .i64 h.size, .string h.root, .int .i64 h.taken, .string h.troot], .int .i64 x.size, .int .i64 x.taken] W (fun e w' => ∃ A3 c3 A4 c4, e = .returned (.tuple #[.agg #[.int .i64 h.num, .int .i64 h.size, .string h.root, .int .i64 h.taken, .string h.troot], .slice A3 (btL1 width es h x.size h.size x.taken h.taken).length c3, .slice A4 (btL2 width rs h x.size h.size x.taken h.taken).length c4, .int .i64 0]) ∧ TwoL W w' (btL1 width es h x.size h.size x.taken h.taken) (btL2 width rs h x.size h.size x.taken h.taken) A3 A4 c3 c4 ∧ Below W.heap.size W w') := by
 obtain ⟨f1, f2, f3, g1, g2, g3, g4, f4, g5, g6, g7⟩ := parts_fits hk.ok
 dsimp only at f1 f2 f3 g1 g2 g3 g4 f4 g5 g6 g7
 subst hne
 subst hnr
 subst hnh
 subst hl1
 subst hl2
 subst hm1
 subst hm2
 subst hh
 have hlen := (List.getElem?_eq_some_iff.1 hx).1
 have q0 := (btw_ok hk.ok hx (lastHd_get hk.ok.pos) (by dsimp only; omega)).1
 obtain ⟨q1, q2, q3, q4⟩ := hf_eq hk.ok q0
 have h9 := implHeadFrom_c x.size x.taken width (lastHd hs).size (lastHd hs).taken E R H A1 A2 es.length rs.length hs.length ce cr ch c1 c2 0 W.heap.size 0 W.heap.size 0 W.heap.size 0 W.heap.size 0 W.heap.size (pk1 width es hs).length (pk2 width rs hs).length es rs hs (pk1 width es hs) (pk2 width rs hs) (lastHd hs) W hk.rE hk.rR hk.rH hk.r1 hk.r2 rfl rfl rfl rfl rfl (by omega) (by omega) (by omega) (by omega) (by omega) hk.kE hk.kR hk.kH f1 f2 f3 f4 (by omega)
 dsimp only at q1 q2 q3 q4
 rw [q1, q2, q3, q4] at h9
 refine h9.mono ?_
 rintro e w' ⟨A1', c1', x1, y1, A2', c2', x2, y2, he, o1, o2, hd, hb⟩
 exact ⟨A1', c1', A2', c2', he, ⟨o1.2.2.mono o1.1 o1.2.1 (Nat.le_refl _), o2.2.2.mono o2.1 o2.2.1 (Nat.le_refl _), hd.2.1, hd.2.2⟩, hb⟩
theorem checkBetweenT_c (width s : Int) (sr : ByteArray) (n : Int) (r : ByteArray) (P : Option Addr) (cp lo hi k : Nat) (pr : List ByteArray) (w : World) (hP : Rd w lo hi P (strs pr)) (hk : pr.length = k) (hkl : k ≤ 1048576) (hkc : k ≤ cp) (hok : ckBe width s sr n r pr = true) :
  Calls Tryz.prog 16 #[.int .i64 width, .int .i64 s, .string sr, .int .i64 n, .string r, .slice P k cp] w fun e w' => e = .returned (.bool true) ∧ Below w.heap.size w w' := by
 have h9 := implCheckBetween_c width s sr n r P cp lo hi k pr w hP hk hkl hkc
 rw [hok] at h9
 exact h9
set_option maxRecDepth 100000 in
theorem lawLast_c (width z1 z2 : Int) (E R H A1 A2 : Option Addr) (ne nr nh ce cr ch c1 c2 lo hi m1 m2 : Nat) (hs : List Hd) (h : Hd) (w : World) (hr : Rd w lo hi H (hds hs)) (hn : hs.length = nh) (hpos : 0 < nh) (hl : nh ≤ 1048576) :
  Calls Tryz.prog 14 #[.agg #[.int .i64 width, .slice E ne ce, .slice R nr cr, .slice H nh ch, .int .i64 z1, .slice A1 m1 c1, .int .i64 z2, .slice A2 m2 c2, .int .i64 h.num, .int .i64 h.size, .string h.root, .int .i64 h.taken, .string h.troot]] w fun e w' => e = .returned (.agg #[.int .i64 (lastHd hs).num, .int .i64 (lastHd hs).size, .string (lastHd hs).root, .int .i64 (lastHd hs).taken, .string (lastHd hs).troot]) ∧ Below w.heap.size w w' := by
 obtain ⟨q, hq⟩ : ∃ q, nh = q + 1 := ⟨nh - 1, by omega⟩
 obtain ⟨b, off, x, rfl, hb, hx, hd⟩ := hd_cells hr (k := q) (by omega)
 have hxl : lastHd hs = x := by
  have h := lastHd_get (hs := hs) (by omega)
  rw [hn, hq, Nat.add_sub_cancel, hx] at h
  exact (Option.some.inj h).symm
 rw [hxl]
 have d0 := hd.1
 have d1 := hd.2.1
 have d2 := hd.2.2.1
 have d3 := hd.2.2.2.1
 have d4 := hd.2.2.2.2
 have E0 : ((nh : Int) == 0) = false := beq_eq_false_iff_ne.2 (by omega)
 have E1 : IntKind.i64.wrap ((nh : Int) - 1) = q := by rw [IntKind.wrap_i64]; omega
 have E2 : (nh : Int) - 1 = q := by omega
 have E3 : (q : Int) < nh := by omega
 have E4 : IntKind.i64.wrap (q : Int) = q := by rw [IntKind.wrap_i64]; omega
 clear hx hd hr hxl hn hpos hq
 have HB : Hid (Below w.heap.size w w) := Below.refl _ _
 go_enter Tryz.func14, Tryz.ntmps14
 go_wp2
 refine bodyPost_named (fun w1 hw => ?_)
 have hz1 : w.heap.size + 2 ≤ w1.heap.size := by rw [hw]; first | omega | simp [World.setCell] <;> omega
 have hzz1 : w.heap.size ≤ w1.heap.size := by omega
 have hbn : Below w.heap.size w w1 := by rw [hw]; exact (by repeat with_reducible first | exact bR _ | apply bA | apply bD)
 replace HB := lH (below_then HB.out hbn HB.out.size)
 clear hbn
 have HXq0 : Hid (NewBox w1 (w.heap.size) [.int .i64 width, .slice E ne ce, .slice R nr cr, .slice (some ⟨b, off, none⟩) nh ch, .int .i64 z1, .slice A1 m1 c1, .int .i64 z2, .slice A2 m2 c2, .int .i64 h.num, .int .i64 h.size, .string h.root, .int .i64 h.taken, .string h.troot]) := by rw [Hid, hw]; exact ⟨by first | omega | (simp [World.setCell]; done) | (simp [World.setCell]; omega), fun o => by rcases o with _ | _ | _ | _ | _ | _ | _ | _ | _ | _ | _ | _ | _ | o <;> go_simp, fun o => by go_simp⟩
 obtain ⟨hkq0, hxq0, hfq0⟩ := HXq0.out
 have HXq : Hid (NewBox w1 (w.heap.size + 1) [.int .i64 x.num, .int .i64 x.size, .string x.root, .int .i64 x.taken, .string x.troot]) := by rw [Hid, hw]; exact ⟨by first | omega | (simp [World.setCell]; done) | (simp [World.setCell]; omega), fun o => by rcases o with _ | _ | _ | _ | _ | o <;> go_simp, fun o => by go_simp⟩
 obtain ⟨hkq, hxq, hfq⟩ := HXq.out
 clear hw
 refine bodyPost_ret (v := .agg #[.int .i64 x.num, .int .i64 x.size, .string x.root, .int .i64 x.taken, .string x.troot]) (by simp [results, Tryz.results14, go_sem, hxq]) rfl ?_
 exact ⟨rfl, HB.out⟩
end
end Go.Proofs.YtoccjgcokffkbaaGreat
