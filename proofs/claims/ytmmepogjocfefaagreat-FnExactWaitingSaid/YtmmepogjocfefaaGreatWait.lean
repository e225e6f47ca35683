/- Waiting. -/
import Derived.Test.YtmmepogjocfefaaGreatBoks
namespace Go.Proofs.YtmmepogjocfefaaGreat
set_option linter.unusedVariables false
set_option linter.unusedSimpArgs false
open Go.RowKit

def wt1 (width : Int) (es : List Ent) (rs : List Rcp) (hs : List Hd) (z1 : Int) (l1 : List ByteArray) (z2 : Int) (l2 : List ByteArray) (h : Hd) : Int := if brkOk width es rs hs z1 l1 z2 l2 h then (es.length : Nat) - (lastHd hs).size else 0
def wt2 (width : Int) (es : List Ent) (rs : List Rcp) (hs : List Hd) (z1 : Int) (l1 : List ByteArray) (z2 : Int) (l2 : List ByteArray) (h : Hd) : Int := if brkOk width es rs hs z1 l1 z2 l2 h then (rs.length : Nat) - (lastHd hs).taken else 0
set_option maxRecDepth 100000 in
set_option maxHeartbeats 4000000 in
theorem waiting_c (width z1 z2 : Int) (p : Nat) (E R H A1 A2 : Option Addr) (ne nr nh ce cr ch c1 c2 lo3 hi3 m1 m2 : Nat) (hs : List Hd) (h : Hd) (w : World) (hbx : NewBox w p [.int .i64 width, .slice E ne ce, .slice R nr cr, .slice H nh ch, .int .i64 z1, .slice A1 m1 c1, .int .i64 z2, .slice A2 m2 c2, .int .i64 h.num, .int .i64 h.size, .string h.root, .int .i64 h.taken, .string h.troot]) (hH : Rd w lo3 hi3 H (hds hs)) (hnh : hs.length = nh) (hpos : 0 < nh) (h1 : ne ≤ 1048576) (h2 : nr ≤ 1048576) (h3 : nh ≤ 1048576)
  (hs1 : 0 ≤ (lastHd hs).size ∧ (lastHd hs).size ≤ 512) (hs2 : 0 ≤ (lastHd hs).taken ∧ (lastHd hs).taken ≤ 512) :
  Calls Tryz.prog 75 #[.pointer (some ⟨p, 0, none⟩)] w fun e w' => e = .returned (.tuple #[.int .i64 ((ne : Nat) - (lastHd hs).size), .int .i64 ((nr : Nat) - (lastHd hs).taken)]) ∧ Below w.heap.size w w' := by
 have HLA := Lib.hid (fun v : Later w => last_c p nh ch 0 v.v.heap.size H hs v.v (Nat.lt_of_lt_of_le hbx.1 v.h.size) ((later_cell v _ _ hbx.1).trans (hbx.2.1 3)) (hH.below v.h).base hnh hpos h3)
 have hkb := hbx.1
 have hxb := hbx.2.1
 generalize lastHd hs = lh at *
 have hf1 := hdField1 lh.num lh.size lh.taken lh.root lh.troot
 have hf3 := hdField3 lh.num lh.size lh.taken lh.root lh.troot
 have E1 : IntKind.i64.wrap ((ne : Nat) - lh.size) = (ne : Nat) - lh.size := by rw [IntKind.wrap_i64]; omega
 have E2 : IntKind.i64.wrap ((nr : Nat) - lh.taken) = (nr : Nat) - lh.taken := by rw [IntKind.wrap_i64]; omega
 have t1 : ∀ v : Later w, v.v.cell? ⟨p, 1, none⟩ = some (.slice E ne ce) := fun v => (later_cell v _ _ hkb).trans (hxb 1)
 have t2 : ∀ v : Later w, v.v.cell? ⟨p, 2, none⟩ = some (.slice R nr cr) := fun v => (later_cell v _ _ hkb).trans (hxb 2)
 clear hbx hH hnh hpos
 go_enter Tryz.func75, Tryz.ntmps75
 go_wp2_with fail
 refine wp_region_later (by kernel_rfl) (by kernel_rfl) ?_
 repeat (go_big_quiet_step ((with_reducible exact later_call (HLA.out _))))
 refine wpQuiet_nil ?_
 intro wA h9
 have HB := Lib.hid (later_below h9)
 clear h9 t1 t2 HLA hxb
 go_wp2
 refine bodyPost_ret (v := .tuple #[.int .i64 ((ne : Nat) - lh.size), .int .i64 ((nr : Nat) - lh.taken)]) (by simp [results, Tryz.results75, go_sem]) rfl ?_
 exact ⟨rfl, HB.out⟩
set_option maxRecDepth 100000 in
set_option maxHeartbeats 4000000 in
theorem implWaiting_c (width z1 z2 : Int) (E R H A1 A2 : Option Addr) (ne nr nh ce cr ch c1 c2 lo1 hi1 lo2 hi2 lo3 hi3 lo4 hi4 lo5 hi5 m1 m2 : Nat) (es : List Ent) (rs : List Rcp) (hs : List Hd) (l1 l2 : List ByteArray) (h : Hd) (w : World) (hE : Rd w lo1 hi1 E (ents es)) (hR : Rd w lo2 hi2 R (rcps rs)) (hH : Rd w lo3 hi3 H (hds hs)) (hA1 : Rd w lo4 hi4 A1 (strs l1)) (hA2 : Rd w lo5 hi5 A2 (strs l2)) (hne : es.length = ne) (hnr : rs.length = nr) (hnh : hs.length = nh) (hm1 : l1.length = m1) (hm2 : l2.length = m2)
  (b1 : ne ≤ 1048576) (b2 : nr ≤ 1048576) (b3 : nh + sumBy Hd.bulk hs ≤ 1048576) (b4 : m1 ≤ 1048576) (b5 : m2 ≤ 1048576) (b6 : ne ≤ ce) (b7 : nr ≤ cr) (b8 : nh ≤ ch) (hfe : ∀ x ∈ es, x.fits) (hfr : ∀ x ∈ rs, x.fits) (hfh : ∀ x ∈ hs, x.fits) (hf : h.fits) (hsb : h.bulk ≤ 1048576) :
  Calls Tryz.prog 32 #[.agg #[.int .i64 width, .slice E ne ce, .slice R nr cr, .slice H nh ch, .int .i64 z1, .slice A1 m1 c1, .int .i64 z2, .slice A2 m2 c2, .int .i64 h.num, .int .i64 h.size, .string h.root, .int .i64 h.taken, .string h.troot]] w fun e w' => e = .returned (.tuple #[.int .i64 (wt1 width es rs hs z1 l1 z2 l2 h), .int .i64 (wt2 width es rs hs z1 l1 z2 l2 h)]) ∧ Below w.heap.size w w' := by
 have HBK := Lib.hid (fun W (r0 : Rd W 0 W.heap.size E (ents es)) (r1 : Rd W 0 W.heap.size R (rcps rs)) (r2 : Rd W 0 W.heap.size H (hds hs)) (r3 : Rd W 0 W.heap.size A1 (strs l1)) (r4 : Rd W 0 W.heap.size A2 (strs l2)) => implBrokerOk_c width z1 z2 E R H A1 A2 ne nr nh ce cr ch c1 c2 0 W.heap.size 0 W.heap.size 0 W.heap.size 0 W.heap.size 0 W.heap.size m1 m2 es rs hs l1 l2 h W r0 r1 r2 r3 r4 hne hnr hnh hm1 hm2 b1 b2 b3 b4 b5 b6 b7 b8 hfe hfr hfh hf hsb)
 have HP := Lib.hid (fun hb => (brkOk_parts (width := width) (es := es) (rs := rs) (hs := hs) (z1 := z1) (l1 := l1) (z2 := z2) (l2 := l2) (h := h) hb).last)
 have HL := Lib.hid (And.intro hne (And.intro hnr hnh))
 have HPP := Lib.hid (fun hb => (brkOk_parts (width := width) (es := es) (rs := rs) (hs := hs) (z1 := z1) (l1 := l1) (z2 := z2) (l2 := l2) (h := h) hb).pos)
 have HD1 : Hid (wt1 width es rs hs z1 l1 z2 l2 h = if brkOk width es rs hs z1 l1 z2 l2 h then (ne : Nat) - (lastHd hs).size else 0) := Lib.hid (by rw [wt1, hne])
 have HD2 : Hid (wt2 width es rs hs z1 l1 z2 l2 h = if brkOk width es rs hs z1 l1 z2 l2 h then (nr : Nat) - (lastHd hs).taken else 0) := Lib.hid (by rw [wt2, hnr])
 generalize brkOk width es rs hs z1 l1 z2 l2 h = bk at *
 generalize wt1 width es rs hs z1 l1 z2 l2 h = v1 at *
 generalize wt2 width es rs hs z1 l1 z2 l2 h = v2 at *
 have HB : Hid (Below w.heap.size w w) := Below.refl _ _
 have HOE : Hid (Rd w (0) (w.heap.size) (E) (ents es)) := Rd.base hE
 have HOR : Hid (Rd w (0) (w.heap.size) (R) (rcps rs)) := Rd.base hR
 have HOH : Hid (Rd w (0) (w.heap.size) (H) (hds hs)) := Rd.base hH
 have HOX : Hid (Rd w (0) (w.heap.size) (A1) (strs l1)) := Rd.base hA1
 have HOY : Hid (Rd w (0) (w.heap.size) (A2) (strs l2)) := Rd.base hA2
 clear hE hR hH hA1 hA2
 clear hne hnr hnh hm1 hm2 hfe hfr hfh hf
 go_enter Tryz.func32, Tryz.ntmps32
 go_wp2_with fail
 refine calls_named (fun w1 hw => ?_)
 have hz1 : w.heap.size + 1 ≤ w1.heap.size := by rw [hw]; first | omega | (simp [World.setCell]; done) | (simp [World.setCell]; omega)
 have hzz1 : w.heap.size ≤ w1.heap.size := by omega
 have hbn : Below w.heap.size w w1 := by rw [hw]; exact (by ((repeat (first | ((with_reducible refine Below.alloc ?_ ?_ _); rotate_left 1; (focus (first | omega | (simp; done) | (simp; omega)))) | (with_reducible refine Below.drew ?_) | ((with_reducible refine Below.setCell ?_ ?_ _); rotate_left 1; (focus (first | omega | (simp; done) | (simp; omega)))))); exact Below.refl _ _))
 replace HB := Lib.hid (below_then HB.out hbn HB.out.size)
 replace HOE := Lib.hid (HOE.out.below hbn)
 replace HOR := Lib.hid (HOR.out.below hbn)
 replace HOH := Lib.hid (HOH.out.below hbn)
 replace HOX := Lib.hid (HOX.out.below hbn)
 replace HOY := Lib.hid (HOY.out.below hbn)
 clear hbn
 have HXb : Hid (NewBox w1 (w.heap.size) [.int .i64 width, .slice E ne ce, .slice R nr cr, .slice H nh ch, .int .i64 z1, .slice A1 m1 c1, .int .i64 z2, .slice A2 m2 c2, .int .i64 h.num, .int .i64 h.size, .string h.root, .int .i64 h.taken, .string h.troot]) := by rw [Hid, hw]; exact ⟨by first | omega | (simp [World.setCell]; done) | (simp [World.setCell]; omega), fun o => by rcases o with _ | _ | _ | _ | _ | _ | _ | _ | _ | _ | _ | _ | _ | o <;> go_simp, fun o => by go_simp⟩
 have hxb := HXb.out.2.1
 have hfb := HXb.out.2.2
 have hkb := HXb.out.1
 clear hw
 refine (HBK.out _ HOE.out.base HOR.out.base HOH.out.base HOX.out.base HOY.out.base).mono ?_
 rintro e w2 ⟨rfl, hb⟩
 have hzw2 : w1.heap.size ≤ w2.heap.size := hb.size
 have hzzw2 : w.heap.size ≤ w2.heap.size := by omega
 replace HB := Lib.hid (below_then HB.out hb HB.out.size)
 replace HOE := Lib.hid (HOE.out.below hb)
 replace HOR := Lib.hid (HOR.out.below hb)
 replace HOH := Lib.hid (HOH.out.below hb)
 replace HOX := Lib.hid (HOX.out.below hb)
 replace HOY := Lib.hid (HOY.out.below hb)
 replace HXb := Lib.hid (HXb.out.below hb)
 clear hxb hfb hkb
 have hxb := HXb.out.2.1
 have hfb := HXb.out.2.2
 have hkb := HXb.out.1
 clear hb
 rcases bk with _ | _
 ·have e1 : v1 = 0 := HD1.out
  have e2 : v2 = 0 := HD2.out
  subst e1 e2
  go_wp2
  refine bodyPost_ret (v := .tuple #[.int .i64 0, .int .i64 0]) (by simp [results, Tryz.results32, go_sem]) rfl ?_
  exact ⟨rfl, HB.out⟩
 ·have hp := HP.out rfl
  have hpp := HPP.out rfl
  have HWT := Lib.hid (fun W (q : NewBox W (w.heap.size) [.int .i64 width, .slice E ne ce, .slice R nr cr, .slice H nh ch, .int .i64 z1, .slice A1 m1 c1, .int .i64 z2, .slice A2 m2 c2, .int .i64 h.num, .int .i64 h.size, .string h.root, .int .i64 h.taken, .string h.troot]) (r : Rd W 0 W.heap.size H (hds hs)) => waiting_c width z1 z2 (w.heap.size) E R H A1 A2 ne nr nh ce cr ch c1 c2 0 W.heap.size m1 m2 hs h W q r HL.out.2.2 (by rw [← HL.out.2.2]; exact hpp) b1 b2 (by omega) ⟨hp.1, hp.2.2.1⟩ ⟨hp.2.2.2.1, hp.2.2.2.2.2.1⟩)
  have e1 : v1 = (ne : Nat) - (lastHd hs).size := HD1.out
  have e2 : v2 = (nr : Nat) - (lastHd hs).taken := HD2.out
  rw [← e1, ← e2] at HWT
  clear e1 e2 hp hpp HD1 HD2
  go_wp2_with fail
  refine calls_named (fun w3 hw => ?_)
  have hz3 : w2.heap.size + 0 ≤ w3.heap.size := by rw [hw]; first | omega | (simp [World.setCell]; done) | (simp [World.setCell]; omega)
  have hzz3 : w.heap.size ≤ w3.heap.size := by omega
  have hbn : Below w2.heap.size w2 w3 := by rw [hw]; exact (by ((repeat (first | ((with_reducible refine Below.alloc ?_ ?_ _); rotate_left 1; (focus (first | omega | (simp; done) | (simp; omega)))) | (with_reducible refine Below.drew ?_) | ((with_reducible refine Below.setCell ?_ ?_ _); rotate_left 1; (focus (first | omega | (simp; done) | (simp; omega)))))); exact Below.refl _ _))
  replace HB := Lib.hid (below_then HB.out hbn HB.out.size)
  replace HOE := Lib.hid (HOE.out.below hbn)
  replace HOR := Lib.hid (HOR.out.below hbn)
  replace HOH := Lib.hid (HOH.out.below hbn)
  replace HOX := Lib.hid (HOX.out.below hbn)
  replace HOY := Lib.hid (HOY.out.below hbn)
  replace HXb := Lib.hid (HXb.out.below hbn)
  clear hxb hfb hkb
  have hxb := HXb.out.2.1
  have hfb := HXb.out.2.2
  have hkb := HXb.out.1
  clear hbn
  clear hw
  refine (HWT.out _ HXb.out HOH.out.base).mono ?_
  rintro e w4 ⟨rfl, hb⟩
  have hzw4 : w3.heap.size ≤ w4.heap.size := hb.size
  have hzzw4 : w.heap.size ≤ w4.heap.size := by omega
  replace HB := Lib.hid (below_then HB.out hb HB.out.size)
  replace HOE := Lib.hid (HOE.out.below hb)
  replace HOR := Lib.hid (HOR.out.below hb)
  replace HOH := Lib.hid (HOH.out.below hb)
  replace HOX := Lib.hid (HOX.out.below hb)
  replace HOY := Lib.hid (HOY.out.below hb)
  replace HXb := Lib.hid (HXb.out.below hb)
  clear hxb hfb hkb
  have hxb := HXb.out.2.1
  have hfb := HXb.out.2.2
  have hkb := HXb.out.1
  clear hb
  go_wp2
  refine bodyPost_ret (v := .tuple #[.int .i64 v1, .int .i64 v2]) (by simp [results, Tryz.results32, go_sem]) rfl ?_
  exact ⟨rfl, HB.out⟩
set_option maxRecDepth 100000 in
set_option maxHeartbeats 4000000 in
theorem specWaiting_c (width z1 z2 : Int) (E R H A1 A2 : Option Addr) (ne nr nh ce cr ch c1 c2 lo1 hi1 lo2 hi2 lo3 hi3 lo4 hi4 lo5 hi5 m1 m2 : Nat) (es : List Ent) (rs : List Rcp) (hs : List Hd) (l1 l2 : List ByteArray) (h : Hd) (w : World) (hE : Rd w lo1 hi1 E (ents es)) (hR : Rd w lo2 hi2 R (rcps rs)) (hH : Rd w lo3 hi3 H (hds hs)) (hA1 : Rd w lo4 hi4 A1 (strs l1)) (hA2 : Rd w lo5 hi5 A2 (strs l2)) (hne : es.length = ne) (hnr : rs.length = nr) (hnh : hs.length = nh) (hm1 : l1.length = m1) (hm2 : l2.length = m2)
  (b1 : ne ≤ 1048576) (b2 : nr ≤ 1048576) (b3 : nh + sumBy Hd.bulk hs ≤ 1048576) (b4 : m1 ≤ 1048576) (b5 : m2 ≤ 1048576) (b6 : ne ≤ ce) (b7 : nr ≤ cr) (b8 : nh ≤ ch) (hfe : ∀ x ∈ es, x.fits) (hfr : ∀ x ∈ rs, x.fits) (hfh : ∀ x ∈ hs, x.fits) (hf : h.fits) (hsb : h.bulk ≤ 1048576) :
  Calls Tryz.prog 31 #[.agg #[.int .i64 width, .slice E ne ce, .slice R nr cr, .slice H nh ch, .int .i64 z1, .slice A1 m1 c1, .int .i64 z2, .slice A2 m2 c2, .int .i64 h.num, .int .i64 h.size, .string h.root, .int .i64 h.taken, .string h.troot]] w fun e w' => e = .returned (.tuple #[.int .i64 (wt1 width es rs hs z1 l1 z2 l2 h), .int .i64 (wt2 width es rs hs z1 l1 z2 l2 h)]) ∧ Below w.heap.size w w' := by
 have HBK := Lib.hid (fun W (r0 : Rd W 0 W.heap.size E (ents es)) (r1 : Rd W 0 W.heap.size R (rcps rs)) (r2 : Rd W 0 W.heap.size H (hds hs)) (r3 : Rd W 0 W.heap.size A1 (strs l1)) (r4 : Rd W 0 W.heap.size A2 (strs l2)) => specBrokerOk_c width z1 z2 E R H A1 A2 ne nr nh ce cr ch c1 c2 0 W.heap.size 0 W.heap.size 0 W.heap.size 0 W.heap.size 0 W.heap.size m1 m2 es rs hs l1 l2 h W r0 r1 r2 r3 r4 hne hnr hnh hm1 hm2 b1 b2 b3 b4 b5 b6 b7 b8 hfe hfr hfh hf hsb)
 have HP := Lib.hid (fun hb => (brkOk_parts (width := width) (es := es) (rs := rs) (hs := hs) (z1 := z1) (l1 := l1) (z2 := z2) (l2 := l2) (h := h) hb).last)
 have HL := Lib.hid (And.intro hne (And.intro hnr hnh))
 have HPP := Lib.hid (fun hb => (brkOk_parts (width := width) (es := es) (rs := rs) (hs := hs) (z1 := z1) (l1 := l1) (z2 := z2) (l2 := l2) (h := h) hb).pos)
 have HD1 : Hid (wt1 width es rs hs z1 l1 z2 l2 h = if brkOk width es rs hs z1 l1 z2 l2 h then (ne : Nat) - (lastHd hs).size else 0) := Lib.hid (by rw [wt1, hne])
 have HD2 : Hid (wt2 width es rs hs z1 l1 z2 l2 h = if brkOk width es rs hs z1 l1 z2 l2 h then (nr : Nat) - (lastHd hs).taken else 0) := Lib.hid (by rw [wt2, hnr])
 generalize brkOk width es rs hs z1 l1 z2 l2 h = bk at *
 generalize wt1 width es rs hs z1 l1 z2 l2 h = v1 at *
 generalize wt2 width es rs hs z1 l1 z2 l2 h = v2 at *
 have HB : Hid (Below w.heap.size w w) := Below.refl _ _
 have HOE : Hid (Rd w (0) (w.heap.size) (E) (ents es)) := Rd.base hE
 have HOR : Hid (Rd w (0) (w.heap.size) (R) (rcps rs)) := Rd.base hR
 have HOH : Hid (Rd w (0) (w.heap.size) (H) (hds hs)) := Rd.base hH
 have HOX : Hid (Rd w (0) (w.heap.size) (A1) (strs l1)) := Rd.base hA1
 have HOY : Hid (Rd w (0) (w.heap.size) (A2) (strs l2)) := Rd.base hA2
 clear hE hR hH hA1 hA2
 clear hne hnr hnh hm1 hm2 hfe hfr hfh hf
 go_enter Tryz.func31, Tryz.ntmps31
 go_wp2_with fail
 refine calls_named (fun w1 hw => ?_)
 have hz1 : w.heap.size + 1 ≤ w1.heap.size := by rw [hw]; first | omega | (simp [World.setCell]; done) | (simp [World.setCell]; omega)
 have hzz1 : w.heap.size ≤ w1.heap.size := by omega
 have hbn : Below w.heap.size w w1 := by rw [hw]; exact (by ((repeat (first | ((with_reducible refine Below.alloc ?_ ?_ _); rotate_left 1; (focus (first | omega | (simp; done) | (simp; omega)))) | (with_reducible refine Below.drew ?_) | ((with_reducible refine Below.setCell ?_ ?_ _); rotate_left 1; (focus (first | omega | (simp; done) | (simp; omega)))))); exact Below.refl _ _))
 replace HB := Lib.hid (below_then HB.out hbn HB.out.size)
 replace HOE := Lib.hid (HOE.out.below hbn)
 replace HOR := Lib.hid (HOR.out.below hbn)
 replace HOH := Lib.hid (HOH.out.below hbn)
 replace HOX := Lib.hid (HOX.out.below hbn)
 replace HOY := Lib.hid (HOY.out.below hbn)
 clear hbn
 have HXb : Hid (NewBox w1 (w.heap.size) [.int .i64 width, .slice E ne ce, .slice R nr cr, .slice H nh ch, .int .i64 z1, .slice A1 m1 c1, .int .i64 z2, .slice A2 m2 c2, .int .i64 h.num, .int .i64 h.size, .string h.root, .int .i64 h.taken, .string h.troot]) := by rw [Hid, hw]; exact ⟨by first | omega | (simp [World.setCell]; done) | (simp [World.setCell]; omega), fun o => by rcases o with _ | _ | _ | _ | _ | _ | _ | _ | _ | _ | _ | _ | _ | o <;> go_simp, fun o => by go_simp⟩
 have hxb := HXb.out.2.1
 have hfb := HXb.out.2.2
 have hkb := HXb.out.1
 clear hw
 refine (HBK.out _ HOE.out.base HOR.out.base HOH.out.base HOX.out.base HOY.out.base).mono ?_
 rintro e w2 ⟨rfl, hb⟩
 have hzw2 : w1.heap.size ≤ w2.heap.size := hb.size
 have hzzw2 : w.heap.size ≤ w2.heap.size := by omega
 replace HB := Lib.hid (below_then HB.out hb HB.out.size)
 replace HOE := Lib.hid (HOE.out.below hb)
 replace HOR := Lib.hid (HOR.out.below hb)
 replace HOH := Lib.hid (HOH.out.below hb)
 replace HOX := Lib.hid (HOX.out.below hb)
 replace HOY := Lib.hid (HOY.out.below hb)
 replace HXb := Lib.hid (HXb.out.below hb)
 clear hxb hfb hkb
 have hxb := HXb.out.2.1
 have hfb := HXb.out.2.2
 have hkb := HXb.out.1
 clear hb
 rcases bk with _ | _
 ·have e1 : v1 = 0 := HD1.out
  have e2 : v2 = 0 := HD2.out
  subst e1 e2
  go_wp2
  refine bodyPost_ret (v := .tuple #[.int .i64 0, .int .i64 0]) (by simp [results, Tryz.results31, go_sem]) rfl ?_
  exact ⟨rfl, HB.out⟩
 ·have hp := HP.out rfl
  have hpp := HPP.out rfl
  have e1 : v1 = (ne : Nat) - (lastHd hs).size := HD1.out
  have e2 : v2 = (nr : Nat) - (lastHd hs).taken := HD2.out
  go_wp2_with fail
  refine calls_named (fun w3 hw => ?_)
  have hz3 : w2.heap.size + 0 ≤ w3.heap.size := by rw [hw]; first | omega | (simp [World.setCell]; done) | (simp [World.setCell]; omega)
  have hzz3 : w.heap.size ≤ w3.heap.size := by omega
  have hbn : Below w2.heap.size w2 w3 := by rw [hw]; exact (by ((repeat (first | ((with_reducible refine Below.alloc ?_ ?_ _); rotate_left 1; (focus (first | omega | (simp; done) | (simp; omega)))) | (with_reducible refine Below.drew ?_) | ((with_reducible refine Below.setCell ?_ ?_ _); rotate_left 1; (focus (first | omega | (simp; done) | (simp; omega)))))); exact Below.refl _ _))
  replace HB := Lib.hid (below_then HB.out hbn HB.out.size)
  replace HOE := Lib.hid (HOE.out.below hbn)
  replace HOR := Lib.hid (HOR.out.below hbn)
  replace HOH := Lib.hid (HOH.out.below hbn)
  replace HOX := Lib.hid (HOX.out.below hbn)
  replace HOY := Lib.hid (HOY.out.below hbn)
  replace HXb := Lib.hid (HXb.out.below hbn)
  clear hxb hfb hkb
  have hxb := HXb.out.2.1
  have hfb := HXb.out.2.2
  have hkb := HXb.out.1
  clear hbn
  clear hw
  refine (l12Last_c width z1 z2 E R H A1 A2 ne nr nh ce cr ch c1 c2 0 (w3).heap.size m1 m2 hs h w3 HOH.out.base HL.out.2.2 (by rw [← HL.out.2.2]; exact hpp) (by omega)).mono ?_
  rintro e w4 ⟨rfl, hb⟩
  have hzw4 : w3.heap.size ≤ w4.heap.size := hb.size
  have hzzw4 : w.heap.size ≤ w4.heap.size := by omega
  replace HB := Lib.hid (below_then HB.out hb HB.out.size)
  replace HOE := Lib.hid (HOE.out.below hb)
  replace HOR := Lib.hid (HOR.out.below hb)
  replace HOH := Lib.hid (HOH.out.below hb)
  replace HOX := Lib.hid (HOX.out.below hb)
  replace HOY := Lib.hid (HOY.out.below hb)
  replace HXb := Lib.hid (HXb.out.below hb)
  clear hxb hfb hkb
  have hxb := HXb.out.2.1
  have hfb := HXb.out.2.2
  have hkb := HXb.out.1
  clear hb
  generalize lastHd hs = lh at *
  have E1 : IntKind.i64.wrap ((ne : Nat) - lh.size) = (ne : Nat) - lh.size := by rw [IntKind.wrap_i64]; omega
  have E2 : IntKind.i64.wrap ((nr : Nat) - lh.taken) = (nr : Nat) - lh.taken := by rw [IntKind.wrap_i64]; omega
  have HE := Lib.hid (And.intro e1 e2)
  clear e1 e2 hp hpp HD1 HD2 HP HPP
  go_wp2_with fail
  refine wp_named (fun w5 hw => ?_)
  have hz5 : w4.heap.size + 1 ≤ w5.heap.size := by rw [hw]; first | omega | (simp [World.setCell]; done) | (simp [World.setCell]; omega)
  have hzz5 : w.heap.size ≤ w5.heap.size := by omega
  have hbn : Below w4.heap.size w4 w5 := by rw [hw]; exact (by ((repeat (first | ((with_reducible refine Below.alloc ?_ ?_ _); rotate_left 1; (focus (first | omega | (simp; done) | (simp; omega)))) | (with_reducible refine Below.drew ?_) | ((with_reducible refine Below.setCell ?_ ?_ _); rotate_left 1; (focus (first | omega | (simp; done) | (simp; omega)))))); exact Below.refl _ _))
  replace HB := Lib.hid (below_then HB.out hbn HB.out.size)
  replace HOE := Lib.hid (HOE.out.below hbn)
  replace HOR := Lib.hid (HOR.out.below hbn)
  replace HOH := Lib.hid (HOH.out.below hbn)
  replace HOX := Lib.hid (HOX.out.below hbn)
  replace HOY := Lib.hid (HOY.out.below hbn)
  replace HXb := Lib.hid (HXb.out.below hbn)
  clear hxb hfb hkb
  have hxb := HXb.out.2.1
  have hfb := HXb.out.2.2
  have hkb := HXb.out.1
  clear hbn
  have HXg : Hid (NewBox w5 (w4.heap.size) [.int .i64 lh.num, .int .i64 lh.size, .string lh.root, .int .i64 lh.taken, .string lh.troot]) := by rw [Hid, hw]; exact ⟨by first | omega | (simp [World.setCell]; done) | (simp [World.setCell]; omega), fun o => by rcases o with _ | _ | _ | _ | _ | o <;> go_simp, fun o => by go_simp⟩
  have hxg := HXg.out.2.1
  have hfg := HXg.out.2.2
  have hkg := HXg.out.1
  clear hw
  go_quiet (fail)
  generalize hwA : (w5).drewN _ = wA
  have hbA : Below (w5).heap.size w5 wA := by rw [← hwA]; exact below_drewN _ _
  clear hwA
  have hzwA : w5.heap.size ≤ wA.heap.size := hbA.size
  have hzzwA : w.heap.size ≤ wA.heap.size := by omega
  replace HB := Lib.hid (below_then HB.out hbA HB.out.size)
  replace HOE := Lib.hid (HOE.out.below hbA)
  replace HOR := Lib.hid (HOR.out.below hbA)
  replace HOH := Lib.hid (HOH.out.below hbA)
  replace HOX := Lib.hid (HOX.out.below hbA)
  replace HOY := Lib.hid (HOY.out.below hbA)
  replace HXb := Lib.hid (HXb.out.below hbA)
  clear hxb hfb hkb
  have hxb := HXb.out.2.1
  have hfb := HXb.out.2.2
  have hkb := HXb.out.1
  replace HXg := Lib.hid (HXg.out.below hbA)
  clear hxg hfg hkg
  have hxg := HXg.out.2.1
  have hfg := HXg.out.2.2
  have hkg := HXg.out.1
  clear hbA
  go_wp2
  refine bodyPost_ret (v := .tuple #[.int .i64 ((ne : Nat) - lh.size), .int .i64 ((nr : Nat) - lh.taken)]) (by simp [results, Tryz.results31, go_sem]) rfl ?_
  exact ⟨by rw [HE.out.1, HE.out.2], HB.out⟩
end Go.Proofs.YtmmepogjocfefaaGreat
