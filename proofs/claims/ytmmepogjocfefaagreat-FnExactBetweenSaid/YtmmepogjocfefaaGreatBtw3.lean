/- Between, of both. -/
import Derived.Test.YtmmepogjocfefaaGreatBtw2
namespace Go.Proofs.YtmmepogjocfefaaGreat
set_option linter.unusedVariables false
set_option linter.unusedSimpArgs false
open Go.RowKit
set_option maxRecDepth 100000 in
set_option maxHeartbeats 4000000 in
theorem implBetween_c (a b c d : Int) (width z1 z2 : Int) (E R H A1 A2 : Option Addr) (ne nr nh ce cr ch c1 c2 lo1 hi1 lo2 hi2 lo3 hi3 lo4 hi4 lo5 hi5 m1 m2 : Nat) (es : List Ent) (rs : List Rcp) (hs : List Hd) (l1 l2 : List ByteArray) (h : Hd) (w : World) (hE : Rd w lo1 hi1 E (ents es)) (hR : Rd w lo2 hi2 R (rcps rs)) (hH : Rd w lo3 hi3 H (hds hs)) (hA1 : Rd w lo4 hi4 A1 (strs l1)) (hA2 : Rd w lo5 hi5 A2 (strs l2)) (hne : es.length = ne) (hnr : rs.length = nr) (hnh : hs.length = nh) (hm1 : l1.length = m1) (hm2 : l2.length = m2)
    (b1 : ne ≤ 1048576) (b2 : nr ≤ 1048576) (b3 : nh + sumBy Hd.bulk hs ≤ 1048576) (b4 : m1 ≤ 1048576) (b5 : m2 ≤ 1048576) (b6 : ne ≤ ce) (b7 : nr ≤ cr) (b8 : nh ≤ ch) (hfe : ∀ x ∈ es, x.fits) (hfr : ∀ x ∈ rs, x.fits) (hfh : ∀ x ∈ hs, x.fits) (hf : h.fits) (hsb : h.bulk ≤ 1048576) :
    Calls Tryz.prog 34 #[.agg #[.int .i64 width, .slice E ne ce, .slice R nr cr, .slice H nh ch, .int .i64 z1, .slice A1 m1 c1, .int .i64 z2, .slice A2 m2 c2, .int .i64 h.num, .int .i64 h.size, .string h.root, .int .i64 h.taken, .string h.troot], .int .i64 a, .int .i64 b, .int .i64 c, .int .i64 d] w (BwPost w (bwL1 width es rs hs z1 l1 z2 l2 h a b c d) (bwL2 width es rs hs z1 l1 z2 l2 h a b c d) (bwC width es rs hs z1 l1 z2 l2 h a b c d)) := by
  have HBK := Lib.hid (fun W (r0 : Rd W 0 W.heap.size E (ents es)) (r1 : Rd W 0 W.heap.size R (rcps rs)) (r2 : Rd W 0 W.heap.size H (hds hs)) (r3 : Rd W 0 W.heap.size A1 (strs l1)) (r4 : Rd W 0 W.heap.size A2 (strs l2)) => implBrokerOk_c width z1 z2 E R H A1 A2 ne nr nh ce cr ch c1 c2 0 W.heap.size 0 W.heap.size 0 W.heap.size 0 W.heap.size 0 W.heap.size m1 m2 es rs hs l1 l2 h W r0 r1 r2 r3 r4 hne hnr hnh hm1 hm2 b1 b2 b3 b4 b5 b6 b7 b8 hfe hfr hfh hf hsb)
  have HD1 : Hid (bwL1 width es rs hs z1 l1 z2 l2 h a b c d = if brkOk width es rs hs z1 l1 z2 l2 h then btL1 width es (lastHd hs) a b c d else []) := Lib.hid rfl
  have HD2 : Hid (bwL2 width es rs hs z1 l1 z2 l2 h a b c d = if brkOk width es rs hs z1 l1 z2 l2 h then btL2 width rs (lastHd hs) a b c d else []) := Lib.hid rfl
  have HD3 : Hid (bwC width es rs hs z1 l1 z2 l2 h a b c d = if brkOk width es rs hs z1 l1 z2 l2 h then btC (lastHd hs) a b c d else 1) := Lib.hid rfl
  have HBC := Lib.hid (fun (hb : brkOk width es rs hs z1 l1 z2 l2 h = true) W p (q : NewBox W p [.int .i64 width, .slice E ne ce, .slice R nr cr, .slice H nh ch, .int .i64 z1, .slice A1 m1 c1, .int .i64 z2, .slice A2 m2 c2, .int .i64 h.num, .int .i64 h.size, .string h.root, .int .i64 h.taken, .string h.troot]) (r0 : Rd W 0 W.heap.size E (ents es)) (r1 : Rd W 0 W.heap.size R (rcps rs)) (r2 : Rd W 0 W.heap.size H (hds hs)) => between_c width z1 z2 p E R H A1 A2 ne nr nh ce cr ch c1 c2 0 W.heap.size 0 W.heap.size 0 W.heap.size m1 m2 es rs hs h a b c d W q r0 r1 r2 hne hnr hnh b1 b2 (by omega) b6 b7 hfe hfr (brkOk_parts hb))
  generalize brkOk width es rs hs z1 l1 z2 l2 h = bk at *
  generalize bwL1 width es rs hs z1 l1 z2 l2 h a b c d = v1 at *
  generalize bwL2 width es rs hs z1 l1 z2 l2 h a b c d = v2 at *
  generalize bwC width es rs hs z1 l1 z2 l2 h a b c d = v3 at *
  generalize btL1 width es (lastHd hs) a b c d = t1 at *
  generalize btL2 width rs (lastHd hs) a b c d = t2 at *
  generalize btC (lastHd hs) a b c d = t3 at *
  have HB : Hid (Below w.heap.size w w) := Below.refl _ _
  have HOE : Hid (Rd w (0) (w.heap.size) (E) (ents es)) := Rd.base hE
  have HOR : Hid (Rd w (0) (w.heap.size) (R) (rcps rs)) := Rd.base hR
  have HOH : Hid (Rd w (0) (w.heap.size) (H) (hds hs)) := Rd.base hH
  have HOX : Hid (Rd w (0) (w.heap.size) (A1) (strs l1)) := Rd.base hA1
  have HOY : Hid (Rd w (0) (w.heap.size) (A2) (strs l2)) := Rd.base hA2
  clear hE hR hH hA1 hA2
  clear hne hnr hnh hm1 hm2 hfe hfr hfh hf
  go_enter Tryz.func34, Tryz.ntmps34
  go_wp2_with fail
  refine calls_named (fun w1 hw => ?_)
  have hz1 : w.heap.size + 1 ≤ w1.heap.size := by rw [hw]; first | omega | (simp [World.setCell]; done) | (simp [World.setCell]; omega)
  have hzz1 : w.heap.size ≤ w1.heap.size := by omega
  have hbn : Below w.heap.size w w1 := by rw [hw]; exact (by ((repeat (first | ((with_reducible refine Below.alloc ?_ ?_ _); rotate_left 1; (focus (first | omega | (simp; done) | (simp; omega)))) | (with_reducible refine Below.drew ?_) | ((with_reducible refine Below.setCell ?_ ?_ _); rotate_left 1; (focus (first | omega | (simp; done) | (simp; omega)))))); exact Below.refl _ _))
  replace HB := Lib.hid (below_then HB.out hbn HB.out.size)
  replace HOE := Lib.hid (HOE.out.below hbn)
  replace HOR := Lib.hid (HOR.out.below hbn)
  replace HOH := Lib.hid (HOH.out.below hbn)
  replace HOX := Lib.hid (HOX.out.below hbn)
  replace HOY := Lib.hid (HOY.out.below hbn)
  clear hbn
  have HXb : Hid (NewBox w1 (w.heap.size) [.int .i64 width, .slice E ne ce, .slice R nr cr, .slice H nh ch, .int .i64 z1, .slice A1 m1 c1, .int .i64 z2, .slice A2 m2 c2, .int .i64 h.num, .int .i64 h.size, .string h.root, .int .i64 h.taken, .string h.troot]) := by rw [Hid, hw]; exact ⟨by first | omega | (simp [World.setCell]; done) | (simp [World.setCell]; omega), fun o => by rcases o with _ | _ | _ | _ | _ | _ | _ | _ | _ | _ | _ | _ | _ | o <;> go_simp, fun o => by go_simp⟩
  have hxb := HXb.out.2.1
  have hfb := HXb.out.2.2
  have hkb := HXb.out.1
  clear hw
  refine (HBK.out _ HOE.out.base HOR.out.base HOH.out.base HOX.out.base HOY.out.base).mono ?_
  rintro e w2 ⟨rfl, hb⟩
  have hzw2 : w1.heap.size ≤ w2.heap.size := hb.size
  have hzzw2 : w.heap.size ≤ w2.heap.size := by omega
  replace HB := Lib.hid (below_then HB.out hb HB.out.size)
  replace HOE := Lib.hid (HOE.out.below hb)
  replace HOR := Lib.hid (HOR.out.below hb)
  replace HOH := Lib.hid (HOH.out.below hb)
  replace HOX := Lib.hid (HOX.out.below hb)
  replace HOY := Lib.hid (HOY.out.below hb)
  replace HXb := Lib.hid (HXb.out.below hb)
  clear hxb hfb hkb
  have hxb := HXb.out.2.1
  have hfb := HXb.out.2.2
  have hkb := HXb.out.1
  clear hb
  rcases bk with _ | _
  · have e1 : v1 = [] := HD1.out
    have e2 : v2 = [] := HD2.out
    have e3 : v3 = 1 := HD3.out
    subst e1 e2 e3
    go_wp2
    refine bodyPost_named (fun w77 hw => ?_)
    have hb77 : Hid (Below w.heap.size w w77) := by rw [Hid, hw]; exact (by ((repeat (first | ((with_reducible refine Below.alloc ?_ ?_ _); rotate_left 1; (focus (first | omega | (simp; done) | (simp; omega)))) | (with_reducible refine Below.drew ?_) | ((with_reducible refine Below.setCell ?_ ?_ _); rotate_left 1; (focus (first | omega | (simp; done) | (simp; omega)))))); exact HB.out))
    clear hw
    refine bodyPost_ret (v := .tuple #[.slice none 0 0, .slice none 0 0, .int .i64 1]) (by simp [results, Tryz.results34, go_sem]) rfl ?_
    exact bw_empty _ _ _ _ hb77.out 1
  · have e1 : v1 = t1 := HD1.out
    have e2 : v2 = t2 := HD2.out
    have e3 : v3 = t3 := HD3.out
    subst e1 e2 e3
    have HBW := HB
    go_wp2_with fail
    refine (HBC.out (by first | trivial | rfl) _ _ HXb.out HOE.out.base HOR.out.base HOH.out.base).mono ?_
    rintro e wM hpost
    have HPOST := Lib.hid (hpost.lift HB.out)
    obtain ⟨A3, c3, x3, y3, A4, c4, x4, y4, rfl, -⟩ := hpost
    clear HBC
    go_wp2
    refine bodyPost_ret (v := .tuple #[.slice A3 v1.length c3, .slice A4 v2.length c4, .int .i64 v3]) (by simp [results, Tryz.results34, go_sem]) rfl ?_
    exact HPOST.out
set_option maxRecDepth 100000 in
set_option maxHeartbeats 4000000 in
theorem specBetween_c (a b c d : Int) (width z1 z2 : Int) (E R H A1 A2 : Option Addr) (ne nr nh ce cr ch c1 c2 lo1 hi1 lo2 hi2 lo3 hi3 lo4 hi4 lo5 hi5 m1 m2 : Nat) (es : List Ent) (rs : List Rcp) (hs : List Hd) (l1 l2 : List ByteArray) (h : Hd) (w : World) (hE : Rd w lo1 hi1 E (ents es)) (hR : Rd w lo2 hi2 R (rcps rs)) (hH : Rd w lo3 hi3 H (hds hs)) (hA1 : Rd w lo4 hi4 A1 (strs l1)) (hA2 : Rd w lo5 hi5 A2 (strs l2)) (hne : es.length = ne) (hnr : rs.length = nr) (hnh : hs.length = nh) (hm1 : l1.length = m1) (hm2 : l2.length = m2)
    (b1 : ne ≤ 1048576) (b2 : nr ≤ 1048576) (b3 : nh + sumBy Hd.bulk hs ≤ 1048576) (b4 : m1 ≤ 1048576) (b5 : m2 ≤ 1048576) (b6 : ne ≤ ce) (b7 : nr ≤ cr) (b8 : nh ≤ ch) (hfe : ∀ x ∈ es, x.fits) (hfr : ∀ x ∈ rs, x.fits) (hfh : ∀ x ∈ hs, x.fits) (hf : h.fits) (hsb : h.bulk ≤ 1048576) :
    Calls Tryz.prog 33 #[.agg #[.int .i64 width, .slice E ne ce, .slice R nr cr, .slice H nh ch, .int .i64 z1, .slice A1 m1 c1, .int .i64 z2, .slice A2 m2 c2, .int .i64 h.num, .int .i64 h.size, .string h.root, .int .i64 h.taken, .string h.troot], .int .i64 a, .int .i64 b, .int .i64 c, .int .i64 d] w (BwPost w (bwL1 width es rs hs z1 l1 z2 l2 h a b c d) (bwL2 width es rs hs z1 l1 z2 l2 h a b c d) (bwC width es rs hs z1 l1 z2 l2 h a b c d)) := by
  have HBK := Lib.hid (fun W (r0 : Rd W 0 W.heap.size E (ents es)) (r1 : Rd W 0 W.heap.size R (rcps rs)) (r2 : Rd W 0 W.heap.size H (hds hs)) (r3 : Rd W 0 W.heap.size A1 (strs l1)) (r4 : Rd W 0 W.heap.size A2 (strs l2)) => specBrokerOk_c width z1 z2 E R H A1 A2 ne nr nh ce cr ch c1 c2 0 W.heap.size 0 W.heap.size 0 W.heap.size 0 W.heap.size 0 W.heap.size m1 m2 es rs hs l1 l2 h W r0 r1 r2 r3 r4 hne hnr hnh hm1 hm2 b1 b2 b3 b4 b5 b6 b7 b8 hfe hfr hfh hf hsb)
  have HD1 : Hid (bwL1 width es rs hs z1 l1 z2 l2 h a b c d = if brkOk width es rs hs z1 l1 z2 l2 h then btL1 width es (lastHd hs) a b c d else []) := Lib.hid rfl
  have HD2 : Hid (bwL2 width es rs hs z1 l1 z2 l2 h a b c d = if brkOk width es rs hs z1 l1 z2 l2 h then btL2 width rs (lastHd hs) a b c d else []) := Lib.hid rfl
  have HD3 : Hid (bwC width es rs hs z1 l1 z2 l2 h a b c d = if brkOk width es rs hs z1 l1 z2 l2 h then btC (lastHd hs) a b c d else 1) := Lib.hid rfl
  have HBC := Lib.hid (fun (hb : brkOk width es rs hs z1 l1 z2 l2 h = true) W (r0 : Rd W 0 W.heap.size E (ents es)) (r1 : Rd W 0 W.heap.size R (rcps rs)) (r2 : Rd W 0 W.heap.size H (hds hs)) => l12Between_c width z1 z2 E R H A1 A2 ne nr nh ce cr ch c1 c2 0 W.heap.size 0 W.heap.size 0 W.heap.size m1 m2 es rs hs h a b c d W r0 r1 r2 hne hnr hnh b1 b2 (by omega) b6 b7 hfe hfr (brkOk_parts hb))
  generalize brkOk width es rs hs z1 l1 z2 l2 h = bk at *
  generalize bwL1 width es rs hs z1 l1 z2 l2 h a b c d = v1 at *
  generalize bwL2 width es rs hs z1 l1 z2 l2 h a b c d = v2 at *
  generalize bwC width es rs hs z1 l1 z2 l2 h a b c d = v3 at *
  generalize btL1 width es (lastHd hs) a b c d = t1 at *
  generalize btL2 width rs (lastHd hs) a b c d = t2 at *
  generalize btC (lastHd hs) a b c d = t3 at *
  have HB : Hid (Below w.heap.size w w) := Below.refl _ _
  have HOE : Hid (Rd w (0) (w.heap.size) (E) (ents es)) := Rd.base hE
  have HOR : Hid (Rd w (0) (w.heap.size) (R) (rcps rs)) := Rd.base hR
  have HOH : Hid (Rd w (0) (w.heap.size) (H) (hds hs)) := Rd.base hH
  have HOX : Hid (Rd w (0) (w.heap.size) (A1) (strs l1)) := Rd.base hA1
  have HOY : Hid (Rd w (0) (w.heap.size) (A2) (strs l2)) := Rd.base hA2
  clear hE hR hH hA1 hA2
  clear hne hnr hnh hm1 hm2 hfe hfr hfh hf
  go_enter Tryz.func33, Tryz.ntmps33
  go_wp2_with fail
  refine calls_named (fun w1 hw => ?_)
  have hz1 : w.heap.size + 1 ≤ w1.heap.size := by rw [hw]; first | omega | (simp [World.setCell]; done) | (simp [World.setCell]; omega)
  have hzz1 : w.heap.size ≤ w1.heap.size := by omega
  have hbn : Below w.heap.size w w1 := by rw [hw]; exact (by ((repeat (first | ((with_reducible refine Below.alloc ?_ ?_ _); rotate_left 1; (focus (first | omega | (simp; done) | (simp; omega)))) | (with_reducible refine Below.drew ?_) | ((with_reducible refine Below.setCell ?_ ?_ _); rotate_left 1; (focus (first | omega | (simp; done) | (simp; omega)))))); exact Below.refl _ _))
  replace HB := Lib.hid (below_then HB.out hbn HB.out.size)
  replace HOE := Lib.hid (HOE.out.below hbn)
  replace HOR := Lib.hid (HOR.out.below hbn)
  replace HOH := Lib.hid (HOH.out.below hbn)
  replace HOX := Lib.hid (HOX.out.below hbn)
  replace HOY := Lib.hid (HOY.out.below hbn)
  clear hbn
  have HXb : Hid (NewBox w1 (w.heap.size) [.int .i64 width, .slice E ne ce, .slice R nr cr, .slice H nh ch, .int .i64 z1, .slice A1 m1 c1, .int .i64 z2, .slice A2 m2 c2, .int .i64 h.num, .int .i64 h.size, .string h.root, .int .i64 h.taken, .string h.troot]) := by rw [Hid, hw]; exact ⟨by first | omega | (simp [World.setCell]; done) | (simp [World.setCell]; omega), fun o => by rcases o with _ | _ | _ | _ | _ | _ | _ | _ | _ | _ | _ | _ | _ | o <;> go_simp, fun o => by go_simp⟩
  have hxb := HXb.out.2.1
  have hfb := HXb.out.2.2
  have hkb := HXb.out.1
  clear hw
  refine (HBK.out _ HOE.out.base HOR.out.base HOH.out.base HOX.out.base HOY.out.base).mono ?_
  rintro e w2 ⟨rfl, hb⟩
  have hzw2 : w1.heap.size ≤ w2.heap.size := hb.size
  have hzzw2 : w.heap.size ≤ w2.heap.size := by omega
  replace HB := Lib.hid (below_then HB.out hb HB.out.size)
  replace HOE := Lib.hid (HOE.out.below hb)
  replace HOR := Lib.hid (HOR.out.below hb)
  replace HOH := Lib.hid (HOH.out.below hb)
  replace HOX := Lib.hid (HOX.out.below hb)
  replace HOY := Lib.hid (HOY.out.below hb)
  replace HXb := Lib.hid (HXb.out.below hb)
  clear hxb hfb hkb
  have hxb := HXb.out.2.1
  have hfb := HXb.out.2.2
  have hkb := HXb.out.1
  clear hb
  rcases bk with _ | _
  · have e1 : v1 = [] := HD1.out
    have e2 : v2 = [] := HD2.out
    have e3 : v3 = 1 := HD3.out
    subst e1 e2 e3
    go_wp2
    refine bodyPost_named (fun w77 hw => ?_)
    have hb77 : Hid (Below w.heap.size w w77) := by rw [Hid, hw]; exact (by ((repeat (first | ((with_reducible refine Below.alloc ?_ ?_ _); rotate_left 1; (focus (first | omega | (simp; done) | (simp; omega)))) | (with_reducible refine Below.drew ?_) | ((with_reducible refine Below.setCell ?_ ?_ _); rotate_left 1; (focus (first | omega | (simp; done) | (simp; omega)))))); exact HB.out))
    clear hw
    refine bodyPost_ret (v := .tuple #[.slice (some ⟨_, 0, none⟩) 0 0, .slice (some ⟨_, 0, none⟩) 0 0, .int .i64 1]) (by simp [results, Tryz.results33, go_sem]; exact ⟨rfl, rfl⟩) rfl ?_
    exact bw_empty _ _ _ _ hb77.out 1
  · have e1 : v1 = t1 := HD1.out
    have e2 : v2 = t2 := HD2.out
    have e3 : v3 = t3 := HD3.out
    subst e1 e2 e3
    have HBW := HB
    go_wp2_with fail
    refine (HBC.out (by first | trivial | rfl) _ HOE.out.base HOR.out.base HOH.out.base).mono ?_
    rintro e wM hpost
    have HPOST := Lib.hid (hpost.lift HB.out)
    obtain ⟨A3, c3, x3, y3, A4, c4, x4, y4, rfl, -⟩ := hpost
    clear HBC
    go_wp2
    refine bodyPost_ret (v := .tuple #[.slice A3 v1.length c3, .slice A4 v2.length c4, .int .i64 v3]) (by simp [results, Tryz.results33, go_sem]) rfl ?_
    exact HPOST.out
end Go.Proofs.YtmmepogjocfefaaGreat
