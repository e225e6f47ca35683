/- HeadFrom. -/
import Derived.Test.YtmmepogjocfefaaGreatBtw2
namespace Go.Proofs.YtmmepogjocfefaaGreat
set_option linter.unusedVariables false
set_option linter.unusedSimpArgs false
open Go.RowKit

def HfPost (w : World) (hd : Hd) (l1 l2 : List ByteArray) (code : Int) (e : Ending) (w' : World) : Prop :=
 ∃ (A1 : Option Addr) (c1 a1 b1 : Nat) (A2 : Option Addr) (c2 a2 b2 : Nat), e = .returned (.tuple #[.agg #[.int .i64 hd.num, .int .i64 hd.size, .string hd.root, .int .i64 hd.taken, .string hd.troot], .slice A1 l1.length c1, .slice A2 l2.length c2, .int .i64 code]) ∧
   (w.heap.size ≤ a1 ∧ b1 ≤ w'.heap.size ∧ Own w' a1 b1 A1 (strs l1)) ∧ (w.heap.size ≤ a2 ∧ b2 ≤ w'.heap.size ∧ Own w' a2 b2 A2 (strs l2)) ∧ (b1 ≤ a2 ∨ b2 ≤ a1) ∧ Below w.heap.size w w'
theorem HfPost.two {w w' : World} {hd : Hd} {l1 l2 : List ByteArray} {code : Int} {e : Ending} (h : HfPost w hd l1 l2 code e w') : (∃ (A1 : Option Addr) (c1 a1 b1 : Nat) (A2 : Option Addr) (c2 a2 b2 : Nat), e = .returned (.tuple #[.agg #[.int .i64 hd.num, .int .i64 hd.size, .string hd.root, .int .i64 hd.taken, .string hd.troot], .slice A1 l1.length c1, .slice A2 l2.length c2, .int .i64 code]) ∧
  (w.heap.size ≤ a1 ∧ b1 ≤ w'.heap.size ∧ Own w' a1 b1 A1 (strs l1)) ∧ (w.heap.size ≤ a2 ∧ b2 ≤ w'.heap.size ∧ Own w' a2 b2 A2 (strs l2)) ∧ (b1 ≤ a2 ∨ b2 ≤ a1)) ∧ Below w.heap.size w w' := by
 obtain ⟨A1, c1, x1, y1, A2, c2, x2, y2, he, o1, o2, hd, hB⟩ := h
 exact ⟨⟨A1, c1, x1, y1, A2, c2, x2, y2, he, o1, o2, hd⟩, hB⟩
theorem BwPost.two {w w' : World} {l1 l2 : List ByteArray} {code : Int} {e : Ending} (h : BwPost w l1 l2 code e w') : (∃ (A1 : Option Addr) (c1 a1 b1 : Nat) (A2 : Option Addr) (c2 a2 b2 : Nat), e = .returned (.tuple #[.slice A1 l1.length c1, .slice A2 l2.length c2, .int .i64 code]) ∧
  (w.heap.size ≤ a1 ∧ b1 ≤ w'.heap.size ∧ Own w' a1 b1 A1 (strs l1)) ∧ (w.heap.size ≤ a2 ∧ b2 ≤ w'.heap.size ∧ Own w' a2 b2 A2 (strs l2)) ∧ (b1 ≤ a2 ∨ b2 ≤ a1)) ∧ Below w.heap.size w w' := by
 obtain ⟨A1, c1, x1, y1, A2, c2, x2, y2, he, o1, o2, hd, hB⟩ := h
 exact ⟨⟨A1, c1, x1, y1, A2, c2, x2, y2, he, o1, o2, hd⟩, hB⟩
theorem hf_none {w w' : World} (A1 A2 : Option Addr) (c1 c2 : Nat) (hB : Below w.heap.size w w') (code : Int) : HfPost w noHd [] [] code (.returned (.tuple #[.agg #[.int .i64 0, .int .i64 0, .string ⟨#[]⟩, .int .i64 0, .string ⟨#[]⟩], .slice A1 0 c1, .slice A2 0 c2, .int .i64 code])) w' :=
 ⟨A1, c1, w'.heap.size, w'.heap.size, A2, c2, w'.heap.size, w'.heap.size, rfl, ⟨hB.size, Nat.le_refl _, Own.nil⟩, ⟨hB.size, Nat.le_refl _, Own.nil⟩, .inl (Nat.le_refl _), hB⟩
def frH (lh : Hd) (a c : Int) : Hd := if bwIn lh a lh.size c lh.taken then lh else noHd
def frC (lh : Hd) (a c : Int) : Int := btC lh a lh.size c lh.taken
def fr1 (width : Int) (es : List Ent) (lh : Hd) (a c : Int) : List ByteArray := btL1 width es lh a lh.size c lh.taken
def fr2 (width : Int) (rs : List Rcp) (lh : Hd) (a c : Int) : List ByteArray := btL2 width rs lh a lh.size c lh.taken
theorem fr_two (width : Int) (es : List Ent) (rs : List Rcp) (lh : Hd) (a c : Int) : (frC lh a c = 0 ∧ frH lh a c = lh) ∨ (frC lh a c = 2 ∧ frH lh a c = noHd ∧ fr1 width es lh a c = [] ∧ fr2 width rs lh a c = []) := by
 rw [frC, frH, fr1, fr2, btC, btL1, btL2]
 cases bwIn lh a lh.size c lh.taken
 ·exact .inr ⟨rfl, rfl, rfl, rfl⟩
 ·exact .inl ⟨rfl, rfl⟩
set_option maxRecDepth 100000 in
set_option maxHeartbeats 4000000 in
theorem headFrom_c (width z1 z2 : Int) (p : Nat) (E R H A1 A2 : Option Addr) (ne nr nh ce cr ch c1 c2 lo1 hi1 lo2 hi2 lo3 hi3 m1 m2 : Nat) (es : List Ent) (rs : List Rcp) (hs : List Hd) (h : Hd) (a c : Int) (w : World) (hbx : NewBox w p [.int .i64 width, .slice E ne ce, .slice R nr cr, .slice H nh ch, .int .i64 z1, .slice A1 m1 c1, .int .i64 z2, .slice A2 m2 c2, .int .i64 h.num, .int .i64 h.size, .string h.root, .int .i64 h.taken, .string h.troot])
  (hE : Rd w lo1 hi1 E (ents es)) (hR : Rd w lo2 hi2 R (rcps rs)) (hH : Rd w lo3 hi3 H (hds hs)) (hne : es.length = ne) (hnr : rs.length = nr) (hnh : hs.length = nh) (b1 : ne ≤ 1048576) (b2 : nr ≤ 1048576) (b3 : nh ≤ 1048576) (b6 : ne ≤ ce) (b7 : nr ≤ cr) (hfe : ∀ x ∈ es, x.fits) (hfr : ∀ x ∈ rs, x.fits) (hp : BrkParts width es rs hs) :
  Calls Tryz.prog 60 #[.pointer (some ⟨p, 0, none⟩), .int .i64 a, .int .i64 c] w (HfPost w (frH (lastHd hs) a c) (fr1 width es (lastHd hs) a c) (fr2 width rs (lastHd hs) a c) (frC (lastHd hs) a c)) := by
 have hpos : 0 < nh := by rw [← hnh]; exact hp.pos
 have HTWO := Lib.hid (fr_two width es rs (lastHd hs) a c)
 have HBT := Lib.hid (fun W (q : NewBox W p [.int .i64 width, .slice E ne ce, .slice R nr cr, .slice H nh ch, .int .i64 z1, .slice A1 m1 c1, .int .i64 z2, .slice A2 m2 c2, .int .i64 h.num, .int .i64 h.size, .string h.root, .int .i64 h.taken, .string h.troot]) (r0 : Rd W 0 W.heap.size E (ents es)) (r1 : Rd W 0 W.heap.size R (rcps rs)) (r2 : Rd W 0 W.heap.size H (hds hs)) => (between_c width z1 z2 p E R H A1 A2 ne nr nh ce cr ch c1 c2 0 W.heap.size 0 W.heap.size 0 W.heap.size m1 m2 es rs hs h a (lastHd hs).size c (lastHd hs).taken W q r0 r1 r2 hne hnr hnh b1 b2 b3 b6 b7 hfe hfr hp).mono (fun _ _ h => h.two))
 have hpw : p < w.heap.size := hbx.1
 have HNH := Lib.hid hnh
 have ed1 : btL1 width es (lastHd hs) a (lastHd hs).size c (lastHd hs).taken = fr1 width es (lastHd hs) a c := rfl
 have ed2 : btL2 width rs (lastHd hs) a (lastHd hs).size c (lastHd hs).taken = fr2 width rs (lastHd hs) a c := rfl
 have ed3 : btC (lastHd hs) a (lastHd hs).size c (lastHd hs).taken = frC (lastHd hs) a c := rfl
 rw [ed1, ed2, ed3] at HBT
 clear ed1 ed2 ed3
 generalize fr1 width es (lastHd hs) a c = v1 at *
 generalize fr2 width rs (lastHd hs) a c = v2 at *
 generalize frC (lastHd hs) a c = v3 at *
 generalize frH (lastHd hs) a c = vh at *
 have HB : Hid (Below w.heap.size w w) := Below.refl _ _
 have HOE : Hid (Rd w (0) (w.heap.size) (E) (ents es)) := Rd.base hE
 have HOR : Hid (Rd w (0) (w.heap.size) (R) (rcps rs)) := Rd.base hR
 have HOH : Hid (Rd w (0) (w.heap.size) (H) (hds hs)) := Rd.base hH
 replace HB : Hid (Below w.heap.size w w) := (Below.refl _ _)
 have HXb : Hid (NewBox w (p) [.int .i64 width, .slice E ne ce, .slice R nr cr, .slice H nh ch, .int .i64 z1, .slice A1 m1 c1, .int .i64 z2, .slice A2 m2 c2, .int .i64 h.num, .int .i64 h.size, .string h.root, .int .i64 h.taken, .string h.troot]) := hbx
 have hxb := HXb.out.2.1
 have hfb := HXb.out.2.2
 have hkb := HXb.out.1
 clear hbx
 clear hE hR hH hne hnr hnh hfe hfr hp
 go_enter Tryz.func60, Tryz.ntmps60
 go_wp2_with fail
 refine calls_named (fun w1 hw => ?_)
 have hz1 : w.heap.size + 1 ≤ w1.heap.size := by rw [hw]; first | omega | (simp [World.setCell]; done) | (simp [World.setCell]; omega)
 have hzz1 : w.heap.size ≤ w1.heap.size := by omega
 have hbn : Below w.heap.size w w1 := by rw [hw]; exact (by ((repeat (first | ((with_reducible refine Below.alloc ?_ ?_ _); rotate_left 1; (focus (first | omega | (simp; done) | (simp; omega)))) | (with_reducible refine Below.drew ?_) | ((with_reducible refine Below.setCell ?_ ?_ _); rotate_left 1; (focus (first | omega | (simp; done) | (simp; omega)))))); exact Below.refl _ _))
 replace HB := Lib.hid (below_then HB.out hbn HB.out.size)
 replace HOE := Lib.hid (HOE.out.below hbn)
 replace HOR := Lib.hid (HOR.out.below hbn)
 replace HOH := Lib.hid (HOH.out.below hbn)
 replace HXb := Lib.hid (HXb.out.below hbn)
 clear hxb hfb hkb
 have hxb := HXb.out.2.1
 have hfb := HXb.out.2.2
 have hkb := HXb.out.1
 clear hbn
 have HXq : Hid (NewBox w1 (w.heap.size) [.int .i64 0, .int .i64 0, .string ⟨#[]⟩, .int .i64 0, .string ⟨#[]⟩]) := by rw [Hid, hw]; exact ⟨by first | omega | (simp [World.setCell]; done) | (simp [World.setCell]; omega), fun o => by rcases o with _ | _ | _ | _ | _ | o <;> go_simp, fun o => by go_simp⟩
 have hxq := HXq.out.2.1
 have hfq := HXq.out.2.2
 have hkq := HXq.out.1
 clear hw
 refine (last_c p nh ch 0 (w1).heap.size H hs w1 hkb (hxb 3) HOH.out.base HNH.out hpos b3).mono ?_
 rintro e w2 ⟨rfl, hb⟩
 have hzw2 : w1.heap.size ≤ w2.heap.size := hb.size
 have hzzw2 : w.heap.size ≤ w2.heap.size := by omega
 replace HB := Lib.hid (below_then HB.out hb HB.out.size)
 replace HOE := Lib.hid (HOE.out.below hb)
 replace HOR := Lib.hid (HOR.out.below hb)
 replace HOH := Lib.hid (HOH.out.below hb)
 replace HXb := Lib.hid (HXb.out.below hb)
 clear hxb hfb hkb
 have hxb := HXb.out.2.1
 have hfb := HXb.out.2.2
 have hkb := HXb.out.1
 replace HXq := Lib.hid (HXq.out.below hb)
 clear hxq hfq hkq
 have hxq := HXq.out.2.1
 have hfq := HXq.out.2.2
 have hkq := HXq.out.1
 clear hb
 generalize lastHd hs = lh at *
 go_wp2_with fail
 refine calls_named (fun w3 hw => ?_)
 have hz3 : w2.heap.size + 1 ≤ w3.heap.size := by rw [hw]; first | omega | (simp [World.setCell]; done) | (simp [World.setCell]; omega)
 have hzz3 : w.heap.size ≤ w3.heap.size := by omega
 have hbn : Below w2.heap.size w2 w3 := by rw [hw]; exact (by ((repeat (first | ((with_reducible refine Below.alloc ?_ ?_ _); rotate_left 1; (focus (first | omega | (simp; done) | (simp; omega)))) | (with_reducible refine Below.drew ?_) | ((with_reducible refine Below.setCell ?_ ?_ _); rotate_left 1; (focus (first | omega | (simp; done) | (simp; omega)))))); exact Below.refl _ _))
 replace HB := Lib.hid (below_then HB.out hbn HB.out.size)
 replace HOE := Lib.hid (HOE.out.below hbn)
 replace HOR := Lib.hid (HOR.out.below hbn)
 replace HOH := Lib.hid (HOH.out.below hbn)
 replace HXb := Lib.hid (HXb.out.below hbn)
 clear hxb hfb hkb
 have hxb := HXb.out.2.1
 have hfb := HXb.out.2.2
 have hkb := HXb.out.1
 replace HXq := Lib.hid (HXq.out.below hbn)
 clear hxq hfq hkq
 have hxq := HXq.out.2.1
 have hfq := HXq.out.2.2
 have hkq := HXq.out.1
 clear hbn
 have HXg : Hid (NewBox w3 (w2.heap.size) [.int .i64 lh.num, .int .i64 lh.size, .string lh.root, .int .i64 lh.taken, .string lh.troot]) := by rw [Hid, hw]; exact ⟨by first | omega | (simp [World.setCell]; done) | (simp [World.setCell]; omega), fun o => by rcases o with _ | _ | _ | _ | _ | o <;> go_simp, fun o => by go_simp⟩
 have hxg := HXg.out.2.1
 have hfg := HXg.out.2.2
 have hkg := HXg.out.1
 clear hw
 refine (HBT.out _ HXb.out HOE.out.base HOR.out.base HOH.out.base).mono ?_
 rintro e w4 ⟨⟨A3, c3, x3, y3, A4, c4, x4, y4, rfl, o3, o4, hdis⟩, hb⟩
 have hzw4 : w3.heap.size ≤ w4.heap.size := hb.size
 have hzzw4 : w.heap.size ≤ w4.heap.size := by omega
 replace HB := Lib.hid (below_then HB.out hb HB.out.size)
 replace HOE := Lib.hid (HOE.out.below hb)
 replace HOR := Lib.hid (HOR.out.below hb)
 replace HOH := Lib.hid (HOH.out.below hb)
 replace HXb := Lib.hid (HXb.out.below hb)
 clear hxb hfb hkb
 have hxb := HXb.out.2.1
 have hfb := HXb.out.2.2
 have hkb := HXb.out.1
 replace HXq := Lib.hid (HXq.out.below hb)
 clear hxq hfq hkq
 have hxq := HXq.out.2.1
 have hfq := HXq.out.2.2
 have hkq := HXq.out.1
 replace HXg := Lib.hid (HXg.out.below hb)
 clear hxg hfg hkg
 have hxg := HXg.out.2.1
 have hfg := HXg.out.2.2
 have hkg := HXg.out.1
 clear hb
 have HOU : Hid (Own w4 (x3) (y3) (A3) (strs v1)) := o3.2.2
 have HOV : Hid (Own w4 (x4) (y4) (A4) (strs v2)) := o4.2.2
 have o31 := o3.1
 have o32 := o3.2.1
 have o41 := o4.1
 have o42 := o4.2.1
 clear o3 o4 HBT
 rcases HTWO.out with ⟨e1, e2⟩ | ⟨e1, e2, e3, e4⟩
 ·replace e2 := e2.symm
  subst e1 e2
  clear HTWO
  go_wp2
  refine bodyPost_named (fun w5 hw => ?_)
  have hz5 : w4.heap.size + 0 ≤ w5.heap.size := by rw [hw]; first | omega | (simp [World.setCell]; done) | (simp [World.setCell]; omega)
  have hzz5 : w.heap.size ≤ w5.heap.size := by omega
  replace HB : Hid (Below w.heap.size w w5) := by rw [Hid, hw]; exact (by ((repeat (first | ((with_reducible refine Below.alloc ?_ ?_ _); rotate_left 1; (focus (first | omega | (simp; done) | (simp; omega)))) | (with_reducible refine Below.drew ?_) | ((with_reducible refine Below.setCell ?_ ?_ _); rotate_left 1; (focus (first | omega | (simp; done) | (simp; omega)))))); exact HB.out))
  replace HOE : Hid (Rd w5 (0) (w.heap.size) (E) (ents es)) := by rw [Hid, hw]; (repeat (first | (with_reducible refine Rd.alloc ?_ _) | (with_reducible refine Rd.drew ?_) | ((with_reducible refine Rd.setCell ?_ ?_ _); rotate_left 1; (focus (first | omega | (simp; done) | (simp; omega)))))); exact HOE.out
  replace HOR : Hid (Rd w5 (0) (w.heap.size) (R) (rcps rs)) := by rw [Hid, hw]; (repeat (first | (with_reducible refine Rd.alloc ?_ _) | (with_reducible refine Rd.drew ?_) | ((with_reducible refine Rd.setCell ?_ ?_ _); rotate_left 1; (focus (first | omega | (simp; done) | (simp; omega)))))); exact HOR.out
  replace HOH : Hid (Rd w5 (0) (w.heap.size) (H) (hds hs)) := by rw [Hid, hw]; (repeat (first | (with_reducible refine Rd.alloc ?_ _) | (with_reducible refine Rd.drew ?_) | ((with_reducible refine Rd.setCell ?_ ?_ _); rotate_left 1; (focus (first | omega | (simp; done) | (simp; omega)))))); exact HOH.out
  replace HOU : Hid (Own w5 (x3) (y3) (A3) (strs v1)) := by rw [Hid, hw]; (repeat (first | (with_reducible refine Own.alloc ?_ _) | (with_reducible refine Own.drew ?_) | ((with_reducible refine Own.setCell ?_ ?_ _); rotate_left 1; (focus (first | omega | (simp; done) | (simp; omega)))))); exact HOU.out
  replace HOV : Hid (Own w5 (x4) (y4) (A4) (strs v2)) := by rw [Hid, hw]; (repeat (first | (with_reducible refine Own.alloc ?_ _) | (with_reducible refine Own.drew ?_) | ((with_reducible refine Own.setCell ?_ ?_ _); rotate_left 1; (focus (first | omega | (simp; done) | (simp; omega)))))); exact HOV.out
  replace HXb : Hid (NewBox w5 (p) [.int .i64 width, .slice E ne ce, .slice R nr cr, .slice H nh ch, .int .i64 z1, .slice A1 m1 c1, .int .i64 z2, .slice A2 m2 c2, .int .i64 h.num, .int .i64 h.size, .string h.root, .int .i64 h.taken, .string h.troot]) := by rw [Hid, hw]; (repeat (first | (with_reducible refine NewBox.alloc ?_ _) | (with_reducible refine NewBox.drew ?_) | ((with_reducible refine NewBox.setCell ?_ ?_ _); rotate_left 1; (focus (first | omega | (simp; done) | (simp; omega)))))); exact HXb.out
  clear hxb hfb hkb
  have hxb := HXb.out.2.1
  have hfb := HXb.out.2.2
  have hkb := HXb.out.1
  replace HXq : Hid (NewBox w5 (w.heap.size) [.int .i64 lh.num, .int .i64 lh.size, .string lh.root, .int .i64 lh.taken, .string lh.troot]) := by rw [Hid, hw]; apply NewBox.cast; (focus ((repeat (first | (with_reducible apply NewBox.alloc) | (with_reducible apply NewBox.drew) | (with_reducible apply NewBox.set1) | ((with_reducible apply NewBox.far); (focus (first | omega | (simp; done) | (simp; omega)))))); exact HXq.out)); rfl
  clear hxq hfq hkq
  have hxq := HXq.out.2.1
  have hfq := HXq.out.2.2
  have hkq := HXq.out.1
  replace HXg : Hid (NewBox w5 (w2.heap.size) [.int .i64 lh.num, .int .i64 lh.size, .string lh.root, .int .i64 lh.taken, .string lh.troot]) := by rw [Hid, hw]; (repeat (first | (with_reducible refine NewBox.alloc ?_ _) | (with_reducible refine NewBox.drew ?_) | ((with_reducible refine NewBox.setCell ?_ ?_ _); rotate_left 1; (focus (first | omega | (simp; done) | (simp; omega)))))); exact HXg.out
  clear hxg hfg hkg
  have hxg := HXg.out.2.1
  have hfg := HXg.out.2.2
  have hkg := HXg.out.1
  clear hw
  refine bodyPost_ret (v := .tuple #[.agg #[.int .i64 lh.num, .int .i64 lh.size, .string lh.root, .int .i64 lh.taken, .string lh.troot], .slice A3 v1.length c3, .slice A4 v2.length c4, .int .i64 0]) (by simp [results, Tryz.results60, go_sem, hxq]) rfl ?_
  exact ⟨A3, c3, x3, y3, A4, c4, x4, y4, rfl, ⟨by omega, by omega, HOU.out⟩, ⟨by omega, by omega, HOV.out⟩, hdis, HB.out⟩
 ·subst e1 e2 e3 e4
  clear HOU
  clear HOV
  clear HTWO o31 o32 o41 o42 hdis
  go_wp2
  refine bodyPost_named (fun w5 hw => ?_)
  have hz5 : w4.heap.size + 0 ≤ w5.heap.size := by rw [hw]; first | omega | (simp [World.setCell]; done) | (simp [World.setCell]; omega)
  have hzz5 : w.heap.size ≤ w5.heap.size := by omega
  replace HB : Hid (Below w.heap.size w w5) := by rw [Hid, hw]; exact (by ((repeat (first | ((with_reducible refine Below.alloc ?_ ?_ _); rotate_left 1; (focus (first | omega | (simp; done) | (simp; omega)))) | (with_reducible refine Below.drew ?_) | ((with_reducible refine Below.setCell ?_ ?_ _); rotate_left 1; (focus (first | omega | (simp; done) | (simp; omega)))))); exact HB.out))
  replace HOE : Hid (Rd w5 (0) (w.heap.size) (E) (ents es)) := by rw [Hid, hw]; (repeat (first | (with_reducible refine Rd.alloc ?_ _) | (with_reducible refine Rd.drew ?_) | ((with_reducible refine Rd.setCell ?_ ?_ _); rotate_left 1; (focus (first | omega | (simp; done) | (simp; omega)))))); exact HOE.out
  replace HOR : Hid (Rd w5 (0) (w.heap.size) (R) (rcps rs)) := by rw [Hid, hw]; (repeat (first | (with_reducible refine Rd.alloc ?_ _) | (with_reducible refine Rd.drew ?_) | ((with_reducible refine Rd.setCell ?_ ?_ _); rotate_left 1; (focus (first | omega | (simp; done) | (simp; omega)))))); exact HOR.out
  replace HOH : Hid (Rd w5 (0) (w.heap.size) (H) (hds hs)) := by rw [Hid, hw]; (repeat (first | (with_reducible refine Rd.alloc ?_ _) | (with_reducible refine Rd.drew ?_) | ((with_reducible refine Rd.setCell ?_ ?_ _); rotate_left 1; (focus (first | omega | (simp; done) | (simp; omega)))))); exact HOH.out
  replace HXb : Hid (NewBox w5 (p) [.int .i64 width, .slice E ne ce, .slice R nr cr, .slice H nh ch, .int .i64 z1, .slice A1 m1 c1, .int .i64 z2, .slice A2 m2 c2, .int .i64 h.num, .int .i64 h.size, .string h.root, .int .i64 h.taken, .string h.troot]) := by rw [Hid, hw]; (repeat (first | (with_reducible refine NewBox.alloc ?_ _) | (with_reducible refine NewBox.drew ?_) | ((with_reducible refine NewBox.setCell ?_ ?_ _); rotate_left 1; (focus (first | omega | (simp; done) | (simp; omega)))))); exact HXb.out
  clear hxb hfb hkb
  have hxb := HXb.out.2.1
  have hfb := HXb.out.2.2
  have hkb := HXb.out.1
  replace HXq : Hid (NewBox w5 (w.heap.size) [.int .i64 0, .int .i64 0, .string ⟨#[]⟩, .int .i64 0, .string ⟨#[]⟩]) := by rw [Hid, hw]; apply NewBox.cast; (focus ((repeat (first | (with_reducible apply NewBox.alloc) | (with_reducible apply NewBox.drew) | (with_reducible apply NewBox.set1) | ((with_reducible apply NewBox.far); (focus (first | omega | (simp; done) | (simp; omega)))))); exact HXq.out)); rfl
  clear hxq hfq hkq
  have hxq := HXq.out.2.1
  have hfq := HXq.out.2.2
  have hkq := HXq.out.1
  replace HXg : Hid (NewBox w5 (w2.heap.size) [.int .i64 lh.num, .int .i64 lh.size, .string lh.root, .int .i64 lh.taken, .string lh.troot]) := by rw [Hid, hw]; (repeat (first | (with_reducible refine NewBox.alloc ?_ _) | (with_reducible refine NewBox.drew ?_) | ((with_reducible refine NewBox.setCell ?_ ?_ _); rotate_left 1; (focus (first | omega | (simp; done) | (simp; omega)))))); exact HXg.out
  clear hxg hfg hkg
  have hxg := HXg.out.2.1
  have hfg := HXg.out.2.2
  have hkg := HXg.out.1
  clear hw
  refine bodyPost_ret (v := .tuple #[.agg #[.int .i64 0, .int .i64 0, .string ⟨#[]⟩, .int .i64 0, .string ⟨#[]⟩], .slice none 0 0, .slice none 0 0, .int .i64 2]) (by simp [results, Tryz.results60, go_sem, hxq]) rfl ?_
  exact hf_none _ _ _ _ HB.out 2
set_option maxRecDepth 100000 in
set_option maxHeartbeats 4000000 in
theorem l12From_c (width z1 z2 : Int) (E R H A1 A2 : Option Addr) (ne nr nh ce cr ch c1 c2 lo1 hi1 lo2 hi2 lo3 hi3 m1 m2 : Nat) (es : List Ent) (rs : List Rcp) (hs : List Hd) (h : Hd) (a c : Int) (w : World)
  (hE : Rd w lo1 hi1 E (ents es)) (hR : Rd w lo2 hi2 R (rcps rs)) (hH : Rd w lo3 hi3 H (hds hs)) (hne : es.length = ne) (hnr : rs.length = nr) (hnh : hs.length = nh) (b1 : ne ≤ 1048576) (b2 : nr ≤ 1048576) (b3 : nh ≤ 1048576) (b6 : ne ≤ ce) (b7 : nr ≤ cr) (hfe : ∀ x ∈ es, x.fits) (hfr : ∀ x ∈ rs, x.fits) (hp : BrkParts width es rs hs) :
  Calls Tryz.prog 59 #[.agg #[.int .i64 width, .slice E ne ce, .slice R nr cr, .slice H nh ch, .int .i64 z1, .slice A1 m1 c1, .int .i64 z2, .slice A2 m2 c2, .int .i64 h.num, .int .i64 h.size, .string h.root, .int .i64 h.taken, .string h.troot], .int .i64 a, .int .i64 c] w (HfPost w (frH (lastHd hs) a c) (fr1 width es (lastHd hs) a c) (fr2 width rs (lastHd hs) a c) (frC (lastHd hs) a c)) := by
 have hpos : 0 < nh := by rw [← hnh]; exact hp.pos
 have HTWO := Lib.hid (fr_two width es rs (lastHd hs) a c)
 have HBT := Lib.hid (fun W (r0 : Rd W 0 W.heap.size E (ents es)) (r1 : Rd W 0 W.heap.size R (rcps rs)) (r2 : Rd W 0 W.heap.size H (hds hs)) => (l12Between_c width z1 z2 E R H A1 A2 ne nr nh ce cr ch c1 c2 0 W.heap.size 0 W.heap.size 0 W.heap.size m1 m2 es rs hs h a (lastHd hs).size c (lastHd hs).taken W r0 r1 r2 hne hnr hnh b1 b2 b3 b6 b7 hfe hfr hp).mono (fun _ _ h => h.two))
 have HNH := Lib.hid hnh
 have ed1 : btL1 width es (lastHd hs) a (lastHd hs).size c (lastHd hs).taken = fr1 width es (lastHd hs) a c := rfl
 have ed2 : btL2 width rs (lastHd hs) a (lastHd hs).size c (lastHd hs).taken = fr2 width rs (lastHd hs) a c := rfl
 have ed3 : btC (lastHd hs) a (lastHd hs).size c (lastHd hs).taken = frC (lastHd hs) a c := rfl
 rw [ed1, ed2, ed3] at HBT
 clear ed1 ed2 ed3
 generalize fr1 width es (lastHd hs) a c = v1 at *
 generalize fr2 width rs (lastHd hs) a c = v2 at *
 generalize frC (lastHd hs) a c = v3 at *
 generalize frH (lastHd hs) a c = vh at *
 have HB : Hid (Below w.heap.size w w) := Below.refl _ _
 have HOE : Hid (Rd w (0) (w.heap.size) (E) (ents es)) := Rd.base hE
 have HOR : Hid (Rd w (0) (w.heap.size) (R) (rcps rs)) := Rd.base hR
 have HOH : Hid (Rd w (0) (w.heap.size) (H) (hds hs)) := Rd.base hH
 clear hE hR hH hne hnr hnh hfe hfr hp
 go_enter Tryz.func59, Tryz.ntmps59
 go_wp2_with fail
 refine calls_named (fun w1 hw => ?_)
 have hz1 : w.heap.size + 2 ≤ w1.heap.size := by rw [hw]; first | omega | (simp [World.setCell]; done) | (simp [World.setCell]; omega)
 have hzz1 : w.heap.size ≤ w1.heap.size := by omega
 have hbn : Below w.heap.size w w1 := by rw [hw]; exact (by ((repeat (first | ((with_reducible refine Below.alloc ?_ ?_ _); rotate_left 1; (focus (first | omega | (simp; done) | (simp; omega)))) | (with_reducible refine Below.drew ?_) | ((with_reducible refine Below.setCell ?_ ?_ _); rotate_left 1; (focus (first | omega | (simp; done) | (simp; omega)))))); exact Below.refl _ _))
 replace HB := Lib.hid (below_then HB.out hbn HB.out.size)
 replace HOE := Lib.hid (HOE.out.below hbn)
 replace HOR := Lib.hid (HOR.out.below hbn)
 replace HOH := Lib.hid (HOH.out.below hbn)
 clear hbn
 have HXb : Hid (NewBox w1 (w.heap.size) [.int .i64 width, .slice E ne ce, .slice R nr cr, .slice H nh ch, .int .i64 z1, .slice A1 m1 c1, .int .i64 z2, .slice A2 m2 c2, .int .i64 h.num, .int .i64 h.size, .string h.root, .int .i64 h.taken, .string h.troot]) := by rw [Hid, hw]; exact ⟨by first | omega | (simp [World.setCell]; done) | (simp [World.setCell]; omega), fun o => by rcases o with _ | _ | _ | _ | _ | _ | _ | _ | _ | _ | _ | _ | _ | o <;> go_simp, fun o => by go_simp⟩
 have hxb := HXb.out.2.1
 have hfb := HXb.out.2.2
 have hkb := HXb.out.1
 have HXq : Hid (NewBox w1 (w.heap.size + 1) [.int .i64 0, .int .i64 0, .string ⟨#[]⟩, .int .i64 0, .string ⟨#[]⟩]) := by rw [Hid, hw]; exact ⟨by first | omega | (simp [World.setCell]; done) | (simp [World.setCell]; omega), fun o => by rcases o with _ | _ | _ | _ | _ | o <;> go_simp, fun o => by go_simp⟩
 have hxq := HXq.out.2.1
 have hfq := HXq.out.2.2
 have hkq := HXq.out.1
 clear hw
 refine (l12Last_c width z1 z2 E R H A1 A2 ne nr nh ce cr ch c1 c2 0 (w1).heap.size m1 m2 hs h w1 HOH.out.base HNH.out hpos b3).mono ?_
 rintro e w2 ⟨rfl, hb⟩
 have hzw2 : w1.heap.size ≤ w2.heap.size := hb.size
 have hzzw2 : w.heap.size ≤ w2.heap.size := by omega
 replace HB := Lib.hid (below_then HB.out hb HB.out.size)
 replace HOE := Lib.hid (HOE.out.below hb)
 replace HOR := Lib.hid (HOR.out.below hb)
 replace HOH := Lib.hid (HOH.out.below hb)
 replace HXb := Lib.hid (HXb.out.below hb)
 clear hxb hfb hkb
 have hxb := HXb.out.2.1
 have hfb := HXb.out.2.2
 have hkb := HXb.out.1
 replace HXq := Lib.hid (HXq.out.below hb)
 clear hxq hfq hkq
 have hxq := HXq.out.2.1
 have hfq := HXq.out.2.2
 have hkq := HXq.out.1
 clear hb
 generalize lastHd hs = lh at *
 go_wp2_with fail
 refine calls_named (fun w3 hw => ?_)
 have hz3 : w2.heap.size + 1 ≤ w3.heap.size := by rw [hw]; first | omega | (simp [World.setCell]; done) | (simp [World.setCell]; omega)
 have hzz3 : w.heap.size ≤ w3.heap.size := by omega
 have hbn : Below w2.heap.size w2 w3 := by rw [hw]; exact (by ((repeat (first | ((with_reducible refine Below.alloc ?_ ?_ _); rotate_left 1; (focus (first | omega | (simp; done) | (simp; omega)))) | (with_reducible refine Below.drew ?_) | ((with_reducible refine Below.setCell ?_ ?_ _); rotate_left 1; (focus (first | omega | (simp; done) | (simp; omega)))))); exact Below.refl _ _))
 replace HB := Lib.hid (below_then HB.out hbn HB.out.size)
 replace HOE := Lib.hid (HOE.out.below hbn)
 replace HOR := Lib.hid (HOR.out.below hbn)
 replace HOH := Lib.hid (HOH.out.below hbn)
 replace HXb := Lib.hid (HXb.out.below hbn)
 clear hxb hfb hkb
 have hxb := HXb.out.2.1
 have hfb := HXb.out.2.2
 have hkb := HXb.out.1
 replace HXq := Lib.hid (HXq.out.below hbn)
 clear hxq hfq hkq
 have hxq := HXq.out.2.1
 have hfq := HXq.out.2.2
 have hkq := HXq.out.1
 clear hbn
 have HXg : Hid (NewBox w3 (w2.heap.size) [.int .i64 lh.num, .int .i64 lh.size, .string lh.root, .int .i64 lh.taken, .string lh.troot]) := by rw [Hid, hw]; exact ⟨by first | omega | (simp [World.setCell]; done) | (simp [World.setCell]; omega), fun o => by rcases o with _ | _ | _ | _ | _ | o <;> go_simp, fun o => by go_simp⟩
 have hxg := HXg.out.2.1
 have hfg := HXg.out.2.2
 have hkg := HXg.out.1
 clear hw
 refine (HBT.out _ HOE.out.base HOR.out.base HOH.out.base).mono ?_
 rintro e w4 ⟨⟨A3, c3, x3, y3, A4, c4, x4, y4, rfl, o3, o4, hdis⟩, hb⟩
 have hzw4 : w3.heap.size ≤ w4.heap.size := hb.size
 have hzzw4 : w.heap.size ≤ w4.heap.size := by omega
 replace HB := Lib.hid (below_then HB.out hb HB.out.size)
 replace HOE := Lib.hid (HOE.out.below hb)
 replace HOR := Lib.hid (HOR.out.below hb)
 replace HOH := Lib.hid (HOH.out.below hb)
 replace HXb := Lib.hid (HXb.out.below hb)
 clear hxb hfb hkb
 have hxb := HXb.out.2.1
 have hfb := HXb.out.2.2
 have hkb := HXb.out.1
 replace HXq := Lib.hid (HXq.out.below hb)
 clear hxq hfq hkq
 have hxq := HXq.out.2.1
 have hfq := HXq.out.2.2
 have hkq := HXq.out.1
 replace HXg := Lib.hid (HXg.out.below hb)
 clear hxg hfg hkg
 have hxg := HXg.out.2.1
 have hfg := HXg.out.2.2
 have hkg := HXg.out.1
 clear hb
 have HOU : Hid (Own w4 (x3) (y3) (A3) (strs v1)) := o3.2.2
 have HOV : Hid (Own w4 (x4) (y4) (A4) (strs v2)) := o4.2.2
 have o31 := o3.1
 have o32 := o3.2.1
 have o41 := o4.1
 have o42 := o4.2.1
 clear o3 o4 HBT
 rcases HTWO.out with ⟨e1, e2⟩ | ⟨e1, e2, e3, e4⟩
 ·replace e2 := e2.symm
  subst e1 e2
  clear HTWO
  go_wp2
  refine bodyPost_named (fun w5 hw => ?_)
  have hz5 : w4.heap.size + 0 ≤ w5.heap.size := by rw [hw]; first | omega | (simp [World.setCell]; done) | (simp [World.setCell]; omega)
  have hzz5 : w.heap.size ≤ w5.heap.size := by omega
  replace HB : Hid (Below w.heap.size w w5) := by rw [Hid, hw]; exact (by ((repeat (first | ((with_reducible refine Below.alloc ?_ ?_ _); rotate_left 1; (focus (first | omega | (simp; done) | (simp; omega)))) | (with_reducible refine Below.drew ?_) | ((with_reducible refine Below.setCell ?_ ?_ _); rotate_left 1; (focus (first | omega | (simp; done) | (simp; omega)))))); exact HB.out))
  replace HOE : Hid (Rd w5 (0) (w.heap.size) (E) (ents es)) := by rw [Hid, hw]; (repeat (first | (with_reducible refine Rd.alloc ?_ _) | (with_reducible refine Rd.drew ?_) | ((with_reducible refine Rd.setCell ?_ ?_ _); rotate_left 1; (focus (first | omega | (simp; done) | (simp; omega)))))); exact HOE.out
  replace HOR : Hid (Rd w5 (0) (w.heap.size) (R) (rcps rs)) := by rw [Hid, hw]; (repeat (first | (with_reducible refine Rd.alloc ?_ _) | (with_reducible refine Rd.drew ?_) | ((with_reducible refine Rd.setCell ?_ ?_ _); rotate_left 1; (focus (first | omega | (simp; done) | (simp; omega)))))); exact HOR.out
  replace HOH : Hid (Rd w5 (0) (w.heap.size) (H) (hds hs)) := by rw [Hid, hw]; (repeat (first | (with_reducible refine Rd.alloc ?_ _) | (with_reducible refine Rd.drew ?_) | ((with_reducible refine Rd.setCell ?_ ?_ _); rotate_left 1; (focus (first | omega | (simp; done) | (simp; omega)))))); exact HOH.out
  replace HOU : Hid (Own w5 (x3) (y3) (A3) (strs v1)) := by rw [Hid, hw]; (repeat (first | (with_reducible refine Own.alloc ?_ _) | (with_reducible refine Own.drew ?_) | ((with_reducible refine Own.setCell ?_ ?_ _); rotate_left 1; (focus (first | omega | (simp; done) | (simp; omega)))))); exact HOU.out
  replace HOV : Hid (Own w5 (x4) (y4) (A4) (strs v2)) := by rw [Hid, hw]; (repeat (first | (with_reducible refine Own.alloc ?_ _) | (with_reducible refine Own.drew ?_) | ((with_reducible refine Own.setCell ?_ ?_ _); rotate_left 1; (focus (first | omega | (simp; done) | (simp; omega)))))); exact HOV.out
  replace HXb : Hid (NewBox w5 (w.heap.size) [.int .i64 width, .slice E ne ce, .slice R nr cr, .slice H nh ch, .int .i64 z1, .slice A1 m1 c1, .int .i64 z2, .slice A2 m2 c2, .int .i64 h.num, .int .i64 h.size, .string h.root, .int .i64 h.taken, .string h.troot]) := by rw [Hid, hw]; (repeat (first | (with_reducible refine NewBox.alloc ?_ _) | (with_reducible refine NewBox.drew ?_) | ((with_reducible refine NewBox.setCell ?_ ?_ _); rotate_left 1; (focus (first | omega | (simp; done) | (simp; omega)))))); exact HXb.out
  clear hxb hfb hkb
  have hxb := HXb.out.2.1
  have hfb := HXb.out.2.2
  have hkb := HXb.out.1
  replace HXq : Hid (NewBox w5 (w.heap.size + 1) [.int .i64 lh.num, .int .i64 lh.size, .string lh.root, .int .i64 lh.taken, .string lh.troot]) := by rw [Hid, hw]; apply NewBox.cast; (focus ((repeat (first | (with_reducible apply NewBox.alloc) | (with_reducible apply NewBox.drew) | (with_reducible apply NewBox.set1) | ((with_reducible apply NewBox.far); (focus (first | omega | (simp; done) | (simp; omega)))))); exact HXq.out)); rfl
  clear hxq hfq hkq
  have hxq := HXq.out.2.1
  have hfq := HXq.out.2.2
  have hkq := HXq.out.1
  replace HXg : Hid (NewBox w5 (w2.heap.size) [.int .i64 lh.num, .int .i64 lh.size, .string lh.root, .int .i64 lh.taken, .string lh.troot]) := by rw [Hid, hw]; (repeat (first | (with_reducible refine NewBox.alloc ?_ _) | (with_reducible refine NewBox.drew ?_) | ((with_reducible refine NewBox.setCell ?_ ?_ _); rotate_left 1; (focus (first | omega | (simp; done) | (simp; omega)))))); exact HXg.out
  clear hxg hfg hkg
  have hxg := HXg.out.2.1
  have hfg := HXg.out.2.2
  have hkg := HXg.out.1
  clear hw
  refine bodyPost_ret (v := .tuple #[.agg #[.int .i64 lh.num, .int .i64 lh.size, .string lh.root, .int .i64 lh.taken, .string lh.troot], .slice A3 v1.length c3, .slice A4 v2.length c4, .int .i64 0]) (by simp [results, Tryz.results59, go_sem, hxq]) rfl ?_
  exact ⟨A3, c3, x3, y3, A4, c4, x4, y4, rfl, ⟨by omega, by omega, HOU.out⟩, ⟨by omega, by omega, HOV.out⟩, hdis, HB.out⟩
 ·subst e1 e2 e3 e4
  clear HOU
  clear HOV
  clear HTWO o31 o32 o41 o42 hdis
  go_wp2
  refine bodyPost_named (fun w5 hw => ?_)
  have hz5 : w4.heap.size + 2 ≤ w5.heap.size := by rw [hw]; first | omega | (simp [World.setCell]; done) | (simp [World.setCell]; omega)
  have hzz5 : w.heap.size ≤ w5.heap.size := by omega
  replace HB : Hid (Below w.heap.size w w5) := by rw [Hid, hw]; exact (by ((repeat (first | ((with_reducible refine Below.alloc ?_ ?_ _); rotate_left 1; (focus (first | omega | (simp; done) | (simp; omega)))) | (with_reducible refine Below.drew ?_) | ((with_reducible refine Below.setCell ?_ ?_ _); rotate_left 1; (focus (first | omega | (simp; done) | (simp; omega)))))); exact HB.out))
  replace HOE : Hid (Rd w5 (0) (w.heap.size) (E) (ents es)) := by rw [Hid, hw]; (repeat (first | (with_reducible refine Rd.alloc ?_ _) | (with_reducible refine Rd.drew ?_) | ((with_reducible refine Rd.setCell ?_ ?_ _); rotate_left 1; (focus (first | omega | (simp; done) | (simp; omega)))))); exact HOE.out
  replace HOR : Hid (Rd w5 (0) (w.heap.size) (R) (rcps rs)) := by rw [Hid, hw]; (repeat (first | (with_reducible refine Rd.alloc ?_ _) | (with_reducible refine Rd.drew ?_) | ((with_reducible refine Rd.setCell ?_ ?_ _); rotate_left 1; (focus (first | omega | (simp; done) | (simp; omega)))))); exact HOR.out
  replace HOH : Hid (Rd w5 (0) (w.heap.size) (H) (hds hs)) := by rw [Hid, hw]; (repeat (first | (with_reducible refine Rd.alloc ?_ _) | (with_reducible refine Rd.drew ?_) | ((with_reducible refine Rd.setCell ?_ ?_ _); rotate_left 1; (focus (first | omega | (simp; done) | (simp; omega)))))); exact HOH.out
  replace HXb : Hid (NewBox w5 (w.heap.size) [.int .i64 width, .slice E ne ce, .slice R nr cr, .slice H nh ch, .int .i64 z1, .slice A1 m1 c1, .int .i64 z2, .slice A2 m2 c2, .int .i64 h.num, .int .i64 h.size, .string h.root, .int .i64 h.taken, .string h.troot]) := by rw [Hid, hw]; (repeat (first | (with_reducible refine NewBox.alloc ?_ _) | (with_reducible refine NewBox.drew ?_) | ((with_reducible refine NewBox.setCell ?_ ?_ _); rotate_left 1; (focus (first | omega | (simp; done) | (simp; omega)))))); exact HXb.out
  clear hxb hfb hkb
  have hxb := HXb.out.2.1
  have hfb := HXb.out.2.2
  have hkb := HXb.out.1
  replace HXq : Hid (NewBox w5 (w.heap.size + 1) [.int .i64 0, .int .i64 0, .string ⟨#[]⟩, .int .i64 0, .string ⟨#[]⟩]) := by rw [Hid, hw]; apply NewBox.cast; (focus ((repeat (first | (with_reducible apply NewBox.alloc) | (with_reducible apply NewBox.drew) | (with_reducible apply NewBox.set1) | ((with_reducible apply NewBox.far); (focus (first | omega | (simp; done) | (simp; omega)))))); exact HXq.out)); rfl
  clear hxq hfq hkq
  have hxq := HXq.out.2.1
  have hfq := HXq.out.2.2
  have hkq := HXq.out.1
  replace HXg : Hid (NewBox w5 (w2.heap.size) [.int .i64 lh.num, .int .i64 lh.size, .string lh.root, .int .i64 lh.taken, .string lh.troot]) := by rw [Hid, hw]; (repeat (first | (with_reducible refine NewBox.alloc ?_ _) | (with_reducible refine NewBox.drew ?_) | ((with_reducible refine NewBox.setCell ?_ ?_ _); rotate_left 1; (focus (first | omega | (simp; done) | (simp; omega)))))); exact HXg.out
  clear hxg hfg hkg
  have hxg := HXg.out.2.1
  have hfg := HXg.out.2.2
  have hkg := HXg.out.1
  have HXe1 : Hid (NewBox w5 (w4.heap.size) []) := by rw [Hid, hw]; exact ⟨by first | omega | (simp [World.setCell]; done) | (simp [World.setCell]; omega), fun o => by rcases o with o <;> go_simp, fun o => by go_simp⟩
  have hxe1 := HXe1.out.2.1
  have hfe1 := HXe1.out.2.2
  have hke1 := HXe1.out.1
  have HXe2 : Hid (NewBox w5 (w4.heap.size + 1) []) := by rw [Hid, hw]; exact ⟨by first | omega | (simp [World.setCell]; done) | (simp [World.setCell]; omega), fun o => by rcases o with o <;> go_simp, fun o => by go_simp⟩
  have hxe2 := HXe2.out.2.1
  have hfe2 := HXe2.out.2.2
  have hke2 := HXe2.out.1
  clear hw
  refine bodyPost_ret (v := .tuple #[.agg #[.int .i64 0, .int .i64 0, .string ⟨#[]⟩, .int .i64 0, .string ⟨#[]⟩], .slice (some ⟨w4.heap.size, 0, none⟩) 0 0, .slice (some ⟨w4.heap.size + 1, 0, none⟩) 0 0, .int .i64 2]) (by simp [results, Tryz.results59, go_sem, hxq]) rfl ?_
  exact hf_none _ _ _ _ HB.out 2
end Go.Proofs.YtmmepogjocfefaaGreat
