/- Between: the program's. -/
import Derived.Test.YtmmepogjocfefaaGreatLvs
import Derived.Test.YtmmepogjocfefaaGreatCons2
namespace Go.Proofs.YtmmepogjocfefaaGreat
set_option linter.unusedVariables false
set_option linter.unusedSimpArgs false
open Go.RowKit

def bwIn (lh : Hd) (a b c d : Int) : Bool := decide (0 ≤ a) && (decide (a ≤ b) && (decide (b ≤ lh.size) && (decide (0 ≤ c) && (decide (c ≤ d) && decide (d ≤ lh.taken)))))
theorem bwIn_no {lh : Hd} {a b c d : Int} (h : a < 0 ∨ b < a ∨ lh.size < b ∨ c < 0 ∨ d < c ∨ lh.taken < d) : bwIn lh a b c d = false := by
 rw [bwIn]
 rcases h with h | h | h | h | h | h
 ·rw [decide_eq_false (by omega)]; rfl
 ·rw [decide_eq_false (p := a ≤ b) (by omega)]; simp
 ·rw [decide_eq_false (p := b ≤ lh.size) (by omega)]; simp
 ·rw [decide_eq_false (p := 0 ≤ c) (by omega)]; simp
 ·rw [decide_eq_false (p := c ≤ d) (by omega)]; simp
 ·rw [decide_eq_false (p := d ≤ lh.taken) (by omega)]; simp
theorem bwIn_yes {lh : Hd} {a b c d : Int} (h1 : 0 ≤ a) (h2 : a ≤ b) (h3 : b ≤ lh.size) (h4 : 0 ≤ c) (h5 : c ≤ d) (h6 : d ≤ lh.taken) : bwIn lh a b c d = true := by
 rw [bwIn, decide_eq_true h1, decide_eq_true h2, decide_eq_true h3, decide_eq_true h4, decide_eq_true h5, decide_eq_true h6]; rfl
def btC (lh : Hd) (a b c d : Int) : Int := if bwIn lh a b c d then 0 else 2
def btL1 (width : Int) (es : List Ent) (lh : Hd) (a b c d : Int) : List ByteArray := if bwIn lh a b c d then conTx width ((leavesM width es).take b.toNat) a else []
def btL2 (width : Int) (rs : List Rcp) (lh : Hd) (a b c d : Int) : List ByteArray := if bwIn lh a b c d then conTx width ((takenM width rs).take d.toNat) c else []
def BwPost (w : World) (l1 l2 : List ByteArray) (code : Int) (e : Ending) (w' : World) : Prop :=
 ∃ (A1 : Option Addr) (c1 a1 b1 : Nat) (A2 : Option Addr) (c2 a2 b2 : Nat), e = .returned (.tuple #[.slice A1 l1.length c1, .slice A2 l2.length c2, .int .i64 code]) ∧
   (w.heap.size ≤ a1 ∧ b1 ≤ w'.heap.size ∧ Own w' a1 b1 A1 (strs l1)) ∧ (w.heap.size ≤ a2 ∧ b2 ≤ w'.heap.size ∧ Own w' a2 b2 A2 (strs l2)) ∧ (b1 ≤ a2 ∨ b2 ≤ a1) ∧ Below w.heap.size w w'
theorem bw_none {w w' : World} (hB : Below w.heap.size w w') (code : Int) : BwPost w [] [] code (.returned (.tuple #[.slice none 0 0, .slice none 0 0, .int .i64 code])) w' :=
 ⟨none, 0, w'.heap.size, w'.heap.size, none, 0, w'.heap.size, w'.heap.size, rfl, ⟨hB.size, Nat.le_refl _, Own.nil⟩, ⟨hB.size, Nat.le_refl _, Own.nil⟩, .inl (Nat.le_refl _), hB⟩
/-- what consistent hands back is what Consistency does -/
theorem conTx_eq {width : Int} {l : List ByteArray} {k n : Nat} (hw : inR width 1 32 = true) (ha : areH width l = true) (hn : l.length = n) (h5 : n ≤ 512) (hk : k ≤ n) : (if k = 0 then [] else consFu width 513 l k true) = conTx width l k ∧ conOk width l k = true := by
 have h1 : conOk width l k = true := by
  rw [conOk, leavesOk, hw, ha, hn, decide_eq_true h5, Bool.true_and, Bool.true_and]
  show inR (k : Int) 0 (n : Int) = true
  exact inR_true.2 ⟨by omega, by omega⟩
 refine ⟨?_, h1⟩
 rw [conTx, h1, if_pos rfl, Int.toNat_natCast]
 by_cases h0 : k = 0
 ·rw [if_pos h0, if_pos (by omega)]
 ·rw [if_neg h0, if_neg (by omega)]
set_option maxRecDepth 100000 in
set_option maxHeartbeats 4000000 in
theorem between_c (width z1 z2 : Int) (p : Nat) (E R H A1 A2 : Option Addr) (ne nr nh ce cr ch c1 c2 lo1 hi1 lo2 hi2 lo3 hi3 m1 m2 : Nat) (es : List Ent) (rs : List Rcp) (hs : List Hd) (h : Hd) (a b c d : Int) (w : World) (hbx : NewBox w p [.int .i64 width, .slice E ne ce, .slice R nr cr, .slice H nh ch, .int .i64 z1, .slice A1 m1 c1, .int .i64 z2, .slice A2 m2 c2, .int .i64 h.num, .int .i64 h.size, .string h.root, .int .i64 h.taken, .string h.troot])
  (hE : Rd w lo1 hi1 E (ents es)) (hR : Rd w lo2 hi2 R (rcps rs)) (hH : Rd w lo3 hi3 H (hds hs)) (hne : es.length = ne) (hnr : rs.length = nr) (hnh : hs.length = nh) (b1 : ne ≤ 1048576) (b2 : nr ≤ 1048576) (b3 : nh ≤ 1048576) (b6 : ne ≤ ce) (b7 : nr ≤ cr) (hfe : ∀ x ∈ es, x.fits) (hfr : ∀ x ∈ rs, x.fits) (hp : BrkParts width es rs hs) :
  Calls Tryz.prog 77 #[.pointer (some ⟨p, 0, none⟩), .int .i64 a, .int .i64 b, .int .i64 c, .int .i64 d] w (BwPost w (btL1 width es (lastHd hs) a b c d) (btL2 width rs (lastHd hs) a b c d) (btC (lastHd hs) a b c d)) := by
 have hpl := hp.last
 have hla := leavesM_are hp.wd hp.log
 have hta := takenM_are hp.wd hp.rcps
 have hll := (leavesM_len width es).trans hne
 have htl := (takenM_len width rs).trans hnr
 have h51 : ne ≤ 512 := by rw [← hne]; exact logOk_len hp.log
 have h52 : nr ≤ 512 := by rw [← hnr]; exact rcpsOk_len hp.rcps
 have hpos : 0 < nh := by rw [← hnh]; exact hp.pos
 have HW := Lib.hid (And.intro hp.wd (And.intro hla (And.intro hta (And.intro hll htl))))
 have HLV := Lib.hid (fun W m (q : NewBox W p [.int .i64 width, .slice E ne ce, .slice R nr cr, .slice H nh ch, .int .i64 z1, .slice A1 m1 c1, .int .i64 z2, .slice A2 m2 c2, .int .i64 h.num, .int .i64 h.size, .string h.root, .int .i64 h.taken, .string h.troot]) (r : Rd W 0 W.heap.size E (ents es)) (hm : m ≤ ne) => leaves_c width z1 z2 p m E R H A1 A2 ne nr nh ce cr ch c1 c2 0 W.heap.size m1 m2 es h W q r hne b1 b6 hm hfe)
 have HTK := Lib.hid (fun W m (q : NewBox W p [.int .i64 width, .slice E ne ce, .slice R nr cr, .slice H nh ch, .int .i64 z1, .slice A1 m1 c1, .int .i64 z2, .slice A2 m2 c2, .int .i64 h.num, .int .i64 h.size, .string h.root, .int .i64 h.taken, .string h.troot]) (r : Rd W 0 W.heap.size R (rcps rs)) (hm : m ≤ nr) => takens_c width z1 z2 p m E R H A1 A2 ne nr nh ce cr ch c1 c2 0 W.heap.size m1 m2 rs h W q r hnr b2 b7 hm hfr)
 have HNH := Lib.hid hnh
 rw [hne, hnr] at hpl
 have hb7 : 0 ≤ (lastHd hs).size ∧ (lastHd hs).size ≤ ne ∧ 0 ≤ (lastHd hs).taken ∧ (lastHd hs).taken ≤ nr := ⟨hpl.1, hpl.2.1, hpl.2.2.2.1, hpl.2.2.2.2.1⟩
 have hpw : p < w.heap.size := hbx.1
 have HB : Hid (Below w.heap.size w w) := Below.refl _ _
 have HOE : Hid (Rd w (0) (w.heap.size) (E) (ents es)) := Rd.base hE
 have HOR : Hid (Rd w (0) (w.heap.size) (R) (rcps rs)) := Rd.base hR
 have HOH : Hid (Rd w (0) (w.heap.size) (H) (hds hs)) := Rd.base hH
 replace HB : Hid (Below w.heap.size w w) := (Below.refl _ _)
 have HXb : Hid (NewBox w (p) [.int .i64 width, .slice E ne ce, .slice R nr cr, .slice H nh ch, .int .i64 z1, .slice A1 m1 c1, .int .i64 z2, .slice A2 m2 c2, .int .i64 h.num, .int .i64 h.size, .string h.root, .int .i64 h.taken, .string h.troot]) := hbx
 have hxb := HXb.out.2.1
 have hfb := HXb.out.2.2
 have hkb := HXb.out.1
 clear hbx hE hR hH hne hnr hnh hfe hfr hp hpl hla hta hll htl
 go_enter Tryz.func77, Tryz.ntmps77
 go_wp2_with fail
 refine calls_named (fun w1 hw => ?_)
 have hz1 : w.heap.size + 0 ≤ w1.heap.size := by rw [hw]; first | omega | (simp [World.setCell]; done) | (simp [World.setCell]; omega)
 have hbn : Below w.heap.size w w1 := by rw [hw]; exact (by ((repeat (first | ((with_reducible refine Below.alloc ?_ ?_ _); rotate_left 1; (focus (first | omega | (simp; done) | (simp; omega)))) | (with_reducible refine Below.drew ?_) | ((with_reducible refine Below.setCell ?_ ?_ _); rotate_left 1; (focus (first | omega | (simp; done) | (simp; omega)))))); exact Below.refl _ _))
 replace HB := Lib.hid (below_then HB.out hbn HB.out.size)
 replace HOE := Lib.hid (HOE.out.below hbn)
 replace HOR := Lib.hid (HOR.out.below hbn)
 replace HOH := Lib.hid (HOH.out.below hbn)
 replace HXb := Lib.hid (HXb.out.below hbn)
 clear hxb hfb hkb
 have hxb := HXb.out.2.1
 have hfb := HXb.out.2.2
 have hkb := HXb.out.1
 clear hbn
 clear hw
 refine (last_c p nh ch 0 (w1).heap.size H hs w1 hkb (hxb 3) HOH.out.base HNH.out hpos b3).mono ?_
 rintro e w2 ⟨rfl, hb⟩
 have hzw2 : w1.heap.size ≤ w2.heap.size := hb.size
 have hzzw2 : w.heap.size ≤ w2.heap.size := by omega
 replace HB := Lib.hid (below_then HB.out hb HB.out.size)
 replace HOE := Lib.hid (HOE.out.below hb)
 replace HOR := Lib.hid (HOR.out.below hb)
 replace HOH := Lib.hid (HOH.out.below hb)
 replace HXb := Lib.hid (HXb.out.below hb)
 clear hxb hfb hkb
 have hxb := HXb.out.2.1
 have hfb := HXb.out.2.2
 have hkb := HXb.out.1
 clear hb
 generalize lastHd hs = lh at *
 rcases (show (a < 0 ∨ b < a ∨ lh.size < b ∨ c < 0 ∨ d < c ∨ lh.taken < d) ∨ (0 ≤ a ∧ a ≤ b ∧ b ≤ lh.size ∧ 0 ≤ c ∧ c ≤ d ∧ d ≤ lh.taken) by omega) with hbad | hgood
 ·have HNO := Lib.hid (bwIn_no hbad)
  have HPOST : Hid (∀ w', Below w.heap.size w w' → BwPost w (btL1 width es lh a b c d) (btL2 width rs lh a b c d) (btC lh a b c d) (.returned (.tuple #[.slice none 0 0, .slice none 0 0, .int .i64 2])) w') := Lib.hid (fun w' hB => by rw [btL1, btL2, btC, HNO.out]; exact bw_none hB 2)
  clear HLV HTK HW HNO
  rcases (show a < 0 ∨ (0 ≤ a ∧ b < a) ∨ (0 ≤ a ∧ a ≤ b ∧ lh.size < b) ∨ (0 ≤ a ∧ a ≤ b ∧ b ≤ lh.size ∧ c < 0) ∨ (0 ≤ a ∧ a ≤ b ∧ b ≤ lh.size ∧ 0 ≤ c ∧ d < c) ∨ (0 ≤ a ∧ a ≤ b ∧ b ≤ lh.size ∧ 0 ≤ c ∧ c ≤ d ∧ lh.taken < d) by omega) with x1 | ⟨x1, x2⟩ | ⟨x1, x2, x3⟩ | ⟨x1, x2, x3, x4⟩ | ⟨x1, x2, x3, x4, x5⟩ | ⟨x1, x2, x3, x4, x5, x6⟩
  all_goals
   clear hbad
   go_wp2
   refine bodyPost_named (fun w77 hw => ?_)
   have hb77 : Hid (Below w.heap.size w w77) := by rw [Hid, hw]; exact (by ((repeat (first | ((with_reducible refine Below.alloc ?_ ?_ _); rotate_left 1; (focus (first | omega | (simp; done) | (simp; omega)))) | (with_reducible refine Below.drew ?_) | ((with_reducible refine Below.setCell ?_ ?_ _); rotate_left 1; (focus (first | omega | (simp; done) | (simp; omega)))))); exact HB.out))
   clear hw
   refine bodyPost_ret (v := .tuple #[.slice none 0 0, .slice none 0 0, .int .i64 2]) (by simp [results, Tryz.results77, go_sem]) rfl ?_
   exact HPOST.out _ hb77.out
 ·obtain ⟨x1, x2, x3, x4, x5, x6⟩ := hgood
  obtain ⟨nA, rfl⟩ : ∃ nA : Nat, a = nA := ⟨a.toNat, by omega⟩
  obtain ⟨nB, rfl⟩ : ∃ nB : Nat, b = nB := ⟨b.toNat, by omega⟩
  obtain ⟨nC, rfl⟩ : ∃ nC : Nat, c = nC := ⟨c.toNat, by omega⟩
  obtain ⟨nD, rfl⟩ : ∃ nD : Nat, d = nD := ⟨d.toNat, by omega⟩
  have hxy : nA ≤ nB ∧ nC ≤ nD ∧ nB ≤ ne ∧ nD ≤ nr := by omega
  have HYES := Lib.hid (bwIn_yes x1 x2 x3 x4 x5 x6)
  have hq1 : ((leavesM width es).take nB).length = nB := by rw [List.length_take, HW.out.2.2.2.1]; omega
  have hq2 : ((takenM width rs).take nD).length = nD := by rw [List.length_take, HW.out.2.2.2.2]; omega
  have ha1 := areH_sub HW.out.2.1 (fun s hs => List.mem_of_mem_take hs : ∀ s ∈ (leavesM width es).take nB, s ∈ leavesM width es)
  have ha2 := areH_sub HW.out.2.2.1 (fun s hs => List.mem_of_mem_take hs : ∀ s ∈ (takenM width rs).take nD, s ∈ takenM width rs)
  have hc1 := conTx_eq HW.out.1 ha1 hq1 (by omega) hxy.1
  have hc2 := conTx_eq HW.out.1 ha2 hq2 (by omega) hxy.2.1
  have hn1 := fun W X d1 (r : Rd W 0 W.heap.size X (strs ((leavesM width es).take nB))) (hd : nB ≤ d1) => consistent_c width HW.out.1 X d1 0 W.heap.size nB nA ((leavesM width es).take nB) W r hq1 (by omega) hd ha1 hxy.1
  have hn2 := fun W X d1 (r : Rd W 0 W.heap.size X (strs ((takenM width rs).take nD))) (hd : nD ≤ d1) => consistent_c width HW.out.1 X d1 0 W.heap.size nD nC ((takenM width rs).take nD) W r hq2 (by omega) hd ha2 hxy.2.1
  rw [hc1.1] at hn1
  rw [hc2.1] at hn2
  have HLV2 := Lib.hid (fun W (q : NewBox W p [.int .i64 width, .slice E ne ce, .slice R nr cr, .slice H nh ch, .int .i64 z1, .slice A1 m1 c1, .int .i64 z2, .slice A2 m2 c2, .int .i64 h.num, .int .i64 h.size, .string h.root, .int .i64 h.taken, .string h.troot]) (r : Rd W 0 W.heap.size E (ents es)) => HLV.out W nB q r hxy.2.2.1)
  have HTK2 := Lib.hid (fun W (q : NewBox W p [.int .i64 width, .slice E ne ce, .slice R nr cr, .slice H nh ch, .int .i64 z1, .slice A1 m1 c1, .int .i64 z2, .slice A2 m2 c2, .int .i64 h.num, .int .i64 h.size, .string h.root, .int .i64 h.taken, .string h.troot]) (r : Rd W 0 W.heap.size R (rcps rs)) => HTK.out W nD q r hxy.2.2.2)
  have HN1 := Lib.hid hn1
  have HN2 := Lib.hid hn2
  have HD1 : Hid (btL1 width es lh nA nB nC nD = conTx width ((leavesM width es).take nB) nA) := Lib.hid (by rw [btL1, HYES.out, if_pos rfl, Int.toNat_natCast])
  have HD2 : Hid (btL2 width rs lh nA nB nC nD = conTx width ((takenM width rs).take nD) nC) := Lib.hid (by rw [btL2, HYES.out, if_pos rfl, Int.toNat_natCast])
  have HD3 : Hid (btC lh nA nB nC nD = 0) := Lib.hid (by rw [btC, HYES.out]; rfl)
  clear hn1 hn2 hc1 hc2 ha1 ha2 hq1 hq2 HYES
  generalize conTx width ((leavesM width es).take nB) nA = cl1 at *
  generalize conTx width ((takenM width rs).take nD) nC = cl2 at *
  generalize (leavesM width es).take nB = lt at *
  generalize (takenM width rs).take nD = tt at *
  go_wp2_with fail
  refine wp_named (fun w3 hw => ?_)
  have hz3 : w2.heap.size + 1 ≤ w3.heap.size := by rw [hw]; first | omega | (simp [World.setCell]; done) | (simp [World.setCell]; omega)
  have hzz3 : w.heap.size ≤ w3.heap.size := by omega
  have hbn : Below w2.heap.size w2 w3 := by rw [hw]; exact (by ((repeat (first | ((with_reducible refine Below.alloc ?_ ?_ _); rotate_left 1; (focus (first | omega | (simp; done) | (simp; omega)))) | (with_reducible refine Below.drew ?_) | ((with_reducible refine Below.setCell ?_ ?_ _); rotate_left 1; (focus (first | omega | (simp; done) | (simp; omega)))))); exact Below.refl _ _))
  replace HB := Lib.hid (below_then HB.out hbn HB.out.size)
  replace HOE := Lib.hid (HOE.out.below hbn)
  replace HOR := Lib.hid (HOR.out.below hbn)
  replace HOH := Lib.hid (HOH.out.below hbn)
  replace HXb := Lib.hid (HXb.out.below hbn)
  clear hxb hfb hkb
  have hxb := HXb.out.2.1
  have hfb := HXb.out.2.2
  have hkb := HXb.out.1
  clear hbn
  have HXg : Hid (NewBox w3 (w2.heap.size) [.int .i64 lh.num, .int .i64 lh.size, .string lh.root, .int .i64 lh.taken, .string lh.troot]) := by rw [Hid, hw]; exact ⟨by first | omega | (simp [World.setCell]; done) | (simp [World.setCell]; omega), fun o => by rcases o with _ | _ | _ | _ | _ | o <;> go_simp, fun o => by go_simp⟩
  have hxg := HXg.out.2.1
  have hfg := HXg.out.2.2
  have hkg := HXg.out.1
  clear hw
  obtain ⟨F, HF⟩ : ∃ F : Facts, Hid (F = fun iq xq tqs dsq uq => match iq with
   | 0 => xq.v = .pointer (some ⟨p, 0, none⟩)
   | 1 => xq.v = .pointer (some ⟨p, 0, none⟩)
   | 2 => xq.v = .pointer (some ⟨p, 0, none⟩)
   | 3 => xq.v = .int .i64 width
   | 4 => xq.v = .pointer (some ⟨p, 0, none⟩)
   | 5 => xq.v = .int .i64 (nB : Nat)
   | 6 => ∃ (X1 : Option Addr) (d1 : Nat), xq.v = .slice X1 nB d1 ∧ (RowB uq xq.s xq.e (.slice X1 nB d1, nB) (strs lt))
   | 7 => xq.v = .int .i64 (nA : Nat)
   | 8 => ∃ (X3 : Option Addr) (d3 : Nat), xq.v = .slice X3 cl1.length d3 ∧ (RowB uq xq.s xq.e (.slice X3 cl1.length d3, cl1.length) (strs cl1))
   | 9 => xq.v = .pointer (some ⟨p, 0, none⟩)
   | 10 => xq.v = .pointer (some ⟨p, 0, none⟩)
   | 11 => xq.v = .pointer (some ⟨p, 0, none⟩)
   | 12 => xq.v = .int .i64 width
   | 13 => xq.v = .pointer (some ⟨p, 0, none⟩)
   | 14 => xq.v = .int .i64 (nD : Nat)
   | 15 => ∃ (X2 : Option Addr) (d2 : Nat), xq.v = .slice X2 nD d2 ∧ (RowB uq xq.s xq.e (.slice X2 nD d2, nD) (strs tt))
   | 16 => xq.v = .int .i64 (nC : Nat)
   | 17 => ∃ (X4 : Option Addr) (d4 : Nat), xq.v = .slice X4 cl2.length d4 ∧ (RowB uq xq.s xq.e (.slice X4 cl2.length d4, cl2.length) (strs cl2))
   | 18 => (match tqs, dsq with | [], [yq0] => ∃ (X3 : Option Addr) (d3 : Nat), yq0.v = .slice X3 cl1.length d3 ∧ xq.v = .slice X3 cl1.length d3 | _, _ => False)
   | 19 => (match tqs, dsq with | [], [yq0] => ∃ (X4 : Option Addr) (d4 : Nat), yq0.v = .slice X4 cl2.length d4 ∧ xq.v = .slice X4 cl2.length d4 | _, _ => False)
   | 20 => xq.v = .int .i64 0
   | _ => False) := ⟨_, rfl⟩
  refine wp_region_facts [[], [], [], [], [], [], [], [], [], [], [], [], [], [], [], [], [], [], [8], [17], []] [[], [], [], [], [], [], [], [], [], [], [], [], [], [], [], [], [], [], [], [], []] [some 44, some 45, some 46, some 47, some 48, some 49, some 50, some 51, some 52, some 53, some 54, some 55, some 56, some 57, some 58, some 59, some 60, some 61, some 10, some 11, some 12] none 0 0 (.inl rfl) F (by kernel_rfl) (by kernel_rfl) (by kernel_rfl) ?_ ⟨?_, ?_, ?_, ?_, ?_, ?_, ?_, ?_, ?_, ?_, ?_, ?_, ?_, ?_, ?_, ?_, ?_, ?_, ?_, ?_, ?_, trivial⟩ ?_
  ·rw [HF.out]; intro iq xq tqs dsq uq u' hi hf hs hW hx hbk
   have kx : ∀ b, xq.s ≤ b → b < xq.e → u'.heap[b]? = uq.heap[b]? := fun b h1 h2 => hbk b (.inr (.inl ⟨h1, h2⟩))
   have kt : ∀ t ∈ tqs, ∀ b, t.s ≤ b → b < t.e → u'.heap[b]? = uq.heap[b]? := fun t ht b h1 h2 => hbk b (.inr (.inr ⟨t, ht, h1, h2⟩))
   match iq with
   | 0 => exact hf
   | 1 => exact hf
   | 2 => exact hf
   | 3 => exact hf
   | 4 => exact hf
   | 5 => exact hf
   | 6 => obtain ⟨X1, d1, hv, p0⟩ := hf; exact ⟨X1, d1, hv, p0.keep (fun k _ h1 h2 => kx k h1 h2)⟩
   | 7 => exact hf
   | 8 => obtain ⟨X3, d3, hv, p0⟩ := hf; exact ⟨X3, d3, hv, p0.keep (fun k _ h1 h2 => kx k h1 h2)⟩
   | 9 => exact hf
   | 10 => exact hf
   | 11 => exact hf
   | 12 => exact hf
   | 13 => exact hf
   | 14 => exact hf
   | 15 => obtain ⟨X2, d2, hv, p0⟩ := hf; exact ⟨X2, d2, hv, p0.keep (fun k _ h1 h2 => kx k h1 h2)⟩
   | 16 => exact hf
   | 17 => obtain ⟨X4, d4, hv, p0⟩ := hf; exact ⟨X4, d4, hv, p0.keep (fun k _ h1 h2 => kx k h1 h2)⟩
   | 18 => exact hf
   | 19 => exact hf
   | 20 => exact hf
  ·intro gh ρ u hc hf1 hg1 hd h0 hb he ha hF
   have r0 : ρ (.tmp 0) = .pointer (some ⟨p, 0, none⟩) := (h0 0 (by decide +kernel)).trans rfl
   clear  hd h0 he ha hF
   go_simp
   rw [HF.out]
   exact ⟨OnlyL.refl _ _, rfl⟩
  ·intro gh ρ u hc hf1 hg1 hd h0 hb he ha hF
   have r44 : ρ (.tmp 44) = .pointer (some ⟨p, 0, none⟩) := by have h := hF 0 (by decide +kernel) (by decide +kernel); rw [HF.out] at h; exact (hd 0 (by decide +kernel) 44 (by kernel_rfl)).trans h
   clear  hd h0 he ha hF
   go_simp
   rw [HF.out]
   exact ⟨OnlyL.refl _ _, rfl⟩
  ·intro gh ρ u hc hf1 hg1 hd h0 hb he ha hF
   have r45 : ρ (.tmp 45) = .pointer (some ⟨p, 0, none⟩) := by have h := hF 1 (by decide +kernel) (by decide +kernel); rw [HF.out] at h; exact (hd 1 (by decide +kernel) 45 (by kernel_rfl)).trans h
   clear  hd h0 he ha hF
   go_simp
   rw [HF.out]
   exact ⟨OnlyL.refl _ _, rfl⟩
  ·intro gh ρ u hc hf1 hg1 hd h0 hb he ha hF
   replace hb : Below w3.heap.size w3 u := hb.drew.below (by decide +kernel)
   have hbz : w3.heap.size ≤ u.heap.size := hb.size
   have r46 : ρ (.tmp 46) = .pointer (some ⟨p, 0, none⟩) := by have h := hF 2 (by decide +kernel) (by decide +kernel); rw [HF.out] at h; exact (hd 2 (by decide +kernel) 46 (by kernel_rfl)).trans h
   have q_b := (HXb.out.below hb).2.1
   have k_b : p < u.heap.size := by have := HXb.out.1; omega
   clear  hd h0 he ha hF
   go_simp
   rw [HF.out]
   exact ⟨OnlyL.refl _ _, rfl⟩
  ·intro gh ρ u hc hf1 hg1 hd h0 hb he ha hF
   have r0 : ρ (.tmp 0) = .pointer (some ⟨p, 0, none⟩) := (h0 0 (by decide +kernel)).trans rfl
   clear  hd h0 he ha hF
   go_simp
   rw [HF.out]
   exact ⟨OnlyL.refl _ _, rfl⟩
  ·intro gh ρ u hc hf1 hg1 hd h0 hb he ha hF
   have r2 : ρ (.tmp 2) = .int .i64 (nB : Nat) := (h0 2 (by decide +kernel)).trans rfl
   clear  hd h0 he ha hF
   go_simp
   rw [HF.out]
   exact ⟨OnlyL.refl _ _, rfl⟩
  ·intro gh ρ u hc hf1 hg1 hd h0 hb he ha hF
   replace hb : Below w3.heap.size w3 u := hb.drew.below (by decide +kernel)
   have hbz : w3.heap.size ≤ u.heap.size := hb.size
   have r48 : ρ (.tmp 48) = .pointer (some ⟨p, 0, none⟩) := by have h := hF 4 (by decide +kernel) (by decide +kernel); rw [HF.out] at h; exact (hd 4 (by decide +kernel) 48 (by kernel_rfl)).trans h
   have r49 : ρ (.tmp 49) = .int .i64 (nB : Nat) := by have h := hF 5 (by decide +kernel) (by decide +kernel); rw [HF.out] at h; exact (hd 5 (by decide +kernel) 49 (by kernel_rfl)).trans h
   clear  hd h0 he ha hF
   go_simp
   have q_b := (HXb.out.below hb)
   refine (HLV2.out _ q_b (HOE.out.below hb).base).mono ?_
   rintro e u1 ⟨X1, d1, rfl, ho, hb1⟩
   rw [HF.out]
   exact ⟨_, rfl, OnlyL.of_below hb1, X1, d1, rfl, RowB.of ho⟩
  ·intro gh ρ u hc hf1 hg1 hd h0 hb he ha hF
   have r1 : ρ (.tmp 1) = .int .i64 (nA : Nat) := (h0 1 (by decide +kernel)).trans rfl
   clear  hd h0 he ha hF
   go_simp
   rw [HF.out]
   exact ⟨OnlyL.refl _ _, rfl⟩
  ·intro gh ρ u hc hf1 hg1 hd h0 hb he ha hF
   replace hb : Below w3.heap.size w3 u := hb.drew.below (by decide +kernel)
   have hbz : w3.heap.size ≤ u.heap.size := hb.size
   have r47 : ρ (.tmp 47) = .int .i64 width := by have h := hF 3 (by decide +kernel) (by decide +kernel); rw [HF.out] at h; exact (hd 3 (by decide +kernel) 47 (by kernel_rfl)).trans h
   have f6 : ∃ (X1 : Option Addr) (d1 : Nat), (gh 6).v = .slice X1 nB d1 ∧ (RowB u (gh 6).s (gh 6).e (.slice X1 nB d1, nB) (strs lt)) := by have h := hF 6 (by decide +kernel) (by decide +kernel); rw [HF.out] at h; exact h
   obtain ⟨X1, d1, hv6, g6_0⟩ := f6
   have r50 : ρ (.tmp 50) = .slice X1 nB d1 := (hd 6 (by decide +kernel) 50 (by kernel_rfl)).trans hv6
   have r51 : ρ (.tmp 51) = .int .i64 (nA : Nat) := by have h := hF 7 (by decide +kernel) (by decide +kernel); rw [HF.out] at h; exact (hd 7 (by decide +kernel) 51 (by kernel_rfl)).trans h
   clear hv6 hd h0 he ha hF
   go_simp
   have q_b := (HXb.out.below hb)
   refine (HN1.out _ _ _ (Own.of_ownsRow g6_0.1).rd.base (row_cap g6_0.1)).mono ?_
   rintro e u1 ⟨X3, d3, rfl, ho, hb1⟩
   rw [HF.out]
   exact ⟨_, rfl, OnlyL.of_below hb1, X3, d3, rfl, RowB.of ho⟩
  ·intro gh ρ u hc hf1 hg1 hd h0 hb he ha hF
   have r0 : ρ (.tmp 0) = .pointer (some ⟨p, 0, none⟩) := (h0 0 (by decide +kernel)).trans rfl
   clear  hd h0 he ha hF
   go_simp
   rw [HF.out]
   exact ⟨OnlyL.refl _ _, rfl⟩
  ·intro gh ρ u hc hf1 hg1 hd h0 hb he ha hF
   have r53 : ρ (.tmp 53) = .pointer (some ⟨p, 0, none⟩) := by have h := hF 9 (by decide +kernel) (by decide +kernel); rw [HF.out] at h; exact (hd 9 (by decide +kernel) 53 (by kernel_rfl)).trans h
   clear  hd h0 he ha hF
   go_simp
   rw [HF.out]
   exact ⟨OnlyL.refl _ _, rfl⟩
  ·intro gh ρ u hc hf1 hg1 hd h0 hb he ha hF
   have r54 : ρ (.tmp 54) = .pointer (some ⟨p, 0, none⟩) := by have h := hF 10 (by decide +kernel) (by decide +kernel); rw [HF.out] at h; exact (hd 10 (by decide +kernel) 54 (by kernel_rfl)).trans h
   clear  hd h0 he ha hF
   go_simp
   rw [HF.out]
   exact ⟨OnlyL.refl _ _, rfl⟩
  ·intro gh ρ u hc hf1 hg1 hd h0 hb he ha hF
   replace hb : Below w3.heap.size w3 u := hb.drew.below (by decide +kernel)
   have hbz : w3.heap.size ≤ u.heap.size := hb.size
   have r55 : ρ (.tmp 55) = .pointer (some ⟨p, 0, none⟩) := by have h := hF 11 (by decide +kernel) (by decide +kernel); rw [HF.out] at h; exact (hd 11 (by decide +kernel) 55 (by kernel_rfl)).trans h
   have q_b := (HXb.out.below hb).2.1
   have k_b : p < u.heap.size := by have := HXb.out.1; omega
   clear  hd h0 he ha hF
   go_simp
   rw [HF.out]
   exact ⟨OnlyL.refl _ _, rfl⟩
  ·intro gh ρ u hc hf1 hg1 hd h0 hb he ha hF
   have r0 : ρ (.tmp 0) = .pointer (some ⟨p, 0, none⟩) := (h0 0 (by decide +kernel)).trans rfl
   clear  hd h0 he ha hF
   go_simp
   rw [HF.out]
   exact ⟨OnlyL.refl _ _, rfl⟩
  ·intro gh ρ u hc hf1 hg1 hd h0 hb he ha hF
   have r4 : ρ (.tmp 4) = .int .i64 (nD : Nat) := (h0 4 (by decide +kernel)).trans rfl
   clear  hd h0 he ha hF
   go_simp
   rw [HF.out]
   exact ⟨OnlyL.refl _ _, rfl⟩
  ·intro gh ρ u hc hf1 hg1 hd h0 hb he ha hF
   replace hb : Below w3.heap.size w3 u := hb.drew.below (by decide +kernel)
   have hbz : w3.heap.size ≤ u.heap.size := hb.size
   have r57 : ρ (.tmp 57) = .pointer (some ⟨p, 0, none⟩) := by have h := hF 13 (by decide +kernel) (by decide +kernel); rw [HF.out] at h; exact (hd 13 (by decide +kernel) 57 (by kernel_rfl)).trans h
   have r58 : ρ (.tmp 58) = .int .i64 (nD : Nat) := by have h := hF 14 (by decide +kernel) (by decide +kernel); rw [HF.out] at h; exact (hd 14 (by decide +kernel) 58 (by kernel_rfl)).trans h
   clear  hd h0 he ha hF
   go_simp
   have q_b := (HXb.out.below hb)
   refine (HTK2.out _ q_b (HOR.out.below hb).base).mono ?_
   rintro e u1 ⟨X2, d2, rfl, ho, hb1⟩
   rw [HF.out]
   exact ⟨_, rfl, OnlyL.of_below hb1, X2, d2, rfl, RowB.of ho⟩
  ·intro gh ρ u hc hf1 hg1 hd h0 hb he ha hF
   have r3 : ρ (.tmp 3) = .int .i64 (nC : Nat) := (h0 3 (by decide +kernel)).trans rfl
   clear  hd h0 he ha hF
   go_simp
   rw [HF.out]
   exact ⟨OnlyL.refl _ _, rfl⟩
  ·intro gh ρ u hc hf1 hg1 hd h0 hb he ha hF
   replace hb : Below w3.heap.size w3 u := hb.drew.below (by decide +kernel)
   have hbz : w3.heap.size ≤ u.heap.size := hb.size
   have r56 : ρ (.tmp 56) = .int .i64 width := by have h := hF 12 (by decide +kernel) (by decide +kernel); rw [HF.out] at h; exact (hd 12 (by decide +kernel) 56 (by kernel_rfl)).trans h
   have f15 : ∃ (X2 : Option Addr) (d2 : Nat), (gh 15).v = .slice X2 nD d2 ∧ (RowB u (gh 15).s (gh 15).e (.slice X2 nD d2, nD) (strs tt)) := by have h := hF 15 (by decide +kernel) (by decide +kernel); rw [HF.out] at h; exact h
   obtain ⟨X2, d2, hv15, g15_0⟩ := f15
   have r59 : ρ (.tmp 59) = .slice X2 nD d2 := (hd 15 (by decide +kernel) 59 (by kernel_rfl)).trans hv15
   have r60 : ρ (.tmp 60) = .int .i64 (nC : Nat) := by have h := hF 16 (by decide +kernel) (by decide +kernel); rw [HF.out] at h; exact (hd 16 (by decide +kernel) 60 (by kernel_rfl)).trans h
   clear hv15 hd h0 he ha hF
   go_simp
   have q_b := (HXb.out.below hb)
   refine (HN2.out _ _ _ (Own.of_ownsRow g15_0.1).rd.base (row_cap g15_0.1)).mono ?_
   rintro e u1 ⟨X4, d4, rfl, ho, hb1⟩
   rw [HF.out]
   exact ⟨_, rfl, OnlyL.of_below hb1, X4, d4, rfl, RowB.of ho⟩
  ·intro gh ρ u hc hf1 hg1 hd h0 hb he ha hF
   have f8 : ∃ (X3 : Option Addr) (d3 : Nat), (gh 8).v = .slice X3 cl1.length d3 ∧ (RowB u (gh 8).s (gh 8).e (.slice X3 cl1.length d3, cl1.length) (strs cl1)) := by have h := hF 8 (by decide +kernel) (by decide +kernel); rw [HF.out] at h; exact h
   obtain ⟨X3, d3, hv8, g8_0⟩ := f8
   have hrt8 := hv8
   have r52 : ρ (.tmp 52) = .slice X3 cl1.length d3 := (hd 8 (by decide +kernel) 52 (by kernel_rfl)).trans hv8
   have HRT8 := Lib.hid hrt8
   clear hv8 hrt8 hd h0 he ha hF
   go_simp
   rw [HF.out]
   exact ⟨OnlyL.refl _ _, X3, d3, HRT8.out, rfl⟩
  ·intro gh ρ u hc hf1 hg1 hd h0 hb he ha hF
   have f17 : ∃ (X4 : Option Addr) (d4 : Nat), (gh 17).v = .slice X4 cl2.length d4 ∧ (RowB u (gh 17).s (gh 17).e (.slice X4 cl2.length d4, cl2.length) (strs cl2)) := by have h := hF 17 (by decide +kernel) (by decide +kernel); rw [HF.out] at h; exact h
   obtain ⟨X4, d4, hv17, g17_0⟩ := f17
   have hrt17 := hv17
   have r61 : ρ (.tmp 61) = .slice X4 cl2.length d4 := (hd 17 (by decide +kernel) 61 (by kernel_rfl)).trans hv17
   have HRT17 := Lib.hid hrt17
   clear hv17 hrt17 hd h0 he ha hF
   go_simp
   rw [HF.out]
   exact ⟨OnlyL.refl _ _, X4, d4, HRT17.out, rfl⟩
  ·intro gh ρ u hc hf1 hg1 hd h0 hb he ha hF
   clear  hd h0 he ha hF
   go_simp
   rw [HF.out]
   exact ⟨OnlyL.refl _ _, rfl⟩
  intro gh w4 hB hE hA hF
  replace hB : Below w3.heap.size w3 w4 := hB.below rfl
  have f0 : (gh 0).v = .pointer (some ⟨p, 0, none⟩) := by have h := hF 0 (by decide +kernel) (by decide +kernel); rw [HF.out] at h; exact h
  have f1 : (gh 1).v = .pointer (some ⟨p, 0, none⟩) := by have h := hF 1 (by decide +kernel) (by decide +kernel); rw [HF.out] at h; exact h
  have f2 : (gh 2).v = .pointer (some ⟨p, 0, none⟩) := by have h := hF 2 (by decide +kernel) (by decide +kernel); rw [HF.out] at h; exact h
  have f3 : (gh 3).v = .int .i64 width := by have h := hF 3 (by decide +kernel) (by decide +kernel); rw [HF.out] at h; exact h
  have f4 : (gh 4).v = .pointer (some ⟨p, 0, none⟩) := by have h := hF 4 (by decide +kernel) (by decide +kernel); rw [HF.out] at h; exact h
  have f5 : (gh 5).v = .int .i64 (nB : Nat) := by have h := hF 5 (by decide +kernel) (by decide +kernel); rw [HF.out] at h; exact h
  have f6 : ∃ (X1 : Option Addr) (d1 : Nat), (gh 6).v = .slice X1 nB d1 ∧ (RowB w4 (gh 6).s (gh 6).e (.slice X1 nB d1, nB) (strs lt)) := by have h := hF 6 (by decide +kernel) (by decide +kernel); rw [HF.out] at h; exact h
  have f7 : (gh 7).v = .int .i64 (nA : Nat) := by have h := hF 7 (by decide +kernel) (by decide +kernel); rw [HF.out] at h; exact h
  have f8 : ∃ (X3 : Option Addr) (d3 : Nat), (gh 8).v = .slice X3 cl1.length d3 ∧ (RowB w4 (gh 8).s (gh 8).e (.slice X3 cl1.length d3, cl1.length) (strs cl1)) := by have h := hF 8 (by decide +kernel) (by decide +kernel); rw [HF.out] at h; exact h
  have f9 : (gh 9).v = .pointer (some ⟨p, 0, none⟩) := by have h := hF 9 (by decide +kernel) (by decide +kernel); rw [HF.out] at h; exact h
  have f10 : (gh 10).v = .pointer (some ⟨p, 0, none⟩) := by have h := hF 10 (by decide +kernel) (by decide +kernel); rw [HF.out] at h; exact h
  have f11 : (gh 11).v = .pointer (some ⟨p, 0, none⟩) := by have h := hF 11 (by decide +kernel) (by decide +kernel); rw [HF.out] at h; exact h
  have f12 : (gh 12).v = .int .i64 width := by have h := hF 12 (by decide +kernel) (by decide +kernel); rw [HF.out] at h; exact h
  have f13 : (gh 13).v = .pointer (some ⟨p, 0, none⟩) := by have h := hF 13 (by decide +kernel) (by decide +kernel); rw [HF.out] at h; exact h
  have f14 : (gh 14).v = .int .i64 (nD : Nat) := by have h := hF 14 (by decide +kernel) (by decide +kernel); rw [HF.out] at h; exact h
  have f15 : ∃ (X2 : Option Addr) (d2 : Nat), (gh 15).v = .slice X2 nD d2 ∧ (RowB w4 (gh 15).s (gh 15).e (.slice X2 nD d2, nD) (strs tt)) := by have h := hF 15 (by decide +kernel) (by decide +kernel); rw [HF.out] at h; exact h
  have f16 : (gh 16).v = .int .i64 (nC : Nat) := by have h := hF 16 (by decide +kernel) (by decide +kernel); rw [HF.out] at h; exact h
  have f17 : ∃ (X4 : Option Addr) (d4 : Nat), (gh 17).v = .slice X4 cl2.length d4 ∧ (RowB w4 (gh 17).s (gh 17).e (.slice X4 cl2.length d4, cl2.length) (strs cl2)) := by have h := hF 17 (by decide +kernel) (by decide +kernel); rw [HF.out] at h; exact h
  have f18 : ∃ (X3 : Option Addr) (d3 : Nat), (gh 8).v = .slice X3 cl1.length d3 ∧ (gh 18).v = .slice X3 cl1.length d3 := by have h := hF 18 (by decide +kernel) (by decide +kernel); rw [HF.out] at h; exact h
  have f19 : ∃ (X4 : Option Addr) (d4 : Nat), (gh 17).v = .slice X4 cl2.length d4 ∧ (gh 19).v = .slice X4 cl2.length d4 := by have h := hF 19 (by decide +kernel) (by decide +kernel); rw [HF.out] at h; exact h
  have f20 : (gh 20).v = .int .i64 0 := by have h := hF 20 (by decide +kernel) (by decide +kernel); rw [HF.out] at h; exact h
  obtain ⟨X1, d1, hv6, _⟩ := f6
  obtain ⟨X3, d3, hv8, hr3⟩ := f8
  obtain ⟨X2, d2, hv15, _⟩ := f15
  obtain ⟨X4, d4, hv17, hr4⟩ := f17
  have hv0 := f0
  have hv1 := f1
  have hv2 := f2
  have hv3 := f3
  have hv4 := f4
  have hv5 := f5
  have hv7 := f7
  have hv9 := f9
  have hv10 := f10
  have hv11 := f11
  have hv12 := f12
  have hv13 := f13
  have hv14 := f14
  have hv16 := f16
  obtain ⟨X3_18, d3_18, hu8, hv18⟩ := f18
  replace hu8 := hv8.symm.trans hu8
  simp at hu8
  try simp only [and_assoc] at hu8
  obtain ⟨rfl, rfl⟩ := hu8
  obtain ⟨X4_19, d4_19, hu17, hv19⟩ := f19
  replace hu17 := hv17.symm.trans hu17
  simp at hu17
  try simp only [and_assoc] at hu17
  obtain ⟨rfl, rfl⟩ := hu17
  have hv20 := f20
  obtain ⟨hs8, hse8, he8⟩ := hE 8 (by decide +kernel)
  obtain ⟨hs17, hse17, he17⟩ := hE 17 (by decide +kernel)
  have hdj4_8_17 := hA 8 (by decide +kernel) 17 (by decide +kernel) (by decide)
  change w3.heap.size ≤ _ at hs8 hs17
  clear hE hA hF
  simp only [putDs, Nat.reduceAdd, hv0, hv1, hv2, hv3, hv4, hv5, hv6, hv7, hv8, hv9, hv10, hv11, hv12, hv13, hv14, hv15, hv16, hv17, hv18, hv19, hv20]
  clear hv0 hv1 hv2 hv3 hv4 hv5 hv6 hv7 hv8 hv9 hv10 hv11 hv12 hv13 hv14 hv15 hv16 hv17 hv18 hv19 hv20
  generalize (gh 8).s = s4_8 at *
  generalize (gh 8).e = e4_8 at *
  generalize (gh 17).s = s4_17 at *
  generalize (gh 17).e = e4_17 at *
  clear HF
  have hb := hB
  clear hB
  have hzw4 : w3.heap.size ≤ w4.heap.size := hb.size
  have hzzw4 : w.heap.size ≤ w4.heap.size := by omega
  replace HB := Lib.hid (below_then HB.out hb HB.out.size)
  replace HOE := Lib.hid (HOE.out.below hb)
  replace HOR := Lib.hid (HOR.out.below hb)
  replace HOH := Lib.hid (HOH.out.below hb)
  replace HXb := Lib.hid (HXb.out.below hb)
  clear hxb hfb hkb
  have hxb := HXb.out.2.1
  have hfb := HXb.out.2.2
  have hkb := HXb.out.1
  replace HXg := Lib.hid (HXg.out.below hb)
  clear hxg hfg hkg
  have hxg := HXg.out.2.1
  have hfg := HXg.out.2.2
  have hkg := HXg.out.1
  clear hb
  have HR3 := Lib.hid hr3
  have HR4 := Lib.hid hr4
  clear hr3 hr4 HLV HTK HLV2 HTK2 HN1 HN2 HW
  go_wp2
  refine bodyPost_ret (v := .tuple #[.slice X3 cl1.length d3, .slice X4 cl2.length d4, .int .i64 0]) (by simp [results, Tryz.results77, go_sem]) rfl ?_
  rw [HD1.out, HD2.out, HD3.out]
  exact ⟨X3, d3, s4_8, e4_8, X4, d4, s4_17, e4_17, rfl, ⟨by omega, by omega, HR3.out.ownB rfl (by omega) (by omega)⟩, ⟨by omega, by omega, HR4.out.ownB rfl (by omega) (by omega)⟩, by omega, HB.out⟩
end Go.Proofs.YtmmepogjocfefaaGreat
