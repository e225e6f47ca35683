/- Part 29 of the proof of FnLater: lemmas and contracts. -/
import Derived.Test.YtoccjgcokffkbaaGreatTl20
import Derived.Test.YtoccjgcokffkbaaGreatTl28
namespace Go.Proofs.YtoccjgcokffkbaaGreat
set_option linter.unusedVariables false
set_option linter.unusedSimpArgs false
set_option maxHeartbeats 20000000
section
open Go.RowKit
def bwIn (lh : Hd) (a b c d : Int) : Bool := decide (0 ≤ a) && (decide (a ≤ b) && (decide (b ≤ lh.size) && (decide (0 ≤ c) && (decide (c ≤ d) && decide (d ≤ lh.taken)))))
theorem bwIn_no {lh : Hd} {a b c d : Int} (h : a < 0 ∨ b < a ∨ lh.size < b ∨ c < 0 ∨ d < c ∨ lh.taken < d) : bwIn lh a b c d = false := by
 rw [bwIn]
 rcases h with h | h | h | h | h | h
 ·rw [decide_eq_false (by omega)]; rfl
 ·rw [decide_eq_false (p := a ≤ b) (by omega)]; simp
 ·rw [decide_eq_false (p := b ≤ lh.size) (by omega)]; simp
 ·rw [decide_eq_false (p := 0 ≤ c) (by omega)]; simp
 ·rw [decide_eq_false (p := c ≤ d) (by omega)]; simp
 ·rw [decide_eq_false (p := d ≤ lh.taken) (by omega)]; simp
theorem bwIn_yes {lh : Hd} {a b c d : Int} (h1 : 0 ≤ a) (h2 : a ≤ b) (h3 : b ≤ lh.size) (h4 : 0 ≤ c) (h5 : c ≤ d) (h6 : d ≤ lh.taken) : bwIn lh a b c d = true := by
 rw [bwIn, decide_eq_true h1, decide_eq_true h2, decide_eq_true h3, decide_eq_true h4, decide_eq_true h5, decide_eq_true h6]; rfl
def btC (lh : Hd) (a b c d : Int) : Int := if bwIn lh a b c d then 0 else 2
def btL1 (width : Int) (es : List Ent) (lh : Hd) (a b c d : Int) : List ByteArray := if bwIn lh a b c d then conTx width ((leavesM width es).take b.toNat) a else []
def btL2 (width : Int) (rs : List Rcp) (lh : Hd) (a b c d : Int) : List ByteArray := if bwIn lh a b c d then conTx width ((takenM width rs).take d.toNat) c else []
def BwPost (w : World) (l1 l2 : List ByteArray) (code : Int) (e : Ending) (w' : World) : Prop :=
 ∃ (A1 : Option Addr) (c1 a1 b1 : Nat) (A2 : Option Addr) (c2 a2 b2 : Nat), e = .returned (.tuple #[.slice A1 l1.length c1, .slice A2 l2.length c2, .int .i64 code]) ∧
   (w.heap.size ≤ a1 ∧ b1 ≤ w'.heap.size ∧ Own w' a1 b1 A1 (strs l1)) ∧ (w.heap.size ≤ a2 ∧ b2 ≤ w'.heap.size ∧ Own w' a2 b2 A2 (strs l2)) ∧ ((b1 ≤ a2 ∨ b2 ≤ a1) ∧ l1.length ≤ c1 ∧ l2.length ≤ c2) ∧ Below w.heap.size w w'
theorem bw_none {w w' : World} (hB : Below w.heap.size w w') (code : Int) : BwPost w [] [] code (.returned (.tuple #[.slice none 0 0, .slice none 0 0, .int .i64 code])) w' :=
 ⟨none, 0, w'.heap.size, w'.heap.size, none, 0, w'.heap.size, w'.heap.size, rfl, ⟨hB.size, Nat.le_refl _, Own.nil⟩, ⟨hB.size, Nat.le_refl _, Own.nil⟩, ⟨.inl (Nat.le_refl _), Nat.zero_le _, Nat.zero_le _⟩, hB⟩
theorem conTx_eq {width : Int} {l : List ByteArray} {k n : Nat} (hw : inR width 1 32 = true) (ha : areH width l = true) (hn : l.length = n) (h5 : n ≤ 512) (hk : k ≤ n) : (if k = 0 then [] else consFu width 513 l k true) = conTx width l k ∧ conOk width l k = true := by
 have h1 : conOk width l k = true := by
  rw [conOk, leavesOk, hw, ha, hn, decide_eq_true h5, Bool.true_and, Bool.true_and]
  show inR (k : Int) 0 (n : Int) = true
  exact inR_true.2 ⟨by omega, by omega⟩
 refine ⟨?_, h1⟩
 rw [conTx, h1, if_pos rfl, Int.toNat_natCast]
 by_cases h0 : k = 0
 ·rw [if_pos h0, if_pos (by omega)]
 ·rw [if_neg h0, if_neg (by omega)]
set_option maxRecDepth 100000 in
theorem between_c (width z1 z2 : Int) (p : Nat) (E R H A1 A2 : Option Addr) (ne nr nh ce cr ch c1 c2 lo1 hi1 lo2 hi2 lo3 hi3 m1 m2 : Nat) (es : List Ent) (rs : List Rcp) (hs : List Hd) (h : Hd) (a b c d : Int) (w : World) (hbx : NewBox w p [.int .i64 width, .slice E ne ce, .slice R nr cr, .slice H nh ch, .int .i64 z1, .slice A1 m1 c1, .int .i64 z2, .slice A2 m2 c2, .int .i64 h.num, .int .i64 h.size, .string h.root, .int .i64 h.taken, .string h.troot])
  (hE : Rd w lo1 hi1 E (ents es)) (hR : Rd w lo2 hi2 R (rcps rs)) (hH : Rd w lo3 hi3 H (hds hs)) (hne : es.length = ne) (hnr : rs.length = nr) (hnh : hs.length = nh) (b1 : ne ≤ 1048576) (b2 : nr ≤ 1048576) (b3 : nh ≤ 1048576) (b6 : ne ≤ ce) (b7 : nr ≤ cr) (hfe : ∀ x ∈ es, x.fits) (hfr : ∀ x ∈ rs, x.fits) (hp : BrkParts width es rs hs) :
  Calls Tryz.prog 43 #[.pointer (some ⟨p, 0, none⟩), .int .i64 a, .int .i64 b, .int .i64 c, .int .i64 d] w (BwPost w (btL1 width es (lastHd hs) a b c d) (btL2 width rs (lastHd hs) a b c d) (btC (lastHd hs) a b c d)) := by
 have hpl := hp.last
 have hla := leavesM_are hp.wd hp.log
 have hta := takenM_are hp.wd hp.rcps
 have hll := (leavesM_len width es).trans hne
 have htl := (takenM_len width rs).trans hnr
 have h51 : ne ≤ 512 := by rw [← hne]; exact logOk_len hp.log
 have h52 : nr ≤ 512 := by rw [← hnr]; exact rcpsOk_len hp.rcps
 have hpos : 0 < nh := by rw [← hnh]; exact hp.pos
 have HW := lH (And.intro hp.wd (And.intro hla (And.intro hta (And.intro hll htl))))
 have HLV := lH (fun W m (q : NewBox W p [.int .i64 width, .slice E ne ce, .slice R nr cr, .slice H nh ch, .int .i64 z1, .slice A1 m1 c1, .int .i64 z2, .slice A2 m2 c2, .int .i64 h.num, .int .i64 h.size, .string h.root, .int .i64 h.taken, .string h.troot]) (r : Rd W 0 W.heap.size E (ents es)) (hm : m ≤ ne) => leaves_c width z1 z2 p m E R H A1 A2 ne nr nh ce cr ch c1 c2 0 W.heap.size m1 m2 es h W q r hne b1 b6 hm hfe)
 have HTK := lH (fun W m (q : NewBox W p [.int .i64 width, .slice E ne ce, .slice R nr cr, .slice H nh ch, .int .i64 z1, .slice A1 m1 c1, .int .i64 z2, .slice A2 m2 c2, .int .i64 h.num, .int .i64 h.size, .string h.root, .int .i64 h.taken, .string h.troot]) (r : Rd W 0 W.heap.size R (rcps rs)) (hm : m ≤ nr) => takens_c width z1 z2 p m E R H A1 A2 ne nr nh ce cr ch c1 c2 0 W.heap.size m1 m2 rs h W q r hnr b2 b7 hm hfr)
 have HNH := lH hnh
 rw [hne, hnr] at hpl
 have hb7 : 0 ≤ (lastHd hs).size ∧ (lastHd hs).size ≤ ne ∧ 0 ≤ (lastHd hs).taken ∧ (lastHd hs).taken ≤ nr := ⟨hpl.1, hpl.2.1, hpl.2.2.2.1, hpl.2.2.2.2.1⟩
 have hpw : p < w.heap.size := hbx.1
 have HB : Hid (Below w.heap.size w w) := Below.refl _ _
 have HOE : Hid (Rd w (0) (w.heap.size) (E) (ents es)) := Rd.base hE
 have HOR : Hid (Rd w (0) (w.heap.size) (R) (rcps rs)) := Rd.base hR
 have HOH : Hid (Rd w (0) (w.heap.size) (H) (hds hs)) := Rd.base hH
 replace HB : Hid (Below w.heap.size w w) := (Below.refl _ _)
 have HXb : Hid (NewBox w (p) [.int .i64 width, .slice E ne ce, .slice R nr cr, .slice H nh ch, .int .i64 z1, .slice A1 m1 c1, .int .i64 z2, .slice A2 m2 c2, .int .i64 h.num, .int .i64 h.size, .string h.root, .int .i64 h.taken, .string h.troot]) := hbx
 obtain ⟨hkb, hxb, hfb⟩ := HXb.out
 clear hbx hE hR hH hne hnr hnh hfe hfr hp hpl hla hta hll htl
 go_enter Tryz.func43, Tryz.ntmps43
 go_wp2_with fail
 refine calls_named (fun w1 hw => ?_)
 have hz1 : w.heap.size + 0 ≤ w1.heap.size := by rw [hw]; first | omega | simp [World.setCell] <;> omega
 have hbn : Below w.heap.size w w1 := by rw [hw]; exact (by repeat with_reducible first | exact bR _ | apply bA | apply bD)
 replace HB := lH (below_then HB.out hbn HB.out.size)
 replace HOE := lH (HOE.out.below hbn)
 replace HOR := lH (HOR.out.below hbn)
 replace HOH := lH (HOH.out.below hbn)
 replace HXb := lH (HXb.out.below hbn)
 clear hxb hfb hkb
 obtain ⟨hkb, hxb, hfb⟩ := HXb.out
 clear hbn
 clear hw
 refine (last_c p nh ch 0 (w1).heap.size H hs w1 hkb (hxb 3) HOH.out.base HNH.out hpos b3).mono ?_
 rintro e w2 ⟨rfl, hb⟩
 have hzw2 : w1.heap.size ≤ w2.heap.size := hb.size
 have hzzw2 : w.heap.size ≤ w2.heap.size := by omega
 replace HB := lH (below_then HB.out hb HB.out.size)
 replace HOE := lH (HOE.out.below hb)
 replace HOR := lH (HOR.out.below hb)
 replace HOH := lH (HOH.out.below hb)
 replace HXb := lH (HXb.out.below hb)
 clear hxb hfb hkb
 obtain ⟨hkb, hxb, hfb⟩ := HXb.out
 clear hb
 generalize lastHd hs = lh at *
 rcases (show (a < 0 ∨ b < a ∨ lh.size < b ∨ c < 0 ∨ d < c ∨ lh.taken < d) ∨ (0 ≤ a ∧ a ≤ b ∧ b ≤ lh.size ∧ 0 ≤ c ∧ c ≤ d ∧ d ≤ lh.taken) by omega) with hbad | hgood
 ·have HNO := lH (bwIn_no hbad)
  have HPOST : Hid (∀ w', Below w.heap.size w w' → BwPost w (btL1 width es lh a b c d) (btL2 width rs lh a b c d) (btC lh a b c d) (.returned (.tuple #[.slice none 0 0, .slice none 0 0, .int .i64 2])) w') := lH (fun w' hB => by rw [btL1, btL2, btC, HNO.out]; exact bw_none hB 2)
  clear HLV HTK HW HNO
  rcases (show a < 0 ∨ (0 ≤ a ∧ b < a) ∨ (0 ≤ a ∧ a ≤ b ∧ lh.size < b) ∨ (0 ≤ a ∧ a ≤ b ∧ b ≤ lh.size ∧ c < 0) ∨ (0 ≤ a ∧ a ≤ b ∧ b ≤ lh.size ∧ 0 ≤ c ∧ d < c) ∨ (0 ≤ a ∧ a ≤ b ∧ b ≤ lh.size ∧ 0 ≤ c ∧ c ≤ d ∧ lh.taken < d) by omega) with x1 | ⟨x1, x2⟩ | ⟨x1, x2, x3⟩ | ⟨x1, x2, x3, x4⟩ | ⟨x1, x2, x3, x4, x5⟩ | ⟨x1, x2, x3, x4, x5, x6⟩
  all_goals
   clear hbad
   go_wp2
   refine bodyPost_named (fun w77 hw => ?_)
   have hb77 : Hid (Below w.heap.size w w77) := by rw [Hid, hw]; exact (by ((repeat first | with_reducible apply bA | with_reducible apply bD | (with_reducible refine bS ?_ ?_; (focus (first | omega | (simp; done) | (simp; omega))))); exact HB.out))
   clear hw
   refine bodyPost_ret (v := .tuple #[.slice none 0 0, .slice none 0 0, .int .i64 2]) (by simp [results, Tryz.results43, go_sem]) rfl ?_
   exact HPOST.out _ hb77.out
 ·obtain ⟨x1, x2, x3, x4, x5, x6⟩ := hgood
  obtain ⟨nA, rfl⟩ : ∃ nA : Nat, a = nA := ⟨a.toNat, by omega⟩
  obtain ⟨nB, rfl⟩ : ∃ nB : Nat, b = nB := ⟨b.toNat, by omega⟩
  obtain ⟨nC, rfl⟩ : ∃ nC : Nat, c = nC := ⟨c.toNat, by omega⟩
  obtain ⟨nD, rfl⟩ : ∃ nD : Nat, d = nD := ⟨d.toNat, by omega⟩
  have hxy : nA ≤ nB ∧ nC ≤ nD ∧ nB ≤ ne ∧ nD ≤ nr := by omega
  have HYES := lH (bwIn_yes x1 x2 x3 x4 x5 x6)
  have hq1 : ((leavesM width es).take nB).length = nB := by rw [List.length_take, HW.out.2.2.2.1]; omega
  have hq2 : ((takenM width rs).take nD).length = nD := by rw [List.length_take, HW.out.2.2.2.2]; omega
  have ha1 := areH_sub HW.out.2.1 (fun s hs => List.mem_of_mem_take hs : ∀ s ∈ (leavesM width es).take nB, s ∈ leavesM width es)
  have ha2 := areH_sub HW.out.2.2.1 (fun s hs => List.mem_of_mem_take hs : ∀ s ∈ (takenM width rs).take nD, s ∈ takenM width rs)
  have hc1 := conTx_eq HW.out.1 ha1 hq1 (by omega) hxy.1
  have hc2 := conTx_eq HW.out.1 ha2 hq2 (by omega) hxy.2.1
  have hn1 := fun W X d1 (r : Rd W 0 W.heap.size X (strs ((leavesM width es).take nB))) (hd : nB ≤ d1) => consistent_c width HW.out.1 X d1 0 W.heap.size nB nA ((leavesM width es).take nB) W r hq1 (by omega) hd ha1 hxy.1
  have hn2 := fun W X d1 (r : Rd W 0 W.heap.size X (strs ((takenM width rs).take nD))) (hd : nD ≤ d1) => consistent_c width HW.out.1 X d1 0 W.heap.size nD nC ((takenM width rs).take nD) W r hq2 (by omega) hd ha2 hxy.2.1
  rw [hc1.1] at hn1
  rw [hc2.1] at hn2
  have HLV2 := lH (fun W (q : NewBox W p [.int .i64 width, .slice E ne ce, .slice R nr cr, .slice H nh ch, .int .i64 z1, .slice A1 m1 c1, .int .i64 z2, .slice A2 m2 c2, .int .i64 h.num, .int .i64 h.size, .string h.root, .int .i64 h.taken, .string h.troot]) (r : Rd W 0 W.heap.size E (ents es)) => HLV.out W nB q r hxy.2.2.1)
  have HTK2 := lH (fun W (q : NewBox W p [.int .i64 width, .slice E ne ce, .slice R nr cr, .slice H nh ch, .int .i64 z1, .slice A1 m1 c1, .int .i64 z2, .slice A2 m2 c2, .int .i64 h.num, .int .i64 h.size, .string h.root, .int .i64 h.taken, .string h.troot]) (r : Rd W 0 W.heap.size R (rcps rs)) => HTK.out W nD q r hxy.2.2.2)
  have HN1 := lH hn1
  have HN2 := lH hn2
  have HD1 : Hid (btL1 width es lh nA nB nC nD = conTx width ((leavesM width es).take nB) nA) := lH (by rw [btL1, HYES.out, if_pos rfl, Int.toNat_natCast])
  have HD2 : Hid (btL2 width rs lh nA nB nC nD = conTx width ((takenM width rs).take nD) nC) := lH (by rw [btL2, HYES.out, if_pos rfl, Int.toNat_natCast])
  have HD3 : Hid (btC lh nA nB nC nD = 0) := lH (by rw [btC, HYES.out]; rfl)
  clear hn1 hn2 hc1 hc2 ha1 ha2 hq1 hq2 HYES
  generalize conTx width ((leavesM width es).take nB) nA = cl1 at *
  generalize conTx width ((takenM width rs).take nD) nC = cl2 at *
  generalize (leavesM width es).take nB = lt at *
  generalize (takenM width rs).take nD = tt at *
  go_wp2_with fail
  refine wp_named (fun w3 hw => ?_)
  have hz3 : w2.heap.size + 1 ≤ w3.heap.size := by rw [hw]; first | omega | simp [World.setCell] <;> omega
  have hzz3 : w.heap.size ≤ w3.heap.size := by omega
  have hbn : Below w2.heap.size w2 w3 := by rw [hw]; exact (by repeat with_reducible first | exact bR _ | apply bA | apply bD)
  replace HB := lH (below_then HB.out hbn HB.out.size)
  replace HOE := lH (HOE.out.below hbn)
  replace HOR := lH (HOR.out.below hbn)
  replace HOH := lH (HOH.out.below hbn)
  replace HXb := lH (HXb.out.below hbn)
  clear hxb hfb hkb
  obtain ⟨hkb, hxb, hfb⟩ := HXb.out
  clear hbn
  have HXg : Hid (NewBox w3 (w2.heap.size) [.int .i64 lh.num, .int .i64 lh.size, .string lh.root, .int .i64 lh.taken, .string lh.troot]) := by rw [Hid, hw]; exact ⟨by first | omega | (simp [World.setCell]; done) | (simp [World.setCell]; omega), fun o => by rcases o with _ | _ | _ | _ | _ | o <;> go_simp, fun o => by go_simp⟩
  obtain ⟨hkg, hxg, hfg⟩ := HXg.out
  clear hw
  obtain ⟨F, HF⟩ : ∃ F : Facts, Hid (F = fun iq xq tqs dsq uq => match iq with
   | 0 => xq.v = .pointer (some ⟨p, 0, none⟩)
   | 1 => xq.v = .pointer (some ⟨p, 0, none⟩)
   | 2 => xq.v = .pointer (some ⟨p, 0, none⟩)
   | 3 => xq.v = .int .i64 width
   | 4 => xq.v = .pointer (some ⟨p, 0, none⟩)
   | 5 => xq.v = .int .i64 (nB : Nat)
   | 6 => ∃ (X1 : Option Addr) (d1 : Nat), xq.v = .slice X1 nB d1 ∧ (RowB uq xq.s xq.e (.slice X1 nB d1, nB) (strs lt))
   | 7 => xq.v = .int .i64 (nA : Nat)
   | 8 => ∃ (X3 : Option Addr) (d3 : Nat), xq.v = .slice X3 cl1.length d3 ∧ (RowB uq xq.s xq.e (.slice X3 cl1.length d3, cl1.length) (strs cl1))
   | 9 => xq.v = .pointer (some ⟨p, 0, none⟩)
   | 10 => xq.v = .pointer (some ⟨p, 0, none⟩)
   | 11 => xq.v = .pointer (some ⟨p, 0, none⟩)
   | 12 => xq.v = .int .i64 width
   | 13 => xq.v = .pointer (some ⟨p, 0, none⟩)
   | 14 => xq.v = .int .i64 (nD : Nat)
   | 15 => ∃ (X2 : Option Addr) (d2 : Nat), xq.v = .slice X2 nD d2 ∧ (RowB uq xq.s xq.e (.slice X2 nD d2, nD) (strs tt))
   | 16 => xq.v = .int .i64 (nC : Nat)
   | 17 => ∃ (X4 : Option Addr) (d4 : Nat), xq.v = .slice X4 cl2.length d4 ∧ (RowB uq xq.s xq.e (.slice X4 cl2.length d4, cl2.length) (strs cl2))
   | 18 => (match tqs, dsq with | [], [yq0] => ∃ (X3 : Option Addr) (d3 : Nat), yq0.v = .slice X3 cl1.length d3 ∧ xq.v = .slice X3 cl1.length d3 | _, _ => False)
   | 19 => (match tqs, dsq with | [], [yq0] => ∃ (X4 : Option Addr) (d4 : Nat), yq0.v = .slice X4 cl2.length d4 ∧ xq.v = .slice X4 cl2.length d4 | _, _ => False)
   | 20 => xq.v = .int .i64 0
   | _ => False) := ⟨_, rfl⟩
  refine wp_region_facts [[], [], [], [], [], [], [], [], [], [], [], [], [], [], [], [], [], [], [8], [17], []] [[], [], [], [], [], [], [], [], [], [], [], [], [], [], [], [], [], [], [], [], []] [some 44, some 45, some 46, some 47, some 48, some 49, some 50, some 51, some 52, some 53, some 54, some 55, some 56, some 57, some 58, some 59, some 60, some 61, some 10, some 11, some 12] none 0 0 (.inl rfl) F (by kernel_rfl) (by kernel_rfl) (by kernel_rfl) ?_ ⟨?_, ?_, ?_, ?_, ?_, ?_, ?_, ?_, ?_, ?_, ?_, ?_, ?_, ?_, ?_, ?_, ?_, ?_, ?_, ?_, ?_, trivial⟩ ?_
  ·rw [HF.out]; intro iq xq tqs dsq uq u' hi hf hs hW hx hbk
   have kx : ∀ b, xq.s ≤ b → b < xq.e → u'.heap[b]? = uq.heap[b]? := fun b h1 h2 => hbk b (.inr (.inl ⟨h1, h2⟩))
   have kt : ∀ t ∈ tqs, ∀ b, t.s ≤ b → b < t.e → u'.heap[b]? = uq.heap[b]? := fun t ht b h1 h2 => hbk b (.inr (.inr ⟨t, ht, h1, h2⟩))
   match iq with
   | 0 => exact hf
   | 1 => exact hf
   | 2 => exact hf
   | 3 => exact hf
   | 4 => exact hf
   | 5 => exact hf
   | 6 => obtain ⟨X1, d1, hv, p0⟩ := hf; exact ⟨X1, d1, hv, p0.keep (fun k _ h1 h2 => kx k h1 h2)⟩
   | 7 => exact hf
   | 8 => obtain ⟨X3, d3, hv, p0⟩ := hf; exact ⟨X3, d3, hv, p0.keep (fun k _ h1 h2 => kx k h1 h2)⟩
   | 9 => exact hf
   | 10 => exact hf
   | 11 => exact hf
   | 12 => exact hf
   | 13 => exact hf
   | 14 => exact hf
   | 15 => obtain ⟨X2, d2, hv, p0⟩ := hf; exact ⟨X2, d2, hv, p0.keep (fun k _ h1 h2 => kx k h1 h2)⟩
   | 16 => exact hf
   | 17 => obtain ⟨X4, d4, hv, p0⟩ := hf; exact ⟨X4, d4, hv, p0.keep (fun k _ h1 h2 => kx k h1 h2)⟩
   | 18 => exact hf
   | 19 => exact hf
   | 20 => exact hf
  ·intro gh ρ u hc hf1 hg1 hd h0 hb he ha hF
   have r0 : ρ (.tmp 0) = .pointer (some ⟨p, 0, none⟩) := (h0 0 (by decide +kernel)).trans rfl
   clear  hd h0 he ha hF
   go_simp
   rw [HF.out]
   exact ⟨OnlyL.refl _ _, rfl⟩
  ·intro gh ρ u hc hf1 hg1 hd h0 hb he ha hF
   have r44 : ρ (.tmp 44) = .pointer (some ⟨p, 0, none⟩) := by have h := hF 0 (by decide +kernel) (by decide +kernel); rw [HF.out] at h; exact (hd 0 (by decide +kernel) 44 (by kernel_rfl)).trans h
   clear  hd h0 he ha hF
   go_simp
   rw [HF.out]
   exact ⟨OnlyL.refl _ _, rfl⟩
  ·intro gh ρ u hc hf1 hg1 hd h0 hb he ha hF
   have r45 : ρ (.tmp 45) = .pointer (some ⟨p, 0, none⟩) := by have h := hF 1 (by decide +kernel) (by decide +kernel); rw [HF.out] at h; exact (hd 1 (by decide +kernel) 45 (by kernel_rfl)).trans h
   clear  hd h0 he ha hF
   go_simp
   rw [HF.out]
   exact ⟨OnlyL.refl _ _, rfl⟩
  ·intro gh ρ u hc hf1 hg1 hd h0 hb he ha hF
   replace hb : Below w3.heap.size w3 u := hb.drew.below (by decide +kernel)
   have hbz : w3.heap.size ≤ u.heap.size := hb.size
   have r46 : ρ (.tmp 46) = .pointer (some ⟨p, 0, none⟩) := by have h := hF 2 (by decide +kernel) (by decide +kernel); rw [HF.out] at h; exact (hd 2 (by decide +kernel) 46 (by kernel_rfl)).trans h
   have q_b := (HXb.out.below hb).2.1
   have k_b : p < u.heap.size := by have := HXb.out.1; omega
   clear  hd h0 he ha hF
   go_simp
   rw [HF.out]
   exact ⟨OnlyL.refl _ _, rfl⟩
  ·intro gh ρ u hc hf1 hg1 hd h0 hb he ha hF
   have r0 : ρ (.tmp 0) = .pointer (some ⟨p, 0, none⟩) := (h0 0 (by decide +kernel)).trans rfl
   clear  hd h0 he ha hF
   go_simp
   rw [HF.out]
   exact ⟨OnlyL.refl _ _, rfl⟩
  ·intro gh ρ u hc hf1 hg1 hd h0 hb he ha hF
   have r2 : ρ (.tmp 2) = .int .i64 (nB : Nat) := (h0 2 (by decide +kernel)).trans rfl
   clear  hd h0 he ha hF
   go_simp
   rw [HF.out]
   exact ⟨OnlyL.refl _ _, rfl⟩
  ·intro gh ρ u hc hf1 hg1 hd h0 hb he ha hF
   replace hb : Below w3.heap.size w3 u := hb.drew.below (by decide +kernel)
   have hbz : w3.heap.size ≤ u.heap.size := hb.size
   have r48 : ρ (.tmp 48) = .pointer (some ⟨p, 0, none⟩) := by have h := hF 4 (by decide +kernel) (by decide +kernel); rw [HF.out] at h; exact (hd 4 (by decide +kernel) 48 (by kernel_rfl)).trans h
   have r49 : ρ (.tmp 49) = .int .i64 (nB : Nat) := by have h := hF 5 (by decide +kernel) (by decide +kernel); rw [HF.out] at h; exact (hd 5 (by decide +kernel) 49 (by kernel_rfl)).trans h
   clear  hd h0 he ha hF
   go_simp
   have q_b := (HXb.out.below hb)
   refine (HLV2.out _ q_b (HOE.out.below hb).base).mono ?_
   rintro e u1 ⟨X1, d1, rfl, ho, hb1⟩
   rw [HF.out]
   exact ⟨_, rfl, OnlyL.of_below hb1, X1, d1, rfl, RowB.of ho⟩
  ·intro gh ρ u hc hf1 hg1 hd h0 hb he ha hF
   have r1 : ρ (.tmp 1) = .int .i64 (nA : Nat) := (h0 1 (by decide +kernel)).trans rfl
   clear  hd h0 he ha hF
   go_simp
   rw [HF.out]
   exact ⟨OnlyL.refl _ _, rfl⟩
  ·intro gh ρ u hc hf1 hg1 hd h0 hb he ha hF
   replace hb : Below w3.heap.size w3 u := hb.drew.below (by decide +kernel)
   have hbz : w3.heap.size ≤ u.heap.size := hb.size
   have r47 : ρ (.tmp 47) = .int .i64 width := by have h := hF 3 (by decide +kernel) (by decide +kernel); rw [HF.out] at h; exact (hd 3 (by decide +kernel) 47 (by kernel_rfl)).trans h
   have f6 : ∃ (X1 : Option Addr) (d1 : Nat), (gh 6).v = .slice X1 nB d1 ∧ (RowB u (gh 6).s (gh 6).e (.slice X1 nB d1, nB) (strs lt)) := by have h := hF 6 (by decide +kernel) (by decide +kernel); rw [HF.out] at h; exact h
   obtain ⟨X1, d1, hv6, g6_0⟩ := f6
   have r50 : ρ (.tmp 50) = .slice X1 nB d1 := (hd 6 (by decide +kernel) 50 (by kernel_rfl)).trans hv6
   have r51 : ρ (.tmp 51) = .int .i64 (nA : Nat) := by have h := hF 7 (by decide +kernel) (by decide +kernel); rw [HF.out] at h; exact (hd 7 (by decide +kernel) 51 (by kernel_rfl)).trans h
   clear hv6 hd h0 he ha hF
   go_simp
   have q_b := (HXb.out.below hb)
   refine (HN1.out _ _ _ (Own.of_ownsRow g6_0.1).rd.base (row_cap g6_0.1)).mono ?_
   rintro e u1 ⟨X3, d3, rfl, ho, hb1⟩
   rw [HF.out]
   exact ⟨_, rfl, OnlyL.of_below hb1, X3, d3, rfl, RowB.of ho⟩
  ·intro gh ρ u hc hf1 hg1 hd h0 hb he ha hF
   have r0 : ρ (.tmp 0) = .pointer (some ⟨p, 0, none⟩) := (h0 0 (by decide +kernel)).trans rfl
   clear  hd h0 he ha hF
   go_simp
   rw [HF.out]
   exact ⟨OnlyL.refl _ _, rfl⟩
  ·intro gh ρ u hc hf1 hg1 hd h0 hb he ha hF
   have r53 : ρ (.tmp 53) = .pointer (some ⟨p, 0, none⟩) := by have h := hF 9 (by decide +kernel) (by decide +kernel); rw [HF.out] at h; exact (hd 9 (by decide +kernel) 53 (by kernel_rfl)).trans h
   clear  hd h0 he ha hF
   go_simp
   rw [HF.out]
   exact ⟨OnlyL.refl _ _, rfl⟩
  ·intro gh ρ u hc hf1 hg1 hd h0 hb he ha hF
   have r54 : ρ (.tmp 54) = .pointer (some ⟨p, 0, none⟩) := by have h := hF 10 (by decide +kernel) (by decide +kernel); rw [HF.out] at h; exact (hd 10 (by decide +kernel) 54 (by kernel_rfl)).trans h
   clear  hd h0 he ha hF
   go_simp
   rw [HF.out]
   exact ⟨OnlyL.refl _ _, rfl⟩
  ·intro gh ρ u hc hf1 hg1 hd h0 hb he ha hF
   replace hb : Below w3.heap.size w3 u := hb.drew.below (by decide +kernel)
   have hbz : w3.heap.size ≤ u.heap.size := hb.size
   have r55 : ρ (.tmp 55) = .pointer (some ⟨p, 0, none⟩) := by have h := hF 11 (by decide +kernel) (by decide +kernel); rw [HF.out] at h; exact (hd 11 (by decide +kernel) 55 (by kernel_rfl)).trans h
   have q_b := (HXb.out.below hb).2.1
   have k_b : p < u.heap.size := by have := HXb.out.1; omega
   clear  hd h0 he ha hF
   go_simp
   rw [HF.out]
   exact ⟨OnlyL.refl _ _, rfl⟩
  ·intro gh ρ u hc hf1 hg1 hd h0 hb he ha hF
   have r0 : ρ (.tmp 0) = .pointer (some ⟨p, 0, none⟩) := (h0 0 (by decide +kernel)).trans rfl
   clear  hd h0 he ha hF
   go_simp
   rw [HF.out]
   exact ⟨OnlyL.refl _ _, rfl⟩
  ·intro gh ρ u hc hf1 hg1 hd h0 hb he ha hF
   have r4 : ρ (.tmp 4) = .int .i64 (nD : Nat) := (h0 4 (by decide +kernel)).trans rfl
   clear  hd h0 he ha hF
   go_simp
   rw [HF.out]
   exact ⟨OnlyL.refl _ _, rfl⟩
  ·intro gh ρ u hc hf1 hg1 hd h0 hb he ha hF
   replace hb : Below w3.heap.size w3 u := hb.drew.below (by decide +kernel)
   have hbz : w3.heap.size ≤ u.heap.size := hb.size
   have r57 : ρ (.tmp 57) = .pointer (some ⟨p, 0, none⟩) := by have h := hF 13 (by decide +kernel) (by decide +kernel); rw [HF.out] at h; exact (hd 13 (by decide +kernel) 57 (by kernel_rfl)).trans h
   have r58 : ρ (.tmp 58) = .int .i64 (nD : Nat) := by have h := hF 14 (by decide +kernel) (by decide +kernel); rw [HF.out] at h; exact (hd 14 (by decide +kernel) 58 (by kernel_rfl)).trans h
   clear  hd h0 he ha hF
   go_simp
   have q_b := (HXb.out.below hb)
   refine (HTK2.out _ q_b (HOR.out.below hb).base).mono ?_
   rintro e u1 ⟨X2, d2, rfl, ho, hb1⟩
   rw [HF.out]
   exact ⟨_, rfl, OnlyL.of_below hb1, X2, d2, rfl, RowB.of ho⟩
  ·intro gh ρ u hc hf1 hg1 hd h0 hb he ha hF
   have r3 : ρ (.tmp 3) = .int .i64 (nC : Nat) := (h0 3 (by decide +kernel)).trans rfl
   clear  hd h0 he ha hF
   go_simp
   rw [HF.out]
   exact ⟨OnlyL.refl _ _, rfl⟩
  ·intro gh ρ u hc hf1 hg1 hd h0 hb he ha hF
   replace hb : Below w3.heap.size w3 u := hb.drew.below (by decide +kernel)
   have hbz : w3.heap.size ≤ u.heap.size := hb.size
   have r56 : ρ (.tmp 56) = .int .i64 width := by have h := hF 12 (by decide +kernel) (by decide +kernel); rw [HF.out] at h; exact (hd 12 (by decide +kernel) 56 (by kernel_rfl)).trans h
   have f15 : ∃ (X2 : Option Addr) (d2 : Nat), (gh 15).v = .slice X2 nD d2 ∧ (RowB u (gh 15).s (gh 15).e (.slice X2 nD d2, nD) (strs tt)) := by have h := hF 15 (by decide +kernel) (by decide +kernel); rw [HF.out] at h; exact h
   obtain ⟨X2, d2, hv15, g15_0⟩ := f15
   have r59 : ρ (.tmp 59) = .slice X2 nD d2 := (hd 15 (by decide +kernel) 59 (by kernel_rfl)).trans hv15
   have r60 : ρ (.tmp 60) = .int .i64 (nC : Nat) := by have h := hF 16 (by decide +kernel) (by decide +kernel); rw [HF.out] at h; exact (hd 16 (by decide +kernel) 60 (by kernel_rfl)).trans h
   clear hv15 hd h0 he ha hF
   go_simp
   have q_b := (HXb.out.below hb)
   refine (HN2.out _ _ _ (Own.of_ownsRow g15_0.1).rd.base (row_cap g15_0.1)).mono ?_
   rintro e u1 ⟨X4, d4, rfl, ho, hb1⟩
   rw [HF.out]
   exact ⟨_, rfl, OnlyL.of_below hb1, X4, d4, rfl, RowB.of ho⟩
  ·intro gh ρ u hc hf1 hg1 hd h0 hb he ha hF
   have f8 : ∃ (X3 : Option Addr) (d3 : Nat), (gh 8).v = .slice X3 cl1.length d3 ∧ (RowB u (gh 8).s (gh 8).e (.slice X3 cl1.length d3, cl1.length) (strs cl1)) := by have h := hF 8 (by decide +kernel) (by decide +kernel); rw [HF.out] at h; exact h
   obtain ⟨X3, d3, hv8, g8_0⟩ := f8
   have hrt8 := hv8
   have r52 : ρ (.tmp 52) = .slice X3 cl1.length d3 := (hd 8 (by decide +kernel) 52 (by kernel_rfl)).trans hv8
   have HRT8 := lH hrt8
   clear hv8 hrt8 hd h0 he ha hF
   go_simp
   rw [HF.out]
   exact ⟨OnlyL.refl _ _, X3, d3, HRT8.out, rfl⟩
  ·intro gh ρ u hc hf1 hg1 hd h0 hb he ha hF
   have f17 : ∃ (X4 : Option Addr) (d4 : Nat), (gh 17).v = .slice X4 cl2.length d4 ∧ (RowB u (gh 17).s (gh 17).e (.slice X4 cl2.length d4, cl2.length) (strs cl2)) := by have h := hF 17 (by decide +kernel) (by decide +kernel); rw [HF.out] at h; exact h
   obtain ⟨X4, d4, hv17, g17_0⟩ := f17
   have hrt17 := hv17
   have r61 : ρ (.tmp 61) = .slice X4 cl2.length d4 := (hd 17 (by decide +kernel) 61 (by kernel_rfl)).trans hv17
   have HRT17 := lH hrt17
   clear hv17 hrt17 hd h0 he ha hF
   go_simp
   rw [HF.out]
   exact ⟨OnlyL.refl _ _, X4, d4, HRT17.out, rfl⟩
  ·intro gh ρ u hc hf1 hg1 hd h0 hb he ha hF
   clear  hd h0 he ha hF
   go_simp
   rw [HF.out]
   exact ⟨OnlyL.refl _ _, rfl⟩
  intro gh w4 hB hE hA hF
  replace hB : Below w3.heap.size w3 w4 := hB.below rfl
  have f0 : (gh 0).v = .pointer (some ⟨p, 0, none⟩) := by have h := hF 0 (by decide +kernel) (by decide +kernel); rw [HF.out] at h; exact h
  have f1 : (gh 1).v = .pointer (some ⟨p, 0, none⟩) := by have h := hF 1 (by decide +kernel) (by decide +kernel); rw [HF.out] at h; exact h
  have f2 : (gh 2).v = .pointer (some ⟨p, 0, none⟩) := by have h := hF 2 (by decide +kernel) (by decide +kernel); rw [HF.out] at h; exact h
  have f3 : (gh 3).v = .int .i64 width := by have h := hF 3 (by decide +kernel) (by decide +kernel); rw [HF.out] at h; exact h
  have f4 : (gh 4).v = .pointer (some ⟨p, 0, none⟩) := by have h := hF 4 (by decide +kernel) (by decide +kernel); rw [HF.out] at h; exact h
  have f5 : (gh 5).v = .int .i64 (nB : Nat) := by have h := hF 5 (by decide +kernel) (by decide +kernel); rw [HF.out] at h; exact h
  have f6 : ∃ (X1 : Option Addr) (d1 : Nat), (gh 6).v = .slice X1 nB d1 ∧ (RowB w4 (gh 6).s (gh 6).e (.slice X1 nB d1, nB) (strs lt)) := by have h := hF 6 (by decide +kernel) (by decide +kernel); rw [HF.out] at h; exact h
  have f7 : (gh 7).v = .int .i64 (nA : Nat) := by have h := hF 7 (by decide +kernel) (by decide +kernel); rw [HF.out] at h; exact h
  have f8 : ∃ (X3 : Option Addr) (d3 : Nat), (gh 8).v = .slice X3 cl1.length d3 ∧ (RowB w4 (gh 8).s (gh 8).e (.slice X3 cl1.length d3, cl1.length) (strs cl1)) := by have h := hF 8 (by decide +kernel) (by decide +kernel); rw [HF.out] at h; exact h
  have f9 : (gh 9).v = .pointer (some ⟨p, 0, none⟩) := by have h := hF 9 (by decide +kernel) (by decide +kernel); rw [HF.out] at h; exact h
  have f10 : (gh 10).v = .pointer (some ⟨p, 0, none⟩) := by have h := hF 10 (by decide +kernel) (by decide +kernel); rw [HF.out] at h; exact h
  have f11 : (gh 11).v = .pointer (some ⟨p, 0, none⟩) := by have h := hF 11 (by decide +kernel) (by decide +kernel); rw [HF.out] at h; exact h
  have f12 : (gh 12).v = .int .i64 width := by have h := hF 12 (by decide +kernel) (by decide +kernel); rw [HF.out] at h; exact h
  have f13 : (gh 13).v = .pointer (some ⟨p, 0, none⟩) := by have h := hF 13 (by decide +kernel) (by decide +kernel); rw [HF.out] at h; exact h
  have f14 : (gh 14).v = .int .i64 (nD : Nat) := by have h := hF 14 (by decide +kernel) (by decide +kernel); rw [HF.out] at h; exact h
  have f15 : ∃ (X2 : Option Addr) (d2 : Nat), (gh 15).v = .slice X2 nD d2 ∧ (RowB w4 (gh 15).s (gh 15).e (.slice X2 nD d2, nD) (strs tt)) := by have h := hF 15 (by decide +kernel) (by decide +kernel); rw [HF.out] at h; exact h
  have f16 : (gh 16).v = .int .i64 (nC : Nat) := by have h := hF 16 (by decide +kernel) (by decide +kernel); rw [HF.out] at h; exact h
  have f17 : ∃ (X4 : Option Addr) (d4 : Nat), (gh 17).v = .slice X4 cl2.length d4 ∧ (RowB w4 (gh 17).s (gh 17).e (.slice X4 cl2.length d4, cl2.length) (strs cl2)) := by have h := hF 17 (by decide +kernel) (by decide +kernel); rw [HF.out] at h; exact h
  have f18 : ∃ (X3 : Option Addr) (d3 : Nat), (gh 8).v = .slice X3 cl1.length d3 ∧ (gh 18).v = .slice X3 cl1.length d3 := by have h := hF 18 (by decide +kernel) (by decide +kernel); rw [HF.out] at h; exact h
  have f19 : ∃ (X4 : Option Addr) (d4 : Nat), (gh 17).v = .slice X4 cl2.length d4 ∧ (gh 19).v = .slice X4 cl2.length d4 := by have h := hF 19 (by decide +kernel) (by decide +kernel); rw [HF.out] at h; exact h
  have f20 : (gh 20).v = .int .i64 0 := by have h := hF 20 (by decide +kernel) (by decide +kernel); rw [HF.out] at h; exact h
  obtain ⟨X1, d1, hv6, _⟩ := f6
  obtain ⟨X3, d3, hv8, hr3⟩ := f8
  obtain ⟨X2, d2, hv15, _⟩ := f15
  obtain ⟨X4, d4, hv17, hr4⟩ := f17
  have hv0 := f0
  have hv1 := f1
  have hv2 := f2
  have hv3 := f3
  have hv4 := f4
  have hv5 := f5
  have hv7 := f7
  have hv9 := f9
  have hv10 := f10
  have hv11 := f11
  have hv12 := f12
  have hv13 := f13
  have hv14 := f14
  have hv16 := f16
  obtain ⟨X3_18, d3_18, hu8, hv18⟩ := f18
  replace hu8 := hv8.symm.trans hu8
  simp at hu8
  try simp only [and_assoc] at hu8
  obtain ⟨rfl, rfl⟩ := hu8
  obtain ⟨X4_19, d4_19, hu17, hv19⟩ := f19
  replace hu17 := hv17.symm.trans hu17
  simp at hu17
  try simp only [and_assoc] at hu17
  obtain ⟨rfl, rfl⟩ := hu17
  have hv20 := f20
  obtain ⟨hs8, hse8, he8⟩ := hE 8 (by decide +kernel)
  obtain ⟨hs17, hse17, he17⟩ := hE 17 (by decide +kernel)
  have hdj4_8_17 := hA 8 (by decide +kernel) 17 (by decide +kernel) (by decide)
  change w3.heap.size ≤ _ at hs8 hs17
  clear hE hA hF
  simp only [putDs, Nat.reduceAdd, hv0, hv1, hv2, hv3, hv4, hv5, hv6, hv7, hv8, hv9, hv10, hv11, hv12, hv13, hv14, hv15, hv16, hv17, hv18, hv19, hv20]
  clear hv0 hv1 hv2 hv3 hv4 hv5 hv6 hv7 hv8 hv9 hv10 hv11 hv12 hv13 hv14 hv15 hv16 hv17 hv18 hv19 hv20
  generalize (gh 8).s = s4_8 at *
  generalize (gh 8).e = e4_8 at *
  generalize (gh 17).s = s4_17 at *
  generalize (gh 17).e = e4_17 at *
  clear HF
  have hb := hB
  clear hB
  have hzw4 : w3.heap.size ≤ w4.heap.size := hb.size
  have hzzw4 : w.heap.size ≤ w4.heap.size := by omega
  replace HB := lH (below_then HB.out hb HB.out.size)
  replace HOE := lH (HOE.out.below hb)
  replace HOR := lH (HOR.out.below hb)
  replace HOH := lH (HOH.out.below hb)
  replace HXb := lH (HXb.out.below hb)
  clear hxb hfb hkb
  obtain ⟨hkb, hxb, hfb⟩ := HXb.out
  replace HXg := lH (HXg.out.below hb)
  clear hxg hfg hkg
  obtain ⟨hkg, hxg, hfg⟩ := HXg.out
  clear hb
  have HR3 := lH hr3
  have HR4 := lH hr4
  clear hr3 hr4 HLV HTK HLV2 HTK2 HN1 HN2 HW
  go_wp2
  refine bodyPost_ret (v := .tuple #[.slice X3 cl1.length d3, .slice X4 cl2.length d4, .int .i64 0]) (by simp [results, Tryz.results43, go_sem]) rfl ?_
  rw [HD1.out, HD2.out, HD3.out]
  exact ⟨X3, d3, s4_8, e4_8, X4, d4, s4_17, e4_17, rfl, ⟨by omega, by omega, HR3.out.ownB rfl (by omega) (by omega)⟩, ⟨by omega, by omega, HR4.out.ownB rfl (by omega) (by omega)⟩, ⟨by omega, RowB.room HR3.out, RowB.room HR4.out⟩, HB.out⟩
theorem BwPost.lift {w W w' : World} {l1 l2 : List ByteArray} {code : Int} {e : Ending} (h : BwPost W l1 l2 code e w') (hb : Below w.heap.size w W) : BwPost w l1 l2 code e w' := by
 obtain ⟨A1, c1, x1, y1, A2, c2, x2, y2, he, ⟨p1, p2, p3⟩, ⟨q1, q2, q3⟩, hd, hB⟩ := h
 have := hb.size
 exact ⟨A1, c1, x1, y1, A2, c2, x2, y2, he, ⟨by omega, p2, p3⟩, ⟨by omega, q2, q3⟩, hd, below_then hb hB hb.size⟩
theorem bw_empty {w w' : World} (A1 A2 : Option Addr) (c1 c2 : Nat) (hB : Below w.heap.size w w') (code : Int) : BwPost w [] [] code (.returned (.tuple #[.slice A1 0 c1, .slice A2 0 c2, .int .i64 code])) w' :=
 ⟨A1, c1, w'.heap.size, w'.heap.size, A2, c2, w'.heap.size, w'.heap.size, rfl, ⟨hB.size, Nat.le_refl _, Own.nil⟩, ⟨hB.size, Nat.le_refl _, Own.nil⟩, ⟨.inl (Nat.le_refl _), Nat.zero_le _, Nat.zero_le _⟩, hB⟩
def bwC (width : Int) (es : List Ent) (rs : List Rcp) (hs : List Hd) (z1 : Int) (l1 : List ByteArray) (z2 : Int) (l2 : List ByteArray) (h : Hd) (a b c d : Int) : Int := if brkOk width es rs hs z1 l1 z2 l2 h then btC (lastHd hs) a b c d else 1
def bwL1 (width : Int) (es : List Ent) (rs : List Rcp) (hs : List Hd) (z1 : Int) (l1 : List ByteArray) (z2 : Int) (l2 : List ByteArray) (h : Hd) (a b c d : Int) : List ByteArray := if brkOk width es rs hs z1 l1 z2 l2 h then btL1 width es (lastHd hs) a b c d else []
def bwL2 (width : Int) (es : List Ent) (rs : List Rcp) (hs : List Hd) (z1 : Int) (l1 : List ByteArray) (z2 : Int) (l2 : List ByteArray) (h : Hd) (a b c d : Int) : List ByteArray := if brkOk width es rs hs z1 l1 z2 l2 h then btL2 width rs (lastHd hs) a b c d else []
def HfPost (w : World) (hd : Hd) (l1 l2 : List ByteArray) (code : Int) (e : Ending) (w' : World) : Prop :=
 ∃ (A1 : Option Addr) (c1 a1 b1 : Nat) (A2 : Option Addr) (c2 a2 b2 : Nat), e = .returned (.tuple #[.agg #[.int .i64 hd.num, .int .i64 hd.size, .string hd.root, .int .i64 hd.taken, .string hd.troot], .slice A1 l1.length c1, .slice A2 l2.length c2, .int .i64 code]) ∧
   (w.heap.size ≤ a1 ∧ b1 ≤ w'.heap.size ∧ Own w' a1 b1 A1 (strs l1)) ∧ (w.heap.size ≤ a2 ∧ b2 ≤ w'.heap.size ∧ Own w' a2 b2 A2 (strs l2)) ∧ ((b1 ≤ a2 ∨ b2 ≤ a1) ∧ l1.length ≤ c1 ∧ l2.length ≤ c2) ∧ Below w.heap.size w w'
theorem HfPost.two {w w' : World} {hd : Hd} {l1 l2 : List ByteArray} {code : Int} {e : Ending} (h : HfPost w hd l1 l2 code e w') : (∃ (A1 : Option Addr) (c1 a1 b1 : Nat) (A2 : Option Addr) (c2 a2 b2 : Nat), e = .returned (.tuple #[.agg #[.int .i64 hd.num, .int .i64 hd.size, .string hd.root, .int .i64 hd.taken, .string hd.troot], .slice A1 l1.length c1, .slice A2 l2.length c2, .int .i64 code]) ∧
  (w.heap.size ≤ a1 ∧ b1 ≤ w'.heap.size ∧ Own w' a1 b1 A1 (strs l1)) ∧ (w.heap.size ≤ a2 ∧ b2 ≤ w'.heap.size ∧ Own w' a2 b2 A2 (strs l2)) ∧ ((b1 ≤ a2 ∨ b2 ≤ a1) ∧ l1.length ≤ c1 ∧ l2.length ≤ c2)) ∧ Below w.heap.size w w' := by
 obtain ⟨A1, c1, x1, y1, A2, c2, x2, y2, he, o1, o2, hd, hB⟩ := h
 exact ⟨⟨A1, c1, x1, y1, A2, c2, x2, y2, he, o1, o2, hd⟩, hB⟩
theorem BwPost.two {w w' : World} {l1 l2 : List ByteArray} {code : Int} {e : Ending} (h : BwPost w l1 l2 code e w') : (∃ (A1 : Option Addr) (c1 a1 b1 : Nat) (A2 : Option Addr) (c2 a2 b2 : Nat), e = .returned (.tuple #[.slice A1 l1.length c1, .slice A2 l2.length c2, .int .i64 code]) ∧
  (w.heap.size ≤ a1 ∧ b1 ≤ w'.heap.size ∧ Own w' a1 b1 A1 (strs l1)) ∧ (w.heap.size ≤ a2 ∧ b2 ≤ w'.heap.size ∧ Own w' a2 b2 A2 (strs l2)) ∧ ((b1 ≤ a2 ∨ b2 ≤ a1) ∧ l1.length ≤ c1 ∧ l2.length ≤ c2)) ∧ Below w.heap.size w w' := by
 obtain ⟨A1, c1, x1, y1, A2, c2, x2, y2, he, o1, o2, hd, hB⟩ := h
 exact ⟨⟨A1, c1, x1, y1, A2, c2, x2, y2, he, o1, o2, hd⟩, hB⟩
theorem hf_none {w w' : World} (A1 A2 : Option Addr) (c1 c2 : Nat) (hB : Below w.heap.size w w') (code : Int) : HfPost w noHd [] [] code (.returned (.tuple #[.agg #[.int .i64 0, .int .i64 0, .string ⟨#[]⟩, .int .i64 0, .string ⟨#[]⟩], .slice A1 0 c1, .slice A2 0 c2, .int .i64 code])) w' :=
 ⟨A1, c1, w'.heap.size, w'.heap.size, A2, c2, w'.heap.size, w'.heap.size, rfl, ⟨hB.size, Nat.le_refl _, Own.nil⟩, ⟨hB.size, Nat.le_refl _, Own.nil⟩, ⟨.inl (Nat.le_refl _), Nat.zero_le _, Nat.zero_le _⟩, hB⟩
def frH (lh : Hd) (a c : Int) : Hd := if bwIn lh a lh.size c lh.taken then lh else noHd
def frC (lh : Hd) (a c : Int) : Int := btC lh a lh.size c lh.taken
def fr1 (width : Int) (es : List Ent) (lh : Hd) (a c : Int) : List ByteArray := btL1 width es lh a lh.size c lh.taken
def fr2 (width : Int) (rs : List Rcp) (lh : Hd) (a c : Int) : List ByteArray := btL2 width rs lh a lh.size c lh.taken
theorem fr_two (width : Int) (es : List Ent) (rs : List Rcp) (lh : Hd) (a c : Int) : (frC lh a c = 0 ∧ frH lh a c = lh) ∨ (frC lh a c = 2 ∧ frH lh a c = noHd ∧ fr1 width es lh a c = [] ∧ fr2 width rs lh a c = []) := by
 rw [frC, frH, fr1, fr2, btC, btL1, btL2]
 cases bwIn lh a lh.size c lh.taken
 ·exact .inr ⟨rfl, rfl, rfl, rfl⟩
 ·exact .inl ⟨rfl, rfl⟩
set_option maxRecDepth 100000 in
theorem headFrom_c (width z1 z2 : Int) (p : Nat) (E R H A1 A2 : Option Addr) (ne nr nh ce cr ch c1 c2 lo1 hi1 lo2 hi2 lo3 hi3 m1 m2 : Nat) (es : List Ent) (rs : List Rcp) (hs : List Hd) (h : Hd) (a c : Int) (w : World) (hbx : NewBox w p [.int .i64 width, .slice E ne ce, .slice R nr cr, .slice H nh ch, .int .i64 z1, .slice A1 m1 c1, .int .i64 z2, .slice A2 m2 c2, .int .i64 h.num, .int .i64 h.size, .string h.root, .int .i64 h.taken, .string h.troot])
  (hE : Rd w lo1 hi1 E (ents es)) (hR : Rd w lo2 hi2 R (rcps rs)) (hH : Rd w lo3 hi3 H (hds hs)) (hne : es.length = ne) (hnr : rs.length = nr) (hnh : hs.length = nh) (b1 : ne ≤ 1048576) (b2 : nr ≤ 1048576) (b3 : nh ≤ 1048576) (b6 : ne ≤ ce) (b7 : nr ≤ cr) (hfe : ∀ x ∈ es, x.fits) (hfr : ∀ x ∈ rs, x.fits) (hp : BrkParts width es rs hs) :
  Calls Tryz.prog 38 #[.pointer (some ⟨p, 0, none⟩), .int .i64 a, .int .i64 c] w (HfPost w (frH (lastHd hs) a c) (fr1 width es (lastHd hs) a c) (fr2 width rs (lastHd hs) a c) (frC (lastHd hs) a c)) := by
 have hpos : 0 < nh := by rw [← hnh]; exact hp.pos
 have HTWO := lH (fr_two width es rs (lastHd hs) a c)
 have HBT := lH (fun W (q : NewBox W p [.int .i64 width, .slice E ne ce, .slice R nr cr, .slice H nh ch, .int .i64 z1, .slice A1 m1 c1, .int .i64 z2, .slice A2 m2 c2, .int .i64 h.num, .int .i64 h.size, .string h.root, .int .i64 h.taken, .string h.troot]) (r0 : Rd W 0 W.heap.size E (ents es)) (r1 : Rd W 0 W.heap.size R (rcps rs)) (r2 : Rd W 0 W.heap.size H (hds hs)) => (between_c width z1 z2 p E R H A1 A2 ne nr nh ce cr ch c1 c2 0 W.heap.size 0 W.heap.size 0 W.heap.size m1 m2 es rs hs h a (lastHd hs).size c (lastHd hs).taken W q r0 r1 r2 hne hnr hnh b1 b2 b3 b6 b7 hfe hfr hp).mono (fun _ _ h => h.two))
 have hpw : p < w.heap.size := hbx.1
 have HNH := lH hnh
 have ed1 : btL1 width es (lastHd hs) a (lastHd hs).size c (lastHd hs).taken = fr1 width es (lastHd hs) a c := rfl
 have ed2 : btL2 width rs (lastHd hs) a (lastHd hs).size c (lastHd hs).taken = fr2 width rs (lastHd hs) a c := rfl
 have ed3 : btC (lastHd hs) a (lastHd hs).size c (lastHd hs).taken = frC (lastHd hs) a c := rfl
 rw [ed1, ed2, ed3] at HBT
 clear ed1 ed2 ed3
 generalize fr1 width es (lastHd hs) a c = v1 at *
 generalize fr2 width rs (lastHd hs) a c = v2 at *
 generalize frC (lastHd hs) a c = v3 at *
 generalize frH (lastHd hs) a c = vh at *
 have HB : Hid (Below w.heap.size w w) := Below.refl _ _
 have HOE : Hid (Rd w (0) (w.heap.size) (E) (ents es)) := Rd.base hE
 have HOR : Hid (Rd w (0) (w.heap.size) (R) (rcps rs)) := Rd.base hR
 have HOH : Hid (Rd w (0) (w.heap.size) (H) (hds hs)) := Rd.base hH
 replace HB : Hid (Below w.heap.size w w) := (Below.refl _ _)
 have HXb : Hid (NewBox w (p) [.int .i64 width, .slice E ne ce, .slice R nr cr, .slice H nh ch, .int .i64 z1, .slice A1 m1 c1, .int .i64 z2, .slice A2 m2 c2, .int .i64 h.num, .int .i64 h.size, .string h.root, .int .i64 h.taken, .string h.troot]) := hbx
 obtain ⟨hkb, hxb, hfb⟩ := HXb.out
 clear hbx
 clear hE hR hH hne hnr hnh hfe hfr hp
 go_enter Tryz.func38, Tryz.ntmps38
 go_wp2_with fail
 refine calls_named (fun w1 hw => ?_)
 have hz1 : w.heap.size + 1 ≤ w1.heap.size := by rw [hw]; first | omega | simp [World.setCell] <;> omega
 have hzz1 : w.heap.size ≤ w1.heap.size := by omega
 have hbn : Below w.heap.size w w1 := by rw [hw]; exact (by repeat with_reducible first | exact bR _ | apply bA | apply bD)
 replace HB := lH (below_then HB.out hbn HB.out.size)
 replace HOE := lH (HOE.out.below hbn)
 replace HOR := lH (HOR.out.below hbn)
 replace HOH := lH (HOH.out.below hbn)
 replace HXb := lH (HXb.out.below hbn)
 clear hxb hfb hkb
 obtain ⟨hkb, hxb, hfb⟩ := HXb.out
 clear hbn
 have HXq : Hid (NewBox w1 (w.heap.size) [.int .i64 0, .int .i64 0, .string ⟨#[]⟩, .int .i64 0, .string ⟨#[]⟩]) := by rw [Hid, hw]; exact ⟨by first | omega | (simp [World.setCell]; done) | (simp [World.setCell]; omega), fun o => by rcases o with _ | _ | _ | _ | _ | o <;> go_simp, fun o => by go_simp⟩
 obtain ⟨hkq, hxq, hfq⟩ := HXq.out
 clear hw
 refine (last_c p nh ch 0 (w1).heap.size H hs w1 hkb (hxb 3) HOH.out.base HNH.out hpos b3).mono ?_
 rintro e w2 ⟨rfl, hb⟩
 have hzw2 : w1.heap.size ≤ w2.heap.size := hb.size
 have hzzw2 : w.heap.size ≤ w2.heap.size := by omega
 replace HB := lH (below_then HB.out hb HB.out.size)
 replace HOE := lH (HOE.out.below hb)
 replace HOR := lH (HOR.out.below hb)
 replace HOH := lH (HOH.out.below hb)
 replace HXb := lH (HXb.out.below hb)
 clear hxb hfb hkb
 obtain ⟨hkb, hxb, hfb⟩ := HXb.out
 replace HXq := lH (HXq.out.below hb)
 clear hxq hfq hkq
 obtain ⟨hkq, hxq, hfq⟩ := HXq.out
 clear hb
 generalize lastHd hs = lh at *
 go_wp2_with fail
 refine calls_named (fun w3 hw => ?_)
 have hz3 : w2.heap.size + 1 ≤ w3.heap.size := by rw [hw]; first | omega | simp [World.setCell] <;> omega
 have hzz3 : w.heap.size ≤ w3.heap.size := by omega
 have hbn : Below w2.heap.size w2 w3 := by rw [hw]; exact (by repeat with_reducible first | exact bR _ | apply bA | apply bD)
 replace HB := lH (below_then HB.out hbn HB.out.size)
 replace HOE := lH (HOE.out.below hbn)
 replace HOR := lH (HOR.out.below hbn)
 replace HOH := lH (HOH.out.below hbn)
 replace HXb := lH (HXb.out.below hbn)
 clear hxb hfb hkb
 obtain ⟨hkb, hxb, hfb⟩ := HXb.out
 replace HXq := lH (HXq.out.below hbn)
 clear hxq hfq hkq
 obtain ⟨hkq, hxq, hfq⟩ := HXq.out
 clear hbn
 have HXg : Hid (NewBox w3 (w2.heap.size) [.int .i64 lh.num, .int .i64 lh.size, .string lh.root, .int .i64 lh.taken, .string lh.troot]) := by rw [Hid, hw]; exact ⟨by first | omega | (simp [World.setCell]; done) | (simp [World.setCell]; omega), fun o => by rcases o with _ | _ | _ | _ | _ | o <;> go_simp, fun o => by go_simp⟩
 obtain ⟨hkg, hxg, hfg⟩ := HXg.out
 clear hw
 refine (HBT.out _ HXb.out HOE.out.base HOR.out.base HOH.out.base).mono ?_
 rintro e w4 ⟨⟨A3, c3, x3, y3, A4, c4, x4, y4, rfl, o3, o4, hdis⟩, hb⟩
 have hzw4 : w3.heap.size ≤ w4.heap.size := hb.size
 have hzzw4 : w.heap.size ≤ w4.heap.size := by omega
 replace HB := lH (below_then HB.out hb HB.out.size)
 replace HOE := lH (HOE.out.below hb)
 replace HOR := lH (HOR.out.below hb)
 replace HOH := lH (HOH.out.below hb)
 replace HXb := lH (HXb.out.below hb)
 clear hxb hfb hkb
 obtain ⟨hkb, hxb, hfb⟩ := HXb.out
 replace HXq := lH (HXq.out.below hb)
 clear hxq hfq hkq
 obtain ⟨hkq, hxq, hfq⟩ := HXq.out
 replace HXg := lH (HXg.out.below hb)
 clear hxg hfg hkg
 obtain ⟨hkg, hxg, hfg⟩ := HXg.out
 clear hb
 have HOU : Hid (Own w4 (x3) (y3) (A3) (strs v1)) := o3.2.2
 have HOV : Hid (Own w4 (x4) (y4) (A4) (strs v2)) := o4.2.2
 have o31 := o3.1
 have o32 := o3.2.1
 have o41 := o4.1
 have o42 := o4.2.1
 clear o3 o4 HBT
 rcases HTWO.out with ⟨e1, e2⟩ | ⟨e1, e2, e3, e4⟩
 ·replace e2 := e2.symm
  subst e1 e2
  clear HTWO
  go_wp2
  refine bodyPost_named (fun w5 hw => ?_)
  have hz5 : w4.heap.size + 0 ≤ w5.heap.size := by rw [hw]; first | omega | simp [World.setCell] <;> omega
  have hzz5 : w.heap.size ≤ w5.heap.size := by omega
  replace HB : Hid (Below w.heap.size w w5) := by rw [Hid, hw]; exact (by ((repeat first | with_reducible apply bA | with_reducible apply bD | (with_reducible refine bS ?_ ?_; (focus (first | omega | (simp; done) | (simp; omega))))); exact HB.out))
  replace HOE : Hid (Rd w5 (0) (w.heap.size) (E) (ents es)) := by rw [Hid, hw]; (repeat (first | (with_reducible refine Rd.alloc ?_ _) | (with_reducible refine Rd.drew ?_) | ((with_reducible refine Rd.setCell ?_ ?_ _); rotate_left 1; (focus (first | omega | (simp; done) | (simp; omega)))))); exact HOE.out
  replace HOR : Hid (Rd w5 (0) (w.heap.size) (R) (rcps rs)) := by rw [Hid, hw]; (repeat (first | (with_reducible refine Rd.alloc ?_ _) | (with_reducible refine Rd.drew ?_) | ((with_reducible refine Rd.setCell ?_ ?_ _); rotate_left 1; (focus (first | omega | (simp; done) | (simp; omega)))))); exact HOR.out
  replace HOH : Hid (Rd w5 (0) (w.heap.size) (H) (hds hs)) := by rw [Hid, hw]; (repeat (first | (with_reducible refine Rd.alloc ?_ _) | (with_reducible refine Rd.drew ?_) | ((with_reducible refine Rd.setCell ?_ ?_ _); rotate_left 1; (focus (first | omega | (simp; done) | (simp; omega)))))); exact HOH.out
  replace HOU : Hid (Own w5 (x3) (y3) (A3) (strs v1)) := by rw [Hid, hw]; (repeat (first | (with_reducible refine Own.alloc ?_ _) | (with_reducible refine Own.drew ?_) | ((with_reducible refine Own.setCell ?_ ?_ _); rotate_left 1; (focus (first | omega | (simp; done) | (simp; omega)))))); exact HOU.out
  replace HOV : Hid (Own w5 (x4) (y4) (A4) (strs v2)) := by rw [Hid, hw]; (repeat (first | (with_reducible refine Own.alloc ?_ _) | (with_reducible refine Own.drew ?_) | ((with_reducible refine Own.setCell ?_ ?_ _); rotate_left 1; (focus (first | omega | (simp; done) | (simp; omega)))))); exact HOV.out
  replace HXb : Hid (NewBox w5 (p) [.int .i64 width, .slice E ne ce, .slice R nr cr, .slice H nh ch, .int .i64 z1, .slice A1 m1 c1, .int .i64 z2, .slice A2 m2 c2, .int .i64 h.num, .int .i64 h.size, .string h.root, .int .i64 h.taken, .string h.troot]) := by rw [Hid, hw]; (repeat (first | (with_reducible refine NewBox.alloc ?_ _) | (with_reducible refine NewBox.drew ?_) | ((with_reducible refine NewBox.setCell ?_ ?_ _); rotate_left 1; (focus (first | omega | (simp; done) | (simp; omega)))))); exact HXb.out
  clear hxb hfb hkb
  obtain ⟨hkb, hxb, hfb⟩ := HXb.out
  replace HXq : Hid (NewBox w5 (w.heap.size) [.int .i64 lh.num, .int .i64 lh.size, .string lh.root, .int .i64 lh.taken, .string lh.troot]) := by rw [Hid, hw]; apply NewBox.cast; (focus ((repeat (first | (with_reducible apply NewBox.alloc) | (with_reducible apply NewBox.drew) | (with_reducible apply NewBox.set1) | ((with_reducible apply NewBox.far); (focus (first | omega | (simp; done) | (simp; omega)))))); exact HXq.out)); rfl
  clear hxq hfq hkq
  obtain ⟨hkq, hxq, hfq⟩ := HXq.out
  replace HXg : Hid (NewBox w5 (w2.heap.size) [.int .i64 lh.num, .int .i64 lh.size, .string lh.root, .int .i64 lh.taken, .string lh.troot]) := by rw [Hid, hw]; (repeat (first | (with_reducible refine NewBox.alloc ?_ _) | (with_reducible refine NewBox.drew ?_) | ((with_reducible refine NewBox.setCell ?_ ?_ _); rotate_left 1; (focus (first | omega | (simp; done) | (simp; omega)))))); exact HXg.out
  clear hxg hfg hkg
  obtain ⟨hkg, hxg, hfg⟩ := HXg.out
  clear hw
  refine bodyPost_ret (v := .tuple #[.agg #[.int .i64 lh.num, .int .i64 lh.size, .string lh.root, .int .i64 lh.taken, .string lh.troot], .slice A3 v1.length c3, .slice A4 v2.length c4, .int .i64 0]) (by simp [results, Tryz.results38, go_sem, hxq]) rfl ?_
  exact ⟨A3, c3, x3, y3, A4, c4, x4, y4, rfl, ⟨by omega, by omega, HOU.out⟩, ⟨by omega, by omega, HOV.out⟩, hdis, HB.out⟩
 ·subst e1 e2 e3 e4
  clear HOU
  clear HOV
  clear HTWO o31 o32 o41 o42 hdis
  go_wp2
  refine bodyPost_named (fun w5 hw => ?_)
  have hz5 : w4.heap.size + 0 ≤ w5.heap.size := by rw [hw]; first | omega | simp [World.setCell] <;> omega
  have hzz5 : w.heap.size ≤ w5.heap.size := by omega
  replace HB : Hid (Below w.heap.size w w5) := by rw [Hid, hw]; exact (by ((repeat first | with_reducible apply bA | with_reducible apply bD | (with_reducible refine bS ?_ ?_; (focus (first | omega | (simp; done) | (simp; omega))))); exact HB.out))
  replace HOE : Hid (Rd w5 (0) (w.heap.size) (E) (ents es)) := by rw [Hid, hw]; (repeat (first | (with_reducible refine Rd.alloc ?_ _) | (with_reducible refine Rd.drew ?_) | ((with_reducible refine Rd.setCell ?_ ?_ _); rotate_left 1; (focus (first | omega | (simp; done) | (simp; omega)))))); exact HOE.out
  replace HOR : Hid (Rd w5 (0) (w.heap.size) (R) (rcps rs)) := by rw [Hid, hw]; (repeat (first | (with_reducible refine Rd.alloc ?_ _) | (with_reducible refine Rd.drew ?_) | ((with_reducible refine Rd.setCell ?_ ?_ _); rotate_left 1; (focus (first | omega | (simp; done) | (simp; omega)))))); exact HOR.out
  replace HOH : Hid (Rd w5 (0) (w.heap.size) (H) (hds hs)) := by rw [Hid, hw]; (repeat (first | (with_reducible refine Rd.alloc ?_ _) | (with_reducible refine Rd.drew ?_) | ((with_reducible refine Rd.setCell ?_ ?_ _); rotate_left 1; (focus (first | omega | (simp; done) | (simp; omega)))))); exact HOH.out
  replace HXb : Hid (NewBox w5 (p) [.int .i64 width, .slice E ne ce, .slice R nr cr, .slice H nh ch, .int .i64 z1, .slice A1 m1 c1, .int .i64 z2, .slice A2 m2 c2, .int .i64 h.num, .int .i64 h.size, .string h.root, .int .i64 h.taken, .string h.troot]) := by rw [Hid, hw]; (repeat (first | (with_reducible refine NewBox.alloc ?_ _) | (with_reducible refine NewBox.drew ?_) | ((with_reducible refine NewBox.setCell ?_ ?_ _); rotate_left 1; (focus (first | omega | (simp; done) | (simp; omega)))))); exact HXb.out
  clear hxb hfb hkb
  obtain ⟨hkb, hxb, hfb⟩ := HXb.out
  replace HXq : Hid (NewBox w5 (w.heap.size) [.int .i64 0, .int .i64 0, .string ⟨#[]⟩, .int .i64 0, .string ⟨#[]⟩]) := by rw [Hid, hw]; apply NewBox.cast; (focus ((repeat (first | (with_reducible apply NewBox.alloc) | (with_reducible apply NewBox.drew) | (with_reducible apply NewBox.set1) | ((with_reducible apply NewBox.far); (focus (first | omega | (simp; done) | (simp; omega)))))); exact HXq.out)); rfl
  clear hxq hfq hkq
  obtain ⟨hkq, hxq, hfq⟩ := HXq.out
  replace HXg : Hid (NewBox w5 (w2.heap.size) [.int .i64 lh.num, .int .i64 lh.size, .string lh.root, .int .i64 lh.taken, .string lh.troot]) := by rw [Hid, hw]; (repeat (first | (with_reducible refine NewBox.alloc ?_ _) | (with_reducible refine NewBox.drew ?_) | ((with_reducible refine NewBox.setCell ?_ ?_ _); rotate_left 1; (focus (first | omega | (simp; done) | (simp; omega)))))); exact HXg.out
  clear hxg hfg hkg
  obtain ⟨hkg, hxg, hfg⟩ := HXg.out
  clear hw
  refine bodyPost_ret (v := .tuple #[.agg #[.int .i64 0, .int .i64 0, .string ⟨#[]⟩, .int .i64 0, .string ⟨#[]⟩], .slice none 0 0, .slice none 0 0, .int .i64 2]) (by simp [results, Tryz.results38, go_sem, hxq]) rfl ?_
  exact hf_none _ _ _ _ HB.out 2
end
end Go.Proofs.YtoccjgcokffkbaaGreat
