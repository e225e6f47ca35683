/- Part 30 of the proof of FnProofs: lemmas and contracts. -/
import Derived.Test.YtoccjgcokffkbaaGreatTq29
import Derived.Test.YtoccjgcokffkbaaGreatTq16
import Derived.Test.YtoccjgcokffkbaaGreatTq9
import Derived.Test.YtoccjgcokffkbaaGreatTq27
import Derived.BigQuiet
import Derived.Deep.QuietTactic
import Derived.Test.YtoccjgcokffkbaaGreatTq7
namespace Go.Proofs.YtoccjgcokffkbaaGreat
set_option linter.unusedVariables false
set_option linter.unusedSimpArgs false
set_option maxHeartbeats 20000000
section
open Go.RowKit
theorem leafProofB_c (width : Int) (E R H A1 A2 : Option Addr) (ne nr nh ce cr ch c1 c2 m1 m2 : Nat) (es : List Ent) (rs : List Rcp) (hs : List Hd) (l1 l2 : List ByteArray) (h : Hd) (a c : Int) (W : World) (hk : BrkK W 0 W.heap.size ⟨E, R, H, A1, A2, ce, cr, ch, c1, c2⟩ ⟨width, es, rs, hs⟩) (hne : es.length = ne) (hnr : rs.length = nr) (hnh : hs.length = nh) (hl1 : pk1 width es hs = l1) (hl2 : pk2 width rs hs = l2) (hm1 : l1.length = m1) (hm2 : l2.length = m2) (hh : lastHd hs = h) :
  Calls Tryz.prog 19 #[.agg #[.int .i64 width, .slice E ne ce, .slice R nr cr, .slice H nh ch, .int .i64 h.size, .slice A1 m1 c1, .int .i64 h.taken, .slice A2 m2 c2, .int .i64 h.num, .int .i64 h.size, .string h.root, .int .i64 h.taken, .string h.troot], .int .i64 a, .int .i64 c] W (EntPost W (lfE es hs a c) (lfL width es hs a c) (lfC hs a c)) := by
 obtain ⟨f1, f2, f3, g1, g2, g3, g4, f4, g5, g6, g7⟩ := parts_fits hk.ok
 dsimp only at f1 f2 f3 g1 g2 g3 g4 f4 g5 g6 g7
 subst hne
 subst hnr
 subst hnh
 subst hl1
 subst hl2
 subst hm1
 subst hm2
 subst hh
 obtain ⟨q1, q2, q3⟩ := lp_eq hk.ok a c
 have h9 := implLeafProof_c a c width (lastHd hs).size (lastHd hs).taken E R H A1 A2 es.length rs.length hs.length ce cr ch c1 c2 0 W.heap.size 0 W.heap.size 0 W.heap.size 0 W.heap.size 0 W.heap.size (pk1 width es hs).length (pk2 width rs hs).length es rs hs (pk1 width es hs) (pk2 width rs hs) (lastHd hs) W hk.rE hk.rR hk.rH hk.r1 hk.r2 rfl rfl rfl rfl rfl (by omega) (by omega) (by omega) (by omega) (by omega) hk.kE hk.kR hk.kH f1 f2 f3 f4 (by omega)
 dsimp only at q1 q2 q3
 rw [q1, q2, q3] at h9
 exact h9
def feZ (hs : List Hd) (z c : Int) : Int := if lfC hs z c = 0 then z else 0
def FetPost (w : World) (x : Ent) (z : Int) (l : List ByteArray) (code : Int) (e : Ending) (w' : World) : Prop :=
 (∃ (A : Option Addr) (c : Nat), e = .returned (.tuple #[.agg #[.string x.topic, .int .i64 x.index, .int .i64 x.time, .string x.key, .string x.body], .int .i64 z, .slice A l.length c, .int .i64 code]) ∧ l.length ≤ c ∧ Own w' w.heap.size w'.heap.size A (strs l)) ∧ Below w.heap.size w w'
theorem fe_no (width : Int) (es : List Ent) {hs : List Hd} {z c : Int} (h : ¬ lfC hs z c = 0) : lfE es hs z c = noEnt ∧ feZ hs z c = 0 ∧ lfL width es hs z c = [] := by
 rw [lfE, feZ, lfL, if_neg h, if_neg h, if_neg h]; exact ⟨rfl, rfl, rfl⟩
set_option maxRecDepth 100000 in
theorem fetch_c (width z1 z2 : Int) (p : Nat) (E R H A1 A2 : Option Addr) (ne nr nh ce cr ch c1 c2 lo1 hi1 lo3 hi3 m1 m2 : Nat) (es : List Ent) (rs : List Rcp) (hs : List Hd) (h : Hd) (t : ByteArray) (i c : Int) (w : World) (hbx : NewBox w p [.int .i64 width, .slice E ne ce, .slice R nr cr, .slice H nh ch, .int .i64 z1, .slice A1 m1 c1, .int .i64 z2, .slice A2 m2 c2, .int .i64 h.num, .int .i64 h.size, .string h.root, .int .i64 h.taken, .string h.troot])
  (hE : Rd w lo1 hi1 E (ents es)) (hH : Rd w lo3 hi3 H (hds hs)) (hne : es.length = ne) (hnh : hs.length = nh) (b1 : ne ≤ 1048576) (b3 : nh ≤ 1048576) (b6 : ne ≤ ce) (hfe : ∀ x ∈ es, x.fits) (hp : BrkParts width es rs hs) :
  Calls Tryz.prog 46 #[.pointer (some ⟨p, 0, none⟩), .string t, .int .i64 i, .int .i64 c] w (FetPost w (lfE es hs (firstFrom (isTI t i) es 0) c) (feZ hs (firstFrom (isTI t i) es 0) c) (lfL width es hs (firstFrom (isTI t i) es 0) c) (lfC hs (firstFrom (isTI t i) es 0) c)) := by
 have HLF := fun W (r : Rd W 0 W.heap.size E (ents es)) => leafOf_c E ce 0 W.heap.size ne es t i W r hne b1
 generalize firstFrom (isTI t i) es 0 = zz at *
 replace HLF := lH HLF
 have HLP := lH (fun W (q : NewBox W p [.int .i64 width, .slice E ne ce, .slice R nr cr, .slice H nh ch, .int .i64 z1, .slice A1 m1 c1, .int .i64 z2, .slice A2 m2 c2, .int .i64 h.num, .int .i64 h.size, .string h.root, .int .i64 h.taken, .string h.troot]) (r0 : Rd W 0 W.heap.size E (ents es)) (r2 : Rd W 0 W.heap.size H (hds hs)) => leafProof_c width z1 z2 p E R H A1 A2 ne nr nh ce cr ch c1 c2 0 W.heap.size 0 W.heap.size m1 m2 es rs hs h zz c W q r0 r2 hne hnh b1 b3 b6 hfe hp)
 have HNO := lH (fun (hq : ¬ lfC hs zz c = 0) => fe_no width es hq)
 have HYES : Hid (lfC hs zz c = 0 → feZ hs zz c = zz) := lH (fun hq => by rw [feZ, if_pos hq])
 have hpw : p < w.heap.size := hbx.1
 generalize lfC hs zz c = cd at *
 generalize lfL width es hs zz c = v1 at *
 generalize lfE es hs zz c = x at *
 generalize feZ hs zz c = fz at *
 have HB : Hid (Below w.heap.size w w) := Below.refl _ _
 have HOE : Hid (Rd w (0) (w.heap.size) (E) (ents es)) := Rd.base hE
 have HOH : Hid (Rd w (0) (w.heap.size) (H) (hds hs)) := Rd.base hH
 replace HB : Hid (Below w.heap.size w w) := (Below.refl _ _)
 have HXb : Hid (NewBox w (p) [.int .i64 width, .slice E ne ce, .slice R nr cr, .slice H nh ch, .int .i64 z1, .slice A1 m1 c1, .int .i64 z2, .slice A2 m2 c2, .int .i64 h.num, .int .i64 h.size, .string h.root, .int .i64 h.taken, .string h.troot]) := hbx
 obtain ⟨hkb, hxb, hfb⟩ := HXb.out
 clear hbx
 clear hE hH hne hnh hfe hp
 go_enter Tryz.func46, Tryz.ntmps46
 go_wp2_with fail
 refine calls_named (fun w1 hw => ?_)
 have hz1 : w.heap.size + 1 ≤ w1.heap.size := by rw [hw]; first | omega | simp [World.setCell] <;> omega
 have hzz1 : w.heap.size ≤ w1.heap.size := by omega
 have hbn : Below w.heap.size w w1 := by rw [hw]; exact (by repeat with_reducible first | exact bR _ | apply bA | apply bD)
 replace HB := lH (below_then HB.out hbn HB.out.size)
 replace HOE := lH (HOE.out.below hbn)
 replace HOH := lH (HOH.out.below hbn)
 replace HXb := lH (HXb.out.below hbn)
 clear hxb hfb hkb
 obtain ⟨hkb, hxb, hfb⟩ := HXb.out
 clear hbn
 have HXq : Hid (NewBox w1 (w.heap.size) [.string ⟨#[]⟩, .int .i64 0, .int .i64 0, .string ⟨#[]⟩, .string ⟨#[]⟩]) := by rw [Hid, hw]; exact ⟨by first | omega | (simp [World.setCell]; done) | (simp [World.setCell]; omega), fun o => by rcases o with _ | _ | _ | _ | _ | o <;> go_simp, fun o => by go_simp⟩
 obtain ⟨hkq, hxq, hfq⟩ := HXq.out
 clear hw
 refine (HLF.out _ HOE.out.base).mono ?_
 rintro e w2 ⟨rfl, hb⟩
 have hzw2 : w1.heap.size ≤ w2.heap.size := hb.size
 have hzzw2 : w.heap.size ≤ w2.heap.size := by omega
 replace HB := lH (below_then HB.out hb HB.out.size)
 replace HOE := lH (HOE.out.below hb)
 replace HOH := lH (HOH.out.below hb)
 replace HXb := lH (HXb.out.below hb)
 clear hxb hfb hkb
 obtain ⟨hkb, hxb, hfb⟩ := HXb.out
 replace HXq := lH (HXq.out.below hb)
 clear hxq hfq hkq
 obtain ⟨hkq, hxq, hfq⟩ := HXq.out
 clear hb
 go_wp2_with fail
 refine calls_named (fun w3 hw => ?_)
 have hz3 : w2.heap.size + 0 ≤ w3.heap.size := by rw [hw]; first | omega | simp [World.setCell] <;> omega
 have hzz3 : w.heap.size ≤ w3.heap.size := by omega
 have hbn : Below w2.heap.size w2 w3 := by rw [hw]; exact (by repeat with_reducible first | exact bR _ | apply bA | apply bD)
 replace HB := lH (below_then HB.out hbn HB.out.size)
 replace HOE := lH (HOE.out.below hbn)
 replace HOH := lH (HOH.out.below hbn)
 replace HXb := lH (HXb.out.below hbn)
 clear hxb hfb hkb
 obtain ⟨hkb, hxb, hfb⟩ := HXb.out
 replace HXq := lH (HXq.out.below hbn)
 clear hxq hfq hkq
 obtain ⟨hkq, hxq, hfq⟩ := HXq.out
 clear hbn
 clear hw
 refine (HLP.out _ HXb.out HOE.out.base HOH.out.base).mono ?_
 rintro e w4 ⟨⟨A3, c3, rfl, hcap, ho⟩, hb⟩
 have hzw4 : w3.heap.size ≤ w4.heap.size := hb.size
 have hzzw4 : w.heap.size ≤ w4.heap.size := by omega
 replace HB := lH (below_then HB.out hb HB.out.size)
 replace HOE := lH (HOE.out.below hb)
 replace HOH := lH (HOH.out.below hb)
 replace HXb := lH (HXb.out.below hb)
 clear hxb hfb hkb
 obtain ⟨hkb, hxb, hfb⟩ := HXb.out
 replace HXq := lH (HXq.out.below hb)
 clear hxq hfq hkq
 obtain ⟨hkq, hxq, hfq⟩ := HXq.out
 clear hb
 have HOU : Hid (Own w4 (w3.heap.size) (w4.heap.size) (A3) (strs v1)) := lH ho
 have HCAP := lH hcap
 clear ho HLP HLF hcap
 go_upto_region 3 with fail
 refine wp_named (fun w5 hw => ?_)
 have hz5 : w4.heap.size + 1 ≤ w5.heap.size := by rw [hw]; first | omega | simp [World.setCell] <;> omega
 have hzz5 : w.heap.size ≤ w5.heap.size := by omega
 have hbn : Below w4.heap.size w4 w5 := by rw [hw]; exact (by repeat with_reducible first | exact bR _ | apply bA | apply bD)
 replace HB := lH (below_then HB.out hbn HB.out.size)
 replace HOE := lH (HOE.out.below hbn)
 replace HOH := lH (HOH.out.below hbn)
 replace HOU := lH (HOU.out.below hbn)
 replace HXb := lH (HXb.out.below hbn)
 clear hxb hfb hkb
 obtain ⟨hkb, hxb, hfb⟩ := HXb.out
 replace HXq := lH (HXq.out.below hbn)
 clear hxq hfq hkq
 obtain ⟨hkq, hxq, hfq⟩ := HXq.out
 clear hbn
 have HXx : Hid (NewBox w5 (w4.heap.size) [.string x.topic, .int .i64 x.index, .int .i64 x.time, .string x.key, .string x.body]) := by rw [Hid, hw]; exact ⟨by first | omega | (simp [World.setCell]; done) | (simp [World.setCell]; omega), fun o => by rcases o with _ | _ | _ | _ | _ | o <;> go_simp, fun o => by go_simp⟩
 obtain ⟨hkx, hxx, hfx⟩ := HXx.out
 clear hw
 by_cases hc : cd = 0
 ·obtain rfl := HYES.out hc
  subst hc
  clear HNO HYES
  go_wp2
  refine bodyPost_named (fun w6 hw => ?_)
  have hz6 : w5.heap.size + 0 ≤ w6.heap.size := by rw [hw]; first | omega | simp [World.setCell] <;> omega
  have hzz6 : w.heap.size ≤ w6.heap.size := by omega
  replace HB : Hid (Below w.heap.size w w6) := by rw [Hid, hw]; exact (by ((repeat first | with_reducible apply bA | with_reducible apply bD | (with_reducible refine bS ?_ ?_; (focus (first | omega | (simp; done) | (simp; omega))))); exact HB.out))
  replace HOE : Hid (Rd w6 (0) (w.heap.size) (E) (ents es)) := by rw [Hid, hw]; (repeat (first | (with_reducible refine Rd.alloc ?_ _) | (with_reducible refine Rd.drew ?_) | ((with_reducible refine Rd.setCell ?_ ?_ _); rotate_left 1; (focus (first | omega | (simp; done) | (simp; omega)))))); exact HOE.out
  replace HOH : Hid (Rd w6 (0) (w.heap.size) (H) (hds hs)) := by rw [Hid, hw]; (repeat (first | (with_reducible refine Rd.alloc ?_ _) | (with_reducible refine Rd.drew ?_) | ((with_reducible refine Rd.setCell ?_ ?_ _); rotate_left 1; (focus (first | omega | (simp; done) | (simp; omega)))))); exact HOH.out
  replace HOU : Hid (Own w6 (w3.heap.size) (w4.heap.size) (A3) (strs v1)) := by rw [Hid, hw]; (repeat (first | (with_reducible refine Own.alloc ?_ _) | (with_reducible refine Own.drew ?_) | ((with_reducible refine Own.setCell ?_ ?_ _); rotate_left 1; (focus (first | omega | (simp; done) | (simp; omega)))))); exact HOU.out
  replace HXb : Hid (NewBox w6 (p) [.int .i64 width, .slice E ne ce, .slice R nr cr, .slice H nh ch, .int .i64 z1, .slice A1 m1 c1, .int .i64 z2, .slice A2 m2 c2, .int .i64 h.num, .int .i64 h.size, .string h.root, .int .i64 h.taken, .string h.troot]) := by rw [Hid, hw]; (repeat (first | (with_reducible refine NewBox.alloc ?_ _) | (with_reducible refine NewBox.drew ?_) | ((with_reducible refine NewBox.setCell ?_ ?_ _); rotate_left 1; (focus (first | omega | (simp; done) | (simp; omega)))))); exact HXb.out
  clear hxb hfb hkb
  obtain ⟨hkb, hxb, hfb⟩ := HXb.out
  replace HXq : Hid (NewBox w6 (w.heap.size) [.string x.topic, .int .i64 x.index, .int .i64 x.time, .string x.key, .string x.body]) := by rw [Hid, hw]; apply NewBox.cast; (focus ((repeat (first | (with_reducible apply NewBox.alloc) | (with_reducible apply NewBox.drew) | (with_reducible apply NewBox.set1) | ((with_reducible apply NewBox.far); (focus (first | omega | (simp; done) | (simp; omega)))))); exact HXq.out)); rfl
  clear hxq hfq hkq
  obtain ⟨hkq, hxq, hfq⟩ := HXq.out
  replace HXx : Hid (NewBox w6 (w4.heap.size) [.string x.topic, .int .i64 x.index, .int .i64 x.time, .string x.key, .string x.body]) := by rw [Hid, hw]; (repeat (first | (with_reducible refine NewBox.alloc ?_ _) | (with_reducible refine NewBox.drew ?_) | ((with_reducible refine NewBox.setCell ?_ ?_ _); rotate_left 1; (focus (first | omega | (simp; done) | (simp; omega)))))); exact HXx.out
  clear hxx hfx hkx
  obtain ⟨hkx, hxx, hfx⟩ := HXx.out
  clear hw
  refine bodyPost_ret (v := .tuple #[.agg #[.string x.topic, .int .i64 x.index, .int .i64 x.time, .string x.key, .string x.body], .int .i64 fz, .slice A3 v1.length c3, .int .i64 0]) (by simp [results, Tryz.results46, go_sem, hxq]) rfl ?_
  exact ⟨⟨A3, c3, rfl, HCAP.out, HOU.out.mono (by omega) (by omega) (by omega)⟩, HB.out⟩
 ·skip
  clear HOU
  clear hxx hfx hkx HXx
  obtain ⟨rfl, rfl, rfl⟩ := HNO.out hc
  have hcq : (cd != 0) = true := bne_iff_ne.2 hc
  clear HNO HYES hc
  go_wp2
  refine bodyPost_named (fun w6 hw => ?_)
  have hz6 : w5.heap.size + 0 ≤ w6.heap.size := by rw [hw]; first | omega | simp [World.setCell] <;> omega
  have hzz6 : w.heap.size ≤ w6.heap.size := by omega
  replace HB : Hid (Below w.heap.size w w6) := by rw [Hid, hw]; exact (by ((repeat first | with_reducible apply bA | with_reducible apply bD | (with_reducible refine bS ?_ ?_; (focus (first | omega | (simp; done) | (simp; omega))))); exact HB.out))
  replace HOE : Hid (Rd w6 (0) (w.heap.size) (E) (ents es)) := by rw [Hid, hw]; (repeat (first | (with_reducible refine Rd.alloc ?_ _) | (with_reducible refine Rd.drew ?_) | ((with_reducible refine Rd.setCell ?_ ?_ _); rotate_left 1; (focus (first | omega | (simp; done) | (simp; omega)))))); exact HOE.out
  replace HOH : Hid (Rd w6 (0) (w.heap.size) (H) (hds hs)) := by rw [Hid, hw]; (repeat (first | (with_reducible refine Rd.alloc ?_ _) | (with_reducible refine Rd.drew ?_) | ((with_reducible refine Rd.setCell ?_ ?_ _); rotate_left 1; (focus (first | omega | (simp; done) | (simp; omega)))))); exact HOH.out
  replace HXb : Hid (NewBox w6 (p) [.int .i64 width, .slice E ne ce, .slice R nr cr, .slice H nh ch, .int .i64 z1, .slice A1 m1 c1, .int .i64 z2, .slice A2 m2 c2, .int .i64 h.num, .int .i64 h.size, .string h.root, .int .i64 h.taken, .string h.troot]) := by rw [Hid, hw]; (repeat (first | (with_reducible refine NewBox.alloc ?_ _) | (with_reducible refine NewBox.drew ?_) | ((with_reducible refine NewBox.setCell ?_ ?_ _); rotate_left 1; (focus (first | omega | (simp; done) | (simp; omega)))))); exact HXb.out
  clear hxb hfb hkb
  obtain ⟨hkb, hxb, hfb⟩ := HXb.out
  replace HXq : Hid (NewBox w6 (w.heap.size) [.string ⟨#[]⟩, .int .i64 0, .int .i64 0, .string ⟨#[]⟩, .string ⟨#[]⟩]) := by rw [Hid, hw]; apply NewBox.cast; (focus ((repeat (first | (with_reducible apply NewBox.alloc) | (with_reducible apply NewBox.drew) | (with_reducible apply NewBox.set1) | ((with_reducible apply NewBox.far); (focus (first | omega | (simp; done) | (simp; omega)))))); exact HXq.out)); rfl
  clear hxq hfq hkq
  obtain ⟨hkq, hxq, hfq⟩ := HXq.out
  clear hw
  refine bodyPost_ret (v := .tuple #[.agg #[.string ⟨#[]⟩, .int .i64 0, .int .i64 0, .string ⟨#[]⟩, .string ⟨#[]⟩], .int .i64 0, .slice none 0 0, .int .i64 cd]) (by simp [results, Tryz.results46, go_sem, hxq]) rfl ?_
  exact ⟨⟨none, 0, rfl, Nat.zero_le _, Own.nil⟩, HB.out⟩
set_option maxRecDepth 100000 in
theorem fetchB_c (width : Int) (E R H A1 A2 : Option Addr) (ne nr nh ce cr ch c1 c2 m1 m2 : Nat) (es : List Ent) (rs : List Rcp) (hs : List Hd) (l1 l2 : List ByteArray) (h : Hd) (t : ByteArray) (i c : Int) (w : World) (hk : BrkK w 0 w.heap.size ⟨E, R, H, A1, A2, ce, cr, ch, c1, c2⟩ ⟨width, es, rs, hs⟩) (hne : es.length = ne) (hnr : rs.length = nr) (hnh : hs.length = nh) (hl1 : pk1 width es hs = l1) (hl2 : pk2 width rs hs = l2) (hm1 : l1.length = m1) (hm2 : l2.length = m2) (hh : lastHd hs = h) :
  Calls Tryz.prog 20 #[.agg #[.int .i64 width, .slice E ne ce, .slice R nr cr, .slice H nh ch, .int .i64 h.size, .slice A1 m1 c1, .int .i64 h.taken, .slice A2 m2 c2, .int .i64 h.num, .int .i64 h.size, .string h.root, .int .i64 h.taken, .string h.troot], .string t, .int .i64 i, .int .i64 c] w (FetPost w (lfE es hs (firstFrom (isTI t i) es 0) c) (feZ hs (firstFrom (isTI t i) es 0) c) (lfL width es hs (firstFrom (isTI t i) es 0) c) (lfC hs (firstFrom (isTI t i) es 0) c)) := by
 have hkk := hk
 obtain ⟨f1, f2, f3, g1, g2, g3, g4, f4, g5, g6, g7⟩ := parts_fits hk.ok
 have hlast := hk.ok.last
 have hpos := hk.ok.pos
 dsimp only at f1 f2 f3 g1 g2 g3 g4 f4 g5 g6 g7 hlast hpos
 rw [hne] at g1 hlast
 rw [hnr] at g2 hlast
 rw [hnh] at g3 g4 hpos
 rw [hh] at f4 g5 hlast
 rw [hl1, hm1] at g6
 rw [hl2, hm2] at g7
 have hok : BrkParts width es rs hs := hk.ok
 have hbo := hok.ok
 rw [hh, hl1, hl2] at hbo
 have HBK := fun W (r : BrkK W 0 W.heap.size ⟨E, R, H, A1, A2, ce, cr, ch, c1, c2⟩ ⟨width, es, rs, hs⟩) => implBrokerOk_c width h.size h.taken E R H A1 A2 ne nr nh ce cr ch c1 c2 0 W.heap.size 0 W.heap.size 0 W.heap.size 0 W.heap.size 0 W.heap.size m1 m2 es rs hs l1 l2 h W r.rE r.rR r.rH (hl1 ▸ r.r1) (hl2 ▸ r.r2) hne hnr hnh hm1 hm2 (by omega) (by omega) (by omega) (by omega) (by omega) (by have := r.kE; dsimp only at this; omega) (by have := r.kR; dsimp only at this; omega) (by have := r.kH; dsimp only at this; omega) f1 f2 f3 f4 (by omega)
 rw [hbo] at HBK
 replace HBK := lH HBK
 have HFE := lH (fun W p (q : NewBox W p [.int .i64 width, .slice E ne ce, .slice R nr cr, .slice H nh ch, .int .i64 h.size, .slice A1 m1 c1, .int .i64 h.taken, .slice A2 m2 c2, .int .i64 h.num, .int .i64 h.size, .string h.root, .int .i64 h.taken, .string h.troot]) (r : BrkK W 0 W.heap.size ⟨E, R, H, A1, A2, ce, cr, ch, c1, c2⟩ ⟨width, es, rs, hs⟩) => fetch_c width h.size h.taken p E R H A1 A2 ne nr nh ce cr ch c1 c2 0 W.heap.size 0 W.heap.size m1 m2 es rs hs h t i c W q r.rE r.rH hne hnh (by omega) (by omega) (by have := r.kE; dsimp only at this; omega) f1 hok)
 generalize firstFrom (isTI t i) es 0 = zz at *
 generalize lfC hs zz c = cd at *
 generalize lfL width es hs zz c = v1 at *
 generalize lfE es hs zz c = x at *
 generalize feZ hs zz c = fz at *
 have HB : Hid (Below w.heap.size w w) := Below.refl _ _
 have HOK : Hid (BrkK w (0) (w.heap.size) (⟨E, R, H, A1, A2, ce, cr, ch, c1, c2⟩) (⟨width, es, rs, hs⟩)) := lH hkk
 clear hk hkk f1 f2 f3 f4 hlast hne hnr hnh hl1 hl2 hm1 hm2 hh hok hbo
 go_enter Tryz.func20, Tryz.ntmps20
 go_wp2_with fail
 refine calls_named (fun w1 hw => ?_)
 have hz1 : w.heap.size + 2 ≤ w1.heap.size := by rw [hw]; first | omega | simp [World.setCell] <;> omega
 have hzz1 : w.heap.size ≤ w1.heap.size := by omega
 have hbn : Below w.heap.size w w1 := by rw [hw]; exact (by repeat with_reducible first | exact bR _ | apply bA | apply bD)
 replace HB := lH (below_then HB.out hbn HB.out.size)
 replace HOK := lH (HOK.out.below hbn)
 clear hbn
 have HXb : Hid (NewBox w1 (w.heap.size) [.int .i64 width, .slice E ne ce, .slice R nr cr, .slice H nh ch, .int .i64 h.size, .slice A1 m1 c1, .int .i64 h.taken, .slice A2 m2 c2, .int .i64 h.num, .int .i64 h.size, .string h.root, .int .i64 h.taken, .string h.troot]) := by rw [Hid, hw]; exact ⟨by first | omega | (simp [World.setCell]; done) | (simp [World.setCell]; omega), fun o => by rcases o with _ | _ | _ | _ | _ | _ | _ | _ | _ | _ | _ | _ | _ | o <;> go_simp, fun o => by go_simp⟩
 obtain ⟨hkb, hxb, hfb⟩ := HXb.out
 have HXq : Hid (NewBox w1 (w.heap.size + 1) [.string ⟨#[]⟩, .int .i64 0, .int .i64 0, .string ⟨#[]⟩, .string ⟨#[]⟩]) := by rw [Hid, hw]; exact ⟨by first | omega | (simp [World.setCell]; done) | (simp [World.setCell]; omega), fun o => by rcases o with _ | _ | _ | _ | _ | o <;> go_simp, fun o => by go_simp⟩
 obtain ⟨hkq, hxq, hfq⟩ := HXq.out
 clear hw
 refine (HBK.out _ HOK.out.base).mono ?_
 rintro e w2 ⟨rfl, hb⟩
 have hzw2 : w1.heap.size ≤ w2.heap.size := hb.size
 have hzzw2 : w.heap.size ≤ w2.heap.size := by omega
 replace HB := lH (below_then HB.out hb HB.out.size)
 replace HOK := lH (HOK.out.below hb)
 replace HXb := lH (HXb.out.below hb)
 clear hxb hfb hkb
 obtain ⟨hkb, hxb, hfb⟩ := HXb.out
 replace HXq := lH (HXq.out.below hb)
 clear hxq hfq hkq
 obtain ⟨hkq, hxq, hfq⟩ := HXq.out
 clear hb
 go_wp2_with fail
 refine calls_named (fun w3 hw => ?_)
 have hz3 : w2.heap.size + 0 ≤ w3.heap.size := by rw [hw]; first | omega | simp [World.setCell] <;> omega
 have hzz3 : w.heap.size ≤ w3.heap.size := by omega
 have hbn : Below w2.heap.size w2 w3 := by rw [hw]; exact (by repeat with_reducible first | exact bR _ | apply bA | apply bD)
 replace HB := lH (below_then HB.out hbn HB.out.size)
 replace HOK := lH (HOK.out.below hbn)
 replace HXb := lH (HXb.out.below hbn)
 clear hxb hfb hkb
 obtain ⟨hkb, hxb, hfb⟩ := HXb.out
 replace HXq := lH (HXq.out.below hbn)
 clear hxq hfq hkq
 obtain ⟨hkq, hxq, hfq⟩ := HXq.out
 clear hbn
 clear hw
 refine (HFE.out _ _ HXb.out HOK.out.base).mono ?_
 rintro e w4 ⟨⟨A3, c3, rfl, hcap, ho⟩, hb⟩
 have hzw4 : w3.heap.size ≤ w4.heap.size := hb.size
 have hzzw4 : w.heap.size ≤ w4.heap.size := by omega
 replace HB := lH (below_then HB.out hb HB.out.size)
 replace HOK := lH (HOK.out.below hb)
 replace HXb := lH (HXb.out.below hb)
 clear hxb hfb hkb
 obtain ⟨hkb, hxb, hfb⟩ := HXb.out
 replace HXq := lH (HXq.out.below hb)
 clear hxq hfq hkq
 obtain ⟨hkq, hxq, hfq⟩ := HXq.out
 clear hb
 have HOU : Hid (Own w4 (w3.heap.size) (w4.heap.size) (A3) (strs v1)) := lH ho
 have HCAP := lH hcap
 clear ho HBK HFE hcap
 go_wp2
 refine bodyPost_named (fun w5 hw => ?_)
 have hz5 : w4.heap.size + 0 ≤ w5.heap.size := by rw [hw]; first | omega | simp [World.setCell] <;> omega
 have hzz5 : w.heap.size ≤ w5.heap.size := by omega
 replace HB : Hid (Below w.heap.size w w5) := by rw [Hid, hw]; exact (by ((repeat first | with_reducible apply bA | with_reducible apply bD | (with_reducible refine bS ?_ ?_; (focus (first | omega | (simp; done) | (simp; omega))))); exact HB.out))
 replace HOK : Hid (BrkK w5 (0) (w.heap.size) (⟨E, R, H, A1, A2, ce, cr, ch, c1, c2⟩) (⟨width, es, rs, hs⟩)) := by rw [Hid, hw]; (repeat (first | (with_reducible refine BrkK.alloc ?_ _) | (with_reducible refine BrkK.drew ?_) | ((with_reducible refine BrkK.setCell ?_ ?_ _); rotate_left 1; (focus (first | omega | (simp; done) | (simp; omega)))))); exact HOK.out
 replace HOU : Hid (Own w5 (w3.heap.size) (w4.heap.size) (A3) (strs v1)) := by rw [Hid, hw]; (repeat (first | (with_reducible refine Own.alloc ?_ _) | (with_reducible refine Own.drew ?_) | ((with_reducible refine Own.setCell ?_ ?_ _); rotate_left 1; (focus (first | omega | (simp; done) | (simp; omega)))))); exact HOU.out
 replace HXb : Hid (NewBox w5 (w.heap.size) [.int .i64 width, .slice E ne ce, .slice R nr cr, .slice H nh ch, .int .i64 h.size, .slice A1 m1 c1, .int .i64 h.taken, .slice A2 m2 c2, .int .i64 h.num, .int .i64 h.size, .string h.root, .int .i64 h.taken, .string h.troot]) := by rw [Hid, hw]; (repeat (first | (with_reducible refine NewBox.alloc ?_ _) | (with_reducible refine NewBox.drew ?_) | ((with_reducible refine NewBox.setCell ?_ ?_ _); rotate_left 1; (focus (first | omega | (simp; done) | (simp; omega)))))); exact HXb.out
 clear hxb hfb hkb
 obtain ⟨hkb, hxb, hfb⟩ := HXb.out
 replace HXq : Hid (NewBox w5 (w.heap.size + 1) [.string x.topic, .int .i64 x.index, .int .i64 x.time, .string x.key, .string x.body]) := by rw [Hid, hw]; apply NewBox.cast; (focus ((repeat (first | (with_reducible apply NewBox.alloc) | (with_reducible apply NewBox.drew) | (with_reducible apply NewBox.set1) | ((with_reducible apply NewBox.far); (focus (first | omega | (simp; done) | (simp; omega)))))); exact HXq.out)); rfl
 clear hxq hfq hkq
 obtain ⟨hkq, hxq, hfq⟩ := HXq.out
 clear hw
 refine bodyPost_ret (v := .tuple #[.agg #[.string x.topic, .int .i64 x.index, .int .i64 x.time, .string x.key, .string x.body], .int .i64 fz, .slice A3 v1.length c3, .int .i64 cd]) (by simp [results, Tryz.results20, go_sem, hxq]) rfl ?_
 exact ⟨⟨A3, c3, rfl, HCAP.out, HOU.out.mono (by omega) (by omega) (by omega)⟩, HB.out⟩
set_option maxRecDepth 100000 in
theorem leavesOfB_c (width : Int) (E R H A1 A2 : Option Addr) (ne nr nh ce cr ch c1 c2 m1 m2 : Nat) (es : List Ent) (rs : List Rcp) (hs : List Hd) (l1 l2 : List ByteArray) (h : Hd) (w : World) (hk : BrkK w 0 w.heap.size ⟨E, R, H, A1, A2, ce, cr, ch, c1, c2⟩ ⟨width, es, rs, hs⟩) (hne : es.length = ne) (hnr : rs.length = nr) (hnh : hs.length = nh) (hl1 : pk1 width es hs = l1) (hl2 : pk2 width rs hs = l2) (hm1 : l1.length = m1) (hm2 : l2.length = m2) (hh : lastHd hs = h) :
  Calls Tryz.prog 18 #[.agg #[.int .i64 width, .slice E ne ce, .slice R nr cr, .slice H nh ch, .int .i64 h.size, .slice A1 m1 c1, .int .i64 h.taken, .slice A2 m2 c2, .int .i64 h.num, .int .i64 h.size, .string h.root, .int .i64 h.taken, .string h.troot]] w fun e w' => ∃ A' c', e = .returned (.slice A' ne c') ∧ Own w' w.heap.size w'.heap.size A' (strs (leavesM width es)) ∧ Below w.heap.size w w' := by
 have hkk := hk
 obtain ⟨f1, f2, f3, g1, g2, g3, g4, f4, g5, g6, g7⟩ := parts_fits hk.ok
 have hlast := hk.ok.last
 have hpos := hk.ok.pos
 dsimp only at f1 f2 f3 g1 g2 g3 g4 f4 g5 g6 g7 hlast hpos
 rw [hne] at g1 hlast
 rw [hnr] at g2 hlast
 rw [hnh] at g3 g4 hpos
 rw [hh] at f4 g5 hlast
 rw [hl1, hm1] at g6
 rw [hl2, hm2] at g7
 have hok : BrkParts width es rs hs := hk.ok
 have HHS := fun W (r : BrkK W 0 W.heap.size ⟨E, R, H, A1, A2, ce, cr, ch, c1, c2⟩ ⟨width, es, rs, hs⟩) => specHashesOf_c width E ce 0 W.heap.size ne es W r.rE hne (by omega) (by have := r.kE; dsimp only at this; omega) f1
 have hhm : hashesM width es = leavesM width es := by rw [hashesM, hok.wd, hok.log]; rfl
 have hhk : hashesK width es = true := by rw [hashesK, hok.wd, hok.log]; rfl
 have hll : (leavesM width es).length = ne := (leavesM_len width es).trans hne
 rw [hhm, hhk, hll] at HHS
 replace HHS := lH HHS
 clear hhm hhk hll
 generalize leavesM width es = L at *
 have HB : Hid (Below w.heap.size w w) := Below.refl _ _
 have HOK : Hid (BrkK w (0) (w.heap.size) (⟨E, R, H, A1, A2, ce, cr, ch, c1, c2⟩) (⟨width, es, rs, hs⟩)) := lH hkk
 clear hk hkk f1 f2 f3 f4 hlast hne hnr hnh hl1 hl2 hm1 hm2 hh hok
 go_enter Tryz.func18, Tryz.ntmps18
 go_wp2_with fail
 refine calls_named (fun w1 hw => ?_)
 have hz1 : w.heap.size + 1 ≤ w1.heap.size := by rw [hw]; first | omega | simp [World.setCell] <;> omega
 have hzz1 : w.heap.size ≤ w1.heap.size := by omega
 have hbn : Below w.heap.size w w1 := by rw [hw]; exact (by repeat with_reducible first | exact bR _ | apply bA | apply bD)
 replace HB := lH (below_then HB.out hbn HB.out.size)
 replace HOK := lH (HOK.out.below hbn)
 clear hbn
 have HXb : Hid (NewBox w1 (w.heap.size) [.int .i64 width, .slice E ne ce, .slice R nr cr, .slice H nh ch, .int .i64 h.size, .slice A1 m1 c1, .int .i64 h.taken, .slice A2 m2 c2, .int .i64 h.num, .int .i64 h.size, .string h.root, .int .i64 h.taken, .string h.troot]) := by rw [Hid, hw]; exact ⟨by first | omega | (simp [World.setCell]; done) | (simp [World.setCell]; omega), fun o => by rcases o with _ | _ | _ | _ | _ | _ | _ | _ | _ | _ | _ | _ | _ | o <;> go_simp, fun o => by go_simp⟩
 obtain ⟨hkb, hxb, hfb⟩ := HXb.out
 clear hw
 refine (HHS.out _ HOK.out.base).mono ?_
 rintro e w2 ⟨A3, c3, rfl, ho, hb⟩
 have hzw2 : w1.heap.size ≤ w2.heap.size := hb.size
 have hzzw2 : w.heap.size ≤ w2.heap.size := by omega
 replace HB := lH (below_then HB.out hb HB.out.size)
 replace HOK := lH (HOK.out.below hb)
 replace HXb := lH (HXb.out.below hb)
 clear hxb hfb hkb
 obtain ⟨hkb, hxb, hfb⟩ := HXb.out
 clear hb
 have HOU : Hid (Own w2 (w1.heap.size) (w2.heap.size) (A3) (strs L)) := lH ho
 clear ho HHS
 go_wp2
 refine bodyPost_named (fun w3 hw => ?_)
 have hz3 : w2.heap.size + 0 ≤ w3.heap.size := by rw [hw]; first | omega | simp [World.setCell] <;> omega
 have hzz3 : w.heap.size ≤ w3.heap.size := by omega
 have hbn : Below w2.heap.size w2 w3 := by rw [hw]; exact (by repeat with_reducible first | exact bR _ | apply bA | apply bD)
 replace HB := lH (below_then HB.out hbn HB.out.size)
 replace HOK := lH (HOK.out.below hbn)
 replace HOU := lH (HOU.out.below hbn)
 replace HXb := lH (HXb.out.below hbn)
 clear hxb hfb hkb
 obtain ⟨hkb, hxb, hfb⟩ := HXb.out
 clear hbn
 clear hw
 refine bodyPost_ret (v := .slice A3 ne c3) (by simp [results, Tryz.results18, go_sem]) rfl ?_
 exact ⟨A3, c3, rfl, HOU.out.mono (by omega) (by omega) (by omega), HB.out⟩
set_option maxRecDepth 100000 in
theorem implRootByT_c (width z a : Int) (root leaf : ByteArray) (P : Option Addr) (cp lo hi k : Nat) (pr : List ByteArray) (w : World) (hP : Rd w lo hi P (strs pr)) (hk : pr.length = k) (hkl : k ≤ 1048576) (hkc : k ≤ cp) (h1 : inOk width z a leaf pr = true) (h2 : inRt width z a leaf pr = root) :
  Calls Tryz.prog 37 #[.int .i64 width, .int .i64 z, .int .i64 a, .string leaf, .slice P k cp] w fun e w' => e = .returned (.tuple #[.string root, .bool true]) ∧ Below w.heap.size w w' := by
 have HRB := fun W (r : Rd W 0 W.heap.size P (strs pr)) => rootBy_c width z a leaf P cp 0 W.heap.size k pr W r hk hkl hkc
 rw [h1, h2] at HRB
 generalize inTx width z a leaf pr = tx at *
 replace HRB := lH HRB
 have HB : Hid (Below w.heap.size w w) := Below.refl _ _
 have HOP : Hid (Rd w (0) (w.heap.size) (P) (strs pr)) := Rd.base hP
 clear hP hk hkc h1 h2
 go_enter Tryz.func37, Tryz.ntmps37
 go_wp2_with fail
 refine calls_named (fun w1 hw => ?_)
 have hz1 : w.heap.size + 0 ≤ w1.heap.size := by rw [hw]; first | omega | simp [World.setCell] <;> omega
 have hbn : Below w.heap.size w w1 := by rw [hw]; exact (by repeat with_reducible first | exact bR _ | apply bA | apply bD)
 replace HB := lH (below_then HB.out hbn HB.out.size)
 replace HOP := lH (HOP.out.below hbn)
 clear hbn
 clear hw
 refine (HRB.out _ HOP.out.base).mono ?_
 rintro e w2 ⟨A9, c9, rfl, ho, hb⟩
 have hzw2 : w1.heap.size ≤ w2.heap.size := hb.size
 have hzzw2 : w.heap.size ≤ w2.heap.size := by omega
 replace HB := lH (below_then HB.out hb HB.out.size)
 replace HOP := lH (HOP.out.below hb)
 clear hb
 clear ho HRB
 go_wp2
 refine bodyPost_named (fun w3 hw => ?_)
 have hz3 : w2.heap.size + 0 ≤ w3.heap.size := by rw [hw]; first | omega | simp [World.setCell] <;> omega
 have hzz3 : w.heap.size ≤ w3.heap.size := by omega
 have hbn : Below w2.heap.size w2 w3 := by rw [hw]; exact (by repeat with_reducible first | exact bR _ | apply bA | apply bD)
 replace HB := lH (below_then HB.out hbn HB.out.size)
 replace HOP := lH (HOP.out.below hbn)
 clear hbn
 clear hw
 refine bodyPost_ret (v := .tuple #[.string root, .bool true]) (by simp [results, Tryz.results37, go_sem]) rfl ?_
 exact ⟨rfl, HB.out⟩
set_option maxRecDepth 100000 in
theorem implCheckInT_c (width z a : Int) (root leaf : ByteArray) (P : Option Addr) (cp lo hi k : Nat) (pr : List ByteArray) (w : World) (hP : Rd w lo hi P (strs pr)) (hk : pr.length = k) (hkl : k ≤ 1048576) (hkc : k ≤ cp) (h1 : inOk width z a leaf pr = true) (h2 : inRt width z a leaf pr = root) :
  Calls Tryz.prog 13 #[.int .i64 width, .string root, .int .i64 z, .int .i64 a, .string leaf, .slice P k cp] w fun e w' => e = .returned (.bool true) ∧ Below w.heap.size w w' := by
 have HRB := lH (fun W (r : Rd W 0 W.heap.size P (strs pr)) => implRootByT_c width z a root leaf P cp 0 W.heap.size k pr W r hk hkl hkc h1 h2)
 have e1 : (root.toList == root.toList) = true := beq_self_eq_true _
 have HB : Hid (Below w.heap.size w w) := Below.refl _ _
 have HOP : Hid (Rd w (0) (w.heap.size) (P) (strs pr)) := Rd.base hP
 clear hP hk hkc h1 h2
 go_enter Tryz.func13, Tryz.ntmps13
 go_wp2_with fail
 refine calls_named (fun w1 hw => ?_)
 have hz1 : w.heap.size + 0 ≤ w1.heap.size := by rw [hw]; first | omega | simp [World.setCell] <;> omega
 have hbn : Below w.heap.size w w1 := by rw [hw]; exact (by repeat with_reducible first | exact bR _ | apply bA | apply bD)
 replace HB := lH (below_then HB.out hbn HB.out.size)
 replace HOP := lH (HOP.out.below hbn)
 clear hbn
 clear hw
 refine (HRB.out _ HOP.out.base).mono ?_
 rintro e w2 ⟨rfl, hb⟩
 have hzw2 : w1.heap.size ≤ w2.heap.size := hb.size
 have hzzw2 : w.heap.size ≤ w2.heap.size := by omega
 replace HB := lH (below_then HB.out hb HB.out.size)
 replace HOP := lH (HOP.out.below hb)
 clear hb
 clear HRB
 go_wp2
 go_ret
 exact ⟨rfl, HB.out⟩
end
section
open Go.RowKit Go.WideMaps
theorem Ent.eq_of {a b : Ent} (h1 : a.topic = b.topic) (h2 : a.index = b.index) (h3 : a.time = b.time) (h4 : a.key = b.key) (h5 : a.body = b.body) : a = b := by
 cases a; cases b; simp_all
instance : DecidableEq Ent := fun a b => if h : a.topic = b.topic ∧ a.index = b.index ∧ a.time = b.time ∧ a.key = b.key ∧ a.body = b.body then isTrue (Ent.eq_of h.1 h.2.1 h.2.2.1 h.2.2.2.1 h.2.2.2.2) else isFalse (fun e => h (by subst e; exact ⟨rfl, rfl, rfl, rfl, rfl⟩))
theorem enRow : (41 : TypeId) < Tryz.prog.types.size := of_decide_eq_true (by kernel_rfl)
theorem enWide : (match Tryz.prog.underlying 41 with | some (.array _ _) | some (.struct _) => true | _ => false) = true := by rw [Tryz.underlying41]
theorem enKA : Tryz.prog.keyTypeAt 2 41 = true := by kernel_rfl
set_option maxRecDepth 100000 in
theorem enLaw : KeyLaw Tryz.prog 41 := deep_law_laid keyLaid (m := 2) (by omega) enRow enKA enWide
theorem enKT : Tryz.prog.keyType 41 = true := by kernel_rfl
theorem enCO : Tryz.prog.cellsOf 41 = 5 := by kernel_rfl
set_option maxRecDepth 100000 in
theorem enKey (r : Ent) (hf : r.fits) : ∃ l, keyOf Tryz.prog 41 (.agg #[.string r.topic, .int .i64 r.index, .int .i64 r.time, .string r.key, .string r.body]) = some l := by
 obtain ⟨h1, h2, h3, h4, h5⟩ := hf
 have hF : (Value.agg #[.string r.topic, .int .i64 r.index, .int .i64 r.time, .string r.key, .string r.body]).formed Tryz.prog 41 = true := by simp [Value.formed, Tryz.underlying41, enCO]
 obtain ⟨m, hm⟩ := keySz
 have c1 := cells_str
 have c2 := cells_int
 have w1 := i64_wf h1
 have w2 := i64_wf h2
 have hk : ∃ L, Tryz.prog.keyLits (Tryz.prog.types.size + 1) 41 (Value.agg #[.string r.topic, .int .i64 r.index, .int .i64 r.time, .string r.key, .string r.body]).cells.toList = some L := by
  rw [hm]
  refine ⟨[.string r.topic.data.toList, .int .i64 r.index, .int .i64 r.time, .string r.key.data.toList, .string r.body.data.toList], ?_⟩
  simp [Program.keyLits, Value.cells, Tryz.underlying41, Tryz.underlying9, Tryz.underlying3, enCO, c1, c2, h3, h4, h5, w1, w2]
 obtain ⟨L, hL⟩ := hk
 refine ⟨.string (keyBytes L), ?_⟩
 unfold keyOf
 simp only [Tryz.underlying41, enKT, hF, hL, Bool.and_self, if_true, Option.map_some]
theorem enV_inj {a b : Ent} (h : (.agg #[.string a.topic, .int .i64 a.index, .int .i64 a.time, .string a.key, .string a.body] : Value) = .agg #[.string b.topic, .int .i64 b.index, .int .i64 b.time, .string b.key, .string b.body]) : a = b := by
 simp only [Value.agg.injEq] at h
 have h2 := congrArg Array.toList h
 simp only [List.cons.injEq, Value.string.injEq, Value.int.injEq, true_and, and_true] at h2
 exact Ent.eq_of h2.1 h2.2.1 h2.2.2.1 h2.2.2.2.1 h2.2.2.2.2
set_option maxRecDepth 100000 in
theorem eqEnt (a b : Ent) (ha : a.fits) (hb : b.fits) (W : World) : (Op.equal 41 (.agg #[.string a.topic, .int .i64 a.index, .int .i64 a.time, .string a.key, .string a.body]) (.agg #[.string b.topic, .int .i64 b.index, .int .i64 b.time, .string b.key, .string b.body])).run Tryz.prog W = .ok (decide (a = b)) W := by
 obtain ⟨la, hla⟩ := enKey a ha
 obtain ⟨lb, hlb⟩ := enKey b hb
 obtain ⟨r, hr, hiff⟩ := run_equal_deep W (m := 2) (by omega) enKA enWide hla hlb
 have h2 : r = decide (a = b) := by
  by_cases hab : a = b
  ·subst hab
   obtain rfl : la = lb := Option.some.inj (hla.symm.trans hlb)
   rw [decide_eq_true rfl, hiff.2 rfl]
  ·rw [decide_eq_false hab]
   cases r
   ·rfl
   ·exfalso
    have := hiff.1 rfl
    subst this
    exact hab (enV_inj (enLaw.inj hla hlb))
 rw [hr, h2]
theorem neqEnt (a : Ent) (ha : a.fits) (W : World) : (binOp .neq 41 (.agg #[.string a.topic, .int .i64 a.index, .int .i64 a.time, .string a.key, .string a.body]) (.agg #[.string a.topic, .int .i64 a.index, .int .i64 a.time, .string a.key, .string a.body])).run Tryz.prog W = .ok (.bool false) W := by
 have hr := eqEnt a a ha ha W
 rw [decide_eq_true rfl] at hr
 simp only [binOp]
 simp [hr]
end
section
open Go.RowKit
set_option maxRecDepth 100000 in
theorem sameTexts_c (A1 A2 : Option Addr) (c1 c2 lo1 hi1 lo2 hi2 n : Nat) (l : List ByteArray) (w : World) (hr1 : Rd w lo1 hi1 A1 (strs l)) (hr2 : Rd w lo2 hi2 A2 (strs l)) (hn : l.length = n) (h1 : n ≤ 1048576) :
  Calls Tryz.prog 21 #[.slice A1 n c1, .slice A2 n c2] w fun e w' => e = .returned (.bool true) ∧ Below w.heap.size w w' := by
 have HN := lH hn
 have HR1 := lH hr1
 have HR2 := lH hr2
 clear hn hr1 hr2
 go_enter Tryz.func21, Tryz.ntmps21
 go_wp2
 go_loopw [5] (fun i wr => ∃ k : Nat, k ≤ n ∧ i = .int .i64 k ∧ Below w.heap.size w wr) (fun i _ => n - (intOf i).toNat)
 case atStart => exact ⟨0, Nat.zero_le _, rfl, Below.refl _ _⟩
 case round =>
  obtain ⟨k, hk, rfl, hb0⟩ := hrel
  have HB0 := lH hb0
  clear hb0
  by_cases hlt : k < n
  ·obtain ⟨b, off, s, rfl, hb, hks, hc⟩ := (HR1.out.below HB0.out).str (k := k) (by rw [HN.out]; exact hlt)
   obtain ⟨b2, off2, t, rfl, hb2, hks2, hc2⟩ := (HR2.out.below HB0.out).str (k := k) (by rw [HN.out]; exact hlt)
   obtain rfl : s = t := Option.some.inj (hks.symm.trans hks2)
   have hI : (k : Int) < n := by omega
   have hne : (s.toList != s.toList) = false := by simp
   clear hks hks2
   go_wp2_with fail
   go_quiet (fail)
   generalize hw5 : wr.drewN _ = w5
   have HB5 : Hid (Below w.heap.size w w5) := by rw [Hid, ← hw5]; exact below_then HB0.out (below_drewN _ _) HB0.out.size
   clear hw5 hc hc2
   go_wp2
   go_roundw
   case rel => exact ⟨k + 1, by omega, by go_num, HB5.out⟩
   case measure => simp [intOf]; omega
  ·obtain rfl : k = n := by omega
   go_wp2
   go_ret
   exact ⟨rfl, HB0.out⟩
end
end Go.Proofs.YtoccjgcokffkbaaGreat
