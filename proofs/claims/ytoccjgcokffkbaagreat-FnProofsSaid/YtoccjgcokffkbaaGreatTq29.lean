/- Part 29 of the proof of FnProofs: lemmas and contracts. -/
import Derived.Test.YtoccjgcokffkbaaGreatTq20
import Derived.Test.YtoccjgcokffkbaaGreatTq28
import Derived.Test.YtoccjgcokffkbaaGreatTq27
namespace Go.Proofs.YtoccjgcokffkbaaGreat
set_option linter.unusedVariables false
set_option linter.unusedSimpArgs false
set_option maxHeartbeats 20000000
section
open Go.RowKit
theorem celo {w w' : World} {lo hi k o : Nat} {v : Value} (h : Only lo hi w w') (hc : w.cell? ⟨k, o, none⟩ = some v) (hk : k < lo ∨ hi ≤ k) : w'.cell? ⟨k, o, none⟩ = some v := by
 have hb := h.block k (World.block_lt_of_cell? w ⟨k, o, none⟩ hc) hk
 simpa [World.cell?, hb] using hc
def noEnt : Ent := ⟨ByteArray.empty, 0, 0, ByteArray.empty, ByteArray.empty⟩
def EntPost (w : World) (x : Ent) (l : List ByteArray) (code : Int) (e : Ending) (w' : World) : Prop :=
 (∃ (A : Option Addr) (c : Nat), e = .returned (.tuple #[.agg #[.string x.topic, .int .i64 x.index, .int .i64 x.time, .string x.key, .string x.body], .slice A l.length c, .int .i64 code]) ∧ l.length ≤ c ∧ Own w' w.heap.size w'.heap.size A (strs l)) ∧ Below w.heap.size w w'
theorem ent_none {w w' : World} (A : Option Addr) (c : Nat) (hB : Below w.heap.size w w') (code : Int) : EntPost w noEnt [] code (.returned (.tuple #[.agg #[.string ⟨#[]⟩, .int .i64 0, .int .i64 0, .string ⟨#[]⟩, .string ⟨#[]⟩], .slice A 0 c, .int .i64 code])) w' :=
 ⟨⟨A, c, rfl, Nat.zero_le _, Own.nil⟩, hB⟩
def lfC (hs : List Hd) (k m : Int) : Int := if hasHd hs m then (if decide (0 ≤ k) && decide (k < m) then 0 else 3) else 2
def lfE (es : List Ent) (hs : List Hd) (k m : Int) : Ent := if lfC hs k m = 0 then es.getD k.toNat noEnt else noEnt
def lfL (width : Int) (es : List Ent) (hs : List Hd) (k m : Int) : List ByteArray := if lfC hs k m = 0 then incFu width 513 ((leavesM width es).take m.toNat) k.toNat else []
theorem lf_no (width : Int) (es : List Ent) {hs : List Hd} {k m : Int} (h : hasHd hs m = false) : lfC hs k m = 2 ∧ lfE es hs k m = noEnt ∧ lfL width es hs k m = [] := by
 have h3 : lfC hs k m = 2 := by rw [lfC, h]; rfl
 exact ⟨h3, by rw [lfE, h3, if_neg (by decide)], by rw [lfL, h3, if_neg (by decide)]⟩
theorem lf_out (width : Int) (es : List Ent) {hs : List Hd} {k m : Int} (h : hasHd hs m = true) (hk : k < 0 ∨ m ≤ k) : lfC hs k m = 3 ∧ lfE es hs k m = noEnt ∧ lfL width es hs k m = [] := by
 have h3 : lfC hs k m = 3 := by
  rw [lfC, h, if_pos rfl]
  rcases hk with hk | hk
  ·rw [decide_eq_false (by omega)]; rfl
  ·rw [decide_eq_false (p := k < m) (by omega), Bool.and_false]; rfl
 exact ⟨h3, by rw [lfE, h3, if_neg (by decide)], by rw [lfL, h3, if_neg (by decide)]⟩
theorem lf_in (width : Int) (es : List Ent) {hs : List Hd} {k m : Nat} (h : hasHd hs m = true) (hk : k < m) : lfC hs k m = 0 ∧ lfE es hs k m = es.getD k noEnt ∧ lfL width es hs k m = incFu width 513 ((leavesM width es).take m) k := by
 have h3 : lfC hs k m = 0 := by
  rw [lfC, h, if_pos rfl, decide_eq_true (by omega), decide_eq_true (by omega)]; rfl
 exact ⟨h3, by rw [lfE, h3, if_pos rfl, Int.toNat_natCast], by rw [lfL, h3, if_pos rfl, Int.toNat_natCast, Int.toNat_natCast]⟩
theorem has_le {width : Int} {es : List Ent} {rs : List Rcp} {hs : List Hd} (hp : BrkParts width es rs hs) {m : Int} (h : hasHd hs m = true) : 0 ≤ m ∧ m ≤ (es.length : Nat) := by
 rw [hasHd, List.any_eq_true] at h
 obtain ⟨x, hx, he⟩ := h
 obtain ⟨k, hk⟩ := List.getElem?_of_mem hx
 have h4 := hp.roots
 rw [rootsOk, Bool.and_eq_true] at h4
 have h5 := rootsTo_le (k := k + 1) (by have := (List.getElem?_eq_some_iff.1 hk).1; omega) h4.2
 rw [rootsTo_succ hk, Bool.and_eq_true] at h5
 have h6 := (rootsAt_all h5.2).1
 rw [leavesM_len] at h6
 have h7 := headOk_all (headsOk_at hp.heads hk).2.1
 have h8 : x.size = m := by simpa using he
 omega
set_option maxRecDepth 100000 in
theorem leafProof_c (width z1 z2 : Int) (p : Nat) (E R H A1 A2 : Option Addr) (ne nr nh ce cr ch c1 c2 lo1 hi1 lo3 hi3 m1 m2 : Nat) (es : List Ent) (rs : List Rcp) (hs : List Hd) (h : Hd) (a c : Int) (w : World) (hbx : NewBox w p [.int .i64 width, .slice E ne ce, .slice R nr cr, .slice H nh ch, .int .i64 z1, .slice A1 m1 c1, .int .i64 z2, .slice A2 m2 c2, .int .i64 h.num, .int .i64 h.size, .string h.root, .int .i64 h.taken, .string h.troot])
  (hE : Rd w lo1 hi1 E (ents es)) (hH : Rd w lo3 hi3 H (hds hs)) (hne : es.length = ne) (hnh : hs.length = nh) (b1 : ne ≤ 1048576) (b3 : nh ≤ 1048576) (b6 : ne ≤ ce) (hfe : ∀ x ∈ es, x.fits) (hp : BrkParts width es rs hs) :
  Calls Tryz.prog 45 #[.pointer (some ⟨p, 0, none⟩), .int .i64 a, .int .i64 c] w (EntPost w (lfE es hs a c) (lfL width es hs a c) (lfC hs a c)) := by
 have HLE := lH (fun (hq : hasHd hs c = true) => has_le hp hq)
 have HNO := lH (fun (hq : hasHd hs c = false) => lf_no (k := a) width es hq)
 have HOUT := lH (fun (hq : hasHd hs c = true) (hk : a < 0 ∨ c ≤ a) => lf_out width es hq hk)
 have hla := leavesM_are hp.wd hp.log
 have hll := (leavesM_len width es).trans hne
 have h51 : ne ≤ 512 := by rw [← hne]; exact logOk_len hp.log
 have HW := lH (And.intro hp.wd (And.intro hla (And.intro hll hne)))
 have HNH := lH hnh
 have HLV := lH (fun W m (q : NewBox W p [.int .i64 width, .slice E ne ce, .slice R nr cr, .slice H nh ch, .int .i64 z1, .slice A1 m1 c1, .int .i64 z2, .slice A2 m2 c2, .int .i64 h.num, .int .i64 h.size, .string h.root, .int .i64 h.taken, .string h.troot]) (r : Rd W 0 W.heap.size E (ents es)) (hm : m ≤ ne) => leaves_c width z1 z2 p m E R H A1 A2 ne nr nh ce cr ch c1 c2 0 W.heap.size m1 m2 es h W q r hne b1 b6 hm hfe)
 have hpw : p < w.heap.size := hbx.1
 have HB : Hid (Below w.heap.size w w) := Below.refl _ _
 have HOE : Hid (Rd w (0) (w.heap.size) (E) (ents es)) := Rd.base hE
 have HOH : Hid (Rd w (0) (w.heap.size) (H) (hds hs)) := Rd.base hH
 replace HB : Hid (Below w.heap.size w w) := (Below.refl _ _)
 have HXb : Hid (NewBox w (p) [.int .i64 width, .slice E ne ce, .slice R nr cr, .slice H nh ch, .int .i64 z1, .slice A1 m1 c1, .int .i64 z2, .slice A2 m2 c2, .int .i64 h.num, .int .i64 h.size, .string h.root, .int .i64 h.taken, .string h.troot]) := hbx
 obtain ⟨hkb, hxb, hfb⟩ := HXb.out
 clear hbx
 clear hE hH hne hnh hfe hp hla hll
 go_enter Tryz.func45, Tryz.ntmps45
 go_wp2_with fail
 refine calls_named (fun w1 hw => ?_)
 have hz1 : w.heap.size + 1 ≤ w1.heap.size := by rw [hw]; first | omega | simp [World.setCell] <;> omega
 have hzz1 : w.heap.size ≤ w1.heap.size := by omega
 have hbn : Below w.heap.size w w1 := by rw [hw]; exact (by repeat with_reducible first | exact bR _ | apply bA | apply bD)
 replace HB := lH (below_then HB.out hbn HB.out.size)
 replace HOE := lH (HOE.out.below hbn)
 replace HOH := lH (HOH.out.below hbn)
 replace HXb := lH (HXb.out.below hbn)
 clear hxb hfb hkb
 obtain ⟨hkb, hxb, hfb⟩ := HXb.out
 clear hbn
 have HXq : Hid (NewBox w1 (w.heap.size) [.string ⟨#[]⟩, .int .i64 0, .int .i64 0, .string ⟨#[]⟩, .string ⟨#[]⟩]) := by rw [Hid, hw]; exact ⟨by first | omega | (simp [World.setCell]; done) | (simp [World.setCell]; omega), fun o => by rcases o with _ | _ | _ | _ | _ | o <;> go_simp, fun o => by go_simp⟩
 obtain ⟨hkq, hxq, hfq⟩ := HXq.out
 clear hw
 refine (hasSize_c p ch 0 (w1).heap.size nh H hs c w1 hkb (hxb 3) HOH.out.base HNH.out b3).mono ?_
 rintro e w2 ⟨rfl, hb⟩
 have hzw2 : w1.heap.size ≤ w2.heap.size := hb.size
 have hzzw2 : w.heap.size ≤ w2.heap.size := by omega
 replace HB := lH (below_then HB.out hb HB.out.size)
 replace HOE := lH (HOE.out.below hb)
 replace HOH := lH (HOH.out.below hb)
 replace HXb := lH (HXb.out.below hb)
 clear hxb hfb hkb
 obtain ⟨hkb, hxb, hfb⟩ := HXb.out
 replace HXq := lH (HXq.out.below hb)
 clear hxq hfq hkq
 obtain ⟨hkq, hxq, hfq⟩ := HXq.out
 clear hb
 rcases hq1 : hasHd hs c with _ | _
 ·have HEQ := lH (HNO.out hq1)
  clear HNO HOUT HLE hq1 HLV HW
  go_wp2
  refine bodyPost_named (fun w3 hw => ?_)
  have hz3 : w2.heap.size + 0 ≤ w3.heap.size := by rw [hw]; first | omega | simp [World.setCell] <;> omega
  have hzz3 : w.heap.size ≤ w3.heap.size := by omega
  replace HB : Hid (Below w.heap.size w w3) := by rw [Hid, hw]; exact (by ((repeat first | with_reducible apply bA | with_reducible apply bD | (with_reducible refine bS ?_ ?_; (focus (first | omega | (simp; done) | (simp; omega))))); exact HB.out))
  replace HOE : Hid (Rd w3 (0) (w.heap.size) (E) (ents es)) := by rw [Hid, hw]; (repeat (first | (with_reducible refine Rd.alloc ?_ _) | (with_reducible refine Rd.drew ?_) | ((with_reducible refine Rd.setCell ?_ ?_ _); rotate_left 1; (focus (first | omega | (simp; done) | (simp; omega)))))); exact HOE.out
  replace HOH : Hid (Rd w3 (0) (w.heap.size) (H) (hds hs)) := by rw [Hid, hw]; (repeat (first | (with_reducible refine Rd.alloc ?_ _) | (with_reducible refine Rd.drew ?_) | ((with_reducible refine Rd.setCell ?_ ?_ _); rotate_left 1; (focus (first | omega | (simp; done) | (simp; omega)))))); exact HOH.out
  replace HXb : Hid (NewBox w3 (p) [.int .i64 width, .slice E ne ce, .slice R nr cr, .slice H nh ch, .int .i64 z1, .slice A1 m1 c1, .int .i64 z2, .slice A2 m2 c2, .int .i64 h.num, .int .i64 h.size, .string h.root, .int .i64 h.taken, .string h.troot]) := by rw [Hid, hw]; (repeat (first | (with_reducible refine NewBox.alloc ?_ _) | (with_reducible refine NewBox.drew ?_) | ((with_reducible refine NewBox.setCell ?_ ?_ _); rotate_left 1; (focus (first | omega | (simp; done) | (simp; omega)))))); exact HXb.out
  clear hxb hfb hkb
  obtain ⟨hkb, hxb, hfb⟩ := HXb.out
  replace HXq : Hid (NewBox w3 (w.heap.size) [.string ⟨#[]⟩, .int .i64 0, .int .i64 0, .string ⟨#[]⟩, .string ⟨#[]⟩]) := by rw [Hid, hw]; apply NewBox.cast; (focus ((repeat (first | (with_reducible apply NewBox.alloc) | (with_reducible apply NewBox.drew) | (with_reducible apply NewBox.set1) | ((with_reducible apply NewBox.far); (focus (first | omega | (simp; done) | (simp; omega)))))); exact HXq.out)); rfl
  clear hxq hfq hkq
  obtain ⟨hkq, hxq, hfq⟩ := HXq.out
  clear hw
  refine bodyPost_ret (v := .tuple #[.agg #[.string ⟨#[]⟩, .int .i64 0, .int .i64 0, .string ⟨#[]⟩, .string ⟨#[]⟩], .slice none 0 0, .int .i64 2]) (by simp [results, Tryz.results45, go_sem, hxq]) rfl ?_
  rw [HEQ.out.1, HEQ.out.2.1, HEQ.out.2.2]
  exact ent_none _ _ HB.out 2
 have hle := HLE.out hq1
 rcases (show (a < 0 ∨ c ≤ a) ∨ (0 ≤ a ∧ a < c) by omega) with hbad | hgood
 ·have HEQ := lH (HOUT.out hq1 hbad)
  clear HNO HOUT HLE hq1 HLV HW
  rcases (show a < 0 ∨ (0 ≤ a ∧ c ≤ a) by omega) with x1 | ⟨x1, x2⟩
  all_goals
   clear hbad
   go_wp2
   refine bodyPost_named (fun w3 hw => ?_)
   have hz3 : w2.heap.size + 0 ≤ w3.heap.size := by rw [hw]; first | omega | simp [World.setCell] <;> omega
   have hzz3 : w.heap.size ≤ w3.heap.size := by omega
   replace HB : Hid (Below w.heap.size w w3) := by rw [Hid, hw]; exact (by ((repeat first | with_reducible apply bA | with_reducible apply bD | (with_reducible refine bS ?_ ?_; (focus (first | omega | (simp; done) | (simp; omega))))); exact HB.out))
   replace HOE : Hid (Rd w3 (0) (w.heap.size) (E) (ents es)) := by rw [Hid, hw]; (repeat (first | (with_reducible refine Rd.alloc ?_ _) | (with_reducible refine Rd.drew ?_) | ((with_reducible refine Rd.setCell ?_ ?_ _); rotate_left 1; (focus (first | omega | (simp; done) | (simp; omega)))))); exact HOE.out
   replace HOH : Hid (Rd w3 (0) (w.heap.size) (H) (hds hs)) := by rw [Hid, hw]; (repeat (first | (with_reducible refine Rd.alloc ?_ _) | (with_reducible refine Rd.drew ?_) | ((with_reducible refine Rd.setCell ?_ ?_ _); rotate_left 1; (focus (first | omega | (simp; done) | (simp; omega)))))); exact HOH.out
   replace HXb : Hid (NewBox w3 (p) [.int .i64 width, .slice E ne ce, .slice R nr cr, .slice H nh ch, .int .i64 z1, .slice A1 m1 c1, .int .i64 z2, .slice A2 m2 c2, .int .i64 h.num, .int .i64 h.size, .string h.root, .int .i64 h.taken, .string h.troot]) := by rw [Hid, hw]; (repeat (first | (with_reducible refine NewBox.alloc ?_ _) | (with_reducible refine NewBox.drew ?_) | ((with_reducible refine NewBox.setCell ?_ ?_ _); rotate_left 1; (focus (first | omega | (simp; done) | (simp; omega)))))); exact HXb.out
   clear hxb hfb hkb
   obtain ⟨hkb, hxb, hfb⟩ := HXb.out
   replace HXq : Hid (NewBox w3 (w.heap.size) [.string ⟨#[]⟩, .int .i64 0, .int .i64 0, .string ⟨#[]⟩, .string ⟨#[]⟩]) := by rw [Hid, hw]; apply NewBox.cast; (focus ((repeat (first | (with_reducible apply NewBox.alloc) | (with_reducible apply NewBox.drew) | (with_reducible apply NewBox.set1) | ((with_reducible apply NewBox.far); (focus (first | omega | (simp; done) | (simp; omega)))))); exact HXq.out)); rfl
   clear hxq hfq hkq
   obtain ⟨hkq, hxq, hfq⟩ := HXq.out
   clear hw
   refine bodyPost_ret (v := .tuple #[.agg #[.string ⟨#[]⟩, .int .i64 0, .int .i64 0, .string ⟨#[]⟩, .string ⟨#[]⟩], .slice none 0 0, .int .i64 3]) (by simp [results, Tryz.results45, go_sem, hxq]) rfl ?_
   rw [HEQ.out.1, HEQ.out.2.1, HEQ.out.2.2]
   exact ent_none _ _ HB.out 3
 ·obtain ⟨x1, x2⟩ := hgood
  obtain ⟨k, rfl⟩ : ∃ k : Nat, a = k := ⟨a.toNat, by omega⟩
  obtain ⟨m, rfl⟩ : ∃ m : Nat, c = m := ⟨c.toNat, by omega⟩
  have hin := lf_in width es hq1 (show k < m by omega)
  have hmn : m ≤ ne := by have := HW.out.2.2.2; omega
  have hkm : k < m := by omega
  have hq2 : ((leavesM width es).take m).length = m := by rw [List.length_take, HW.out.2.2.1]; omega
  have ha2 := areH_sub HW.out.2.1 (fun s hs => List.mem_of_mem_take hs : ∀ s ∈ (leavesM width es).take m, s ∈ leavesM width es)
  have hkl : k < es.length := by rw [HW.out.2.2.2]; omega
  have HKL := lH hkl
  obtain ⟨x, hx⟩ : ∃ x, es[k]? = some x := ⟨_, List.getElem?_eq_getElem hkl⟩
  rw [show es.getD k noEnt = x by rw [List.getD_eq_getElem?_getD, hx]; rfl] at hin
  have HEQ := lH hin
  have HX := lH hx
  have HIN := lH (fun W X d1 (r : Rd W 0 W.heap.size X (strs ((leavesM width es).take m))) (hd : m ≤ d1) => inclusion_c width HW.out.1 513 X d1 0 W.heap.size m k ((leavesM width es).take m) W r hq2 (by omega) (by omega) hd ha2 hkm)
  have HLV2 := lH (fun W (q : NewBox W p [.int .i64 width, .slice E ne ce, .slice R nr cr, .slice H nh ch, .int .i64 z1, .slice A1 m1 c1, .int .i64 z2, .slice A2 m2 c2, .int .i64 h.num, .int .i64 h.size, .string h.root, .int .i64 h.taken, .string h.troot]) (r : Rd W 0 W.heap.size E (ents es)) => HLV.out W m q r hmn)
  clear hin hx hq1 HNO HOUT HLE hkl hq2 ha2 HLV HW hle
  generalize incFu width 513 ((leavesM width es).take m) k = il at *
  generalize (leavesM width es).take m = lt at *
  go_wp2_with fail
  refine wp_named (fun w3 hw => ?_)
  have hz3 : w2.heap.size + 0 ≤ w3.heap.size := by rw [hw]; first | omega | simp [World.setCell] <;> omega
  have hzz3 : w.heap.size ≤ w3.heap.size := by omega
  have hbn : Below w2.heap.size w2 w3 := by rw [hw]; exact (by repeat with_reducible first | exact bR _ | apply bA | apply bD)
  replace HB := lH (below_then HB.out hbn HB.out.size)
  replace HOE := lH (HOE.out.below hbn)
  replace HOH := lH (HOH.out.below hbn)
  replace HXb := lH (HXb.out.below hbn)
  clear hxb hfb hkb
  obtain ⟨hkb, hxb, hfb⟩ := HXb.out
  replace HXq := lH (HXq.out.below hbn)
  clear hxq hfq hkq
  obtain ⟨hkq, hxq, hfq⟩ := HXq.out
  clear hbn
  clear hw
  obtain ⟨b2, off, y, hEe, hb2, hks, hcs⟩ := ent_cells HOE.out (k := k) HKL.out
  obtain rfl : x = y := Option.some.inj (HX.out.symm.trans hks)
  have c0 := hcs.1
  have c1' := hcs.2.1
  have c2' := hcs.2.2.1
  have c3' := hcs.2.2.2.1
  have c4' := hcs.2.2.2.2
  have hix := idxEnt E b2 off ne ce k hEe (by omega)
  clear hEe hks hcs
  obtain ⟨F, HF⟩ : ∃ F : Facts, Hid (F = fun iq xq tqs dsq uq => match iq with
   | 0 => xq.v = .pointer (some ⟨p, 0, none⟩)
   | 1 => xq.v = .pointer (some ⟨p, 0, none⟩)
   | 2 => xq.v = .pointer (some ⟨p, 1, none⟩)
   | 3 => xq.v = .pointer (some ⟨p, 1, none⟩)
   | 4 => xq.v = .slice E ne ce
   | 5 => xq.v = .int .i64 (k : Nat)
   | 6 => xq.v = .pointer (some ⟨b2, off + k * 5, none⟩)
   | 7 => xq.v = .agg #[.string x.topic, .int .i64 x.index, .int .i64 x.time, .string x.key, .string x.body]
   | 8 => xq.v = .pointer (some ⟨p, 0, none⟩)
   | 9 => xq.v = .pointer (some ⟨p, 0, none⟩)
   | 10 => xq.v = .pointer (some ⟨p, 0, none⟩)
   | 11 => xq.v = .int .i64 width
   | 12 => xq.v = .pointer (some ⟨p, 0, none⟩)
   | 13 => xq.v = .int .i64 (m : Nat)
   | 14 => ∃ (X1 : Option Addr) (d1 : Nat), xq.v = .slice X1 m d1 ∧ (RowB uq xq.s xq.e (.slice X1 m d1, m) (strs lt))
   | 15 => xq.v = .int .i64 (k : Nat)
   | 16 => ∃ (X3 : Option Addr) (d3 : Nat), xq.v = .slice X3 il.length d3 ∧ (RowB uq xq.s xq.e (.slice X3 il.length d3, il.length) (strs il))
   | 17 => NewBox uq (w.heap.size) [.string x.topic, .int .i64 x.index, .int .i64 x.time, .string x.key, .string x.body]
   | 18 => (match tqs, dsq with | [], [yq0] => ∃ (X3 : Option Addr) (d3 : Nat), yq0.v = .slice X3 il.length d3 ∧ xq.v = .slice X3 il.length d3 | _, _ => False)
   | 19 => xq.v = .int .i64 0
   | _ => False) := ⟨_, rfl⟩
  refine wp_region_facts [[], [], [], [], [], [], [], [], [], [], [], [], [], [], [], [], [], [], [16], []] [[], [], [], [], [], [], [], [], [], [], [], [], [], [], [], [], [], [], [], []] [some 22, some 23, some 24, some 25, some 26, some 27, some 28, some 29, some 30, some 31, some 32, some 33, some 34, some 35, some 36, some 37, some 38, none, some 7, some 8] (some 17) (w.heap.size) (w.heap.size + 1) (.inr (by omega)) F (by kernel_rfl) (by kernel_rfl) (by kernel_rfl) ?_ ⟨?_, ?_, ?_, ?_, ?_, ?_, ?_, ?_, ?_, ?_, ?_, ?_, ?_, ?_, ?_, ?_, ?_, ?_, ?_, ?_, trivial⟩ ?_
  ·rw [HF.out]; intro iq xq tqs dsq uq u' hi hf hs hW hx hbk
   have kx : ∀ b, xq.s ≤ b → b < xq.e → u'.heap[b]? = uq.heap[b]? := fun b h1 h2 => hbk b (.inr (.inl ⟨h1, h2⟩))
   have kt : ∀ t ∈ tqs, ∀ b, t.s ≤ b → b < t.e → u'.heap[b]? = uq.heap[b]? := fun t ht b h1 h2 => hbk b (.inr (.inr ⟨t, ht, h1, h2⟩))
   match iq with
   | 0 => exact hf
   | 1 => exact hf
   | 2 => exact hf
   | 3 => exact hf
   | 4 => exact hf
   | 5 => exact hf
   | 6 => exact hf
   | 7 => exact hf
   | 8 => exact hf
   | 9 => exact hf
   | 10 => exact hf
   | 11 => exact hf
   | 12 => exact hf
   | 13 => exact hf
   | 14 => obtain ⟨X1, d1, hv, p0⟩ := hf; exact ⟨X1, d1, hv, p0.keep (fun k _ h1 h2 => kx k h1 h2)⟩
   | 15 => exact hf
   | 16 => obtain ⟨X3, d3, hv, p0⟩ := hf; exact ⟨X3, d3, hv, p0.keep (fun k _ h1 h2 => kx k h1 h2)⟩
   | 17 => exact NewBox.keep hf hs (hbk _ (.inl ⟨hkq, .inr (.inr rfl)⟩))
   | 18 => exact hf
   | 19 => exact hf
  ·intro gh ρ u hc hf1 hg1 hd h0 hb he ha hF
   have r0 : ρ (.tmp 0) = .pointer (some ⟨p, 0, none⟩) := (h0 0 (by decide +kernel)).trans rfl
   clear  hd h0 he ha hF
   go_simp
   rw [HF.out]
   exact ⟨OnlyL.refl _ _, rfl⟩
  ·intro gh ρ u hc hf1 hg1 hd h0 hb he ha hF
   have r22 : ρ (.tmp 22) = .pointer (some ⟨p, 0, none⟩) := by have h := hF 0 (by decide +kernel) (by decide +kernel); rw [HF.out] at h; exact (hd 0 (by decide +kernel) 22 (by kernel_rfl)).trans h
   clear  hd h0 he ha hF
   go_simp
   rw [HF.out]
   exact ⟨OnlyL.refl _ _, rfl⟩
  ·intro gh ρ u hc hf1 hg1 hd h0 hb he ha hF
   have r23 : ρ (.tmp 23) = .pointer (some ⟨p, 0, none⟩) := by have h := hF 1 (by decide +kernel) (by decide +kernel); rw [HF.out] at h; exact (hd 1 (by decide +kernel) 23 (by kernel_rfl)).trans h
   clear  hd h0 he ha hF
   go_simp
   rw [HF.out]
   exact ⟨OnlyL.refl _ _, rfl⟩
  ·intro gh ρ u hc hf1 hg1 hd h0 hb he ha hF
   have r24 : ρ (.tmp 24) = .pointer (some ⟨p, 1, none⟩) := by have h := hF 2 (by decide +kernel) (by decide +kernel); rw [HF.out] at h; exact (hd 2 (by decide +kernel) 24 (by kernel_rfl)).trans h
   clear  hd h0 he ha hF
   go_simp
   rw [HF.out]
   exact ⟨OnlyL.refl _ _, rfl⟩
  ·intro gh ρ u hc hf1 hg1 hd h0 hb he ha hF
   first | (replace hb : Below w3.heap.size w3 u := hb.drew.below (by decide +kernel)) | (replace hb : Only (w.heap.size) (w.heap.size + 1) w3 u := hb.drew.only)
   have hbz : w3.heap.size ≤ u.heap.size := hb.size
   have r25 : ρ (.tmp 25) = .pointer (some ⟨p, 1, none⟩) := by have h := hF 3 (by decide +kernel) (by decide +kernel); rw [HF.out] at h; exact (hd 3 (by decide +kernel) 25 (by kernel_rfl)).trans h
   have q_b : ∀ o, u.cell? ⟨p, o, none⟩ = [.int .i64 width, .slice E ne ce, .slice R nr cr, .slice H nh ch, .int .i64 z1, .slice A1 m1 c1, .int .i64 z2, .slice A2 m2 c2, .int .i64 h.num, .int .i64 h.size, .string h.root, .int .i64 h.taken, .string h.troot][o]? := by first | exact (HXb.out.below hb).2.1 | exact (HXb.out.only hb (by omega)).2.1
   have k_b : p < u.heap.size := by have := HXb.out.1; omega
   replace c0 := by first | exact cell_later hb c0 | exact celo hb c0 (by omega)
   replace c1' := by first | exact cell_later hb c1' | exact celo hb c1' (by omega)
   replace c2' := by first | exact cell_later hb c2' | exact celo hb c2' (by omega)
   replace c3' := by first | exact cell_later hb c3' | exact celo hb c3' (by omega)
   replace c4' := by first | exact cell_later hb c4' | exact celo hb c4' (by omega)
   clear  hd h0 he ha hF
   go_simp
   rw [HF.out]
   exact ⟨OnlyL.refl _ _, rfl⟩
  ·intro gh ρ u hc hf1 hg1 hd h0 hb he ha hF
   have r1 : ρ (.tmp 1) = .int .i64 (k : Nat) := (h0 1 (by decide +kernel)).trans rfl
   clear  hd h0 he ha hF
   go_simp
   rw [HF.out]
   exact ⟨OnlyL.refl _ _, rfl⟩
  ·intro gh ρ u hc hf1 hg1 hd h0 hb he ha hF
   have r26 : ρ (.tmp 26) = .slice E ne ce := by have h := hF 4 (by decide +kernel) (by decide +kernel); rw [HF.out] at h; exact (hd 4 (by decide +kernel) 26 (by kernel_rfl)).trans h
   have r27 : ρ (.tmp 27) = .int .i64 (k : Nat) := by have h := hF 5 (by decide +kernel) (by decide +kernel); rw [HF.out] at h; exact (hd 5 (by decide +kernel) 27 (by kernel_rfl)).trans h
   clear  hd h0 he ha hF
   go_simp
   rw [HF.out]
   exact ⟨OnlyL.refl _ _, rfl⟩
  ·intro gh ρ u hc hf1 hg1 hd h0 hb he ha hF
   first | (replace hb : Below w3.heap.size w3 u := hb.drew.below (by decide +kernel)) | (replace hb : Only (w.heap.size) (w.heap.size + 1) w3 u := hb.drew.only)
   have hbz : w3.heap.size ≤ u.heap.size := hb.size
   have r28 : ρ (.tmp 28) = .pointer (some ⟨b2, off + k * 5, none⟩) := by have h := hF 6 (by decide +kernel) (by decide +kernel); rw [HF.out] at h; exact (hd 6 (by decide +kernel) 28 (by kernel_rfl)).trans h
   have q_b : ∀ o, u.cell? ⟨p, o, none⟩ = [.int .i64 width, .slice E ne ce, .slice R nr cr, .slice H nh ch, .int .i64 z1, .slice A1 m1 c1, .int .i64 z2, .slice A2 m2 c2, .int .i64 h.num, .int .i64 h.size, .string h.root, .int .i64 h.taken, .string h.troot][o]? := by first | exact (HXb.out.below hb).2.1 | exact (HXb.out.only hb (by omega)).2.1
   have k_b : p < u.heap.size := by have := HXb.out.1; omega
   replace c0 := by first | exact cell_later hb c0 | exact celo hb c0 (by omega)
   replace c1' := by first | exact cell_later hb c1' | exact celo hb c1' (by omega)
   replace c2' := by first | exact cell_later hb c2' | exact celo hb c2' (by omega)
   replace c3' := by first | exact cell_later hb c3' | exact celo hb c3' (by omega)
   replace c4' := by first | exact cell_later hb c4' | exact celo hb c4' (by omega)
   clear  hd h0 he ha hF
   go_simp
   rw [HF.out]
   exact ⟨OnlyL.refl _ _, rfl⟩
  ·intro gh ρ u hc hf1 hg1 hd h0 hb he ha hF
   have r0 : ρ (.tmp 0) = .pointer (some ⟨p, 0, none⟩) := (h0 0 (by decide +kernel)).trans rfl
   clear  hd h0 he ha hF
   go_simp
   rw [HF.out]
   exact ⟨OnlyL.refl _ _, rfl⟩
  ·intro gh ρ u hc hf1 hg1 hd h0 hb he ha hF
   have r30 : ρ (.tmp 30) = .pointer (some ⟨p, 0, none⟩) := by have h := hF 8 (by decide +kernel) (by decide +kernel); rw [HF.out] at h; exact (hd 8 (by decide +kernel) 30 (by kernel_rfl)).trans h
   clear  hd h0 he ha hF
   go_simp
   rw [HF.out]
   exact ⟨OnlyL.refl _ _, rfl⟩
  ·intro gh ρ u hc hf1 hg1 hd h0 hb he ha hF
   have r31 : ρ (.tmp 31) = .pointer (some ⟨p, 0, none⟩) := by have h := hF 9 (by decide +kernel) (by decide +kernel); rw [HF.out] at h; exact (hd 9 (by decide +kernel) 31 (by kernel_rfl)).trans h
   clear  hd h0 he ha hF
   go_simp
   rw [HF.out]
   exact ⟨OnlyL.refl _ _, rfl⟩
  ·intro gh ρ u hc hf1 hg1 hd h0 hb he ha hF
   first | (replace hb : Below w3.heap.size w3 u := hb.drew.below (by decide +kernel)) | (replace hb : Only (w.heap.size) (w.heap.size + 1) w3 u := hb.drew.only)
   have hbz : w3.heap.size ≤ u.heap.size := hb.size
   have r32 : ρ (.tmp 32) = .pointer (some ⟨p, 0, none⟩) := by have h := hF 10 (by decide +kernel) (by decide +kernel); rw [HF.out] at h; exact (hd 10 (by decide +kernel) 32 (by kernel_rfl)).trans h
   have q_b : ∀ o, u.cell? ⟨p, o, none⟩ = [.int .i64 width, .slice E ne ce, .slice R nr cr, .slice H nh ch, .int .i64 z1, .slice A1 m1 c1, .int .i64 z2, .slice A2 m2 c2, .int .i64 h.num, .int .i64 h.size, .string h.root, .int .i64 h.taken, .string h.troot][o]? := by first | exact (HXb.out.below hb).2.1 | exact (HXb.out.only hb (by omega)).2.1
   have k_b : p < u.heap.size := by have := HXb.out.1; omega
   replace c0 := by first | exact cell_later hb c0 | exact celo hb c0 (by omega)
   replace c1' := by first | exact cell_later hb c1' | exact celo hb c1' (by omega)
   replace c2' := by first | exact cell_later hb c2' | exact celo hb c2' (by omega)
   replace c3' := by first | exact cell_later hb c3' | exact celo hb c3' (by omega)
   replace c4' := by first | exact cell_later hb c4' | exact celo hb c4' (by omega)
   clear  hd h0 he ha hF
   go_simp
   rw [HF.out]
   exact ⟨OnlyL.refl _ _, rfl⟩
  ·intro gh ρ u hc hf1 hg1 hd h0 hb he ha hF
   have r0 : ρ (.tmp 0) = .pointer (some ⟨p, 0, none⟩) := (h0 0 (by decide +kernel)).trans rfl
   clear  hd h0 he ha hF
   go_simp
   rw [HF.out]
   exact ⟨OnlyL.refl _ _, rfl⟩
  ·intro gh ρ u hc hf1 hg1 hd h0 hb he ha hF
   have r2 : ρ (.tmp 2) = .int .i64 (m : Nat) := (h0 2 (by decide +kernel)).trans rfl
   clear  hd h0 he ha hF
   go_simp
   rw [HF.out]
   exact ⟨OnlyL.refl _ _, rfl⟩
  ·intro gh ρ u hc hf1 hg1 hd h0 hb he ha hF
   first | (replace hb : Below w3.heap.size w3 u := hb.drew.below (by decide +kernel)) | (replace hb : Only (w.heap.size) (w.heap.size + 1) w3 u := hb.drew.only)
   have hbz : w3.heap.size ≤ u.heap.size := hb.size
   have r34 : ρ (.tmp 34) = .pointer (some ⟨p, 0, none⟩) := by have h := hF 12 (by decide +kernel) (by decide +kernel); rw [HF.out] at h; exact (hd 12 (by decide +kernel) 34 (by kernel_rfl)).trans h
   have r35 : ρ (.tmp 35) = .int .i64 (m : Nat) := by have h := hF 13 (by decide +kernel) (by decide +kernel); rw [HF.out] at h; exact (hd 13 (by decide +kernel) 35 (by kernel_rfl)).trans h
   clear  hd h0 he ha hF
   go_simp
   have q_b := (HXb.out.below hb)
   refine (HLV2.out _ q_b (HOE.out.below hb).base).mono ?_
   rintro e u1 ⟨X1, d1, rfl, ho, hb1⟩
   rw [HF.out]
   exact ⟨_, rfl, OnlyL.of_below hb1, X1, d1, rfl, RowB.of ho⟩
  ·intro gh ρ u hc hf1 hg1 hd h0 hb he ha hF
   have r1 : ρ (.tmp 1) = .int .i64 (k : Nat) := (h0 1 (by decide +kernel)).trans rfl
   clear  hd h0 he ha hF
   go_simp
   rw [HF.out]
   exact ⟨OnlyL.refl _ _, rfl⟩
  ·intro gh ρ u hc hf1 hg1 hd h0 hb he ha hF
   first | (replace hb : Below w3.heap.size w3 u := hb.drew.below (by decide +kernel)) | (replace hb : Only (w.heap.size) (w.heap.size + 1) w3 u := hb.drew.only)
   have hbz : w3.heap.size ≤ u.heap.size := hb.size
   have r33 : ρ (.tmp 33) = .int .i64 width := by have h := hF 11 (by decide +kernel) (by decide +kernel); rw [HF.out] at h; exact (hd 11 (by decide +kernel) 33 (by kernel_rfl)).trans h
   have f14 : ∃ (X1 : Option Addr) (d1 : Nat), (gh 14).v = .slice X1 m d1 ∧ (RowB u (gh 14).s (gh 14).e (.slice X1 m d1, m) (strs lt)) := by have h := hF 14 (by decide +kernel) (by decide +kernel); rw [HF.out] at h; exact h
   obtain ⟨X1, d1, hv14, g14_0⟩ := f14
   have r36 : ρ (.tmp 36) = .slice X1 m d1 := (hd 14 (by decide +kernel) 36 (by kernel_rfl)).trans hv14
   have r37 : ρ (.tmp 37) = .int .i64 (k : Nat) := by have h := hF 15 (by decide +kernel) (by decide +kernel); rw [HF.out] at h; exact (hd 15 (by decide +kernel) 37 (by kernel_rfl)).trans h
   clear hv14 hd h0 he ha hF
   go_simp
   have q_b := (HXb.out.below hb)
   refine (HIN.out _ _ _ (Own.of_ownsRow g14_0.1).rd.base (row_cap g14_0.1)).mono ?_
   rintro e u1 ⟨X3, d3, rfl, ho, hb1⟩
   rw [HF.out]
   exact ⟨_, rfl, OnlyL.of_below hb1, X3, d3, rfl, RowB.of ho⟩
  ·intro gh ρ u hc hf1 hg1 hd h0 hb he ha hF
   first | (replace hb : Below w3.heap.size w3 u := hb.drew.below (by decide +kernel)) | (replace hb : Only (w.heap.size) (w.heap.size + 1) w3 u := hb.drew.only)
   have hbz : w3.heap.size ≤ u.heap.size := hb.size
   have r6 : ρ (.tmp 6) = .pointer (some ⟨w.heap.size, 0, none⟩) := (h0 6 (by decide +kernel)).trans rfl
   have r29 : ρ (.tmp 29) = .agg #[.string x.topic, .int .i64 x.index, .int .i64 x.time, .string x.key, .string x.body] := by have h := hF 7 (by decide +kernel) (by decide +kernel); rw [HF.out] at h; exact (hd 7 (by decide +kernel) 29 (by kernel_rfl)).trans h
   obtain ⟨hzk, hzc, hzf⟩ := HXq.out.below hb
   clear  hd h0 he ha hF
   go_simp
   rw [HF.out]
   refine ⟨?_, ?_⟩
   ·refine OnlyL.of_z (lo := w.heap.size) (hi := w.heap.size + 1) ?_ rfl; refine Only.setCell ?_ (by exact Nat.le_refl _) (by exact Nat.lt_succ_self _) _; refine Only.setCell ?_ (by exact Nat.le_refl _) (by exact Nat.lt_succ_self _) _; refine Only.setCell ?_ (by exact Nat.le_refl _) (by exact Nat.lt_succ_self _) _; refine Only.setCell ?_ (by exact Nat.le_refl _) (by exact Nat.lt_succ_self _) _; refine Only.setCell ?_ (by exact Nat.le_refl _) (by exact Nat.lt_succ_self _) _; exact Only.refl _ _ _
   ·show NewBox _ (w.heap.size) _
    exact ⟨by simpa [World.setCell] using hzk, fun o => by rcases o with _ | _ | _ | _ | _ | o <;> go_simp, fun o => by go_simp⟩
  ·intro gh ρ u hc hf1 hg1 hd h0 hb he ha hF
   have f16 : ∃ (X3 : Option Addr) (d3 : Nat), (gh 16).v = .slice X3 il.length d3 ∧ (RowB u (gh 16).s (gh 16).e (.slice X3 il.length d3, il.length) (strs il)) := by have h := hF 16 (by decide +kernel) (by decide +kernel); rw [HF.out] at h; exact h
   obtain ⟨X3, d3, hv16, g16_0⟩ := f16
   have hrt16 := hv16
   have r38 : ρ (.tmp 38) = .slice X3 il.length d3 := (hd 16 (by decide +kernel) 38 (by kernel_rfl)).trans hv16
   have HRT16 := lH hrt16
   clear hv16 hrt16 hd h0 he ha hF
   go_simp
   rw [HF.out]
   exact ⟨OnlyL.refl _ _, X3, d3, HRT16.out, rfl⟩
  ·intro gh ρ u hc hf1 hg1 hd h0 hb he ha hF
   clear  hd h0 he ha hF
   go_simp
   rw [HF.out]
   exact ⟨OnlyL.refl _ _, rfl⟩
  intro gh w4 hB hE hA hF
  replace hB : Only (w.heap.size) (w.heap.size + 1) w3 w4 := hB.only
  have f0 : (gh 0).v = .pointer (some ⟨p, 0, none⟩) := by have h := hF 0 (by decide +kernel) (by decide +kernel); rw [HF.out] at h; exact h
  have f1 : (gh 1).v = .pointer (some ⟨p, 0, none⟩) := by have h := hF 1 (by decide +kernel) (by decide +kernel); rw [HF.out] at h; exact h
  have f2 : (gh 2).v = .pointer (some ⟨p, 1, none⟩) := by have h := hF 2 (by decide +kernel) (by decide +kernel); rw [HF.out] at h; exact h
  have f3 : (gh 3).v = .pointer (some ⟨p, 1, none⟩) := by have h := hF 3 (by decide +kernel) (by decide +kernel); rw [HF.out] at h; exact h
  have f4 : (gh 4).v = .slice E ne ce := by have h := hF 4 (by decide +kernel) (by decide +kernel); rw [HF.out] at h; exact h
  have f5 : (gh 5).v = .int .i64 (k : Nat) := by have h := hF 5 (by decide +kernel) (by decide +kernel); rw [HF.out] at h; exact h
  have f6 : (gh 6).v = .pointer (some ⟨b2, off + k * 5, none⟩) := by have h := hF 6 (by decide +kernel) (by decide +kernel); rw [HF.out] at h; exact h
  have f7 : (gh 7).v = .agg #[.string x.topic, .int .i64 x.index, .int .i64 x.time, .string x.key, .string x.body] := by have h := hF 7 (by decide +kernel) (by decide +kernel); rw [HF.out] at h; exact h
  have f8 : (gh 8).v = .pointer (some ⟨p, 0, none⟩) := by have h := hF 8 (by decide +kernel) (by decide +kernel); rw [HF.out] at h; exact h
  have f9 : (gh 9).v = .pointer (some ⟨p, 0, none⟩) := by have h := hF 9 (by decide +kernel) (by decide +kernel); rw [HF.out] at h; exact h
  have f10 : (gh 10).v = .pointer (some ⟨p, 0, none⟩) := by have h := hF 10 (by decide +kernel) (by decide +kernel); rw [HF.out] at h; exact h
  have f11 : (gh 11).v = .int .i64 width := by have h := hF 11 (by decide +kernel) (by decide +kernel); rw [HF.out] at h; exact h
  have f12 : (gh 12).v = .pointer (some ⟨p, 0, none⟩) := by have h := hF 12 (by decide +kernel) (by decide +kernel); rw [HF.out] at h; exact h
  have f13 : (gh 13).v = .int .i64 (m : Nat) := by have h := hF 13 (by decide +kernel) (by decide +kernel); rw [HF.out] at h; exact h
  have f14 : ∃ (X1 : Option Addr) (d1 : Nat), (gh 14).v = .slice X1 m d1 ∧ (RowB w4 (gh 14).s (gh 14).e (.slice X1 m d1, m) (strs lt)) := by have h := hF 14 (by decide +kernel) (by decide +kernel); rw [HF.out] at h; exact h
  have f15 : (gh 15).v = .int .i64 (k : Nat) := by have h := hF 15 (by decide +kernel) (by decide +kernel); rw [HF.out] at h; exact h
  have f16 : ∃ (X3 : Option Addr) (d3 : Nat), (gh 16).v = .slice X3 il.length d3 ∧ (RowB w4 (gh 16).s (gh 16).e (.slice X3 il.length d3, il.length) (strs il)) := by have h := hF 16 (by decide +kernel) (by decide +kernel); rw [HF.out] at h; exact h
  have f17 : NewBox w4 (w.heap.size) [.string x.topic, .int .i64 x.index, .int .i64 x.time, .string x.key, .string x.body] := by have h := hF 17 (by decide +kernel) (by decide +kernel); rw [HF.out] at h; exact h
  have f18 : ∃ (X3 : Option Addr) (d3 : Nat), (gh 16).v = .slice X3 il.length d3 ∧ (gh 18).v = .slice X3 il.length d3 := by have h := hF 18 (by decide +kernel) (by decide +kernel); rw [HF.out] at h; exact h
  have f19 : (gh 19).v = .int .i64 0 := by have h := hF 19 (by decide +kernel) (by decide +kernel); rw [HF.out] at h; exact h
  obtain ⟨X1, d1, hv14, _⟩ := f14
  obtain ⟨X3, d3, hv16, hr3⟩ := f16
  have hv0 := f0
  have hv1 := f1
  have hv2 := f2
  have hv3 := f3
  have hv4 := f4
  have hv5 := f5
  have hv6 := f6
  have hv7 := f7
  have hv8 := f8
  have hv9 := f9
  have hv10 := f10
  have hv11 := f11
  have hv12 := f12
  have hv13 := f13
  have hv15 := f15
  have hx17 := f17
  obtain ⟨X3_18, d3_18, hu16, hv18⟩ := f18
  replace hu16 := hv16.symm.trans hu16
  simp at hu16
  try simp only [and_assoc] at hu16
  obtain ⟨rfl, rfl⟩ := hu16
  have hv19 := f19
  obtain ⟨hs16, hse16, he16⟩ := hE 16 (by decide +kernel)
  change w3.heap.size ≤ _ at hs16
  clear hE hA hF
  simp only [putDs, Nat.reduceAdd, hv0, hv1, hv2, hv3, hv4, hv5, hv6, hv7, hv8, hv9, hv10, hv11, hv12, hv13, hv14, hv15, hv16, hv18, hv19]
  clear hv0 hv1 hv2 hv3 hv4 hv5 hv6 hv7 hv8 hv9 hv10 hv11 hv12 hv13 hv14 hv15 hv16 hv18 hv19
  generalize (gh 16).s = s4_16 at *
  generalize (gh 16).e = e4_16 at *
  clear HF
  have hb := hB
  clear hB
  have hzw4 : w3.heap.size ≤ w4.heap.size := hb.size
  have hzzw4 : w.heap.size ≤ w4.heap.size := by omega
  replace HB := lH (below_only HB.out hb (by omega) HB.out.size)
  replace HOE := lH (HOE.out.only hb (by first | omega | (simp; omega)))
  replace HOH := lH (HOH.out.only hb (by first | omega | (simp; omega)))
  replace HXb := lH (HXb.out.only hb (by first | omega | (simp; omega)))
  clear hxb hfb hkb
  obtain ⟨hkb, hxb, hfb⟩ := HXb.out
  clear hxq hfq hkq HXq
  clear hb
  have HXq : Hid (NewBox w4 (w.heap.size) [.string x.topic, .int .i64 x.index, .int .i64 x.time, .string x.key, .string x.body]) := hx17
  obtain ⟨hkq, hxq, hfq⟩ := HXq.out
  clear hx17
  have HOU : Hid (RowB w4 (s4_16) (e4_16) ((.slice X3 il.length d3, il.length)) (strs il)) := hr3
  have hr39 : e4_16 ≤ w4.heap.size ∧ w.heap.size ≤ s4_16 ∧ s4_16 ≤ e4_16 := by omega
  clear hr3 HLV2 HIN
  go_wp2
  refine bodyPost_named (fun w5 hw => ?_)
  have hz5 : w4.heap.size + 0 ≤ w5.heap.size := by rw [hw]; first | omega | simp [World.setCell] <;> omega
  have hzz5 : w.heap.size ≤ w5.heap.size := by omega
  have hbn : Below w4.heap.size w4 w5 := by rw [hw]; exact (by repeat with_reducible first | exact bR _ | apply bA | apply bD)
  replace HB := lH (below_then HB.out hbn HB.out.size)
  replace HOE := lH (HOE.out.below hbn)
  replace HOH := lH (HOH.out.below hbn)
  replace HOU := lH (HOU.out.below hbn)
  replace HXb := lH (HXb.out.below hbn)
  clear hxb hfb hkb
  obtain ⟨hkb, hxb, hfb⟩ := HXb.out
  replace HXq := lH (HXq.out.below hbn)
  clear hxq hfq hkq
  obtain ⟨hkq, hxq, hfq⟩ := HXq.out
  clear hbn
  clear hw
  refine bodyPost_ret (v := .tuple #[.agg #[.string x.topic, .int .i64 x.index, .int .i64 x.time, .string x.key, .string x.body], .slice X3 il.length d3, .int .i64 0]) (by simp [results, Tryz.results45, go_sem, hxq]) rfl ?_
  rw [HEQ.out.1, HEQ.out.2.1, HEQ.out.2.2]
  exact ⟨⟨X3, d3, rfl, RowB.room HOU.out, (HOU.out.ownB rfl (by omega) (by omega)).mono (by omega) (by omega) (by omega)⟩, HB.out⟩
def lpE (width : Int) (es : List Ent) (rs : List Rcp) (hs : List Hd) (z1 : Int) (l1 : List ByteArray) (z2 : Int) (l2 : List ByteArray) (h : Hd) (a c : Int) : Ent := if brkOk width es rs hs z1 l1 z2 l2 h then lfE es hs a c else noEnt
def lpC (width : Int) (es : List Ent) (rs : List Rcp) (hs : List Hd) (z1 : Int) (l1 : List ByteArray) (z2 : Int) (l2 : List ByteArray) (h : Hd) (a c : Int) : Int := if brkOk width es rs hs z1 l1 z2 l2 h then lfC hs a c else 1
def lpL (width : Int) (es : List Ent) (rs : List Rcp) (hs : List Hd) (z1 : Int) (l1 : List ByteArray) (z2 : Int) (l2 : List ByteArray) (h : Hd) (a c : Int) : List ByteArray := if brkOk width es rs hs z1 l1 z2 l2 h then lfL width es hs a c else []
set_option maxRecDepth 100000 in
theorem implLeafProof_c (a c : Int) (width z1 z2 : Int) (E R H A1 A2 : Option Addr) (ne nr nh ce cr ch c1 c2 lo1 hi1 lo2 hi2 lo3 hi3 lo4 hi4 lo5 hi5 m1 m2 : Nat) (es : List Ent) (rs : List Rcp) (hs : List Hd) (l1 l2 : List ByteArray) (h : Hd) (w : World) (hE : Rd w lo1 hi1 E (ents es)) (hR : Rd w lo2 hi2 R (rcps rs)) (hH : Rd w lo3 hi3 H (hds hs)) (hA1 : Rd w lo4 hi4 A1 (strs l1)) (hA2 : Rd w lo5 hi5 A2 (strs l2)) (hne : es.length = ne) (hnr : rs.length = nr) (hnh : hs.length = nh) (hm1 : l1.length = m1) (hm2 : l2.length = m2)
  (b1 : ne ≤ 1048576) (b2 : nr ≤ 1048576) (b3 : nh + sumBy Hd.bulk hs ≤ 1048576) (b4 : m1 ≤ 1048576) (b5 : m2 ≤ 1048576) (b6 : ne ≤ ce) (b7 : nr ≤ cr) (b8 : nh ≤ ch) (hfe : ∀ x ∈ es, x.fits) (hfr : ∀ x ∈ rs, x.fits) (hfh : ∀ x ∈ hs, x.fits) (hf : h.fits) (hsb : h.bulk ≤ 1048576) :
  Calls Tryz.prog 19 #[.agg #[.int .i64 width, .slice E ne ce, .slice R nr cr, .slice H nh ch, .int .i64 z1, .slice A1 m1 c1, .int .i64 z2, .slice A2 m2 c2, .int .i64 h.num, .int .i64 h.size, .string h.root, .int .i64 h.taken, .string h.troot], .int .i64 a, .int .i64 c] w (EntPost w (lpE width es rs hs z1 l1 z2 l2 h a c) (lpL width es rs hs z1 l1 z2 l2 h a c) (lpC width es rs hs z1 l1 z2 l2 h a c)) := by
 have HBK := lH (fun W (r0 : Rd W 0 W.heap.size E (ents es)) (r1 : Rd W 0 W.heap.size R (rcps rs)) (r2 : Rd W 0 W.heap.size H (hds hs)) (r3 : Rd W 0 W.heap.size A1 (strs l1)) (r4 : Rd W 0 W.heap.size A2 (strs l2)) => implBrokerOk_c width z1 z2 E R H A1 A2 ne nr nh ce cr ch c1 c2 0 W.heap.size 0 W.heap.size 0 W.heap.size 0 W.heap.size 0 W.heap.size m1 m2 es rs hs l1 l2 h W r0 r1 r2 r3 r4 hne hnr hnh hm1 hm2 b1 b2 b3 b4 b5 b6 b7 b8 hfe hfr hfh hf hsb)
 have HD0 : Hid (lpE width es rs hs z1 l1 z2 l2 h a c = if brkOk width es rs hs z1 l1 z2 l2 h then lfE es hs a c else noEnt) := lH rfl
 have HD1 : Hid (lpL width es rs hs z1 l1 z2 l2 h a c = if brkOk width es rs hs z1 l1 z2 l2 h then lfL width es hs a c else []) := lH rfl
 have HD3 : Hid (lpC width es rs hs z1 l1 z2 l2 h a c = if brkOk width es rs hs z1 l1 z2 l2 h then lfC hs a c else 1) := lH rfl
 have HBC := lH (fun (hb : brkOk width es rs hs z1 l1 z2 l2 h = true) W p (q : NewBox W p [.int .i64 width, .slice E ne ce, .slice R nr cr, .slice H nh ch, .int .i64 z1, .slice A1 m1 c1, .int .i64 z2, .slice A2 m2 c2, .int .i64 h.num, .int .i64 h.size, .string h.root, .int .i64 h.taken, .string h.troot]) (r0 : Rd W 0 W.heap.size E (ents es)) (r2 : Rd W 0 W.heap.size H (hds hs)) => leafProof_c width z1 z2 p E R H A1 A2 ne nr nh ce cr ch c1 c2 0 W.heap.size 0 W.heap.size m1 m2 es rs hs h a c W q r0 r2 hne hnh b1 (by omega) b6 hfe (brkOk_parts hb))
 generalize brkOk width es rs hs z1 l1 z2 l2 h = bk at *
 generalize lpE width es rs hs z1 l1 z2 l2 h a c = v0 at *
 generalize lpL width es rs hs z1 l1 z2 l2 h a c = v1 at *
 generalize lpC width es rs hs z1 l1 z2 l2 h a c = v3 at *
 generalize lfE es hs a c = t0 at *
 generalize lfL width es hs a c = t1 at *
 generalize lfC hs a c = t3 at *
 have HB : Hid (Below w.heap.size w w) := Below.refl _ _
 have HOE : Hid (Rd w (0) (w.heap.size) (E) (ents es)) := Rd.base hE
 have HOR : Hid (Rd w (0) (w.heap.size) (R) (rcps rs)) := Rd.base hR
 have HOH : Hid (Rd w (0) (w.heap.size) (H) (hds hs)) := Rd.base hH
 have HOX : Hid (Rd w (0) (w.heap.size) (A1) (strs l1)) := Rd.base hA1
 have HOY : Hid (Rd w (0) (w.heap.size) (A2) (strs l2)) := Rd.base hA2
 clear hE hR hH hA1 hA2
 clear hne hnr hnh hm1 hm2 hfe hfr hfh hf
 go_enter Tryz.func19, Tryz.ntmps19
 go_wp2_with fail
 refine calls_named (fun w1 hw => ?_)
 have hz1 : w.heap.size + 2 ≤ w1.heap.size := by rw [hw]; first | omega | simp [World.setCell] <;> omega
 have hzz1 : w.heap.size ≤ w1.heap.size := by omega
 have hbn : Below w.heap.size w w1 := by rw [hw]; exact (by repeat with_reducible first | exact bR _ | apply bA | apply bD)
 replace HB := lH (below_then HB.out hbn HB.out.size)
 replace HOE := lH (HOE.out.below hbn)
 replace HOR := lH (HOR.out.below hbn)
 replace HOH := lH (HOH.out.below hbn)
 replace HOX := lH (HOX.out.below hbn)
 replace HOY := lH (HOY.out.below hbn)
 clear hbn
 have HXb : Hid (NewBox w1 (w.heap.size) [.int .i64 width, .slice E ne ce, .slice R nr cr, .slice H nh ch, .int .i64 z1, .slice A1 m1 c1, .int .i64 z2, .slice A2 m2 c2, .int .i64 h.num, .int .i64 h.size, .string h.root, .int .i64 h.taken, .string h.troot]) := by rw [Hid, hw]; exact ⟨by first | omega | (simp [World.setCell]; done) | (simp [World.setCell]; omega), fun o => by rcases o with _ | _ | _ | _ | _ | _ | _ | _ | _ | _ | _ | _ | _ | o <;> go_simp, fun o => by go_simp⟩
 obtain ⟨hkb, hxb, hfb⟩ := HXb.out
 have HXq : Hid (NewBox w1 (w.heap.size + 1) [.string ⟨#[]⟩, .int .i64 0, .int .i64 0, .string ⟨#[]⟩, .string ⟨#[]⟩]) := by rw [Hid, hw]; exact ⟨by first | omega | (simp [World.setCell]; done) | (simp [World.setCell]; omega), fun o => by rcases o with _ | _ | _ | _ | _ | o <;> go_simp, fun o => by go_simp⟩
 obtain ⟨hkq, hxq, hfq⟩ := HXq.out
 clear hw
 refine (HBK.out _ HOE.out.base HOR.out.base HOH.out.base HOX.out.base HOY.out.base).mono ?_
 rintro e w2 ⟨rfl, hb⟩
 have hzw2 : w1.heap.size ≤ w2.heap.size := hb.size
 have hzzw2 : w.heap.size ≤ w2.heap.size := by omega
 replace HB := lH (below_then HB.out hb HB.out.size)
 replace HOE := lH (HOE.out.below hb)
 replace HOR := lH (HOR.out.below hb)
 replace HOH := lH (HOH.out.below hb)
 replace HOX := lH (HOX.out.below hb)
 replace HOY := lH (HOY.out.below hb)
 replace HXb := lH (HXb.out.below hb)
 clear hxb hfb hkb
 obtain ⟨hkb, hxb, hfb⟩ := HXb.out
 replace HXq := lH (HXq.out.below hb)
 clear hxq hfq hkq
 obtain ⟨hkq, hxq, hfq⟩ := HXq.out
 clear hb
 clear HOX
 clear HOY
 clear HOR
 clear HBK
 rcases bk with _ | _
 ·have HEQ : Hid (v3 = 1 ∧ v0 = noEnt ∧ v1 = []) := lH ⟨HD3.out, HD0.out, HD1.out⟩
  clear HBC HD0 HD1 HD3
  go_wp2
  refine bodyPost_named (fun w3 hw => ?_)
  have hz3 : w2.heap.size + 0 ≤ w3.heap.size := by rw [hw]; first | omega | simp [World.setCell] <;> omega
  have hzz3 : w.heap.size ≤ w3.heap.size := by omega
  replace HB : Hid (Below w.heap.size w w3) := by rw [Hid, hw]; exact (by ((repeat first | with_reducible apply bA | with_reducible apply bD | (with_reducible refine bS ?_ ?_; (focus (first | omega | (simp; done) | (simp; omega))))); exact HB.out))
  replace HOE : Hid (Rd w3 (0) (w.heap.size) (E) (ents es)) := by rw [Hid, hw]; (repeat (first | (with_reducible refine Rd.alloc ?_ _) | (with_reducible refine Rd.drew ?_) | ((with_reducible refine Rd.setCell ?_ ?_ _); rotate_left 1; (focus (first | omega | (simp; done) | (simp; omega)))))); exact HOE.out
  replace HOH : Hid (Rd w3 (0) (w.heap.size) (H) (hds hs)) := by rw [Hid, hw]; (repeat (first | (with_reducible refine Rd.alloc ?_ _) | (with_reducible refine Rd.drew ?_) | ((with_reducible refine Rd.setCell ?_ ?_ _); rotate_left 1; (focus (first | omega | (simp; done) | (simp; omega)))))); exact HOH.out
  replace HXb : Hid (NewBox w3 (w.heap.size) [.int .i64 width, .slice E ne ce, .slice R nr cr, .slice H nh ch, .int .i64 z1, .slice A1 m1 c1, .int .i64 z2, .slice A2 m2 c2, .int .i64 h.num, .int .i64 h.size, .string h.root, .int .i64 h.taken, .string h.troot]) := by rw [Hid, hw]; (repeat (first | (with_reducible refine NewBox.alloc ?_ _) | (with_reducible refine NewBox.drew ?_) | ((with_reducible refine NewBox.setCell ?_ ?_ _); rotate_left 1; (focus (first | omega | (simp; done) | (simp; omega)))))); exact HXb.out
  clear hxb hfb hkb
  obtain ⟨hkb, hxb, hfb⟩ := HXb.out
  replace HXq : Hid (NewBox w3 (w.heap.size + 1) [.string ⟨#[]⟩, .int .i64 0, .int .i64 0, .string ⟨#[]⟩, .string ⟨#[]⟩]) := by rw [Hid, hw]; apply NewBox.cast; (focus ((repeat (first | (with_reducible apply NewBox.alloc) | (with_reducible apply NewBox.drew) | (with_reducible apply NewBox.set1) | ((with_reducible apply NewBox.far); (focus (first | omega | (simp; done) | (simp; omega)))))); exact HXq.out)); rfl
  clear hxq hfq hkq
  obtain ⟨hkq, hxq, hfq⟩ := HXq.out
  clear hw
  refine bodyPost_ret (v := .tuple #[.agg #[.string ⟨#[]⟩, .int .i64 0, .int .i64 0, .string ⟨#[]⟩, .string ⟨#[]⟩], .slice none 0 0, .int .i64 1]) (by simp [results, Tryz.results19, go_sem, hxq]) rfl ?_
  rw [HEQ.out.1, HEQ.out.2.1, HEQ.out.2.2]
  exact ent_none _ _ HB.out 1
 ·have e0 : v0 = t0 := HD0.out
  have e1 : v1 = t1 := HD1.out
  have e3 : v3 = t3 := HD3.out
  subst e0 e1 e3
  clear HD0 HD1 HD3
  go_wp2_with fail
  refine calls_named (fun w3 hw => ?_)
  have hz3 : w2.heap.size + 0 ≤ w3.heap.size := by rw [hw]; first | omega | simp [World.setCell] <;> omega
  have hzz3 : w.heap.size ≤ w3.heap.size := by omega
  have hbn : Below w2.heap.size w2 w3 := by rw [hw]; exact (by repeat with_reducible first | exact bR _ | apply bA | apply bD)
  replace HB := lH (below_then HB.out hbn HB.out.size)
  replace HOE := lH (HOE.out.below hbn)
  replace HOH := lH (HOH.out.below hbn)
  replace HXb := lH (HXb.out.below hbn)
  clear hxb hfb hkb
  obtain ⟨hkb, hxb, hfb⟩ := HXb.out
  replace HXq := lH (HXq.out.below hbn)
  clear hxq hfq hkq
  obtain ⟨hkq, hxq, hfq⟩ := HXq.out
  clear hbn
  clear hw
  refine (HBC.out (by first | trivial | rfl) _ _ HXb.out HOE.out.base HOH.out.base).mono ?_
  rintro e w4 ⟨⟨A3, c3, rfl, hcap, ho⟩, hb⟩
  have hzw4 : w3.heap.size ≤ w4.heap.size := hb.size
  have hzzw4 : w.heap.size ≤ w4.heap.size := by omega
  replace HB := lH (below_then HB.out hb HB.out.size)
  replace HOE := lH (HOE.out.below hb)
  replace HOH := lH (HOH.out.below hb)
  replace HXb := lH (HXb.out.below hb)
  clear hxb hfb hkb
  obtain ⟨hkb, hxb, hfb⟩ := HXb.out
  replace HXq := lH (HXq.out.below hb)
  clear hxq hfq hkq
  obtain ⟨hkq, hxq, hfq⟩ := HXq.out
  clear hb
  have HOU : Hid (Own w4 (w3.heap.size) (w4.heap.size) (A3) (strs v1)) := ho
  have HCAP := lH hcap
  clear hcap
  clear ho HBC
  go_wp2
  refine bodyPost_named (fun w5 hw => ?_)
  have hz5 : w4.heap.size + 0 ≤ w5.heap.size := by rw [hw]; first | omega | simp [World.setCell] <;> omega
  have hzz5 : w.heap.size ≤ w5.heap.size := by omega
  replace HB : Hid (Below w.heap.size w w5) := by rw [Hid, hw]; exact (by ((repeat first | with_reducible apply bA | with_reducible apply bD | (with_reducible refine bS ?_ ?_; (focus (first | omega | (simp; done) | (simp; omega))))); exact HB.out))
  replace HOE : Hid (Rd w5 (0) (w.heap.size) (E) (ents es)) := by rw [Hid, hw]; (repeat (first | (with_reducible refine Rd.alloc ?_ _) | (with_reducible refine Rd.drew ?_) | ((with_reducible refine Rd.setCell ?_ ?_ _); rotate_left 1; (focus (first | omega | (simp; done) | (simp; omega)))))); exact HOE.out
  replace HOH : Hid (Rd w5 (0) (w.heap.size) (H) (hds hs)) := by rw [Hid, hw]; (repeat (first | (with_reducible refine Rd.alloc ?_ _) | (with_reducible refine Rd.drew ?_) | ((with_reducible refine Rd.setCell ?_ ?_ _); rotate_left 1; (focus (first | omega | (simp; done) | (simp; omega)))))); exact HOH.out
  replace HOU : Hid (Own w5 (w3.heap.size) (w4.heap.size) (A3) (strs v1)) := by rw [Hid, hw]; (repeat (first | (with_reducible refine Own.alloc ?_ _) | (with_reducible refine Own.drew ?_) | ((with_reducible refine Own.setCell ?_ ?_ _); rotate_left 1; (focus (first | omega | (simp; done) | (simp; omega)))))); exact HOU.out
  replace HXb : Hid (NewBox w5 (w.heap.size) [.int .i64 width, .slice E ne ce, .slice R nr cr, .slice H nh ch, .int .i64 z1, .slice A1 m1 c1, .int .i64 z2, .slice A2 m2 c2, .int .i64 h.num, .int .i64 h.size, .string h.root, .int .i64 h.taken, .string h.troot]) := by rw [Hid, hw]; (repeat (first | (with_reducible refine NewBox.alloc ?_ _) | (with_reducible refine NewBox.drew ?_) | ((with_reducible refine NewBox.setCell ?_ ?_ _); rotate_left 1; (focus (first | omega | (simp; done) | (simp; omega)))))); exact HXb.out
  clear hxb hfb hkb
  obtain ⟨hkb, hxb, hfb⟩ := HXb.out
  replace HXq : Hid (NewBox w5 (w.heap.size + 1) [.string v0.topic, .int .i64 v0.index, .int .i64 v0.time, .string v0.key, .string v0.body]) := by rw [Hid, hw]; apply NewBox.cast; (focus ((repeat (first | (with_reducible apply NewBox.alloc) | (with_reducible apply NewBox.drew) | (with_reducible apply NewBox.set1) | ((with_reducible apply NewBox.far); (focus (first | omega | (simp; done) | (simp; omega)))))); exact HXq.out)); rfl
  clear hxq hfq hkq
  obtain ⟨hkq, hxq, hfq⟩ := HXq.out
  clear hw
  refine bodyPost_ret (v := .tuple #[.agg #[.string v0.topic, .int .i64 v0.index, .int .i64 v0.time, .string v0.key, .string v0.body], .slice A3 v1.length c3, .int .i64 v3]) (by simp [results, Tryz.results19, go_sem, hxq]) rfl ?_
  exact ⟨⟨A3, c3, rfl, HCAP.out, HOU.out.mono (by omega) (by omega) (by omega)⟩, HB.out⟩
section
variable {width : Int} {es : List Ent} {rs : List Rcp} {hs : List Hd}
theorem has_sz {x : Hd} (hx : x ∈ hs) : hasHd hs x.size = true := by
 rw [hasHd, List.any_eq_true]
 exact ⟨x, hx, beq_self_eq_true _⟩
theorem prf_ok (h : BrkParts width es rs hs) {i : Nat} {x : Hd} (hx : hs[i]? = some x) {s k : Nat} (ht : x.size = (s : Int)) (hk : k < s) {e : Ent} (he : es[k]? = some e) :
  lfC hs k s = 0 ∧ lfE es hs k s = e ∧ inOk width s k (leafHashM width e) (lfL width es hs k s) = true ∧ inRt width s k (leafHashM width e) (lfL width es hs k s) = x.root := by
 obtain ⟨s', t, h1, h2, h3, h4, h5, h6⟩ := hd_at h hx
 obtain rfl : s' = s := by omega
 have h7 := has_sz (List.mem_of_getElem? hx)
 rw [ht] at h7
 obtain ⟨a1, a2, a3⟩ := lf_in width es h7 hk
 have h8 : ((leavesM width es).take s').length = s' := by rw [List.length_take, leavesM_len]; omega
 have h9 : ((leavesM width es).take s')[k]? = some (leafHashM width e) := by rw [List.getElem?_take_of_lt hk, leavesM, List.getElem?_map, he]; rfl
 have h10 := logOk_len h.log
 obtain ⟨b1, b2⟩ := incl_ok h.wd h8 (by omega) (areH_sub (leavesM_are h.wd h.log) (fun s hs => List.mem_of_mem_take hs)) h9
 rw [a3]
 exact ⟨a1, a2.trans (by rw [List.getD_eq_getElem?_getD, he]; rfl), b1, b2.trans h5.symm⟩
theorem prf_no (h : BrkParts width es rs hs) {i : Nat} {x : Hd} (hx : hs[i]? = some x) {s k : Nat} (ht : x.size = (s : Int)) (hk : s ≤ k) : lfC hs k s = 3 ∧ lfE es hs k s = noEnt ∧ lfL width es hs k s = [] := by
 have h7 := has_sz (List.mem_of_getElem? hx)
 rw [ht] at h7
 exact lf_out width es h7 (.inr (by omega))
theorem lp_eq (h : BrkParts width es rs hs) (a c : Int) :
  lpC width es rs hs (lastHd hs).size (pk1 width es hs) (lastHd hs).taken (pk2 width rs hs) (lastHd hs) a c = lfC hs a c ∧ lpE width es rs hs (lastHd hs).size (pk1 width es hs) (lastHd hs).taken (pk2 width rs hs) (lastHd hs) a c = lfE es hs a c ∧
  lpL width es rs hs (lastHd hs).size (pk1 width es hs) (lastHd hs).taken (pk2 width rs hs) (lastHd hs) a c = lfL width es hs a c := by
 rw [lpC, lpE, lpL, if_pos h.ok, if_pos h.ok, if_pos h.ok]; exact ⟨rfl, rfl, rfl⟩
theorem lfL_len {hp : BrkParts width es rs hs} {a c : Int} : (lfL width es hs a c).length ≤ 512 := by
 rw [lfL]
 split
 ·have h5 := logOk_len hp.log
  have hl : ((leavesM width es).take c.toNat).length ≤ 512 := by rw [List.length_take, leavesM_len]; omega
  exact Nat.le_trans (inc_le rfl hl) hl
 ·exact Nat.zero_le _
end
end
end Go.Proofs.YtoccjgcokffkbaaGreat
