/- LeafProof: the helpers of both. -/
import Derived.Test.YtmmepogjocfefaaGreatLvs
import Derived.Test.YtmmepogjocfefaaGreatBoks
import Derived.Test.YtmmepogjocfefaaGreatIncl
import Derived.Test.YtmmepogjocfefaaGreatHas
namespace Go.Proofs.YtmmepogjocfefaaGreat
set_option linter.unusedVariables false
set_option linter.unusedSimpArgs false
open Go.RowKit

theorem celo {w w' : World} {lo hi k o : Nat} {v : Value} (h : Only lo hi w w') (hc : w.cell? ⟨k, o, none⟩ = some v) (hk : k < lo ∨ hi ≤ k) : w'.cell? ⟨k, o, none⟩ = some v := by
 have hb := h.block k (World.block_lt_of_cell? w ⟨k, o, none⟩ hc) hk
 simpa [World.cell?, hb] using hc
def noEnt : Ent := ⟨ByteArray.empty, 0, 0, ByteArray.empty, ByteArray.empty⟩
def EntPost (w : World) (x : Ent) (l : List ByteArray) (code : Int) (e : Ending) (w' : World) : Prop :=
 (∃ (A : Option Addr) (c : Nat), e = .returned (.tuple #[.agg #[.string x.topic, .int .i64 x.index, .int .i64 x.time, .string x.key, .string x.body], .slice A l.length c, .int .i64 code]) ∧ Own w' w.heap.size w'.heap.size A (strs l)) ∧ Below w.heap.size w w'
theorem ent_none {w w' : World} (A : Option Addr) (c : Nat) (hB : Below w.heap.size w w') (code : Int) : EntPost w noEnt [] code (.returned (.tuple #[.agg #[.string ⟨#[]⟩, .int .i64 0, .int .i64 0, .string ⟨#[]⟩, .string ⟨#[]⟩], .slice A 0 c, .int .i64 code])) w' :=
 ⟨⟨A, c, rfl, Own.nil⟩, hB⟩
def lfC (hs : List Hd) (k m : Int) : Int := if hasHd hs m then (if decide (0 ≤ k) && decide (k < m) then 0 else 3) else 2
def lfE (es : List Ent) (hs : List Hd) (k m : Int) : Ent := if lfC hs k m = 0 then es.getD k.toNat noEnt else noEnt
def lfL (width : Int) (es : List Ent) (hs : List Hd) (k m : Int) : List ByteArray := if lfC hs k m = 0 then incFu width 513 ((leavesM width es).take m.toNat) k.toNat else []
theorem lf_no (width : Int) (es : List Ent) {hs : List Hd} {k m : Int} (h : hasHd hs m = false) : lfC hs k m = 2 ∧ lfE es hs k m = noEnt ∧ lfL width es hs k m = [] := by
 have h3 : lfC hs k m = 2 := by rw [lfC, h]; rfl
 exact ⟨h3, by rw [lfE, h3, if_neg (by decide)], by rw [lfL, h3, if_neg (by decide)]⟩
theorem lf_out (width : Int) (es : List Ent) {hs : List Hd} {k m : Int} (h : hasHd hs m = true) (hk : k < 0 ∨ m ≤ k) : lfC hs k m = 3 ∧ lfE es hs k m = noEnt ∧ lfL width es hs k m = [] := by
 have h3 : lfC hs k m = 3 := by
  rw [lfC, h, if_pos rfl]
  rcases hk with hk | hk
  ·rw [decide_eq_false (by omega)]; rfl
  ·rw [decide_eq_false (p := k < m) (by omega), Bool.and_false]; rfl
 exact ⟨h3, by rw [lfE, h3, if_neg (by decide)], by rw [lfL, h3, if_neg (by decide)]⟩
theorem lf_in (width : Int) (es : List Ent) {hs : List Hd} {k m : Nat} (h : hasHd hs m = true) (hk : k < m) : lfC hs k m = 0 ∧ lfE es hs k m = es.getD k noEnt ∧ lfL width es hs k m = incFu width 513 ((leavesM width es).take m) k := by
 have h3 : lfC hs k m = 0 := by
  rw [lfC, h, if_pos rfl, decide_eq_true (by omega), decide_eq_true (by omega)]; rfl
 exact ⟨h3, by rw [lfE, h3, if_pos rfl, Int.toNat_natCast], by rw [lfL, h3, if_pos rfl, Int.toNat_natCast, Int.toNat_natCast]⟩
theorem has_le {width : Int} {es : List Ent} {rs : List Rcp} {hs : List Hd} (hp : BrkParts width es rs hs) {m : Int} (h : hasHd hs m = true) : 0 ≤ m ∧ m ≤ (es.length : Nat) := by
 rw [hasHd, List.any_eq_true] at h
 obtain ⟨x, hx, he⟩ := h
 obtain ⟨k, hk⟩ := List.getElem?_of_mem hx
 have h4 := hp.roots
 rw [rootsOk, Bool.and_eq_true] at h4
 have h5 := rootsTo_le (k := k + 1) (by have := (List.getElem?_eq_some_iff.1 hk).1; omega) h4.2
 rw [rootsTo_succ hk, Bool.and_eq_true] at h5
 have h6 := (rootsAt_all h5.2).1
 rw [leavesM_len] at h6
 have h7 := headOk_all (headsOk_at hp.heads hk).2.1
 have h8 : x.size = m := by simpa using he
 omega
set_option maxRecDepth 100000 in
set_option maxHeartbeats 400000 in
theorem specInclusion_c (width : Int) (hw : inR width 1 32 = true) (A : Option Addr) (c lo hi n k : Nat) (l : List ByteArray) (w : World) (hr : Rd w lo hi A (strs l)) (hn : l.length = n) (h5 : n ≤ 512) (hc : n ≤ c) (ha : areH width l = true) (hk : k < n) :
  Calls Tryz.prog 84 #[.int .i64 width, .slice A n c, .int .i64 k] w fun e w' => ∃ A' c', e = .returned (.tuple #[.slice A' (incFu width 513 l k).length c', .bool true]) ∧
   w'.ownsRow w.heap.size 9 1 (.slice A' (incFu width 513 l k).length c') (incFu width 513 l k).length (strs (incFu width 513 l k)) ∧ Below w.heap.size w w' := by
 have hq1 : leavesOk width l = true := by rw [leavesOk, hw, ha, hn, decide_eq_true h5]; rfl
 have HL := Lib.hid (specLeavesOk_c width A c lo hi n l w hr hn (by omega))
 have HI := Lib.hid (fun W => l01In_c k 0 ((n : Int) - 1) W)
 rw [hq1] at HL
 rw [show inR (k : Int) 0 ((n : Int) - 1) = true from inR_true.2 ⟨by omega, by omega⟩] at HI
 have HC := Lib.hid (fun W (r : Rd W 0 W.heap.size A (strs l)) => l05Inclusion_c width hw 513 A c 0 W.heap.size n k l W r hn (by omega) (by omega) hc ha hk)
 have HR := Lib.hid hr.base
 have E1 : IntKind.i64.wrap ((n : Int) - 1) = (n : Int) - 1 := by rw [IntKind.wrap_i64]; omega
 clear hr hn hq1 ha hw
 generalize incFu width 513 l k = t at *
 go_enter Tryz.func84, Tryz.ntmps84
 go_wp2_with fail
 refine HL.out.mono ?_
 rintro e w1 ⟨rfl, rfl⟩
 go_wp2_with fail
 refine (HI.out _).mono ?_
 rintro e w1 ⟨rfl, rfl⟩
 go_wp2_with fail
 refine (HC.out _ HR.out).mono ?_
 rintro e w1 ⟨A1, c1, rfl, ho, hb⟩
 have HO := Lib.hid ho
 have HB := Lib.hid hb
 clear ho hb HC
 go_wp2
 refine bodyPost_ret (v := .tuple #[.slice A1 t.length c1, .bool true]) (by simp [results, Tryz.results84, go_sem]) rfl ?_
 exact ⟨A1, c1, rfl, HO.out, HB.out⟩
set_option maxRecDepth 100000 in
set_option maxHeartbeats 4000000 in
theorem leafProof_c (width z1 z2 : Int) (p : Nat) (E R H A1 A2 : Option Addr) (ne nr nh ce cr ch c1 c2 lo1 hi1 lo3 hi3 m1 m2 : Nat) (es : List Ent) (rs : List Rcp) (hs : List Hd) (h : Hd) (a c : Int) (w : World) (hbx : NewBox w p [.int .i64 width, .slice E ne ce, .slice R nr cr, .slice H nh ch, .int .i64 z1, .slice A1 m1 c1, .int .i64 z2, .slice A2 m2 c2, .int .i64 h.num, .int .i64 h.size, .string h.root, .int .i64 h.taken, .string h.troot])
  (hE : Rd w lo1 hi1 E (ents es)) (hH : Rd w lo3 hi3 H (hds hs)) (hne : es.length = ne) (hnh : hs.length = nh) (b1 : ne ≤ 1048576) (b3 : nh ≤ 1048576) (b6 : ne ≤ ce) (hfe : ∀ x ∈ es, x.fits) (hp : BrkParts width es rs hs) :
  Calls Tryz.prog 79 #[.pointer (some ⟨p, 0, none⟩), .int .i64 a, .int .i64 c] w (EntPost w (lfE es hs a c) (lfL width es hs a c) (lfC hs a c)) := by
 have HLE := Lib.hid (fun (hq : hasHd hs c = true) => has_le hp hq)
 have HNO := Lib.hid (fun (hq : hasHd hs c = false) => lf_no (k := a) width es hq)
 have HOUT := Lib.hid (fun (hq : hasHd hs c = true) (hk : a < 0 ∨ c ≤ a) => lf_out width es hq hk)
 have hla := leavesM_are hp.wd hp.log
 have hll := (leavesM_len width es).trans hne
 have h51 : ne ≤ 512 := by rw [← hne]; exact logOk_len hp.log
 have HW := Lib.hid (And.intro hp.wd (And.intro hla (And.intro hll hne)))
 have HNH := Lib.hid hnh
 have HLV := Lib.hid (fun W m (q : NewBox W p [.int .i64 width, .slice E ne ce, .slice R nr cr, .slice H nh ch, .int .i64 z1, .slice A1 m1 c1, .int .i64 z2, .slice A2 m2 c2, .int .i64 h.num, .int .i64 h.size, .string h.root, .int .i64 h.taken, .string h.troot]) (r : Rd W 0 W.heap.size E (ents es)) (hm : m ≤ ne) => leaves_c width z1 z2 p m E R H A1 A2 ne nr nh ce cr ch c1 c2 0 W.heap.size m1 m2 es h W q r hne b1 b6 hm hfe)
 have hpw : p < w.heap.size := hbx.1
 have HB : Hid (Below w.heap.size w w) := Below.refl _ _
 have HOE : Hid (Rd w (0) (w.heap.size) (E) (ents es)) := Rd.base hE
 have HOH : Hid (Rd w (0) (w.heap.size) (H) (hds hs)) := Rd.base hH
 replace HB : Hid (Below w.heap.size w w) := (Below.refl _ _)
 have HXb : Hid (NewBox w (p) [.int .i64 width, .slice E ne ce, .slice R nr cr, .slice H nh ch, .int .i64 z1, .slice A1 m1 c1, .int .i64 z2, .slice A2 m2 c2, .int .i64 h.num, .int .i64 h.size, .string h.root, .int .i64 h.taken, .string h.troot]) := hbx
 have hxb := HXb.out.2.1
 have hfb := HXb.out.2.2
 have hkb := HXb.out.1
 clear hbx
 clear hE hH hne hnh hfe hp hla hll
 go_enter Tryz.func79, Tryz.ntmps79
 go_wp2_with fail
 refine calls_named (fun w1 hw => ?_)
 have hz1 : w.heap.size + 1 ≤ w1.heap.size := by rw [hw]; first | omega | (simp [World.setCell]; done) | (simp [World.setCell]; omega)
 have hzz1 : w.heap.size ≤ w1.heap.size := by omega
 have hbn : Below w.heap.size w w1 := by rw [hw]; exact (by ((repeat (first | ((with_reducible refine Below.alloc ?_ ?_ _); rotate_left 1; (focus (first | omega | (simp; done) | (simp; omega)))) | (with_reducible refine Below.drew ?_) | ((with_reducible refine Below.setCell ?_ ?_ _); rotate_left 1; (focus (first | omega | (simp; done) | (simp; omega)))))); exact Below.refl _ _))
 replace HB := Lib.hid (below_then HB.out hbn HB.out.size)
 replace HOE := Lib.hid (HOE.out.below hbn)
 replace HOH := Lib.hid (HOH.out.below hbn)
 replace HXb := Lib.hid (HXb.out.below hbn)
 clear hxb hfb hkb
 have hxb := HXb.out.2.1
 have hfb := HXb.out.2.2
 have hkb := HXb.out.1
 clear hbn
 have HXq : Hid (NewBox w1 (w.heap.size) [.string ⟨#[]⟩, .int .i64 0, .int .i64 0, .string ⟨#[]⟩, .string ⟨#[]⟩]) := by rw [Hid, hw]; exact ⟨by first | omega | (simp [World.setCell]; done) | (simp [World.setCell]; omega), fun o => by rcases o with _ | _ | _ | _ | _ | o <;> go_simp, fun o => by go_simp⟩
 have hxq := HXq.out.2.1
 have hfq := HXq.out.2.2
 have hkq := HXq.out.1
 clear hw
 refine (hasSize_c p ch 0 (w1).heap.size nh H hs c w1 hkb (hxb 3) HOH.out.base HNH.out b3).mono ?_
 rintro e w2 ⟨rfl, hb⟩
 have hzw2 : w1.heap.size ≤ w2.heap.size := hb.size
 have hzzw2 : w.heap.size ≤ w2.heap.size := by omega
 replace HB := Lib.hid (below_then HB.out hb HB.out.size)
 replace HOE := Lib.hid (HOE.out.below hb)
 replace HOH := Lib.hid (HOH.out.below hb)
 replace HXb := Lib.hid (HXb.out.below hb)
 clear hxb hfb hkb
 have hxb := HXb.out.2.1
 have hfb := HXb.out.2.2
 have hkb := HXb.out.1
 replace HXq := Lib.hid (HXq.out.below hb)
 clear hxq hfq hkq
 have hxq := HXq.out.2.1
 have hfq := HXq.out.2.2
 have hkq := HXq.out.1
 clear hb
 rcases hq1 : hasHd hs c with _ | _
 ·have HEQ := Lib.hid (HNO.out hq1)
  clear HNO HOUT HLE hq1 HLV HW
  go_wp2
  refine bodyPost_named (fun w3 hw => ?_)
  have hz3 : w2.heap.size + 0 ≤ w3.heap.size := by rw [hw]; first | omega | (simp [World.setCell]; done) | (simp [World.setCell]; omega)
  have hzz3 : w.heap.size ≤ w3.heap.size := by omega
  replace HB : Hid (Below w.heap.size w w3) := by rw [Hid, hw]; exact (by ((repeat (first | ((with_reducible refine Below.alloc ?_ ?_ _); rotate_left 1; (focus (first | omega | (simp; done) | (simp; omega)))) | (with_reducible refine Below.drew ?_) | ((with_reducible refine Below.setCell ?_ ?_ _); rotate_left 1; (focus (first | omega | (simp; done) | (simp; omega)))))); exact HB.out))
  replace HOE : Hid (Rd w3 (0) (w.heap.size) (E) (ents es)) := by rw [Hid, hw]; (repeat (first | (with_reducible refine Rd.alloc ?_ _) | (with_reducible refine Rd.drew ?_) | ((with_reducible refine Rd.setCell ?_ ?_ _); rotate_left 1; (focus (first | omega | (simp; done) | (simp; omega)))))); exact HOE.out
  replace HOH : Hid (Rd w3 (0) (w.heap.size) (H) (hds hs)) := by rw [Hid, hw]; (repeat (first | (with_reducible refine Rd.alloc ?_ _) | (with_reducible refine Rd.drew ?_) | ((with_reducible refine Rd.setCell ?_ ?_ _); rotate_left 1; (focus (first | omega | (simp; done) | (simp; omega)))))); exact HOH.out
  replace HXb : Hid (NewBox w3 (p) [.int .i64 width, .slice E ne ce, .slice R nr cr, .slice H nh ch, .int .i64 z1, .slice A1 m1 c1, .int .i64 z2, .slice A2 m2 c2, .int .i64 h.num, .int .i64 h.size, .string h.root, .int .i64 h.taken, .string h.troot]) := by rw [Hid, hw]; (repeat (first | (with_reducible refine NewBox.alloc ?_ _) | (with_reducible refine NewBox.drew ?_) | ((with_reducible refine NewBox.setCell ?_ ?_ _); rotate_left 1; (focus (first | omega | (simp; done) | (simp; omega)))))); exact HXb.out
  clear hxb hfb hkb
  have hxb := HXb.out.2.1
  have hfb := HXb.out.2.2
  have hkb := HXb.out.1
  replace HXq : Hid (NewBox w3 (w.heap.size) [.string ⟨#[]⟩, .int .i64 0, .int .i64 0, .string ⟨#[]⟩, .string ⟨#[]⟩]) := by rw [Hid, hw]; apply NewBox.cast; (focus ((repeat (first | (with_reducible apply NewBox.alloc) | (with_reducible apply NewBox.drew) | (with_reducible apply NewBox.set1) | ((with_reducible apply NewBox.far); (focus (first | omega | (simp; done) | (simp; omega)))))); exact HXq.out)); rfl
  clear hxq hfq hkq
  have hxq := HXq.out.2.1
  have hfq := HXq.out.2.2
  have hkq := HXq.out.1
  clear hw
  refine bodyPost_ret (v := .tuple #[.agg #[.string ⟨#[]⟩, .int .i64 0, .int .i64 0, .string ⟨#[]⟩, .string ⟨#[]⟩], .slice none 0 0, .int .i64 2]) (by simp [results, Tryz.results79, go_sem, hxq]) rfl ?_
  rw [HEQ.out.1, HEQ.out.2.1, HEQ.out.2.2]
  exact ent_none _ _ HB.out 2
 have hle := HLE.out hq1
 rcases (show (a < 0 ∨ c ≤ a) ∨ (0 ≤ a ∧ a < c) by omega) with hbad | hgood
 ·have HEQ := Lib.hid (HOUT.out hq1 hbad)
  clear HNO HOUT HLE hq1 HLV HW
  rcases (show a < 0 ∨ (0 ≤ a ∧ c ≤ a) by omega) with x1 | ⟨x1, x2⟩
  all_goals
   clear hbad
   go_wp2
   refine bodyPost_named (fun w3 hw => ?_)
   have hz3 : w2.heap.size + 0 ≤ w3.heap.size := by rw [hw]; first | omega | (simp [World.setCell]; done) | (simp [World.setCell]; omega)
   have hzz3 : w.heap.size ≤ w3.heap.size := by omega
   replace HB : Hid (Below w.heap.size w w3) := by rw [Hid, hw]; exact (by ((repeat (first | ((with_reducible refine Below.alloc ?_ ?_ _); rotate_left 1; (focus (first | omega | (simp; done) | (simp; omega)))) | (with_reducible refine Below.drew ?_) | ((with_reducible refine Below.setCell ?_ ?_ _); rotate_left 1; (focus (first | omega | (simp; done) | (simp; omega)))))); exact HB.out))
   replace HOE : Hid (Rd w3 (0) (w.heap.size) (E) (ents es)) := by rw [Hid, hw]; (repeat (first | (with_reducible refine Rd.alloc ?_ _) | (with_reducible refine Rd.drew ?_) | ((with_reducible refine Rd.setCell ?_ ?_ _); rotate_left 1; (focus (first | omega | (simp; done) | (simp; omega)))))); exact HOE.out
   replace HOH : Hid (Rd w3 (0) (w.heap.size) (H) (hds hs)) := by rw [Hid, hw]; (repeat (first | (with_reducible refine Rd.alloc ?_ _) | (with_reducible refine Rd.drew ?_) | ((with_reducible refine Rd.setCell ?_ ?_ _); rotate_left 1; (focus (first | omega | (simp; done) | (simp; omega)))))); exact HOH.out
   replace HXb : Hid (NewBox w3 (p) [.int .i64 width, .slice E ne ce, .slice R nr cr, .slice H nh ch, .int .i64 z1, .slice A1 m1 c1, .int .i64 z2, .slice A2 m2 c2, .int .i64 h.num, .int .i64 h.size, .string h.root, .int .i64 h.taken, .string h.troot]) := by rw [Hid, hw]; (repeat (first | (with_reducible refine NewBox.alloc ?_ _) | (with_reducible refine NewBox.drew ?_) | ((with_reducible refine NewBox.setCell ?_ ?_ _); rotate_left 1; (focus (first | omega | (simp; done) | (simp; omega)))))); exact HXb.out
   clear hxb hfb hkb
   have hxb := HXb.out.2.1
   have hfb := HXb.out.2.2
   have hkb := HXb.out.1
   replace HXq : Hid (NewBox w3 (w.heap.size) [.string ⟨#[]⟩, .int .i64 0, .int .i64 0, .string ⟨#[]⟩, .string ⟨#[]⟩]) := by rw [Hid, hw]; apply NewBox.cast; (focus ((repeat (first | (with_reducible apply NewBox.alloc) | (with_reducible apply NewBox.drew) | (with_reducible apply NewBox.set1) | ((with_reducible apply NewBox.far); (focus (first | omega | (simp; done) | (simp; omega)))))); exact HXq.out)); rfl
   clear hxq hfq hkq
   have hxq := HXq.out.2.1
   have hfq := HXq.out.2.2
   have hkq := HXq.out.1
   clear hw
   refine bodyPost_ret (v := .tuple #[.agg #[.string ⟨#[]⟩, .int .i64 0, .int .i64 0, .string ⟨#[]⟩, .string ⟨#[]⟩], .slice none 0 0, .int .i64 3]) (by simp [results, Tryz.results79, go_sem, hxq]) rfl ?_
   rw [HEQ.out.1, HEQ.out.2.1, HEQ.out.2.2]
   exact ent_none _ _ HB.out 3
 ·obtain ⟨x1, x2⟩ := hgood
  obtain ⟨k, rfl⟩ : ∃ k : Nat, a = k := ⟨a.toNat, by omega⟩
  obtain ⟨m, rfl⟩ : ∃ m : Nat, c = m := ⟨c.toNat, by omega⟩
  have hin := lf_in width es hq1 (show k < m by omega)
  have hmn : m ≤ ne := by have := HW.out.2.2.2; omega
  have hkm : k < m := by omega
  have hq2 : ((leavesM width es).take m).length = m := by rw [List.length_take, HW.out.2.2.1]; omega
  have ha2 := areH_sub HW.out.2.1 (fun s hs => List.mem_of_mem_take hs : ∀ s ∈ (leavesM width es).take m, s ∈ leavesM width es)
  have hkl : k < es.length := by rw [HW.out.2.2.2]; omega
  have HKL := Lib.hid hkl
  obtain ⟨x, hx⟩ : ∃ x, es[k]? = some x := ⟨_, List.getElem?_eq_getElem hkl⟩
  rw [show es.getD k noEnt = x by rw [List.getD_eq_getElem?_getD, hx]; rfl] at hin
  have HEQ := Lib.hid hin
  have HX := Lib.hid hx
  have HIN := Lib.hid (fun W X d1 (r : Rd W 0 W.heap.size X (strs ((leavesM width es).take m))) (hd : m ≤ d1) => inclusion_c width HW.out.1 513 X d1 0 W.heap.size m k ((leavesM width es).take m) W r hq2 (by omega) (by omega) hd ha2 hkm)
  have HLV2 := Lib.hid (fun W (q : NewBox W p [.int .i64 width, .slice E ne ce, .slice R nr cr, .slice H nh ch, .int .i64 z1, .slice A1 m1 c1, .int .i64 z2, .slice A2 m2 c2, .int .i64 h.num, .int .i64 h.size, .string h.root, .int .i64 h.taken, .string h.troot]) (r : Rd W 0 W.heap.size E (ents es)) => HLV.out W m q r hmn)
  clear hin hx hq1 HNO HOUT HLE hkl hq2 ha2 HLV HW hle
  generalize incFu width 513 ((leavesM width es).take m) k = il at *
  generalize (leavesM width es).take m = lt at *
  go_wp2_with fail
  refine wp_named (fun w3 hw => ?_)
  have hz3 : w2.heap.size + 0 ≤ w3.heap.size := by rw [hw]; first | omega | (simp [World.setCell]; done) | (simp [World.setCell]; omega)
  have hzz3 : w.heap.size ≤ w3.heap.size := by omega
  have hbn : Below w2.heap.size w2 w3 := by rw [hw]; exact (by ((repeat (first | ((with_reducible refine Below.alloc ?_ ?_ _); rotate_left 1; (focus (first | omega | (simp; done) | (simp; omega)))) | (with_reducible refine Below.drew ?_) | ((with_reducible refine Below.setCell ?_ ?_ _); rotate_left 1; (focus (first | omega | (simp; done) | (simp; omega)))))); exact Below.refl _ _))
  replace HB := Lib.hid (below_then HB.out hbn HB.out.size)
  replace HOE := Lib.hid (HOE.out.below hbn)
  replace HOH := Lib.hid (HOH.out.below hbn)
  replace HXb := Lib.hid (HXb.out.below hbn)
  clear hxb hfb hkb
  have hxb := HXb.out.2.1
  have hfb := HXb.out.2.2
  have hkb := HXb.out.1
  replace HXq := Lib.hid (HXq.out.below hbn)
  clear hxq hfq hkq
  have hxq := HXq.out.2.1
  have hfq := HXq.out.2.2
  have hkq := HXq.out.1
  clear hbn
  clear hw
  obtain ⟨b2, off, y, hEe, hb2, hks, hcs⟩ := ent_cells HOE.out (k := k) HKL.out
  obtain rfl : x = y := Option.some.inj (HX.out.symm.trans hks)
  have c0 := hcs.1
  have c1' := hcs.2.1
  have c2' := hcs.2.2.1
  have c3' := hcs.2.2.2.1
  have c4' := hcs.2.2.2.2
  have hix := idxEnt E b2 off ne ce k hEe (by omega)
  clear hEe hks hcs
  obtain ⟨F, HF⟩ : ∃ F : Facts, Hid (F = fun iq xq tqs dsq uq => match iq with
   | 0 => xq.v = .pointer (some ⟨p, 0, none⟩)
   | 1 => xq.v = .pointer (some ⟨p, 0, none⟩)
   | 2 => xq.v = .pointer (some ⟨p, 1, none⟩)
   | 3 => xq.v = .pointer (some ⟨p, 1, none⟩)
   | 4 => xq.v = .slice E ne ce
   | 5 => xq.v = .int .i64 (k : Nat)
   | 6 => xq.v = .pointer (some ⟨b2, off + k * 5, none⟩)
   | 7 => xq.v = .agg #[.string x.topic, .int .i64 x.index, .int .i64 x.time, .string x.key, .string x.body]
   | 8 => xq.v = .pointer (some ⟨p, 0, none⟩)
   | 9 => xq.v = .pointer (some ⟨p, 0, none⟩)
   | 10 => xq.v = .pointer (some ⟨p, 0, none⟩)
   | 11 => xq.v = .int .i64 width
   | 12 => xq.v = .pointer (some ⟨p, 0, none⟩)
   | 13 => xq.v = .int .i64 (m : Nat)
   | 14 => ∃ (X1 : Option Addr) (d1 : Nat), xq.v = .slice X1 m d1 ∧ (RowB uq xq.s xq.e (.slice X1 m d1, m) (strs lt))
   | 15 => xq.v = .int .i64 (k : Nat)
   | 16 => ∃ (X3 : Option Addr) (d3 : Nat), xq.v = .slice X3 il.length d3 ∧ (RowB uq xq.s xq.e (.slice X3 il.length d3, il.length) (strs il))
   | 17 => NewBox uq (w.heap.size) [.string x.topic, .int .i64 x.index, .int .i64 x.time, .string x.key, .string x.body]
   | 18 => (match tqs, dsq with | [], [yq0] => ∃ (X3 : Option Addr) (d3 : Nat), yq0.v = .slice X3 il.length d3 ∧ xq.v = .slice X3 il.length d3 | _, _ => False)
   | 19 => xq.v = .int .i64 0
   | _ => False) := ⟨_, rfl⟩
  refine wp_region_facts [[], [], [], [], [], [], [], [], [], [], [], [], [], [], [], [], [], [], [16], []] [[], [], [], [], [], [], [], [], [], [], [], [], [], [], [], [], [], [], [], []] [some 22, some 23, some 24, some 25, some 26, some 27, some 28, some 29, some 30, some 31, some 32, some 33, some 34, some 35, some 36, some 37, some 38, none, some 7, some 8] (some 17) (w.heap.size) (w.heap.size + 1) (.inr (by omega)) F (by kernel_rfl) (by kernel_rfl) (by kernel_rfl) ?_ ⟨?_, ?_, ?_, ?_, ?_, ?_, ?_, ?_, ?_, ?_, ?_, ?_, ?_, ?_, ?_, ?_, ?_, ?_, ?_, ?_, trivial⟩ ?_
  ·rw [HF.out]; intro iq xq tqs dsq uq u' hi hf hs hW hx hbk
   have kx : ∀ b, xq.s ≤ b → b < xq.e → u'.heap[b]? = uq.heap[b]? := fun b h1 h2 => hbk b (.inr (.inl ⟨h1, h2⟩))
   have kt : ∀ t ∈ tqs, ∀ b, t.s ≤ b → b < t.e → u'.heap[b]? = uq.heap[b]? := fun t ht b h1 h2 => hbk b (.inr (.inr ⟨t, ht, h1, h2⟩))
   match iq with
   | 0 => exact hf
   | 1 => exact hf
   | 2 => exact hf
   | 3 => exact hf
   | 4 => exact hf
   | 5 => exact hf
   | 6 => exact hf
   | 7 => exact hf
   | 8 => exact hf
   | 9 => exact hf
   | 10 => exact hf
   | 11 => exact hf
   | 12 => exact hf
   | 13 => exact hf
   | 14 => obtain ⟨X1, d1, hv, p0⟩ := hf; exact ⟨X1, d1, hv, p0.keep (fun k _ h1 h2 => kx k h1 h2)⟩
   | 15 => exact hf
   | 16 => obtain ⟨X3, d3, hv, p0⟩ := hf; exact ⟨X3, d3, hv, p0.keep (fun k _ h1 h2 => kx k h1 h2)⟩
   | 17 => exact NewBox.keep hf hs (hbk _ (.inl ⟨hkq, .inr (.inr rfl)⟩))
   | 18 => exact hf
   | 19 => exact hf
  ·intro gh ρ u hc hf1 hg1 hd h0 hb he ha hF
   have r0 : ρ (.tmp 0) = .pointer (some ⟨p, 0, none⟩) := (h0 0 (by decide +kernel)).trans rfl
   clear  hd h0 he ha hF
   go_simp
   rw [HF.out]
   exact ⟨OnlyL.refl _ _, rfl⟩
  ·intro gh ρ u hc hf1 hg1 hd h0 hb he ha hF
   have r22 : ρ (.tmp 22) = .pointer (some ⟨p, 0, none⟩) := by have h := hF 0 (by decide +kernel) (by decide +kernel); rw [HF.out] at h; exact (hd 0 (by decide +kernel) 22 (by kernel_rfl)).trans h
   clear  hd h0 he ha hF
   go_simp
   rw [HF.out]
   exact ⟨OnlyL.refl _ _, rfl⟩
  ·intro gh ρ u hc hf1 hg1 hd h0 hb he ha hF
   have r23 : ρ (.tmp 23) = .pointer (some ⟨p, 0, none⟩) := by have h := hF 1 (by decide +kernel) (by decide +kernel); rw [HF.out] at h; exact (hd 1 (by decide +kernel) 23 (by kernel_rfl)).trans h
   clear  hd h0 he ha hF
   go_simp
   rw [HF.out]
   exact ⟨OnlyL.refl _ _, rfl⟩
  ·intro gh ρ u hc hf1 hg1 hd h0 hb he ha hF
   have r24 : ρ (.tmp 24) = .pointer (some ⟨p, 1, none⟩) := by have h := hF 2 (by decide +kernel) (by decide +kernel); rw [HF.out] at h; exact (hd 2 (by decide +kernel) 24 (by kernel_rfl)).trans h
   clear  hd h0 he ha hF
   go_simp
   rw [HF.out]
   exact ⟨OnlyL.refl _ _, rfl⟩
  ·intro gh ρ u hc hf1 hg1 hd h0 hb he ha hF
   first | (replace hb : Below w3.heap.size w3 u := hb.drew.below (by decide +kernel)) | (replace hb : Only (w.heap.size) (w.heap.size + 1) w3 u := hb.drew.only)
   have hbz : w3.heap.size ≤ u.heap.size := hb.size
   have r25 : ρ (.tmp 25) = .pointer (some ⟨p, 1, none⟩) := by have h := hF 3 (by decide +kernel) (by decide +kernel); rw [HF.out] at h; exact (hd 3 (by decide +kernel) 25 (by kernel_rfl)).trans h
   have q_b : ∀ o, u.cell? ⟨p, o, none⟩ = [.int .i64 width, .slice E ne ce, .slice R nr cr, .slice H nh ch, .int .i64 z1, .slice A1 m1 c1, .int .i64 z2, .slice A2 m2 c2, .int .i64 h.num, .int .i64 h.size, .string h.root, .int .i64 h.taken, .string h.troot][o]? := by first | exact (HXb.out.below hb).2.1 | exact (HXb.out.only hb (by omega)).2.1
   have k_b : p < u.heap.size := by have := HXb.out.1; omega
   replace c0 := by first | exact cell_later hb c0 | exact celo hb c0 (by omega)
   replace c1' := by first | exact cell_later hb c1' | exact celo hb c1' (by omega)
   replace c2' := by first | exact cell_later hb c2' | exact celo hb c2' (by omega)
   replace c3' := by first | exact cell_later hb c3' | exact celo hb c3' (by omega)
   replace c4' := by first | exact cell_later hb c4' | exact celo hb c4' (by omega)
   clear  hd h0 he ha hF
   go_simp
   rw [HF.out]
   exact ⟨OnlyL.refl _ _, rfl⟩
  ·intro gh ρ u hc hf1 hg1 hd h0 hb he ha hF
   have r1 : ρ (.tmp 1) = .int .i64 (k : Nat) := (h0 1 (by decide +kernel)).trans rfl
   clear  hd h0 he ha hF
   go_simp
   rw [HF.out]
   exact ⟨OnlyL.refl _ _, rfl⟩
  ·intro gh ρ u hc hf1 hg1 hd h0 hb he ha hF
   have r26 : ρ (.tmp 26) = .slice E ne ce := by have h := hF 4 (by decide +kernel) (by decide +kernel); rw [HF.out] at h; exact (hd 4 (by decide +kernel) 26 (by kernel_rfl)).trans h
   have r27 : ρ (.tmp 27) = .int .i64 (k : Nat) := by have h := hF 5 (by decide +kernel) (by decide +kernel); rw [HF.out] at h; exact (hd 5 (by decide +kernel) 27 (by kernel_rfl)).trans h
   clear  hd h0 he ha hF
   go_simp
   rw [HF.out]
   exact ⟨OnlyL.refl _ _, rfl⟩
  ·intro gh ρ u hc hf1 hg1 hd h0 hb he ha hF
   first | (replace hb : Below w3.heap.size w3 u := hb.drew.below (by decide +kernel)) | (replace hb : Only (w.heap.size) (w.heap.size + 1) w3 u := hb.drew.only)
   have hbz : w3.heap.size ≤ u.heap.size := hb.size
   have r28 : ρ (.tmp 28) = .pointer (some ⟨b2, off + k * 5, none⟩) := by have h := hF 6 (by decide +kernel) (by decide +kernel); rw [HF.out] at h; exact (hd 6 (by decide +kernel) 28 (by kernel_rfl)).trans h
   have q_b : ∀ o, u.cell? ⟨p, o, none⟩ = [.int .i64 width, .slice E ne ce, .slice R nr cr, .slice H nh ch, .int .i64 z1, .slice A1 m1 c1, .int .i64 z2, .slice A2 m2 c2, .int .i64 h.num, .int .i64 h.size, .string h.root, .int .i64 h.taken, .string h.troot][o]? := by first | exact (HXb.out.below hb).2.1 | exact (HXb.out.only hb (by omega)).2.1
   have k_b : p < u.heap.size := by have := HXb.out.1; omega
   replace c0 := by first | exact cell_later hb c0 | exact celo hb c0 (by omega)
   replace c1' := by first | exact cell_later hb c1' | exact celo hb c1' (by omega)
   replace c2' := by first | exact cell_later hb c2' | exact celo hb c2' (by omega)
   replace c3' := by first | exact cell_later hb c3' | exact celo hb c3' (by omega)
   replace c4' := by first | exact cell_later hb c4' | exact celo hb c4' (by omega)
   clear  hd h0 he ha hF
   go_simp
   rw [HF.out]
   exact ⟨OnlyL.refl _ _, rfl⟩
  ·intro gh ρ u hc hf1 hg1 hd h0 hb he ha hF
   have r0 : ρ (.tmp 0) = .pointer (some ⟨p, 0, none⟩) := (h0 0 (by decide +kernel)).trans rfl
   clear  hd h0 he ha hF
   go_simp
   rw [HF.out]
   exact ⟨OnlyL.refl _ _, rfl⟩
  ·intro gh ρ u hc hf1 hg1 hd h0 hb he ha hF
   have r30 : ρ (.tmp 30) = .pointer (some ⟨p, 0, none⟩) := by have h := hF 8 (by decide +kernel) (by decide +kernel); rw [HF.out] at h; exact (hd 8 (by decide +kernel) 30 (by kernel_rfl)).trans h
   clear  hd h0 he ha hF
   go_simp
   rw [HF.out]
   exact ⟨OnlyL.refl _ _, rfl⟩
  ·intro gh ρ u hc hf1 hg1 hd h0 hb he ha hF
   have r31 : ρ (.tmp 31) = .pointer (some ⟨p, 0, none⟩) := by have h := hF 9 (by decide +kernel) (by decide +kernel); rw [HF.out] at h; exact (hd 9 (by decide +kernel) 31 (by kernel_rfl)).trans h
   clear  hd h0 he ha hF
   go_simp
   rw [HF.out]
   exact ⟨OnlyL.refl _ _, rfl⟩
  ·intro gh ρ u hc hf1 hg1 hd h0 hb he ha hF
   first | (replace hb : Below w3.heap.size w3 u := hb.drew.below (by decide +kernel)) | (replace hb : Only (w.heap.size) (w.heap.size + 1) w3 u := hb.drew.only)
   have hbz : w3.heap.size ≤ u.heap.size := hb.size
   have r32 : ρ (.tmp 32) = .pointer (some ⟨p, 0, none⟩) := by have h := hF 10 (by decide +kernel) (by decide +kernel); rw [HF.out] at h; exact (hd 10 (by decide +kernel) 32 (by kernel_rfl)).trans h
   have q_b : ∀ o, u.cell? ⟨p, o, none⟩ = [.int .i64 width, .slice E ne ce, .slice R nr cr, .slice H nh ch, .int .i64 z1, .slice A1 m1 c1, .int .i64 z2, .slice A2 m2 c2, .int .i64 h.num, .int .i64 h.size, .string h.root, .int .i64 h.taken, .string h.troot][o]? := by first | exact (HXb.out.below hb).2.1 | exact (HXb.out.only hb (by omega)).2.1
   have k_b : p < u.heap.size := by have := HXb.out.1; omega
   replace c0 := by first | exact cell_later hb c0 | exact celo hb c0 (by omega)
   replace c1' := by first | exact cell_later hb c1' | exact celo hb c1' (by omega)
   replace c2' := by first | exact cell_later hb c2' | exact celo hb c2' (by omega)
   replace c3' := by first | exact cell_later hb c3' | exact celo hb c3' (by omega)
   replace c4' := by first | exact cell_later hb c4' | exact celo hb c4' (by omega)
   clear  hd h0 he ha hF
   go_simp
   rw [HF.out]
   exact ⟨OnlyL.refl _ _, rfl⟩
  ·intro gh ρ u hc hf1 hg1 hd h0 hb he ha hF
   have r0 : ρ (.tmp 0) = .pointer (some ⟨p, 0, none⟩) := (h0 0 (by decide +kernel)).trans rfl
   clear  hd h0 he ha hF
   go_simp
   rw [HF.out]
   exact ⟨OnlyL.refl _ _, rfl⟩
  ·intro gh ρ u hc hf1 hg1 hd h0 hb he ha hF
   have r2 : ρ (.tmp 2) = .int .i64 (m : Nat) := (h0 2 (by decide +kernel)).trans rfl
   clear  hd h0 he ha hF
   go_simp
   rw [HF.out]
   exact ⟨OnlyL.refl _ _, rfl⟩
  ·intro gh ρ u hc hf1 hg1 hd h0 hb he ha hF
   first | (replace hb : Below w3.heap.size w3 u := hb.drew.below (by decide +kernel)) | (replace hb : Only (w.heap.size) (w.heap.size + 1) w3 u := hb.drew.only)
   have hbz : w3.heap.size ≤ u.heap.size := hb.size
   have r34 : ρ (.tmp 34) = .pointer (some ⟨p, 0, none⟩) := by have h := hF 12 (by decide +kernel) (by decide +kernel); rw [HF.out] at h; exact (hd 12 (by decide +kernel) 34 (by kernel_rfl)).trans h
   have r35 : ρ (.tmp 35) = .int .i64 (m : Nat) := by have h := hF 13 (by decide +kernel) (by decide +kernel); rw [HF.out] at h; exact (hd 13 (by decide +kernel) 35 (by kernel_rfl)).trans h
   clear  hd h0 he ha hF
   go_simp
   have q_b := (HXb.out.below hb)
   refine (HLV2.out _ q_b (HOE.out.below hb).base).mono ?_
   rintro e u1 ⟨X1, d1, rfl, ho, hb1⟩
   rw [HF.out]
   exact ⟨_, rfl, OnlyL.of_below hb1, X1, d1, rfl, RowB.of ho⟩
  ·intro gh ρ u hc hf1 hg1 hd h0 hb he ha hF
   have r1 : ρ (.tmp 1) = .int .i64 (k : Nat) := (h0 1 (by decide +kernel)).trans rfl
   clear  hd h0 he ha hF
   go_simp
   rw [HF.out]
   exact ⟨OnlyL.refl _ _, rfl⟩
  ·intro gh ρ u hc hf1 hg1 hd h0 hb he ha hF
   first | (replace hb : Below w3.heap.size w3 u := hb.drew.below (by decide +kernel)) | (replace hb : Only (w.heap.size) (w.heap.size + 1) w3 u := hb.drew.only)
   have hbz : w3.heap.size ≤ u.heap.size := hb.size
   have r33 : ρ (.tmp 33) = .int .i64 width := by have h := hF 11 (by decide +kernel) (by decide +kernel); rw [HF.out] at h; exact (hd 11 (by decide +kernel) 33 (by kernel_rfl)).trans h
   have f14 : ∃ (X1 : Option Addr) (d1 : Nat), (gh 14).v = .slice X1 m d1 ∧ (RowB u (gh 14).s (gh 14).e (.slice X1 m d1, m) (strs lt)) := by have h := hF 14 (by decide +kernel) (by decide +kernel); rw [HF.out] at h; exact h
   obtain ⟨X1, d1, hv14, g14_0⟩ := f14
   have r36 : ρ (.tmp 36) = .slice X1 m d1 := (hd 14 (by decide +kernel) 36 (by kernel_rfl)).trans hv14
   have r37 : ρ (.tmp 37) = .int .i64 (k : Nat) := by have h := hF 15 (by decide +kernel) (by decide +kernel); rw [HF.out] at h; exact (hd 15 (by decide +kernel) 37 (by kernel_rfl)).trans h
   clear hv14 hd h0 he ha hF
   go_simp
   have q_b := (HXb.out.below hb)
   refine (HIN.out _ _ _ (Own.of_ownsRow g14_0.1).rd.base (row_cap g14_0.1)).mono ?_
   rintro e u1 ⟨X3, d3, rfl, ho, hb1⟩
   rw [HF.out]
   exact ⟨_, rfl, OnlyL.of_below hb1, X3, d3, rfl, RowB.of ho⟩
  ·intro gh ρ u hc hf1 hg1 hd h0 hb he ha hF
   first | (replace hb : Below w3.heap.size w3 u := hb.drew.below (by decide +kernel)) | (replace hb : Only (w.heap.size) (w.heap.size + 1) w3 u := hb.drew.only)
   have hbz : w3.heap.size ≤ u.heap.size := hb.size
   have r6 : ρ (.tmp 6) = .pointer (some ⟨w.heap.size, 0, none⟩) := (h0 6 (by decide +kernel)).trans rfl
   have r29 : ρ (.tmp 29) = .agg #[.string x.topic, .int .i64 x.index, .int .i64 x.time, .string x.key, .string x.body] := by have h := hF 7 (by decide +kernel) (by decide +kernel); rw [HF.out] at h; exact (hd 7 (by decide +kernel) 29 (by kernel_rfl)).trans h
   obtain ⟨hzk, hzc, hzf⟩ := HXq.out.below hb
   clear  hd h0 he ha hF
   go_simp
   rw [HF.out]
   refine ⟨?_, ?_⟩
   ·refine OnlyL.of_z (lo := w.heap.size) (hi := w.heap.size + 1) ?_ rfl; refine Only.setCell ?_ (by exact Nat.le_refl _) (by exact Nat.lt_succ_self _) _; refine Only.setCell ?_ (by exact Nat.le_refl _) (by exact Nat.lt_succ_self _) _; refine Only.setCell ?_ (by exact Nat.le_refl _) (by exact Nat.lt_succ_self _) _; refine Only.setCell ?_ (by exact Nat.le_refl _) (by exact Nat.lt_succ_self _) _; refine Only.setCell ?_ (by exact Nat.le_refl _) (by exact Nat.lt_succ_self _) _; exact Only.refl _ _ _
   ·show NewBox _ (w.heap.size) _
    exact ⟨by simpa [World.setCell] using hzk, fun o => by rcases o with _ | _ | _ | _ | _ | o <;> go_simp, fun o => by go_simp⟩
  ·intro gh ρ u hc hf1 hg1 hd h0 hb he ha hF
   have f16 : ∃ (X3 : Option Addr) (d3 : Nat), (gh 16).v = .slice X3 il.length d3 ∧ (RowB u (gh 16).s (gh 16).e (.slice X3 il.length d3, il.length) (strs il)) := by have h := hF 16 (by decide +kernel) (by decide +kernel); rw [HF.out] at h; exact h
   obtain ⟨X3, d3, hv16, g16_0⟩ := f16
   have hrt16 := hv16
   have r38 : ρ (.tmp 38) = .slice X3 il.length d3 := (hd 16 (by decide +kernel) 38 (by kernel_rfl)).trans hv16
   have HRT16 := Lib.hid hrt16
   clear hv16 hrt16 hd h0 he ha hF
   go_simp
   rw [HF.out]
   exact ⟨OnlyL.refl _ _, X3, d3, HRT16.out, rfl⟩
  ·intro gh ρ u hc hf1 hg1 hd h0 hb he ha hF
   clear  hd h0 he ha hF
   go_simp
   rw [HF.out]
   exact ⟨OnlyL.refl _ _, rfl⟩
  intro gh w4 hB hE hA hF
  replace hB : Only (w.heap.size) (w.heap.size + 1) w3 w4 := hB.only
  have f0 : (gh 0).v = .pointer (some ⟨p, 0, none⟩) := by have h := hF 0 (by decide +kernel) (by decide +kernel); rw [HF.out] at h; exact h
  have f1 : (gh 1).v = .pointer (some ⟨p, 0, none⟩) := by have h := hF 1 (by decide +kernel) (by decide +kernel); rw [HF.out] at h; exact h
  have f2 : (gh 2).v = .pointer (some ⟨p, 1, none⟩) := by have h := hF 2 (by decide +kernel) (by decide +kernel); rw [HF.out] at h; exact h
  have f3 : (gh 3).v = .pointer (some ⟨p, 1, none⟩) := by have h := hF 3 (by decide +kernel) (by decide +kernel); rw [HF.out] at h; exact h
  have f4 : (gh 4).v = .slice E ne ce := by have h := hF 4 (by decide +kernel) (by decide +kernel); rw [HF.out] at h; exact h
  have f5 : (gh 5).v = .int .i64 (k : Nat) := by have h := hF 5 (by decide +kernel) (by decide +kernel); rw [HF.out] at h; exact h
  have f6 : (gh 6).v = .pointer (some ⟨b2, off + k * 5, none⟩) := by have h := hF 6 (by decide +kernel) (by decide +kernel); rw [HF.out] at h; exact h
  have f7 : (gh 7).v = .agg #[.string x.topic, .int .i64 x.index, .int .i64 x.time, .string x.key, .string x.body] := by have h := hF 7 (by decide +kernel) (by decide +kernel); rw [HF.out] at h; exact h
  have f8 : (gh 8).v = .pointer (some ⟨p, 0, none⟩) := by have h := hF 8 (by decide +kernel) (by decide +kernel); rw [HF.out] at h; exact h
  have f9 : (gh 9).v = .pointer (some ⟨p, 0, none⟩) := by have h := hF 9 (by decide +kernel) (by decide +kernel); rw [HF.out] at h; exact h
  have f10 : (gh 10).v = .pointer (some ⟨p, 0, none⟩) := by have h := hF 10 (by decide +kernel) (by decide +kernel); rw [HF.out] at h; exact h
  have f11 : (gh 11).v = .int .i64 width := by have h := hF 11 (by decide +kernel) (by decide +kernel); rw [HF.out] at h; exact h
  have f12 : (gh 12).v = .pointer (some ⟨p, 0, none⟩) := by have h := hF 12 (by decide +kernel) (by decide +kernel); rw [HF.out] at h; exact h
  have f13 : (gh 13).v = .int .i64 (m : Nat) := by have h := hF 13 (by decide +kernel) (by decide +kernel); rw [HF.out] at h; exact h
  have f14 : ∃ (X1 : Option Addr) (d1 : Nat), (gh 14).v = .slice X1 m d1 ∧ (RowB w4 (gh 14).s (gh 14).e (.slice X1 m d1, m) (strs lt)) := by have h := hF 14 (by decide +kernel) (by decide +kernel); rw [HF.out] at h; exact h
  have f15 : (gh 15).v = .int .i64 (k : Nat) := by have h := hF 15 (by decide +kernel) (by decide +kernel); rw [HF.out] at h; exact h
  have f16 : ∃ (X3 : Option Addr) (d3 : Nat), (gh 16).v = .slice X3 il.length d3 ∧ (RowB w4 (gh 16).s (gh 16).e (.slice X3 il.length d3, il.length) (strs il)) := by have h := hF 16 (by decide +kernel) (by decide +kernel); rw [HF.out] at h; exact h
  have f17 : NewBox w4 (w.heap.size) [.string x.topic, .int .i64 x.index, .int .i64 x.time, .string x.key, .string x.body] := by have h := hF 17 (by decide +kernel) (by decide +kernel); rw [HF.out] at h; exact h
  have f18 : ∃ (X3 : Option Addr) (d3 : Nat), (gh 16).v = .slice X3 il.length d3 ∧ (gh 18).v = .slice X3 il.length d3 := by have h := hF 18 (by decide +kernel) (by decide +kernel); rw [HF.out] at h; exact h
  have f19 : (gh 19).v = .int .i64 0 := by have h := hF 19 (by decide +kernel) (by decide +kernel); rw [HF.out] at h; exact h
  obtain ⟨X1, d1, hv14, _⟩ := f14
  obtain ⟨X3, d3, hv16, hr3⟩ := f16
  have hv0 := f0
  have hv1 := f1
  have hv2 := f2
  have hv3 := f3
  have hv4 := f4
  have hv5 := f5
  have hv6 := f6
  have hv7 := f7
  have hv8 := f8
  have hv9 := f9
  have hv10 := f10
  have hv11 := f11
  have hv12 := f12
  have hv13 := f13
  have hv15 := f15
  have hx17 := f17
  obtain ⟨X3_18, d3_18, hu16, hv18⟩ := f18
  replace hu16 := hv16.symm.trans hu16
  simp at hu16
  try simp only [and_assoc] at hu16
  obtain ⟨rfl, rfl⟩ := hu16
  have hv19 := f19
  obtain ⟨hs16, hse16, he16⟩ := hE 16 (by decide +kernel)
  change w3.heap.size ≤ _ at hs16
  clear hE hA hF
  simp only [putDs, Nat.reduceAdd, hv0, hv1, hv2, hv3, hv4, hv5, hv6, hv7, hv8, hv9, hv10, hv11, hv12, hv13, hv14, hv15, hv16, hv18, hv19]
  clear hv0 hv1 hv2 hv3 hv4 hv5 hv6 hv7 hv8 hv9 hv10 hv11 hv12 hv13 hv14 hv15 hv16 hv18 hv19
  generalize (gh 16).s = s4_16 at *
  generalize (gh 16).e = e4_16 at *
  clear HF
  have hb := hB
  clear hB
  have hzw4 : w3.heap.size ≤ w4.heap.size := hb.size
  have hzzw4 : w.heap.size ≤ w4.heap.size := by omega
  replace HB := Lib.hid (below_only HB.out hb (by omega) HB.out.size)
  replace HOE := Lib.hid (HOE.out.only hb (by first | omega | (simp; omega)))
  replace HOH := Lib.hid (HOH.out.only hb (by first | omega | (simp; omega)))
  replace HXb := Lib.hid (HXb.out.only hb (by first | omega | (simp; omega)))
  clear hxb hfb hkb
  have hxb := HXb.out.2.1
  have hfb := HXb.out.2.2
  have hkb := HXb.out.1
  clear hxq hfq hkq HXq
  clear hb
  have HXq : Hid (NewBox w4 (w.heap.size) [.string x.topic, .int .i64 x.index, .int .i64 x.time, .string x.key, .string x.body]) := hx17
  have hxq := HXq.out.2.1
  have hfq := HXq.out.2.2
  have hkq := HXq.out.1
  clear hx17
  have HOU : Hid (RowB w4 (s4_16) (e4_16) ((.slice X3 il.length d3, il.length)) (strs il)) := hr3
  have hr39 : e4_16 ≤ w4.heap.size ∧ w.heap.size ≤ s4_16 ∧ s4_16 ≤ e4_16 := by omega
  clear hr3 HLV2 HIN
  go_wp2
  refine bodyPost_named (fun w5 hw => ?_)
  have hz5 : w4.heap.size + 0 ≤ w5.heap.size := by rw [hw]; first | omega | (simp [World.setCell]; done) | (simp [World.setCell]; omega)
  have hzz5 : w.heap.size ≤ w5.heap.size := by omega
  have hbn : Below w4.heap.size w4 w5 := by rw [hw]; exact (by ((repeat (first | ((with_reducible refine Below.alloc ?_ ?_ _); rotate_left 1; (focus (first | omega | (simp; done) | (simp; omega)))) | (with_reducible refine Below.drew ?_) | ((with_reducible refine Below.setCell ?_ ?_ _); rotate_left 1; (focus (first | omega | (simp; done) | (simp; omega)))))); exact Below.refl _ _))
  replace HB := Lib.hid (below_then HB.out hbn HB.out.size)
  replace HOE := Lib.hid (HOE.out.below hbn)
  replace HOH := Lib.hid (HOH.out.below hbn)
  replace HOU := Lib.hid (HOU.out.below hbn)
  replace HXb := Lib.hid (HXb.out.below hbn)
  clear hxb hfb hkb
  have hxb := HXb.out.2.1
  have hfb := HXb.out.2.2
  have hkb := HXb.out.1
  replace HXq := Lib.hid (HXq.out.below hbn)
  clear hxq hfq hkq
  have hxq := HXq.out.2.1
  have hfq := HXq.out.2.2
  have hkq := HXq.out.1
  clear hbn
  clear hw
  refine bodyPost_ret (v := .tuple #[.agg #[.string x.topic, .int .i64 x.index, .int .i64 x.time, .string x.key, .string x.body], .slice X3 il.length d3, .int .i64 0]) (by simp [results, Tryz.results79, go_sem, hxq]) rfl ?_
  rw [HEQ.out.1, HEQ.out.2.1, HEQ.out.2.2]
  exact ⟨⟨X3, d3, rfl, (HOU.out.ownB rfl (by omega) (by omega)).mono (by omega) (by omega) (by omega)⟩, HB.out⟩
set_option maxRecDepth 100000 in
set_option maxHeartbeats 4000000 in
theorem l12Leaf_c (width z1 z2 : Int) (E R H A1 A2 : Option Addr) (ne nr nh ce cr ch c1 c2 lo1 hi1 lo3 hi3 m1 m2 : Nat) (es : List Ent) (rs : List Rcp) (hs : List Hd) (h : Hd) (a c : Int) (w : World)
  (hE : Rd w lo1 hi1 E (ents es)) (hH : Rd w lo3 hi3 H (hds hs)) (hne : es.length = ne) (hnh : hs.length = nh) (b1 : ne ≤ 1048576) (b3 : nh ≤ 1048576) (b6 : ne ≤ ce) (hfe : ∀ x ∈ es, x.fits) (hp : BrkParts width es rs hs) :
  Calls Tryz.prog 78 #[.agg #[.int .i64 width, .slice E ne ce, .slice R nr cr, .slice H nh ch, .int .i64 z1, .slice A1 m1 c1, .int .i64 z2, .slice A2 m2 c2, .int .i64 h.num, .int .i64 h.size, .string h.root, .int .i64 h.taken, .string h.troot], .int .i64 a, .int .i64 c] w (EntPost w (lfE es hs a c) (lfL width es hs a c) (lfC hs a c)) := by
 have HLE := Lib.hid (fun (hq : hasHd hs c = true) => has_le hp hq)
 have HNO := Lib.hid (fun (hq : hasHd hs c = false) => lf_no (k := a) width es hq)
 have HOUT := Lib.hid (fun (hq : hasHd hs c = true) (hk : a < 0 ∨ c ≤ a) => lf_out width es hq hk)
 have hla := leavesM_are hp.wd hp.log
 have hll := (leavesM_len width es).trans hne
 have h51 : ne ≤ 512 := by rw [← hne]; exact logOk_len hp.log
 have HW := Lib.hid (And.intro hp.wd (And.intro hla (And.intro hll hne)))
 have HNH := Lib.hid hnh
 have HLV := Lib.hid (fun W m (r : Rd W 0 W.heap.size E (ents es)) (hm : m ≤ ne) => l09Hashes_c width E ce 0 W.heap.size m (es.take m) W (r.entsTake m) (by rw [List.length_take]; omega) (by omega) (fun x hx => hfe x (List.mem_of_mem_take hx)))
 have HB : Hid (Below w.heap.size w w) := Below.refl _ _
 have HOE : Hid (Rd w (0) (w.heap.size) (E) (ents es)) := Rd.base hE
 have HOH : Hid (Rd w (0) (w.heap.size) (H) (hds hs)) := Rd.base hH
 clear hE hH hne hnh hfe hp hla hll
 go_enter Tryz.func78, Tryz.ntmps78
 go_wp2_with fail
 refine calls_named (fun w1 hw => ?_)
 have hz1 : w.heap.size + 2 ≤ w1.heap.size := by rw [hw]; first | omega | (simp [World.setCell]; done) | (simp [World.setCell]; omega)
 have hzz1 : w.heap.size ≤ w1.heap.size := by omega
 have hbn : Below w.heap.size w w1 := by rw [hw]; exact (by ((repeat (first | ((with_reducible refine Below.alloc ?_ ?_ _); rotate_left 1; (focus (first | omega | (simp; done) | (simp; omega)))) | (with_reducible refine Below.drew ?_) | ((with_reducible refine Below.setCell ?_ ?_ _); rotate_left 1; (focus (first | omega | (simp; done) | (simp; omega)))))); exact Below.refl _ _))
 replace HB := Lib.hid (below_then HB.out hbn HB.out.size)
 replace HOE := Lib.hid (HOE.out.below hbn)
 replace HOH := Lib.hid (HOH.out.below hbn)
 clear hbn
 have HXb : Hid (NewBox w1 (w.heap.size) [.int .i64 width, .slice E ne ce, .slice R nr cr, .slice H nh ch, .int .i64 z1, .slice A1 m1 c1, .int .i64 z2, .slice A2 m2 c2, .int .i64 h.num, .int .i64 h.size, .string h.root, .int .i64 h.taken, .string h.troot]) := by rw [Hid, hw]; exact ⟨by first | omega | (simp [World.setCell]; done) | (simp [World.setCell]; omega), fun o => by rcases o with _ | _ | _ | _ | _ | _ | _ | _ | _ | _ | _ | _ | _ | o <;> go_simp, fun o => by go_simp⟩
 have hxb := HXb.out.2.1
 have hfb := HXb.out.2.2
 have hkb := HXb.out.1
 have HXq : Hid (NewBox w1 (w.heap.size + 1) [.string ⟨#[]⟩, .int .i64 0, .int .i64 0, .string ⟨#[]⟩, .string ⟨#[]⟩]) := by rw [Hid, hw]; exact ⟨by first | omega | (simp [World.setCell]; done) | (simp [World.setCell]; omega), fun o => by rcases o with _ | _ | _ | _ | _ | o <;> go_simp, fun o => by go_simp⟩
 have hxq := HXq.out.2.1
 have hfq := HXq.out.2.2
 have hkq := HXq.out.1
 clear hw
 refine (l12HasSize_c width z1 z2 E R H A1 A2 ne nr nh ce cr ch c1 c2 0 (w1).heap.size m1 m2 hs h c w1 HOH.out.base HNH.out b3).mono ?_
 rintro e w2 ⟨rfl, hb⟩
 have hzw2 : w1.heap.size ≤ w2.heap.size := hb.size
 have hzzw2 : w.heap.size ≤ w2.heap.size := by omega
 replace HB := Lib.hid (below_then HB.out hb HB.out.size)
 replace HOE := Lib.hid (HOE.out.below hb)
 replace HOH := Lib.hid (HOH.out.below hb)
 replace HXb := Lib.hid (HXb.out.below hb)
 clear hxb hfb hkb
 have hxb := HXb.out.2.1
 have hfb := HXb.out.2.2
 have hkb := HXb.out.1
 replace HXq := Lib.hid (HXq.out.below hb)
 clear hxq hfq hkq
 have hxq := HXq.out.2.1
 have hfq := HXq.out.2.2
 have hkq := HXq.out.1
 clear hb
 rcases hq1 : hasHd hs c with _ | _
 ·have HEQ := Lib.hid (HNO.out hq1)
  clear HNO HOUT HLE hq1 HLV HW
  go_wp2
  refine bodyPost_named (fun w3 hw => ?_)
  have hz3 : w2.heap.size + 1 ≤ w3.heap.size := by rw [hw]; first | omega | (simp [World.setCell]; done) | (simp [World.setCell]; omega)
  have hzz3 : w.heap.size ≤ w3.heap.size := by omega
  replace HB : Hid (Below w.heap.size w w3) := by rw [Hid, hw]; exact (by ((repeat (first | ((with_reducible refine Below.alloc ?_ ?_ _); rotate_left 1; (focus (first | omega | (simp; done) | (simp; omega)))) | (with_reducible refine Below.drew ?_) | ((with_reducible refine Below.setCell ?_ ?_ _); rotate_left 1; (focus (first | omega | (simp; done) | (simp; omega)))))); exact HB.out))
  replace HOE : Hid (Rd w3 (0) (w.heap.size) (E) (ents es)) := by rw [Hid, hw]; (repeat (first | (with_reducible refine Rd.alloc ?_ _) | (with_reducible refine Rd.drew ?_) | ((with_reducible refine Rd.setCell ?_ ?_ _); rotate_left 1; (focus (first | omega | (simp; done) | (simp; omega)))))); exact HOE.out
  replace HOH : Hid (Rd w3 (0) (w.heap.size) (H) (hds hs)) := by rw [Hid, hw]; (repeat (first | (with_reducible refine Rd.alloc ?_ _) | (with_reducible refine Rd.drew ?_) | ((with_reducible refine Rd.setCell ?_ ?_ _); rotate_left 1; (focus (first | omega | (simp; done) | (simp; omega)))))); exact HOH.out
  replace HXb : Hid (NewBox w3 (w.heap.size) [.int .i64 width, .slice E ne ce, .slice R nr cr, .slice H nh ch, .int .i64 z1, .slice A1 m1 c1, .int .i64 z2, .slice A2 m2 c2, .int .i64 h.num, .int .i64 h.size, .string h.root, .int .i64 h.taken, .string h.troot]) := by rw [Hid, hw]; (repeat (first | (with_reducible refine NewBox.alloc ?_ _) | (with_reducible refine NewBox.drew ?_) | ((with_reducible refine NewBox.setCell ?_ ?_ _); rotate_left 1; (focus (first | omega | (simp; done) | (simp; omega)))))); exact HXb.out
  clear hxb hfb hkb
  have hxb := HXb.out.2.1
  have hfb := HXb.out.2.2
  have hkb := HXb.out.1
  replace HXq : Hid (NewBox w3 (w.heap.size + 1) [.string ⟨#[]⟩, .int .i64 0, .int .i64 0, .string ⟨#[]⟩, .string ⟨#[]⟩]) := by rw [Hid, hw]; apply NewBox.cast; (focus ((repeat (first | (with_reducible apply NewBox.alloc) | (with_reducible apply NewBox.drew) | (with_reducible apply NewBox.set1) | ((with_reducible apply NewBox.far); (focus (first | omega | (simp; done) | (simp; omega)))))); exact HXq.out)); rfl
  clear hxq hfq hkq
  have hxq := HXq.out.2.1
  have hfq := HXq.out.2.2
  have hkq := HXq.out.1
  have HXe1 : Hid (NewBox w3 (w2.heap.size) []) := by rw [Hid, hw]; exact ⟨by first | omega | (simp [World.setCell]; done) | (simp [World.setCell]; omega), fun o => by rcases o with o <;> go_simp, fun o => by go_simp⟩
  have hxe1 := HXe1.out.2.1
  have hfe1 := HXe1.out.2.2
  have hke1 := HXe1.out.1
  clear hw
  refine bodyPost_ret (v := .tuple #[.agg #[.string ⟨#[]⟩, .int .i64 0, .int .i64 0, .string ⟨#[]⟩, .string ⟨#[]⟩], .slice (some ⟨w2.heap.size, 0, none⟩) 0 0, .int .i64 2]) (by simp [results, Tryz.results78, go_sem, hxq]) rfl ?_
  rw [HEQ.out.1, HEQ.out.2.1, HEQ.out.2.2]
  exact ent_none _ _ HB.out 2
 have hle := HLE.out hq1
 rcases (show (a < 0 ∨ c ≤ a) ∨ (0 ≤ a ∧ a < c) by omega) with hbad | hgood
 ·have HEQ := Lib.hid (HOUT.out hq1 hbad)
  clear HNO HOUT HLE hq1 HLV HW
  rcases (show a < 0 ∨ (0 ≤ a ∧ c ≤ a) by omega) with x1 | ⟨x1, x2⟩
  all_goals
   clear hbad
   go_wp2
   refine bodyPost_named (fun w3 hw => ?_)
   have hz3 : w2.heap.size + 1 ≤ w3.heap.size := by rw [hw]; first | omega | (simp [World.setCell]; done) | (simp [World.setCell]; omega)
   have hzz3 : w.heap.size ≤ w3.heap.size := by omega
   replace HB : Hid (Below w.heap.size w w3) := by rw [Hid, hw]; exact (by ((repeat (first | ((with_reducible refine Below.alloc ?_ ?_ _); rotate_left 1; (focus (first | omega | (simp; done) | (simp; omega)))) | (with_reducible refine Below.drew ?_) | ((with_reducible refine Below.setCell ?_ ?_ _); rotate_left 1; (focus (first | omega | (simp; done) | (simp; omega)))))); exact HB.out))
   replace HOE : Hid (Rd w3 (0) (w.heap.size) (E) (ents es)) := by rw [Hid, hw]; (repeat (first | (with_reducible refine Rd.alloc ?_ _) | (with_reducible refine Rd.drew ?_) | ((with_reducible refine Rd.setCell ?_ ?_ _); rotate_left 1; (focus (first | omega | (simp; done) | (simp; omega)))))); exact HOE.out
   replace HOH : Hid (Rd w3 (0) (w.heap.size) (H) (hds hs)) := by rw [Hid, hw]; (repeat (first | (with_reducible refine Rd.alloc ?_ _) | (with_reducible refine Rd.drew ?_) | ((with_reducible refine Rd.setCell ?_ ?_ _); rotate_left 1; (focus (first | omega | (simp; done) | (simp; omega)))))); exact HOH.out
   replace HXb : Hid (NewBox w3 (w.heap.size) [.int .i64 width, .slice E ne ce, .slice R nr cr, .slice H nh ch, .int .i64 z1, .slice A1 m1 c1, .int .i64 z2, .slice A2 m2 c2, .int .i64 h.num, .int .i64 h.size, .string h.root, .int .i64 h.taken, .string h.troot]) := by rw [Hid, hw]; (repeat (first | (with_reducible refine NewBox.alloc ?_ _) | (with_reducible refine NewBox.drew ?_) | ((with_reducible refine NewBox.setCell ?_ ?_ _); rotate_left 1; (focus (first | omega | (simp; done) | (simp; omega)))))); exact HXb.out
   clear hxb hfb hkb
   have hxb := HXb.out.2.1
   have hfb := HXb.out.2.2
   have hkb := HXb.out.1
   replace HXq : Hid (NewBox w3 (w.heap.size + 1) [.string ⟨#[]⟩, .int .i64 0, .int .i64 0, .string ⟨#[]⟩, .string ⟨#[]⟩]) := by rw [Hid, hw]; apply NewBox.cast; (focus ((repeat (first | (with_reducible apply NewBox.alloc) | (with_reducible apply NewBox.drew) | (with_reducible apply NewBox.set1) | ((with_reducible apply NewBox.far); (focus (first | omega | (simp; done) | (simp; omega)))))); exact HXq.out)); rfl
   clear hxq hfq hkq
   have hxq := HXq.out.2.1
   have hfq := HXq.out.2.2
   have hkq := HXq.out.1
   have HXe1 : Hid (NewBox w3 (w2.heap.size) []) := by rw [Hid, hw]; exact ⟨by first | omega | (simp [World.setCell]; done) | (simp [World.setCell]; omega), fun o => by rcases o with o <;> go_simp, fun o => by go_simp⟩
   have hxe1 := HXe1.out.2.1
   have hfe1 := HXe1.out.2.2
   have hke1 := HXe1.out.1
   clear hw
   refine bodyPost_ret (v := .tuple #[.agg #[.string ⟨#[]⟩, .int .i64 0, .int .i64 0, .string ⟨#[]⟩, .string ⟨#[]⟩], .slice (some ⟨w2.heap.size, 0, none⟩) 0 0, .int .i64 3]) (by simp [results, Tryz.results78, go_sem, hxq]) rfl ?_
   rw [HEQ.out.1, HEQ.out.2.1, HEQ.out.2.2]
   exact ent_none _ _ HB.out 3
 ·obtain ⟨x1, x2⟩ := hgood
  obtain ⟨k, rfl⟩ : ∃ k : Nat, a = k := ⟨a.toNat, by omega⟩
  obtain ⟨m, rfl⟩ : ∃ m : Nat, c = m := ⟨c.toNat, by omega⟩
  have hin := lf_in width es hq1 (show k < m by omega)
  have hmn : m ≤ ne := by have := HW.out.2.2.2; omega
  have hkm : k < m := by omega
  have hq2 : ((leavesM width es).take m).length = m := by rw [List.length_take, HW.out.2.2.1]; omega
  have ha2 := areH_sub HW.out.2.1 (fun s hs => List.mem_of_mem_take hs : ∀ s ∈ (leavesM width es).take m, s ∈ leavesM width es)
  have hkl : k < es.length := by rw [HW.out.2.2.2]; omega
  have HKL := Lib.hid hkl
  obtain ⟨x, hx⟩ : ∃ x, es[k]? = some x := ⟨_, List.getElem?_eq_getElem hkl⟩
  rw [show es.getD k noEnt = x by rw [List.getD_eq_getElem?_getD, hx]; rfl] at hin
  have HEQ := Lib.hid hin
  have HX := Lib.hid hx
  have hpe := slicePreE E ne ce m (by omega)
  have HIN := Lib.hid (fun W X d1 (r : Rd W 0 W.heap.size X (strs ((leavesM width es).take m))) (hd : m ≤ d1) => specInclusion_c width HW.out.1 X d1 0 W.heap.size m k ((leavesM width es).take m) W r hq2 (by omega) hd ha2 hkm)
  have hlv := fun W (r : Rd W 0 W.heap.size E (ents es)) => HLV.out W m r hmn
  rw [show (es.take m).map (leafHashM width) = (leavesM width es).take m from List.map_take] at hlv
  have HLV2 := Lib.hid hlv
  clear hlv hin hx hq1 HNO HOUT HLE hkl hq2 ha2 HLV HW hle
  generalize incFu width 513 ((leavesM width es).take m) k = il at *
  generalize (leavesM width es).take m = lt at *
  go_wp2
  go_wp2_with fail
  refine wp_named (fun w3 hw => ?_)
  have hz3 : w2.heap.size + 0 ≤ w3.heap.size := by rw [hw]; first | omega | (simp [World.setCell]; done) | (simp [World.setCell]; omega)
  have hzz3 : w.heap.size ≤ w3.heap.size := by omega
  have hbn : Below w2.heap.size w2 w3 := by rw [hw]; exact (by ((repeat (first | ((with_reducible refine Below.alloc ?_ ?_ _); rotate_left 1; (focus (first | omega | (simp; done) | (simp; omega)))) | (with_reducible refine Below.drew ?_) | ((with_reducible refine Below.setCell ?_ ?_ _); rotate_left 1; (focus (first | omega | (simp; done) | (simp; omega)))))); exact Below.refl _ _))
  replace HB := Lib.hid (below_then HB.out hbn HB.out.size)
  replace HOE := Lib.hid (HOE.out.below hbn)
  replace HOH := Lib.hid (HOH.out.below hbn)
  replace HXb := Lib.hid (HXb.out.below hbn)
  clear hxb hfb hkb
  have hxb := HXb.out.2.1
  have hfb := HXb.out.2.2
  have hkb := HXb.out.1
  replace HXq := Lib.hid (HXq.out.below hbn)
  clear hxq hfq hkq
  have hxq := HXq.out.2.1
  have hfq := HXq.out.2.2
  have hkq := HXq.out.1
  clear hbn
  clear hw
  obtain ⟨F, HF⟩ : ∃ F : Facts, Hid (F = fun iq xq tqs dsq uq => match iq with
   | 0 => xq.v = .pointer (some ⟨(w.heap.size), 0, none⟩)
   | 1 => xq.v = .int .i64 width
   | 2 => xq.v = .pointer (some ⟨(w.heap.size), 0, none⟩)
   | 3 => xq.v = .int .i64 width
   | 4 => xq.v = .pointer (some ⟨(w.heap.size), 1, none⟩)
   | 5 => xq.v = .pointer (some ⟨(w.heap.size), 1, none⟩)
   | 6 => xq.v = .slice E ne ce
   | 7 => xq.v = .int .i64 (m : Nat)
   | 8 => xq.v = .slice E m ce
   | 9 => ∃ (X1 : Option Addr) (d1 : Nat), xq.v = .slice X1 m d1 ∧ (RowB uq xq.s xq.e (.slice X1 m d1, m) (strs lt))
   | 10 => xq.v = .int .i64 (k : Nat)
   | 11 => ∃ (X3 : Option Addr) (d3 : Nat), xq.v = .tuple #[.slice X3 il.length d3, .bool true] ∧ (RowB uq xq.s xq.e (.slice X3 il.length d3, il.length) (strs il))
   | 12 => (match tqs, dsq with | [], [yq0] => ∃ (X3 : Option Addr) (d3 : Nat), yq0.v = .tuple #[.slice X3 il.length d3, .bool true] ∧ xq.v = .tuple #[.slice X3 il.length d3, .bool true] | _, _ => False)
   | 13 => (match tqs, dsq with | [], [yq0] => ∃ (X3 : Option Addr) (d3 : Nat), yq0.v = .tuple #[.slice X3 il.length d3, .bool true] ∧ xq.v = .slice X3 il.length d3 | _, _ => False)
   | 14 => (match tqs, dsq with | [], [yq0] => ∃ (X3 : Option Addr) (d3 : Nat), yq0.v = .tuple #[.slice X3 il.length d3, .bool true] ∧ xq.v = .bool true | _, _ => False)
   | 15 => (match tqs, dsq with | [], [yq0] => ∃ (X3 : Option Addr) (d3 : Nat), yq0.v = .tuple #[.slice X3 il.length d3, .bool true] ∧ xq.v = .slice X3 il.length d3 | _, _ => False)
   | 16 => (match tqs, dsq with | [], [yq0] => ∃ (X3 : Option Addr) (d3 : Nat), yq0.v = .tuple #[.slice X3 il.length d3, .bool true] ∧ xq.v = .bool true | _, _ => False)
   | _ => False) := ⟨_, rfl⟩
  refine wp_region_facts [[], [], [], [], [], [], [], [], [], [], [], [], [11], [11], [11], [11], [11]] [[], [], [], [], [], [], [], [], [], [], [], [], [], [], [], [], []] [some 27, some 28, some 29, some 30, some 31, some 32, some 33, some 34, some 35, some 36, some 37, some 38, some 26, some 39, some 40, some 9, some 10] none 0 0 (.inl rfl) F (by kernel_rfl) (by kernel_rfl) (by kernel_rfl) ?_ ⟨?_, ?_, ?_, ?_, ?_, ?_, ?_, ?_, ?_, ?_, ?_, ?_, ?_, ?_, ?_, ?_, ?_, trivial⟩ ?_
  ·rw [HF.out]; intro iq xq tqs dsq uq u' hi hf hs hW hx hbk
   have kx : ∀ b, xq.s ≤ b → b < xq.e → u'.heap[b]? = uq.heap[b]? := fun b h1 h2 => hbk b (.inr (.inl ⟨h1, h2⟩))
   have kt : ∀ t ∈ tqs, ∀ b, t.s ≤ b → b < t.e → u'.heap[b]? = uq.heap[b]? := fun t ht b h1 h2 => hbk b (.inr (.inr ⟨t, ht, h1, h2⟩))
   match iq with
   | 0 => exact hf
   | 1 => exact hf
   | 2 => exact hf
   | 3 => exact hf
   | 4 => exact hf
   | 5 => exact hf
   | 6 => exact hf
   | 7 => exact hf
   | 8 => exact hf
   | 9 => obtain ⟨X1, d1, hv, p0⟩ := hf; exact ⟨X1, d1, hv, p0.keep (fun k _ h1 h2 => kx k h1 h2)⟩
   | 10 => exact hf
   | 11 => obtain ⟨X3, d3, hv, p0⟩ := hf; exact ⟨X3, d3, hv, p0.keep (fun k _ h1 h2 => kx k h1 h2)⟩
   | 12 => exact hf
   | 13 => exact hf
   | 14 => exact hf
   | 15 => exact hf
   | 16 => exact hf
  ·intro gh ρ u hc hf1 hg1 hd h0 hb he ha hF
   have r3 : ρ (.tmp 3) = .pointer (some ⟨w.heap.size, 0, none⟩) := (h0 3 (by decide +kernel)).trans rfl
   clear  hd h0 he ha hF
   go_simp
   rw [HF.out]
   exact ⟨OnlyL.refl _ _, rfl⟩
  ·intro gh ρ u hc hf1 hg1 hd h0 hb he ha hF
   replace hb : Below w3.heap.size w3 u := hb.drew.below (by decide +kernel)
   have hbz : w3.heap.size ≤ u.heap.size := hb.size
   have r27 : ρ (.tmp 27) = .pointer (some ⟨(w.heap.size), 0, none⟩) := by have h := hF 0 (by decide +kernel) (by decide +kernel); rw [HF.out] at h; exact (hd 0 (by decide +kernel) 27 (by kernel_rfl)).trans h
   have q_b := (HXb.out.below hb).2.1
   have k_b : w.heap.size < u.heap.size := by have := HXb.out.1; omega
   clear  hd h0 he ha hF
   go_simp
   rw [HF.out]
   exact ⟨OnlyL.refl _ _, rfl⟩
  ·intro gh ρ u hc hf1 hg1 hd h0 hb he ha hF
   have r3 : ρ (.tmp 3) = .pointer (some ⟨w.heap.size, 0, none⟩) := (h0 3 (by decide +kernel)).trans rfl
   clear  hd h0 he ha hF
   go_simp
   rw [HF.out]
   exact ⟨OnlyL.refl _ _, rfl⟩
  ·intro gh ρ u hc hf1 hg1 hd h0 hb he ha hF
   replace hb : Below w3.heap.size w3 u := hb.drew.below (by decide +kernel)
   have hbz : w3.heap.size ≤ u.heap.size := hb.size
   have r29 : ρ (.tmp 29) = .pointer (some ⟨(w.heap.size), 0, none⟩) := by have h := hF 2 (by decide +kernel) (by decide +kernel); rw [HF.out] at h; exact (hd 2 (by decide +kernel) 29 (by kernel_rfl)).trans h
   have q_b := (HXb.out.below hb).2.1
   have k_b : w.heap.size < u.heap.size := by have := HXb.out.1; omega
   clear  hd h0 he ha hF
   go_simp
   rw [HF.out]
   exact ⟨OnlyL.refl _ _, rfl⟩
  ·intro gh ρ u hc hf1 hg1 hd h0 hb he ha hF
   have r3 : ρ (.tmp 3) = .pointer (some ⟨w.heap.size, 0, none⟩) := (h0 3 (by decide +kernel)).trans rfl
   clear  hd h0 he ha hF
   go_simp
   rw [HF.out]
   exact ⟨OnlyL.refl _ _, rfl⟩
  ·intro gh ρ u hc hf1 hg1 hd h0 hb he ha hF
   have r31 : ρ (.tmp 31) = .pointer (some ⟨(w.heap.size), 1, none⟩) := by have h := hF 4 (by decide +kernel) (by decide +kernel); rw [HF.out] at h; exact (hd 4 (by decide +kernel) 31 (by kernel_rfl)).trans h
   clear  hd h0 he ha hF
   go_simp
   rw [HF.out]
   exact ⟨OnlyL.refl _ _, rfl⟩
  ·intro gh ρ u hc hf1 hg1 hd h0 hb he ha hF
   replace hb : Below w3.heap.size w3 u := hb.drew.below (by decide +kernel)
   have hbz : w3.heap.size ≤ u.heap.size := hb.size
   have r32 : ρ (.tmp 32) = .pointer (some ⟨(w.heap.size), 1, none⟩) := by have h := hF 5 (by decide +kernel) (by decide +kernel); rw [HF.out] at h; exact (hd 5 (by decide +kernel) 32 (by kernel_rfl)).trans h
   have q_b := (HXb.out.below hb).2.1
   have k_b : w.heap.size < u.heap.size := by have := HXb.out.1; omega
   clear  hd h0 he ha hF
   go_simp
   rw [HF.out]
   exact ⟨OnlyL.refl _ _, rfl⟩
  ·intro gh ρ u hc hf1 hg1 hd h0 hb he ha hF
   have r2 : ρ (.tmp 2) = .int .i64 (m : Nat) := (h0 2 (by decide +kernel)).trans rfl
   clear  hd h0 he ha hF
   go_simp
   rw [HF.out]
   exact ⟨OnlyL.refl _ _, rfl⟩
  ·intro gh ρ u hc hf1 hg1 hd h0 hb he ha hF
   have r33 : ρ (.tmp 33) = .slice E ne ce := by have h := hF 6 (by decide +kernel) (by decide +kernel); rw [HF.out] at h; exact (hd 6 (by decide +kernel) 33 (by kernel_rfl)).trans h
   have r34 : ρ (.tmp 34) = .int .i64 (m : Nat) := by have h := hF 7 (by decide +kernel) (by decide +kernel); rw [HF.out] at h; exact (hd 7 (by decide +kernel) 34 (by kernel_rfl)).trans h
   clear  hd h0 he ha hF
   go_simp
   rw [HF.out]
   exact ⟨OnlyL.refl _ _, rfl⟩
  ·intro gh ρ u hc hf1 hg1 hd h0 hb he ha hF
   replace hb : Below w3.heap.size w3 u := hb.drew.below (by decide +kernel)
   have hbz : w3.heap.size ≤ u.heap.size := hb.size
   have r30 : ρ (.tmp 30) = .int .i64 width := by have h := hF 3 (by decide +kernel) (by decide +kernel); rw [HF.out] at h; exact (hd 3 (by decide +kernel) 30 (by kernel_rfl)).trans h
   have r35 : ρ (.tmp 35) = .slice E m ce := by have h := hF 8 (by decide +kernel) (by decide +kernel); rw [HF.out] at h; exact (hd 8 (by decide +kernel) 35 (by kernel_rfl)).trans h
   clear  hd h0 he ha hF
   go_simp
   have q_b := (HXb.out.below hb)
   refine (HLV2.out _ (HOE.out.below hb).base).mono ?_
   rintro e u1 ⟨X1, d1, rfl, ho, hb1⟩
   rw [HF.out]
   exact ⟨_, rfl, OnlyL.of_below hb1, X1, d1, rfl, RowB.of ho⟩
  ·intro gh ρ u hc hf1 hg1 hd h0 hb he ha hF
   have r1 : ρ (.tmp 1) = .int .i64 (k : Nat) := (h0 1 (by decide +kernel)).trans rfl
   clear  hd h0 he ha hF
   go_simp
   rw [HF.out]
   exact ⟨OnlyL.refl _ _, rfl⟩
  ·intro gh ρ u hc hf1 hg1 hd h0 hb he ha hF
   replace hb : Below w3.heap.size w3 u := hb.drew.below (by decide +kernel)
   have hbz : w3.heap.size ≤ u.heap.size := hb.size
   have r28 : ρ (.tmp 28) = .int .i64 width := by have h := hF 1 (by decide +kernel) (by decide +kernel); rw [HF.out] at h; exact (hd 1 (by decide +kernel) 28 (by kernel_rfl)).trans h
   have f9 : ∃ (X1 : Option Addr) (d1 : Nat), (gh 9).v = .slice X1 m d1 ∧ (RowB u (gh 9).s (gh 9).e (.slice X1 m d1, m) (strs lt)) := by have h := hF 9 (by decide +kernel) (by decide +kernel); rw [HF.out] at h; exact h
   obtain ⟨X1, d1, hv9, g9_0⟩ := f9
   have r36 : ρ (.tmp 36) = .slice X1 m d1 := (hd 9 (by decide +kernel) 36 (by kernel_rfl)).trans hv9
   have r37 : ρ (.tmp 37) = .int .i64 (k : Nat) := by have h := hF 10 (by decide +kernel) (by decide +kernel); rw [HF.out] at h; exact (hd 10 (by decide +kernel) 37 (by kernel_rfl)).trans h
   clear hv9 hd h0 he ha hF
   go_simp
   have q_b := (HXb.out.below hb)
   refine (HIN.out _ _ _ (Own.of_ownsRow g9_0.1).rd.base (row_cap g9_0.1)).mono ?_
   rintro e u1 ⟨X3, d3, rfl, ho, hb1⟩
   rw [HF.out]
   exact ⟨_, rfl, OnlyL.of_below hb1, X3, d3, rfl, RowB.of ho⟩
  ·intro gh ρ u hc hf1 hg1 hd h0 hb he ha hF
   have f11 : ∃ (X3 : Option Addr) (d3 : Nat), (gh 11).v = .tuple #[.slice X3 il.length d3, .bool true] ∧ (RowB u (gh 11).s (gh 11).e (.slice X3 il.length d3, il.length) (strs il)) := by have h := hF 11 (by decide +kernel) (by decide +kernel); rw [HF.out] at h; exact h
   obtain ⟨X3, d3, hv11, g11_0⟩ := f11
   have hrt11 := hv11
   have r38 : ρ (.tmp 38) = .tuple #[.slice X3 il.length d3, .bool true] := (hd 11 (by decide +kernel) 38 (by kernel_rfl)).trans hv11
   have HRT11 := Lib.hid hrt11
   clear hv11 hrt11 hd h0 he ha hF
   go_simp
   rw [HF.out]
   exact ⟨OnlyL.refl _ _, X3, d3, HRT11.out, rfl⟩
  ·intro gh ρ u hc hf1 hg1 hd h0 hb he ha hF
   have f12 : ∃ (X3 : Option Addr) (d3 : Nat), (gh 11).v = .tuple #[.slice X3 il.length d3, .bool true] ∧ (gh 12).v = .tuple #[.slice X3 il.length d3, .bool true] := by have h := hF 12 (by decide +kernel) (by decide +kernel); rw [HF.out] at h; exact h
   obtain ⟨X3, d3, hrt11, hv12⟩ := f12
   have r26 : ρ (.tmp 26) = .tuple #[.slice X3 il.length d3, .bool true] := (hd 12 (by decide +kernel) 26 (by kernel_rfl)).trans hv12
   have HRT11 := Lib.hid hrt11
   clear hv12 hrt11 hd h0 he ha hF
   go_simp
   rw [HF.out]
   exact ⟨OnlyL.refl _ _, X3, d3, HRT11.out, rfl⟩
  ·intro gh ρ u hc hf1 hg1 hd h0 hb he ha hF
   have f12 : ∃ (X3 : Option Addr) (d3 : Nat), (gh 11).v = .tuple #[.slice X3 il.length d3, .bool true] ∧ (gh 12).v = .tuple #[.slice X3 il.length d3, .bool true] := by have h := hF 12 (by decide +kernel) (by decide +kernel); rw [HF.out] at h; exact h
   obtain ⟨X3, d3, hrt11, hv12⟩ := f12
   have r26 : ρ (.tmp 26) = .tuple #[.slice X3 il.length d3, .bool true] := (hd 12 (by decide +kernel) 26 (by kernel_rfl)).trans hv12
   have HRT11 := Lib.hid hrt11
   clear hv12 hrt11 hd h0 he ha hF
   go_simp
   rw [HF.out]
   exact ⟨OnlyL.refl _ _, X3, d3, HRT11.out, rfl⟩
  ·intro gh ρ u hc hf1 hg1 hd h0 hb he ha hF
   have f13 : ∃ (X3 : Option Addr) (d3 : Nat), (gh 11).v = .tuple #[.slice X3 il.length d3, .bool true] ∧ (gh 13).v = .slice X3 il.length d3 := by have h := hF 13 (by decide +kernel) (by decide +kernel); rw [HF.out] at h; exact h
   obtain ⟨X3, d3, hrt11, hv13⟩ := f13
   have r39 : ρ (.tmp 39) = .slice X3 il.length d3 := (hd 13 (by decide +kernel) 39 (by kernel_rfl)).trans hv13
   have HRT11 := Lib.hid hrt11
   clear hv13 hrt11 hd h0 he ha hF
   go_simp
   rw [HF.out]
   exact ⟨OnlyL.refl _ _, X3, d3, HRT11.out, rfl⟩
  ·intro gh ρ u hc hf1 hg1 hd h0 hb he ha hF
   have f14 : ∃ (X3 : Option Addr) (d3 : Nat), (gh 11).v = .tuple #[.slice X3 il.length d3, .bool true] ∧ (gh 14).v = .bool true := by have h := hF 14 (by decide +kernel) (by decide +kernel); rw [HF.out] at h; exact h
   obtain ⟨X3, d3, hrt11, hv14⟩ := f14
   have r40 : ρ (.tmp 40) = .bool true := (hd 14 (by decide +kernel) 40 (by kernel_rfl)).trans hv14
   have HRT11 := Lib.hid hrt11
   clear hv14 hrt11 hd h0 he ha hF
   go_simp
   rw [HF.out]
   exact ⟨OnlyL.refl _ _, X3, d3, HRT11.out, rfl⟩
  intro gh w4 hB hE hA hF
  replace hB : Below w3.heap.size w3 w4 := hB.below rfl
  have f0 : (gh 0).v = .pointer (some ⟨(w.heap.size), 0, none⟩) := by have h := hF 0 (by decide +kernel) (by decide +kernel); rw [HF.out] at h; exact h
  have f1 : (gh 1).v = .int .i64 width := by have h := hF 1 (by decide +kernel) (by decide +kernel); rw [HF.out] at h; exact h
  have f2 : (gh 2).v = .pointer (some ⟨(w.heap.size), 0, none⟩) := by have h := hF 2 (by decide +kernel) (by decide +kernel); rw [HF.out] at h; exact h
  have f3 : (gh 3).v = .int .i64 width := by have h := hF 3 (by decide +kernel) (by decide +kernel); rw [HF.out] at h; exact h
  have f4 : (gh 4).v = .pointer (some ⟨(w.heap.size), 1, none⟩) := by have h := hF 4 (by decide +kernel) (by decide +kernel); rw [HF.out] at h; exact h
  have f5 : (gh 5).v = .pointer (some ⟨(w.heap.size), 1, none⟩) := by have h := hF 5 (by decide +kernel) (by decide +kernel); rw [HF.out] at h; exact h
  have f6 : (gh 6).v = .slice E ne ce := by have h := hF 6 (by decide +kernel) (by decide +kernel); rw [HF.out] at h; exact h
  have f7 : (gh 7).v = .int .i64 (m : Nat) := by have h := hF 7 (by decide +kernel) (by decide +kernel); rw [HF.out] at h; exact h
  have f8 : (gh 8).v = .slice E m ce := by have h := hF 8 (by decide +kernel) (by decide +kernel); rw [HF.out] at h; exact h
  have f9 : ∃ (X1 : Option Addr) (d1 : Nat), (gh 9).v = .slice X1 m d1 ∧ (RowB w4 (gh 9).s (gh 9).e (.slice X1 m d1, m) (strs lt)) := by have h := hF 9 (by decide +kernel) (by decide +kernel); rw [HF.out] at h; exact h
  have f10 : (gh 10).v = .int .i64 (k : Nat) := by have h := hF 10 (by decide +kernel) (by decide +kernel); rw [HF.out] at h; exact h
  have f11 : ∃ (X3 : Option Addr) (d3 : Nat), (gh 11).v = .tuple #[.slice X3 il.length d3, .bool true] ∧ (RowB w4 (gh 11).s (gh 11).e (.slice X3 il.length d3, il.length) (strs il)) := by have h := hF 11 (by decide +kernel) (by decide +kernel); rw [HF.out] at h; exact h
  have f12 : ∃ (X3 : Option Addr) (d3 : Nat), (gh 11).v = .tuple #[.slice X3 il.length d3, .bool true] ∧ (gh 12).v = .tuple #[.slice X3 il.length d3, .bool true] := by have h := hF 12 (by decide +kernel) (by decide +kernel); rw [HF.out] at h; exact h
  have f13 : ∃ (X3 : Option Addr) (d3 : Nat), (gh 11).v = .tuple #[.slice X3 il.length d3, .bool true] ∧ (gh 13).v = .slice X3 il.length d3 := by have h := hF 13 (by decide +kernel) (by decide +kernel); rw [HF.out] at h; exact h
  have f14 : ∃ (X3 : Option Addr) (d3 : Nat), (gh 11).v = .tuple #[.slice X3 il.length d3, .bool true] ∧ (gh 14).v = .bool true := by have h := hF 14 (by decide +kernel) (by decide +kernel); rw [HF.out] at h; exact h
  have f15 : ∃ (X3 : Option Addr) (d3 : Nat), (gh 11).v = .tuple #[.slice X3 il.length d3, .bool true] ∧ (gh 15).v = .slice X3 il.length d3 := by have h := hF 15 (by decide +kernel) (by decide +kernel); rw [HF.out] at h; exact h
  have f16 : ∃ (X3 : Option Addr) (d3 : Nat), (gh 11).v = .tuple #[.slice X3 il.length d3, .bool true] ∧ (gh 16).v = .bool true := by have h := hF 16 (by decide +kernel) (by decide +kernel); rw [HF.out] at h; exact h
  obtain ⟨X1, d1, hv9, _⟩ := f9
  obtain ⟨X3, d3, hv11, hr3⟩ := f11
  have hv0 := f0
  have hv1 := f1
  have hv2 := f2
  have hv3 := f3
  have hv4 := f4
  have hv5 := f5
  have hv6 := f6
  have hv7 := f7
  have hv8 := f8
  have hv10 := f10
  obtain ⟨X3_12, d3_12, hu11, hv12⟩ := f12
  replace hu11 := hv11.symm.trans hu11
  simp at hu11
  try simp only [and_assoc] at hu11
  obtain ⟨rfl, rfl⟩ := hu11
  obtain ⟨X3_13, d3_13, hu11, hv13⟩ := f13
  replace hu11 := hv11.symm.trans hu11
  simp at hu11
  try simp only [and_assoc] at hu11
  obtain ⟨rfl, rfl⟩ := hu11
  obtain ⟨X3_14, d3_14, hu11, hv14⟩ := f14
  replace hu11 := hv11.symm.trans hu11
  simp at hu11
  try simp only [and_assoc] at hu11
  obtain ⟨rfl, rfl⟩ := hu11
  obtain ⟨X3_15, d3_15, hu11, hv15⟩ := f15
  replace hu11 := hv11.symm.trans hu11
  simp at hu11
  try simp only [and_assoc] at hu11
  obtain ⟨rfl, rfl⟩ := hu11
  obtain ⟨X3_16, d3_16, hu11, hv16⟩ := f16
  replace hu11 := hv11.symm.trans hu11
  simp at hu11
  try simp only [and_assoc] at hu11
  obtain ⟨rfl, rfl⟩ := hu11
  obtain ⟨hs11, hse11, he11⟩ := hE 11 (by decide +kernel)
  change w3.heap.size ≤ _ at hs11
  clear hE hA hF
  simp only [putDs, Nat.reduceAdd, hv0, hv1, hv2, hv3, hv4, hv5, hv6, hv7, hv8, hv9, hv10, hv11, hv12, hv13, hv14, hv15, hv16]
  clear hv0 hv1 hv2 hv3 hv4 hv5 hv6 hv7 hv8 hv9 hv10 hv11 hv12 hv13 hv14 hv15 hv16
  generalize (gh 11).s = s4_11 at *
  generalize (gh 11).e = e4_11 at *
  clear HF
  have hb := hB
  clear hB
  have hzw4 : w3.heap.size ≤ w4.heap.size := hb.size
  have hzzw4 : w.heap.size ≤ w4.heap.size := by omega
  replace HB := Lib.hid (below_then HB.out hb HB.out.size)
  replace HOE := Lib.hid (HOE.out.below hb)
  replace HOH := Lib.hid (HOH.out.below hb)
  replace HXb := Lib.hid (HXb.out.below hb)
  clear hxb hfb hkb
  have hxb := HXb.out.2.1
  have hfb := HXb.out.2.2
  have hkb := HXb.out.1
  replace HXq := Lib.hid (HXq.out.below hb)
  clear hxq hfq hkq
  have hxq := HXq.out.2.1
  have hfq := HXq.out.2.2
  have hkq := HXq.out.1
  clear hb
  have HOU : Hid (RowB w4 (s4_11) (e4_11) ((.slice X3 il.length d3, il.length)) (strs il)) := hr3
  have hr39 : e4_11 ≤ w4.heap.size ∧ w.heap.size ≤ s4_11 ∧ s4_11 ≤ e4_11 := by omega
  clear hr3 hpe HLV2 HIN
  obtain ⟨b2, off, y, hEe, hb2, hks, hcs⟩ := ent_cells HOE.out (k := k) HKL.out
  obtain rfl : x = y := Option.some.inj (HX.out.symm.trans hks)
  have c0 := hcs.1
  have c1' := hcs.2.1
  have c2' := hcs.2.2.1
  have c3' := hcs.2.2.2.1
  have c4' := hcs.2.2.2.2
  have hix := idxEnt E b2 off ne ce k hEe (by omega)
  clear hEe hks hcs
  go_wp2
  refine bodyPost_named (fun w5 hw => ?_)
  have hz5 : w4.heap.size + 0 ≤ w5.heap.size := by rw [hw]; first | omega | (simp [World.setCell]; done) | (simp [World.setCell]; omega)
  have hzz5 : w.heap.size ≤ w5.heap.size := by omega
  replace HB : Hid (Below w.heap.size w w5) := by rw [Hid, hw]; exact (by ((repeat (first | ((with_reducible refine Below.alloc ?_ ?_ _); rotate_left 1; (focus (first | omega | (simp; done) | (simp; omega)))) | (with_reducible refine Below.drew ?_) | ((with_reducible refine Below.setCell ?_ ?_ _); rotate_left 1; (focus (first | omega | (simp; done) | (simp; omega)))))); exact HB.out))
  replace HOE : Hid (Rd w5 (0) (w.heap.size) (E) (ents es)) := by rw [Hid, hw]; (repeat (first | (with_reducible refine Rd.alloc ?_ _) | (with_reducible refine Rd.drew ?_) | ((with_reducible refine Rd.setCell ?_ ?_ _); rotate_left 1; (focus (first | omega | (simp; done) | (simp; omega)))))); exact HOE.out
  replace HOH : Hid (Rd w5 (0) (w.heap.size) (H) (hds hs)) := by rw [Hid, hw]; (repeat (first | (with_reducible refine Rd.alloc ?_ _) | (with_reducible refine Rd.drew ?_) | ((with_reducible refine Rd.setCell ?_ ?_ _); rotate_left 1; (focus (first | omega | (simp; done) | (simp; omega)))))); exact HOH.out
  replace HOU : Hid (RowB w5 (s4_11) (e4_11) ((.slice X3 il.length d3, il.length)) (strs il)) := by rw [Hid, hw]; (repeat (first | (with_reducible refine RowB.alloc ?_ _) | (with_reducible refine RowB.drew ?_) | ((with_reducible refine RowB.setCell ?_ ?_ _); rotate_left 1; (focus (first | omega | (simp; done) | (simp; omega)))))); exact HOU.out
  replace HXb : Hid (NewBox w5 (w.heap.size) [.int .i64 width, .slice E ne ce, .slice R nr cr, .slice H nh ch, .int .i64 z1, .slice A1 m1 c1, .int .i64 z2, .slice A2 m2 c2, .int .i64 h.num, .int .i64 h.size, .string h.root, .int .i64 h.taken, .string h.troot]) := by rw [Hid, hw]; (repeat (first | (with_reducible refine NewBox.alloc ?_ _) | (with_reducible refine NewBox.drew ?_) | ((with_reducible refine NewBox.setCell ?_ ?_ _); rotate_left 1; (focus (first | omega | (simp; done) | (simp; omega)))))); exact HXb.out
  clear hxb hfb hkb
  have hxb := HXb.out.2.1
  have hfb := HXb.out.2.2
  have hkb := HXb.out.1
  replace HXq : Hid (NewBox w5 (w.heap.size + 1) [.string x.topic, .int .i64 x.index, .int .i64 x.time, .string x.key, .string x.body]) := by rw [Hid, hw]; apply NewBox.cast; (focus ((repeat (first | (with_reducible apply NewBox.alloc) | (with_reducible apply NewBox.drew) | (with_reducible apply NewBox.set1) | ((with_reducible apply NewBox.far); (focus (first | omega | (simp; done) | (simp; omega)))))); exact HXq.out)); rfl
  clear hxq hfq hkq
  have hxq := HXq.out.2.1
  have hfq := HXq.out.2.2
  have hkq := HXq.out.1
  clear hw
  refine bodyPost_ret (v := .tuple #[.agg #[.string x.topic, .int .i64 x.index, .int .i64 x.time, .string x.key, .string x.body], .slice X3 il.length d3, .int .i64 0]) (by simp [results, Tryz.results78, go_sem, hxq]) rfl ?_
  rw [HEQ.out.1, HEQ.out.2.1, HEQ.out.2.2]
  exact ⟨⟨X3, d3, rfl, (HOU.out.ownB rfl (by omega) (by omega)).mono (by omega) (by omega) (by omega)⟩, HB.out⟩
end Go.Proofs.YtmmepogjocfefaaGreat
