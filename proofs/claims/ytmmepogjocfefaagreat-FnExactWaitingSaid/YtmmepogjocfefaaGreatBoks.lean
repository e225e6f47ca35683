/- BrokerOk of the reference. -/
import Derived.Test.YtmmepogjocfefaaGreatBrkB
namespace Go.Proofs.YtmmepogjocfefaaGreat
set_option linter.unusedVariables false
set_option linter.unusedSimpArgs false
open Go.RowKit

theorem slicePreS (A : Option Addr) (k g m : Nat) (h : m ≤ g) (W : World) : (Instr.slice 27 (.slice A k g) none (some (.int .i64 m)) none).run Tryz.prog W = .ok (.slice A m g) W := by
 have h1 : (m : Int) ≤ g := by omega
 rcases A with _ | ⟨b, off, sp⟩
 ·go_simp
 ·by_cases hg : g = 0
  ·subst hg
   obtain rfl : m = 0 := by omega
   go_simp
  ·rcases sp with _ | sp <;> go_simp
theorem slicePreE (A : Option Addr) (k g m : Nat) (h : m ≤ g) (W : World) : (Instr.slice 42 (.slice A k g) none (some (.int .i64 m)) none).run Tryz.prog W = .ok (.slice A m g) W := by
 have h1 : (m : Int) ≤ g := by omega
 rcases A with _ | ⟨b, off, sp⟩
 ·go_simp
 ·by_cases hg : g = 0
  ·subst hg
   obtain rfl : m = 0 := by omega
   go_simp
  ·rcases sp with _ | sp <;> go_simp
theorem growUp_same {width : Int} {L M : List ByteArray} : ∀ k : Nat, (∀ i, i < k → L.getD i ByteArray.empty = M.getD i ByteArray.empty) → growUp width 0 [] L k = growUp width 0 [] M k
 | 0, _ => rfl
 | k + 1, h => by rw [growUp, growUp, growUp_same k (fun i hi => h i (by omega)), h k (by omega)]
theorem growUp_take {width : Int} {L : List ByteArray} {m : Nat} : growUp width 0 [] (L.take m) m = growUp width 0 [] L m :=
 growUp_same m (fun i hi => by rw [List.getD_eq_getElem?_getD, List.getD_eq_getElem?_getD, List.getElem?_take_of_lt hi])
theorem grow0 {width : Int} {L : List ByteArray} {m : Nat} (hw : inR width 1 32 = true) (hL : areH width L = true) (hm : m ≤ L.length) (h5 : m ≤ 512) : growOk width 0 [] (L.take m) = true ∧ gSize width 0 [] (L.take m) = (m : Int) ∧ gPeaks width 0 [] (L.take m) = growUp width 0 [] L m := by
 have hlen : (L.take m).length = m := by rw [List.length_take]; omega
 have h0 : rngOk width 0 [] = true := by
  rw [rngOk, hw, Bool.and_true, Bool.and_eq_true, Bool.and_eq_true]; exact ⟨⟨by decide, by decide⟩, rfl⟩
 have h1 : growOk width 0 [] (L.take m) = true := by
  rw [growOk, h0, areH_sub hL (fun s hs => List.mem_of_mem_take hs), hlen, decide_eq_true (by omega)]; rfl
 refine ⟨h1, ?_, ?_⟩
 ·rw [gSize, h1, hlen]; simp
 ·rw [gPeaks, h1, hlen, if_pos rfl]
  exact growUp_take
/-- the reference's last test -/
theorem brk_last {width : Int} {es : List Ent} {rs : List Rcp} {hs : List Hd} {z1 z2 : Int} {l1 l2 : List ByteArray} {h : Hd} {n1 n2 : Nat} (hp : brkParts width es rs hs = true) (h1 : (lastHd hs).size = n1) (h2 : (lastHd hs).taken = n2) :
  brkOk width es rs hs z1 l1 z2 l2 h = (sealOk width z1 l1 z2 l2 h && (decide (h = lastHd hs) && (sameR z1 l1 n1 (growUp width 0 [] (leavesM width es) n1) && sameR z2 l2 n2 (growUp width 0 [] (takenM width rs) n2)))) := by
 have hs2 : sealIs width (leavesM width es) (takenM width rs) (lastHd hs) z1 l1 z2 l2 h = (decide (h = lastHd hs) && (sameR z1 l1 n1 (growUp width 0 [] (leavesM width es) n1) && sameR z2 l2 n2 (growUp width 0 [] (takenM width rs) n2))) := by
  rw [sealIs, sameR, sameR, h1, h2, Int.toNat_natCast, Int.toNat_natCast]
  cases decide (h = lastHd hs) <;> simp
 rw [brkOk, hp, Bool.true_and]
 rcases hq : sealIs width (leavesM width es) (takenM width rs) (lastHd hs) z1 l1 z2 l2 h with _ | _
 ·rw [← hs2, hq, Bool.and_false]
 ·rw [← hs2, hq, seal_right (brkParts_all hp) hq]; rfl
theorem brkOk_parts {width : Int} {es : List Ent} {rs : List Rcp} {hs : List Hd} {z1 : Int} {l1 : List ByteArray} {z2 : Int} {l2 : List ByteArray} {h : Hd} (hb : brkOk width es rs hs z1 l1 z2 l2 h = true) : BrkParts width es rs hs := by
 rw [brkOk, Bool.and_eq_true] at hb
 exact brkParts_all hb.1
theorem roots_last {width : Int} {L T : List ByteArray} {hs : List Hd} (h : rootsTo width L T hs hs.length = true) (hp : 0 < hs.length) : rootsAt width L T (lastHd hs) = true := by
 have h5 := rootsTo_le (k := (hs.length - 1) + 1) (by omega) h
 rw [rootsTo_succ (lastHd_get hp), Bool.and_eq_true] at h5
 exact h5.2
set_option maxRecDepth 100000 in
set_option maxHeartbeats 4000000 in
theorem specBrokerOk_c (width z1 z2 : Int) (E R H A1 A2 : Option Addr) (ne nr nh ce cr ch c1 c2 lo1 hi1 lo2 hi2 lo3 hi3 lo4 hi4 lo5 hi5 m1 m2 : Nat) (es : List Ent) (rs : List Rcp) (hs : List Hd) (l1 l2 : List ByteArray) (h : Hd) (w : World) (hE : Rd w lo1 hi1 E (ents es)) (hR : Rd w lo2 hi2 R (rcps rs)) (hH : Rd w lo3 hi3 H (hds hs)) (hA1 : Rd w lo4 hi4 A1 (strs l1)) (hA2 : Rd w lo5 hi5 A2 (strs l2)) (hne : es.length = ne) (hnr : rs.length = nr) (hnh : hs.length = nh) (hm1 : l1.length = m1) (hm2 : l2.length = m2)
  (b1 : ne ≤ 1048576) (b2 : nr ≤ 1048576) (b3 : nh + sumBy Hd.bulk hs ≤ 1048576) (b4 : m1 ≤ 1048576) (b5 : m2 ≤ 1048576) (b6 : ne ≤ ce) (b7 : nr ≤ cr) (b8 : nh ≤ ch) (hfe : ∀ x ∈ es, x.fits) (hfr : ∀ x ∈ rs, x.fits) (hfh : ∀ x ∈ hs, x.fits) (hf : h.fits) (hsb : h.bulk ≤ 1048576) :
  Calls Tryz.prog 29 #[.agg #[.int .i64 width, .slice E ne ce, .slice R nr cr, .slice H nh ch, .int .i64 z1, .slice A1 m1 c1, .int .i64 z2, .slice A2 m2 c2, .int .i64 h.num, .int .i64 h.size, .string h.root, .int .i64 h.taken, .string h.troot]] w fun e w' => e = .returned (.bool (brkOk width es rs hs z1 l1 z2 l2 h)) ∧ Below w.heap.size w w' := by
 have HDEF : Hid (brkOk width es rs hs z1 l1 z2 l2 h = (brkParts width es rs hs && sealIs width (leavesM width es) (takenM width rs) (lastHd hs) z1 l1 z2 l2 h)) := Lib.hid rfl
 have HDEP : Hid (brkParts width es rs hs = (inR width 1 32 && (logOk es && (rcpsOk rs && (decide (0 < nh) && (headsOk width hs && (rootsOk width (leavesM width es) (takenM width rs) hs && rs.all (leafIn es (lastHd hs).size.toNat)))))))) := Lib.hid (by rw [brkParts, hnh])
 have HBL := Lib.hid (fun n1 n2 => brk_last (width := width) (es := es) (rs := rs) (hs := hs) (z1 := z1) (l1 := l1) (z2 := z2) (l2 := l2) (h := h) (n1 := n1) (n2 := n2))
 have HHN := Lib.hid (fun W => specHeadNew_c width W)
 have HLG := Lib.hid (fun W (a : Rd W 0 W.heap.size E (ents es)) => specLogOk_c E ce 0 W.heap.size ne es W a hne b1 b6 hfe)
 have HRC := Lib.hid (fun W (a : Rd W 0 W.heap.size R (rcps rs)) => l12ReceiptsOk_c R cr 0 W.heap.size nr rs W a hnr b2 hfr)
 have HHD := Lib.hid (fun W (a : Rd W 0 W.heap.size H (hds hs)) => specHeadsOk_c width H ch 0 W.heap.size nh hs W a hnh b3)
 have HC1 := Lib.hid (fun W (a : Rd W 0 W.heap.size E (ents es)) => l09Hashes_c width E ce 0 W.heap.size ne es W a hne b1 hfe)
 have HC2 := Lib.hid (fun W (a : Rd W 0 W.heap.size R (rcps rs)) => l12Taken_c width R cr 0 W.heap.size nr rs W a hnr b2 hfr)
 have HFIT := Lib.hid (And.intro hfe (And.intro hfr (And.intro hfh hf)))
 have HLEN := Lib.hid (And.intro hne (And.intro hnr (And.intro hnh (And.intro hm1 hm2))))
 have HSB := Lib.hid hsb
 have HEM : Hid (headZero width = ⟨0, 0, emptyT width, 0, emptyT width⟩) := Lib.hid rfl
 generalize hem : emptyT width = em at *
 clear hem
 generalize brkOk width es rs hs z1 l1 z2 l2 h = bk at *
 have HB : Hid (Below w.heap.size w w) := Below.refl _ _
 have HOE : Hid (Rd w (0) (w.heap.size) (E) (ents es)) := Rd.base hE
 have HOR : Hid (Rd w (0) (w.heap.size) (R) (rcps rs)) := Rd.base hR
 have HOH : Hid (Rd w (0) (w.heap.size) (H) (hds hs)) := Rd.base hH
 have HOX : Hid (Rd w (0) (w.heap.size) (A1) (strs l1)) := Rd.base hA1
 have HOY : Hid (Rd w (0) (w.heap.size) (A2) (strs l2)) := Rd.base hA2
 clear hE hR hH hA1 hA2 hne hnr hnh hm1 hm2 hfe hfr hfh hf
 go_enter Tryz.func29, Tryz.ntmps29
 go_wp2_with fail
 refine calls_named (fun w1 hw => ?_)
 have hz1 : w.heap.size + 1 ≤ w1.heap.size := by rw [hw]; first | omega | (simp [World.setCell]; done) | (simp [World.setCell]; omega)
 have hzz1 : w.heap.size ≤ w1.heap.size := by omega
 have hbn : Below w.heap.size w w1 := by rw [hw]; exact (by ((repeat (first | ((with_reducible refine Below.alloc ?_ ?_ _); rotate_left 1; (focus (first | omega | (simp; done) | (simp; omega)))) | (with_reducible refine Below.drew ?_) | ((with_reducible refine Below.setCell ?_ ?_ _); rotate_left 1; (focus (first | omega | (simp; done) | (simp; omega)))))); exact Below.refl _ _))
 replace HB := Lib.hid (below_then HB.out hbn HB.out.size)
 replace HOE := Lib.hid (HOE.out.below hbn)
 replace HOR := Lib.hid (HOR.out.below hbn)
 replace HOH := Lib.hid (HOH.out.below hbn)
 replace HOX := Lib.hid (HOX.out.below hbn)
 replace HOY := Lib.hid (HOY.out.below hbn)
 clear hbn
 have HXb : Hid (NewBox w1 (w.heap.size) [.int .i64 width, .slice E ne ce, .slice R nr cr, .slice H nh ch, .int .i64 z1, .slice A1 m1 c1, .int .i64 z2, .slice A2 m2 c2, .int .i64 h.num, .int .i64 h.size, .string h.root, .int .i64 h.taken, .string h.troot]) := by rw [Hid, hw]; exact ⟨by first | omega | (simp [World.setCell]; done) | (simp [World.setCell]; omega), fun o => by rcases o with _ | _ | _ | _ | _ | _ | _ | _ | _ | _ | _ | _ | _ | o <;> go_simp, fun o => by go_simp⟩
 have hxb := HXb.out.2.1
 have hfb := HXb.out.2.2
 have hkb := HXb.out.1
 clear hw
 refine (HHN.out _).mono ?_
 rintro e w2 ⟨rfl, hb⟩
 have hzw2 : w1.heap.size ≤ w2.heap.size := hb.size
 have hzzw2 : w.heap.size ≤ w2.heap.size := by omega
 replace HB := Lib.hid (below_then HB.out hb HB.out.size)
 replace HOE := Lib.hid (HOE.out.below hb)
 replace HOR := Lib.hid (HOR.out.below hb)
 replace HOH := Lib.hid (HOH.out.below hb)
 replace HOX := Lib.hid (HOX.out.below hb)
 replace HOY := Lib.hid (HOY.out.below hb)
 replace HXb := Lib.hid (HXb.out.below hb)
 clear hxb hfb hkb
 have hxb := HXb.out.2.1
 have hfb := HXb.out.2.2
 have hkb := HXb.out.1
 clear hb
 go_wp2_with fail
 refine wp_named (fun w3 hw => ?_)
 have hz3 : w2.heap.size + 1 ≤ w3.heap.size := by rw [hw]; first | omega | (simp [World.setCell]; done) | (simp [World.setCell]; omega)
 have hzz3 : w.heap.size ≤ w3.heap.size := by omega
 have hbn : Below w2.heap.size w2 w3 := by rw [hw]; exact (by ((repeat (first | ((with_reducible refine Below.alloc ?_ ?_ _); rotate_left 1; (focus (first | omega | (simp; done) | (simp; omega)))) | (with_reducible refine Below.drew ?_) | ((with_reducible refine Below.setCell ?_ ?_ _); rotate_left 1; (focus (first | omega | (simp; done) | (simp; omega)))))); exact Below.refl _ _))
 replace HB := Lib.hid (below_then HB.out hbn HB.out.size)
 replace HOE := Lib.hid (HOE.out.below hbn)
 replace HOR := Lib.hid (HOR.out.below hbn)
 replace HOH := Lib.hid (HOH.out.below hbn)
 replace HOX := Lib.hid (HOX.out.below hbn)
 replace HOY := Lib.hid (HOY.out.below hbn)
 replace HXb := Lib.hid (HXb.out.below hbn)
 clear hxb hfb hkb
 have hxb := HXb.out.2.1
 have hfb := HXb.out.2.2
 have hkb := HXb.out.1
 clear hbn
 have HXf : Hid (NewBox w3 (w2.heap.size) [.int .i64 0, .int .i64 0, .string em, .int .i64 0, .string em]) := by rw [Hid, hw]; exact ⟨by first | omega | (simp [World.setCell]; done) | (simp [World.setCell]; omega), fun o => by rcases o with _ | _ | _ | _ | _ | o <;> go_simp, fun o => by go_simp⟩
 have hxf := HXf.out.2.1
 have hff := HXf.out.2.2
 have hkf := HXf.out.1
 clear hw
 have hkk : w.heap.size + 1 ≤ (w2.heap.size) := by omega
 have HL2 := Lib.hid (fun v : Later w3 => HLG.out v.v (HOE.out.below v.h).base)
 have HR2 := Lib.hid (fun v : Later w3 => HRC.out v.v (HOR.out.below v.h).base)
 have HH2 := Lib.hid (fun v : Later w3 => HHD.out v.v (HOH.out.below v.h).base)
 have t0 : ∀ v : Later w3, v.v.cell? ⟨(w.heap.size), 0, none⟩ = some (.int .i64 width) := fun v => (later_cell v _ _ hkb).trans (hxb 0)
 have t1 : ∀ v : Later w3, v.v.cell? ⟨(w.heap.size), 1, none⟩ = some (.slice E ne ce) := fun v => (later_cell v _ _ hkb).trans (hxb 1)
 have t2 : ∀ v : Later w3, v.v.cell? ⟨(w.heap.size), 2, none⟩ = some (.slice R nr cr) := fun v => (later_cell v _ _ hkb).trans (hxb 2)
 have t3 : ∀ v : Later w3, v.v.cell? ⟨(w.heap.size), 3, none⟩ = some (.slice H nh ch) := fun v => (later_cell v _ _ hkb).trans (hxb 3)
 rcases hq : inR width 1 32 with _ | _
 ·have HNO : Hid (bk = false) := Lib.hid (by rw [HDEF.out, HDEP.out, hq]; rfl)
  refine wp_region_later (by kernel_rfl) (by kernel_rfl) ?_
  repeat (go_big_quiet_step (fail))
  refine wpQuiet_nil ?_
  intro wA h9
  have hb9 := later_below h9
  have hzwA : w3.heap.size ≤ wA.heap.size := hb9.size
  have hzzwA : w.heap.size ≤ wA.heap.size := by omega
  replace HB := Lib.hid (below_then HB.out hb9 HB.out.size)
  replace HOE := Lib.hid (HOE.out.below hb9)
  replace HOR := Lib.hid (HOR.out.below hb9)
  replace HOH := Lib.hid (HOH.out.below hb9)
  replace HOX := Lib.hid (HOX.out.below hb9)
  replace HOY := Lib.hid (HOY.out.below hb9)
  replace HXb := Lib.hid (HXb.out.below hb9)
  clear hxb hfb hkb
  have hxb := HXb.out.2.1
  have hfb := HXb.out.2.2
  have hkb := HXb.out.1
  replace HXf := Lib.hid (HXf.out.below hb9)
  clear hxf hff hkf
  have hxf := HXf.out.2.1
  have hff := HXf.out.2.2
  have hkf := HXf.out.1
  clear h9 hb9
  clear t0 t1 t2 t3
  go_wp2
  refine bodyPost_named (fun w77 hw => ?_)
  have hb77 : Hid (Below w.heap.size w w77) := by rw [Hid, hw]; exact (by ((repeat (first | ((with_reducible refine Below.alloc ?_ ?_ _); rotate_left 1; (focus (first | omega | (simp; done) | (simp; omega)))) | (with_reducible refine Below.drew ?_) | ((with_reducible refine Below.setCell ?_ ?_ _); rotate_left 1; (focus (first | omega | (simp; done) | (simp; omega)))))); exact HB.out))
  clear hw
  go_ret
  exact ⟨ret_bool (by rw [HNO.out]), hb77.out⟩
 have HW1 := Lib.hid hq
 rw [hq] at HDEP
 clear hq
 rcases hq : logOk es with _ | _
 ·have HNO : Hid (bk = false) := Lib.hid (by rw [HDEF.out, HDEP.out, hq]; rfl)
  rw [hq] at HL2
  clear hq
  refine wp_region_later (by kernel_rfl) (by kernel_rfl) ?_
  repeat (go_big_quiet_step ((with_reducible exact later_call (HL2.out _))))
  refine wpQuiet_nil ?_
  intro wA h9
  have hb9 := later_below h9
  have hzwA : w3.heap.size ≤ wA.heap.size := hb9.size
  have hzzwA : w.heap.size ≤ wA.heap.size := by omega
  replace HB := Lib.hid (below_then HB.out hb9 HB.out.size)
  replace HOE := Lib.hid (HOE.out.below hb9)
  replace HOR := Lib.hid (HOR.out.below hb9)
  replace HOH := Lib.hid (HOH.out.below hb9)
  replace HOX := Lib.hid (HOX.out.below hb9)
  replace HOY := Lib.hid (HOY.out.below hb9)
  replace HXb := Lib.hid (HXb.out.below hb9)
  clear hxb hfb hkb
  have hxb := HXb.out.2.1
  have hfb := HXb.out.2.2
  have hkb := HXb.out.1
  replace HXf := Lib.hid (HXf.out.below hb9)
  clear hxf hff hkf
  have hxf := HXf.out.2.1
  have hff := HXf.out.2.2
  have hkf := HXf.out.1
  clear h9 hb9
  clear t0 t1 t2 t3
  go_wp2
  refine bodyPost_named (fun w77 hw => ?_)
  have hb77 : Hid (Below w.heap.size w w77) := by rw [Hid, hw]; exact (by ((repeat (first | ((with_reducible refine Below.alloc ?_ ?_ _); rotate_left 1; (focus (first | omega | (simp; done) | (simp; omega)))) | (with_reducible refine Below.drew ?_) | ((with_reducible refine Below.setCell ?_ ?_ _); rotate_left 1; (focus (first | omega | (simp; done) | (simp; omega)))))); exact HB.out))
  clear hw
  go_ret
  exact ⟨ret_bool (by rw [HNO.out]), hb77.out⟩
 have HW2 := Lib.hid hq
 rw [hq] at HDEP HL2
 clear hq
 rcases hq : rcpsOk rs with _ | _
 ·have HNO : Hid (bk = false) := Lib.hid (by rw [HDEF.out, HDEP.out, hq]; rfl)
  rw [hq] at HR2
  clear hq
  refine wp_region_later (by kernel_rfl) (by kernel_rfl) ?_
  repeat (go_big_quiet_step ((first | with_reducible exact later_call (HL2.out _) | with_reducible exact later_call (HR2.out _))))
  refine wpQuiet_nil ?_
  intro wA h9
  have hb9 := later_below h9
  have hzwA : w3.heap.size ≤ wA.heap.size := hb9.size
  have hzzwA : w.heap.size ≤ wA.heap.size := by omega
  replace HB := Lib.hid (below_then HB.out hb9 HB.out.size)
  replace HOE := Lib.hid (HOE.out.below hb9)
  replace HOR := Lib.hid (HOR.out.below hb9)
  replace HOH := Lib.hid (HOH.out.below hb9)
  replace HOX := Lib.hid (HOX.out.below hb9)
  replace HOY := Lib.hid (HOY.out.below hb9)
  replace HXb := Lib.hid (HXb.out.below hb9)
  clear hxb hfb hkb
  have hxb := HXb.out.2.1
  have hfb := HXb.out.2.2
  have hkb := HXb.out.1
  replace HXf := Lib.hid (HXf.out.below hb9)
  clear hxf hff hkf
  have hxf := HXf.out.2.1
  have hff := HXf.out.2.2
  have hkf := HXf.out.1
  clear h9 hb9
  clear t0 t1 t2 t3
  go_wp2
  refine bodyPost_named (fun w77 hw => ?_)
  have hb77 : Hid (Below w.heap.size w w77) := by rw [Hid, hw]; exact (by ((repeat (first | ((with_reducible refine Below.alloc ?_ ?_ _); rotate_left 1; (focus (first | omega | (simp; done) | (simp; omega)))) | (with_reducible refine Below.drew ?_) | ((with_reducible refine Below.setCell ?_ ?_ _); rotate_left 1; (focus (first | omega | (simp; done) | (simp; omega)))))); exact HB.out))
  clear hw
  go_ret
  exact ⟨ret_bool (by rw [HNO.out]), hb77.out⟩
 have HW3 := Lib.hid hq
 rw [hq] at HDEP HR2
 clear hq
 rcases (show nh = 0 ∨ 0 < nh by omega) with hn0 | hn0
 ·have HNO : Hid (bk = false) := Lib.hid (by rw [HDEF.out, HDEP.out, decide_eq_false (by omega)]; rfl)
  have e0 : ((nh : Int) == 0) = true := beq_iff_eq.2 (by omega)
  clear hn0
  refine wp_region_later (by kernel_rfl) (by kernel_rfl) ?_
  repeat (go_big_quiet_step ((first | with_reducible exact later_call (HL2.out _) | with_reducible exact later_call (HR2.out _))))
  refine wpQuiet_nil ?_
  intro wA h9
  have hb9 := later_below h9
  have hzwA : w3.heap.size ≤ wA.heap.size := hb9.size
  have hzzwA : w.heap.size ≤ wA.heap.size := by omega
  replace HB := Lib.hid (below_then HB.out hb9 HB.out.size)
  replace HOE := Lib.hid (HOE.out.below hb9)
  replace HOR := Lib.hid (HOR.out.below hb9)
  replace HOH := Lib.hid (HOH.out.below hb9)
  replace HOX := Lib.hid (HOX.out.below hb9)
  replace HOY := Lib.hid (HOY.out.below hb9)
  replace HXb := Lib.hid (HXb.out.below hb9)
  clear hxb hfb hkb
  have hxb := HXb.out.2.1
  have hfb := HXb.out.2.2
  have hkb := HXb.out.1
  replace HXf := Lib.hid (HXf.out.below hb9)
  clear hxf hff hkf
  have hxf := HXf.out.2.1
  have hff := HXf.out.2.2
  have hkf := HXf.out.1
  clear h9 hb9
  clear t0 t1 t2 t3
  go_wp2
  refine bodyPost_named (fun w77 hw => ?_)
  have hb77 : Hid (Below w.heap.size w w77) := by rw [Hid, hw]; exact (by ((repeat (first | ((with_reducible refine Below.alloc ?_ ?_ _); rotate_left 1; (focus (first | omega | (simp; done) | (simp; omega)))) | (with_reducible refine Below.drew ?_) | ((with_reducible refine Below.setCell ?_ ?_ _); rotate_left 1; (focus (first | omega | (simp; done) | (simp; omega)))))); exact HB.out))
  clear hw
  go_ret
  exact ⟨ret_bool (by rw [HNO.out]), hb77.out⟩
 have e0 : ((nh : Int) == 0) = false := beq_eq_false_iff_ne.2 (by omega)
 rcases hq : headsOk width hs with _ | _
 ·have HNO : Hid (bk = false) := Lib.hid (by rw [HDEF.out, HDEP.out, hq, Bool.false_and, Bool.and_false]; rfl)
  rw [hq] at HH2
  clear hq
  refine wp_region_later (by kernel_rfl) (by kernel_rfl) ?_
  repeat (go_big_quiet_step ((first | with_reducible exact later_call (HL2.out _) | with_reducible exact later_call (HR2.out _) | with_reducible exact later_call (HH2.out _))))
  refine wpQuiet_nil ?_
  intro wA h9
  have hb9 := later_below h9
  have hzwA : w3.heap.size ≤ wA.heap.size := hb9.size
  have hzzwA : w.heap.size ≤ wA.heap.size := by omega
  replace HB := Lib.hid (below_then HB.out hb9 HB.out.size)
  replace HOE := Lib.hid (HOE.out.below hb9)
  replace HOR := Lib.hid (HOR.out.below hb9)
  replace HOH := Lib.hid (HOH.out.below hb9)
  replace HOX := Lib.hid (HOX.out.below hb9)
  replace HOY := Lib.hid (HOY.out.below hb9)
  replace HXb := Lib.hid (HXb.out.below hb9)
  clear hxb hfb hkb
  have hxb := HXb.out.2.1
  have hfb := HXb.out.2.2
  have hkb := HXb.out.1
  replace HXf := Lib.hid (HXf.out.below hb9)
  clear hxf hff hkf
  have hxf := HXf.out.2.1
  have hff := HXf.out.2.2
  have hkf := HXf.out.1
  clear h9 hb9
  clear t0 t1 t2 t3
  go_wp2
  refine bodyPost_named (fun w77 hw => ?_)
  have hb77 : Hid (Below w.heap.size w w77) := by rw [Hid, hw]; exact (by ((repeat (first | ((with_reducible refine Below.alloc ?_ ?_ _); rotate_left 1; (focus (first | omega | (simp; done) | (simp; omega)))) | (with_reducible refine Below.drew ?_) | ((with_reducible refine Below.setCell ?_ ?_ _); rotate_left 1; (focus (first | omega | (simp; done) | (simp; omega)))))); exact HB.out))
  clear hw
  go_ret
  exact ⟨ret_bool (by rw [HNO.out]), hb77.out⟩
 have HW4 := Lib.hid hq
 rw [hq] at HDEP HH2
 clear hq
 obtain ⟨bz, oz, x, hRe, hbz, hx, hc⟩ := hd_cells HOH.out (k := 0) (by rw [HLEN.out.2.2.1]; exact hn0)
 rw [Nat.zero_mul, Nat.add_zero] at hc
 have g0 : ∀ v : Later w3, v.v.cell? ⟨bz, oz, none⟩ = some (.int .i64 x.num) := fun v => (later_cell v _ _ hbz).trans hc.1
 have g1 : ∀ v : Later w3, v.v.cell? ⟨bz, oz + 1, none⟩ = some (.int .i64 x.size) := fun v => (later_cell v _ _ hbz).trans hc.2.1
 have g2 : ∀ v : Later w3, v.v.cell? ⟨bz, oz + 2, none⟩ = some (.string x.root) := fun v => (later_cell v _ _ hbz).trans hc.2.2.1
 have g3 : ∀ v : Later w3, v.v.cell? ⟨bz, oz + 3, none⟩ = some (.int .i64 x.taken) := fun v => (later_cell v _ _ hbz).trans hc.2.2.2.1
 have g4 : ∀ v : Later w3, v.v.cell? ⟨bz, oz + 4, none⟩ = some (.string x.troot) := fun v => (later_cell v _ _ hbz).trans hc.2.2.2.2
 have hix0 : ∀ W, (Instr.indexAt 46 (.slice H nh ch) (.int .i64 0)).run Tryz.prog W = .ok (.pointer (some ⟨bz, oz, none⟩)) W := fun W => idxHd H bz oz nh ch 0 hRe hn0 W
 have u0 : ∀ v : Later w3, v.v.cell? ⟨(w2.heap.size), 0, none⟩ = some (.int .i64 0) := fun v => (later_cell v _ _ hkf).trans (hxf 0)
 have u1 : ∀ v : Later w3, v.v.cell? ⟨(w2.heap.size), 1, none⟩ = some (.int .i64 0) := fun v => (later_cell v _ _ hkf).trans (hxf 1)
 have u2 : ∀ v : Later w3, v.v.cell? ⟨(w2.heap.size), 2, none⟩ = some (.string em) := fun v => (later_cell v _ _ hkf).trans (hxf 2)
 have u3 : ∀ v : Later w3, v.v.cell? ⟨(w2.heap.size), 3, none⟩ = some (.int .i64 0) := fun v => (later_cell v _ _ hkf).trans (hxf 3)
 have u4 : ∀ v : Later w3, v.v.cell? ⟨(w2.heap.size), 4, none⟩ = some (.string em) := fun v => (later_cell v _ _ hkf).trans (hxf 4)
 have heq := neqHd x (headZero width) (HFIT.out.2.2.1 x (List.mem_of_getElem? hx)) (headZero_fits HW1.out)
 have HX0 := Lib.hid hx
 rw [HEM.out] at heq
 have HZE : Hid (decide (x = headZero width) = decide (x = (⟨0, 0, em, 0, em⟩ : Hd))) := Lib.hid (by rw [HEM.out])
 clear hc hx hRe
 rcases hq : decide (x = (⟨0, 0, em, 0, em⟩ : Hd)) with _ | _
 ·have HRO := Lib.hid (rootsOk_first (L := leavesM width es) (T := takenM width rs) (width := width) HX0.out (by rw [dec_comm, HZE.out, hq]))
  have HNO : Hid (bk = false) := Lib.hid (by rw [HDEF.out, HDEP.out, HRO.out, Bool.false_and, Bool.and_false, Bool.and_false]; rfl)
  rw [hq] at heq
  clear hq
  dsimp only at heq
  refine wp_region_later (by kernel_rfl) (by kernel_rfl) ?_
  repeat (go_big_quiet_step ((first | with_reducible exact later_call (HL2.out _) | with_reducible exact later_call (HR2.out _) | with_reducible exact later_call (HH2.out _))))
  refine wpQuiet_nil ?_
  intro wA h9
  have hb9 := later_below h9
  have hzwA : w3.heap.size ≤ wA.heap.size := hb9.size
  have hzzwA : w.heap.size ≤ wA.heap.size := by omega
  replace HB := Lib.hid (below_then HB.out hb9 HB.out.size)
  replace HOE := Lib.hid (HOE.out.below hb9)
  replace HOR := Lib.hid (HOR.out.below hb9)
  replace HOH := Lib.hid (HOH.out.below hb9)
  replace HOX := Lib.hid (HOX.out.below hb9)
  replace HOY := Lib.hid (HOY.out.below hb9)
  replace HXb := Lib.hid (HXb.out.below hb9)
  clear hxb hfb hkb
  have hxb := HXb.out.2.1
  have hfb := HXb.out.2.2
  have hkb := HXb.out.1
  replace HXf := Lib.hid (HXf.out.below hb9)
  clear hxf hff hkf
  have hxf := HXf.out.2.1
  have hff := HXf.out.2.2
  have hkf := HXf.out.1
  clear h9 hb9
  clear t0 t1 t2 t3 g0 g1 g2 g3 g4 u0 u1 u2 u3 u4 heq hix0
  go_wp2
  refine bodyPost_named (fun w77 hw => ?_)
  have hb77 : Hid (Below w.heap.size w w77) := by rw [Hid, hw]; exact (by ((repeat (first | ((with_reducible refine Below.alloc ?_ ?_ _); rotate_left 1; (focus (first | omega | (simp; done) | (simp; omega)))) | (with_reducible refine Below.drew ?_) | ((with_reducible refine Below.setCell ?_ ?_ _); rotate_left 1; (focus (first | omega | (simp; done) | (simp; omega)))))); exact HB.out))
  clear hw
  go_ret
  exact ⟨ret_bool (by rw [HNO.out]), hb77.out⟩
 have HHZ : Hid (hs[0]? = some (headZero width)) := Lib.hid (by rw [HX0.out, HEM.out, of_decide_eq_true hq])
 rw [hq] at heq
 clear hq
 dsimp only at heq
 refine wp_region_later (by kernel_rfl) (by kernel_rfl) ?_
 repeat (go_big_quiet_step ((first | with_reducible exact later_call (HL2.out _) | with_reducible exact later_call (HR2.out _) | with_reducible exact later_call (HH2.out _))))
 refine wpQuiet_nil ?_
 intro wA h9
 have hb9 := later_below h9
 have hzwA : w3.heap.size ≤ wA.heap.size := hb9.size
 have hzzwA : w.heap.size ≤ wA.heap.size := by omega
 replace HB := Lib.hid (below_then HB.out hb9 HB.out.size)
 replace HOE := Lib.hid (HOE.out.below hb9)
 replace HOR := Lib.hid (HOR.out.below hb9)
 replace HOH := Lib.hid (HOH.out.below hb9)
 replace HOX := Lib.hid (HOX.out.below hb9)
 replace HOY := Lib.hid (HOY.out.below hb9)
 replace HXb := Lib.hid (HXb.out.below hb9)
 clear hxb hfb hkb
 have hxb := HXb.out.2.1
 have hfb := HXb.out.2.2
 have hkb := HXb.out.1
 replace HXf := Lib.hid (HXf.out.below hb9)
 clear hxf hff hkf
 have hxf := HXf.out.2.1
 have hff := HXf.out.2.2
 have hkf := HXf.out.1
 clear h9 hb9
 clear t0 t1 t2 t3 g0 g1 g2 g3 g4 u0 u1 u2 u3 u4 heq hix0 HL2 HR2 HH2 HLG HRC HHD HHN HX0 HZE
 have hlM : es.map (leafHashM width) = leavesM width es := rfl
 have htM : rs.map (rcpHashM width) = takenM width rs := rfl
 rw [hlM] at HC1
 rw [htM] at HC2
 have h51 : ne ≤ 512 := by rw [← HLEN.out.1]; exact logOk_len HW2.out
 have h52 : nr ≤ 512 := by rw [← HLEN.out.2.1]; exact rcpsOk_len HW3.out
 have HLL := Lib.hid ((leavesM_len width es).trans HLEN.out.1)
 have HTL := Lib.hid ((takenM_len width rs).trans HLEN.out.2.1)
 have HLA := Lib.hid (leavesM_are HW1.out HW2.out)
 have HTA := Lib.hid (takenM_are HW1.out HW3.out)
 clear hlM htM
 generalize leavesM width es = ll at *
 generalize takenM width rs = tt at *
 go_wp2_with fail
 refine calls_named (fun w4 hw => ?_)
 have hz4 : wA.heap.size + 0 ≤ w4.heap.size := by rw [hw]; first | omega | (simp [World.setCell]; done) | (simp [World.setCell]; omega)
 have hzz4 : w.heap.size ≤ w4.heap.size := by omega
 have hbn : Below wA.heap.size wA w4 := by rw [hw]; exact (by ((repeat (first | ((with_reducible refine Below.alloc ?_ ?_ _); rotate_left 1; (focus (first | omega | (simp; done) | (simp; omega)))) | (with_reducible refine Below.drew ?_) | ((with_reducible refine Below.setCell ?_ ?_ _); rotate_left 1; (focus (first | omega | (simp; done) | (simp; omega)))))); exact Below.refl _ _))
 replace HB := Lib.hid (below_then HB.out hbn HB.out.size)
 replace HOE := Lib.hid (HOE.out.below hbn)
 replace HOR := Lib.hid (HOR.out.below hbn)
 replace HOH := Lib.hid (HOH.out.below hbn)
 replace HOX := Lib.hid (HOX.out.below hbn)
 replace HOY := Lib.hid (HOY.out.below hbn)
 replace HXb := Lib.hid (HXb.out.below hbn)
 clear hxb hfb hkb
 have hxb := HXb.out.2.1
 have hfb := HXb.out.2.2
 have hkb := HXb.out.1
 replace HXf := Lib.hid (HXf.out.below hbn)
 clear hxf hff hkf
 have hxf := HXf.out.2.1
 have hff := HXf.out.2.2
 have hkf := HXf.out.1
 clear hbn
 clear hw
 refine (HC1.out _ HOE.out.base).mono ?_
 rintro e w5 ⟨X5, d5, rfl, ho5, hb⟩
 have hzw5 : w4.heap.size ≤ w5.heap.size := hb.size
 have hzzw5 : w.heap.size ≤ w5.heap.size := by omega
 replace HB := Lib.hid (below_then HB.out hb HB.out.size)
 replace HOE := Lib.hid (HOE.out.below hb)
 replace HOR := Lib.hid (HOR.out.below hb)
 replace HOH := Lib.hid (HOH.out.below hb)
 replace HOX := Lib.hid (HOX.out.below hb)
 replace HOY := Lib.hid (HOY.out.below hb)
 replace HXb := Lib.hid (HXb.out.below hb)
 clear hxb hfb hkb
 have hxb := HXb.out.2.1
 have hfb := HXb.out.2.2
 have hkb := HXb.out.1
 replace HXf := Lib.hid (HXf.out.below hb)
 clear hxf hff hkf
 have hxf := HXf.out.2.1
 have hff := HXf.out.2.2
 have hkf := HXf.out.1
 clear hb
 have hd5 : ne ≤ d5 := row_cap ho5
 have HOL : Hid (Rd w5 (w4.heap.size) (w5.heap.size) (X5) (strs ll)) := (Own.of_ownsRow ho5).rd
 clear ho5 HC1
 go_wp2_with fail
 refine calls_named (fun w6 hw => ?_)
 have hz6 : w5.heap.size + 0 ≤ w6.heap.size := by rw [hw]; first | omega | (simp [World.setCell]; done) | (simp [World.setCell]; omega)
 have hzz6 : w.heap.size ≤ w6.heap.size := by omega
 have hbn : Below w5.heap.size w5 w6 := by rw [hw]; exact (by ((repeat (first | ((with_reducible refine Below.alloc ?_ ?_ _); rotate_left 1; (focus (first | omega | (simp; done) | (simp; omega)))) | (with_reducible refine Below.drew ?_) | ((with_reducible refine Below.setCell ?_ ?_ _); rotate_left 1; (focus (first | omega | (simp; done) | (simp; omega)))))); exact Below.refl _ _))
 replace HB := Lib.hid (below_then HB.out hbn HB.out.size)
 replace HOE := Lib.hid (HOE.out.below hbn)
 replace HOR := Lib.hid (HOR.out.below hbn)
 replace HOH := Lib.hid (HOH.out.below hbn)
 replace HOX := Lib.hid (HOX.out.below hbn)
 replace HOY := Lib.hid (HOY.out.below hbn)
 replace HOL := Lib.hid (HOL.out.below hbn)
 replace HXb := Lib.hid (HXb.out.below hbn)
 clear hxb hfb hkb
 have hxb := HXb.out.2.1
 have hfb := HXb.out.2.2
 have hkb := HXb.out.1
 replace HXf := Lib.hid (HXf.out.below hbn)
 clear hxf hff hkf
 have hxf := HXf.out.2.1
 have hff := HXf.out.2.2
 have hkf := HXf.out.1
 clear hbn
 clear hw
 refine (HC2.out _ HOR.out.base).mono ?_
 rintro e w7 ⟨X6, d6, rfl, ho6, hb⟩
 have hzw7 : w6.heap.size ≤ w7.heap.size := hb.size
 have hzzw7 : w.heap.size ≤ w7.heap.size := by omega
 replace HB := Lib.hid (below_then HB.out hb HB.out.size)
 replace HOE := Lib.hid (HOE.out.below hb)
 replace HOR := Lib.hid (HOR.out.below hb)
 replace HOH := Lib.hid (HOH.out.below hb)
 replace HOX := Lib.hid (HOX.out.below hb)
 replace HOY := Lib.hid (HOY.out.below hb)
 replace HOL := Lib.hid (HOL.out.below hb)
 replace HXb := Lib.hid (HXb.out.below hb)
 clear hxb hfb hkb
 have hxb := HXb.out.2.1
 have hfb := HXb.out.2.2
 have hkb := HXb.out.1
 replace HXf := Lib.hid (HXf.out.below hb)
 clear hxf hff hkf
 have hxf := HXf.out.2.1
 have hff := HXf.out.2.2
 have hkf := HXf.out.1
 clear hb
 have hd6 : nr ≤ d6 := row_cap ho6
 have HOT : Hid (Rd w7 (w6.heap.size) (w7.heap.size) (X6) (strs tt)) := (Own.of_ownsRow ho6).rd
 clear ho6 HC2
 go_wp2
 go_loopw [7] (fun i wr => ∃ k : Nat, k ≤ nh ∧ i = .int .i64 k ∧ rootsTo width ll tt hs k = true ∧ Below w7.heap.size w7 wr) (fun i _ => nh - (intOf i).toNat)
 case atStart => exact ⟨0, Nat.zero_le _, rfl, rfl, Below.refl _ _⟩
 case round =>
  obtain ⟨k, hk, rfl, hrt, hbr⟩ := hrel
  have HRT := Lib.hid hrt
  clear hrt
  have hbr9 := hbr
  have hzwr : w7.heap.size ≤ wr.heap.size := hbr.size
  have hzzwr : w.heap.size ≤ wr.heap.size := by omega
  replace HB := Lib.hid (below_then HB.out hbr HB.out.size)
  replace HOE := Lib.hid (HOE.out.below hbr)
  replace HOR := Lib.hid (HOR.out.below hbr)
  replace HOH := Lib.hid (HOH.out.below hbr)
  replace HOX := Lib.hid (HOX.out.below hbr)
  replace HOY := Lib.hid (HOY.out.below hbr)
  replace HOL := Lib.hid (HOL.out.below hbr)
  replace HOT := Lib.hid (HOT.out.below hbr)
  replace HXb := Lib.hid (HXb.out.below hbr)
  clear hxb hfb hkb
  have hxb := HXb.out.2.1
  have hfb := HXb.out.2.2
  have hkb := HXb.out.1
  replace HXf := Lib.hid (HXf.out.below hbr)
  clear hxf hff hkf
  have hxf := HXf.out.2.1
  have hff := HXf.out.2.2
  have hkf := HXf.out.1
  clear hbr
  have HBR := Lib.hid hbr9
  clear hbr9
  by_cases hlt : k < nh
  ·obtain ⟨b2, off, x, hRe, hb2, hx, hc⟩ := hd_cells HOH.out (k := k) (by rw [HLEN.out.2.2.1]; exact hlt)
   have hc0 := hc.1
   have hc1 := hc.2.1
   have hc2 := hc.2.2.1
   have hc3 := hc.2.2.2.1
   have hc4 := hc.2.2.2.2
   have HX := Lib.hid hx
   have hix := idxHd H b2 off nh ch k hRe hlt
   have hI : (k : Int) < nh := by omega
   have i4 := headOk_all (headsOk_at HW4.out hx).2.1
   obtain ⟨n1, hn1⟩ : ∃ n1 : Nat, x.size = n1 := ⟨x.size.toNat, by omega⟩
   obtain ⟨n2, hn2⟩ : ∃ n2 : Nat, x.taken = n2 := ⟨x.taken.toNat, by omega⟩
   rw [hn1] at hc1
   rw [hn2] at hc3
   have hn5 : n1 ≤ 512 ∧ n2 ≤ 512 := by omega
   have HN12 := Lib.hid (And.intro hn1 hn2)
   clear hc hx hRe hn1 hn2 i4
   go_wp2_with fail
   refine wp_named (fun w8 hw => ?_)
   have hz8 : wr.heap.size + 1 ≤ w8.heap.size := by rw [hw]; first | omega | (simp [World.setCell]; done) | (simp [World.setCell]; omega)
   have hzz8 : w.heap.size ≤ w8.heap.size := by omega
   have hbn : Below wr.heap.size wr w8 := by rw [hw]; exact (by ((repeat (first | ((with_reducible refine Below.alloc ?_ ?_ _); rotate_left 1; (focus (first | omega | (simp; done) | (simp; omega)))) | (with_reducible refine Below.drew ?_) | ((with_reducible refine Below.setCell ?_ ?_ _); rotate_left 1; (focus (first | omega | (simp; done) | (simp; omega)))))); exact Below.refl _ _))
   replace HB := Lib.hid (below_then HB.out hbn HB.out.size)
   replace HOE := Lib.hid (HOE.out.below hbn)
   replace HOR := Lib.hid (HOR.out.below hbn)
   replace HOH := Lib.hid (HOH.out.below hbn)
   replace HOX := Lib.hid (HOX.out.below hbn)
   replace HOY := Lib.hid (HOY.out.below hbn)
   replace HOL := Lib.hid (HOL.out.below hbn)
   replace HOT := Lib.hid (HOT.out.below hbn)
   replace HXb := Lib.hid (HXb.out.below hbn)
   clear hxb hfb hkb
   have hxb := HXb.out.2.1
   have hfb := HXb.out.2.2
   have hkb := HXb.out.1
   replace HXf := Lib.hid (HXf.out.below hbn)
   clear hxf hff hkf
   have hxf := HXf.out.2.1
   have hff := HXf.out.2.2
   have hkf := HXf.out.1
   clear hbn
   have HXr : Hid (NewBox w8 (wr.heap.size) [.int .i64 x.num, .int .i64 n1, .string x.root, .int .i64 n2, .string x.troot]) := by rw [Hid, hw]; exact ⟨by first | omega | (simp [World.setCell]; done) | (simp [World.setCell]; omega), fun o => by rcases o with _ | _ | _ | _ | _ | o <;> go_simp, fun o => by go_simp⟩
   have hxr := HXr.out.2.1
   have hfr := HXr.out.2.2
   have hkr := HXr.out.1
   have hbr9 : Below wr.heap.size wr w8 := by rw [hw]; exact (Below.refl _ _).alloc (Nat.le_refl _) _
   replace HBR := Lib.hid (below_then HBR.out hbr9 HBR.out.size)
   clear hw hbr9 hc0 hc1 hc2 hc3 hc4 hb2 hix
   have t0 : ∀ v : Later w8, v.v.cell? ⟨(w.heap.size), 0, none⟩ = some (.int .i64 width) := fun v => (later_cell v _ _ hkb).trans (hxb 0)
   have q0 : ∀ v : Later w8, v.v.cell? ⟨(wr.heap.size), 0, none⟩ = some (.int .i64 x.num) := fun v => (later_cell v _ _ hkr).trans (hxr 0)
   have q1 : ∀ v : Later w8, v.v.cell? ⟨(wr.heap.size), 1, none⟩ = some (.int .i64 n1) := fun v => (later_cell v _ _ hkr).trans (hxr 1)
   have q2 : ∀ v : Later w8, v.v.cell? ⟨(wr.heap.size), 2, none⟩ = some (.string x.root) := fun v => (later_cell v _ _ hkr).trans (hxr 2)
   have q3 : ∀ v : Later w8, v.v.cell? ⟨(wr.heap.size), 3, none⟩ = some (.int .i64 n2) := fun v => (later_cell v _ _ hkr).trans (hxr 3)
   have q4 : ∀ v : Later w8, v.v.cell? ⟨(wr.heap.size), 4, none⟩ = some (.string x.troot) := fun v => (later_cell v _ _ hkr).trans (hxr 4)
   rcases (show ne < n1 ∨ n1 ≤ ne by omega) with hs1 | hs1
   ·have HNO : Hid (bk = false) := Lib.hid (by rw [HDEF.out, HDEP.out, rootsOk_no (L := ll) (T := tt) (width := width) HX.out (rootsAt_big1 (by rw [HLL.out, HN12.out.1]; omega)), Bool.false_and, Bool.and_false, Bool.and_false]; rfl)
    have e1 : decide (ne < n1) = true := decide_eq_true (by omega)
    refine wp_region_later (by kernel_rfl) (by kernel_rfl) ?_
    repeat (go_big_quiet_step (fail))
    refine wpQuiet_nil ?_
    intro wA h9
    have hb9 := later_below h9
    replace HBR := Lib.hid (below_then HBR.out hb9 HBR.out.size)
    have hzwA : w8.heap.size ≤ wA.heap.size := hb9.size
    have hzzwA : w.heap.size ≤ wA.heap.size := by omega
    replace HB := Lib.hid (below_then HB.out hb9 HB.out.size)
    replace HOE := Lib.hid (HOE.out.below hb9)
    replace HOR := Lib.hid (HOR.out.below hb9)
    replace HOH := Lib.hid (HOH.out.below hb9)
    replace HOX := Lib.hid (HOX.out.below hb9)
    replace HOY := Lib.hid (HOY.out.below hb9)
    replace HOL := Lib.hid (HOL.out.below hb9)
    replace HOT := Lib.hid (HOT.out.below hb9)
    replace HXb := Lib.hid (HXb.out.below hb9)
    clear hxb hfb hkb
    have hxb := HXb.out.2.1
    have hfb := HXb.out.2.2
    have hkb := HXb.out.1
    replace HXf := Lib.hid (HXf.out.below hb9)
    clear hxf hff hkf
    have hxf := HXf.out.2.1
    have hff := HXf.out.2.2
    have hkf := HXf.out.1
    replace HXr := Lib.hid (HXr.out.below hb9)
    clear hxr hfr hkr
    have hxr := HXr.out.2.1
    have hfr := HXr.out.2.2
    have hkr := HXr.out.1
    clear h9 hb9 t0 q0 q1 q2 q3 q4
    go_wp2
    refine bodyPost_named (fun w77 hw => ?_)
    have hb77 : Hid (Below w.heap.size w w77) := by rw [Hid, hw]; exact (by ((repeat (first | ((with_reducible refine Below.alloc ?_ ?_ _); rotate_left 1; (focus (first | omega | (simp; done) | (simp; omega)))) | (with_reducible refine Below.drew ?_) | ((with_reducible refine Below.setCell ?_ ?_ _); rotate_left 1; (focus (first | omega | (simp; done) | (simp; omega)))))); exact HB.out))
    clear hw
    go_ret
    exact ⟨ret_bool (by rw [HNO.out]), hb77.out⟩
   have e1 : decide (ne < n1) = false := decide_eq_false (by omega)
   rcases (show nr < n2 ∨ n2 ≤ nr by omega) with hs2 | hs2
   ·have HNO : Hid (bk = false) := Lib.hid (by rw [HDEF.out, HDEP.out, rootsOk_no (L := ll) (T := tt) (width := width) HX.out (rootsAt_big2 (by rw [HTL.out, HN12.out.2]; omega)), Bool.false_and, Bool.and_false, Bool.and_false]; rfl)
    have e2 : decide (nr < n2) = true := decide_eq_true (by omega)
    refine wp_region_later (by kernel_rfl) (by kernel_rfl) ?_
    repeat (go_big_quiet_step (fail))
    refine wpQuiet_nil ?_
    intro wA h9
    have hb9 := later_below h9
    replace HBR := Lib.hid (below_then HBR.out hb9 HBR.out.size)
    have hzwA : w8.heap.size ≤ wA.heap.size := hb9.size
    have hzzwA : w.heap.size ≤ wA.heap.size := by omega
    replace HB := Lib.hid (below_then HB.out hb9 HB.out.size)
    replace HOE := Lib.hid (HOE.out.below hb9)
    replace HOR := Lib.hid (HOR.out.below hb9)
    replace HOH := Lib.hid (HOH.out.below hb9)
    replace HOX := Lib.hid (HOX.out.below hb9)
    replace HOY := Lib.hid (HOY.out.below hb9)
    replace HOL := Lib.hid (HOL.out.below hb9)
    replace HOT := Lib.hid (HOT.out.below hb9)
    replace HXb := Lib.hid (HXb.out.below hb9)
    clear hxb hfb hkb
    have hxb := HXb.out.2.1
    have hfb := HXb.out.2.2
    have hkb := HXb.out.1
    replace HXf := Lib.hid (HXf.out.below hb9)
    clear hxf hff hkf
    have hxf := HXf.out.2.1
    have hff := HXf.out.2.2
    have hkf := HXf.out.1
    replace HXr := Lib.hid (HXr.out.below hb9)
    clear hxr hfr hkr
    have hxr := HXr.out.2.1
    have hfr := HXr.out.2.2
    have hkr := HXr.out.1
    clear h9 hb9 t0 q0 q1 q2 q3 q4
    go_wp2
    refine bodyPost_named (fun w77 hw => ?_)
    have hb77 : Hid (Below w.heap.size w w77) := by rw [Hid, hw]; exact (by ((repeat (first | ((with_reducible refine Below.alloc ?_ ?_ _); rotate_left 1; (focus (first | omega | (simp; done) | (simp; omega)))) | (with_reducible refine Below.drew ?_) | ((with_reducible refine Below.setCell ?_ ?_ _); rotate_left 1; (focus (first | omega | (simp; done) | (simp; omega)))))); exact HB.out))
    clear hw
    go_ret
    exact ⟨ret_bool (by rw [HNO.out]), hb77.out⟩
   have e2 : decide (nr < n2) = false := decide_eq_false (by omega)
   have hp1 := slicePreS X5 ne d5 n1 (by omega)
   have hp2 := slicePreS X6 nr d6 n2 (by omega)
   have HR1 := Lib.hid (fun v : Later w8 => l05Root_c width HW1.out 513 X5 d5 0 v.v.heap.size n1 (ll.take n1) v.v ((HOL.out.below v.h).base.takeS n1) (by rw [List.length_take, HLL.out]; omega) hn5.1 (by omega) (by omega) (areH_sub HLA.out (fun s hs => List.mem_of_mem_take hs)))
   have HR2 := Lib.hid (fun v : Later w8 => l05Root_c width HW1.out 513 X6 d6 0 v.v.heap.size n2 (tt.take n2) v.v ((HOT.out.below v.h).base.takeS n2) (by rw [List.length_take, HTL.out]; omega) hn5.2 (by omega) (by omega) (areH_sub HTA.out (fun s hs => List.mem_of_mem_take hs)))
   have HRA : Hid (rootsAt width ll tt x = (decide (x.root = rootFu width 513 (ll.take n1)) && decide (x.troot = rootFu width 513 (tt.take n2)))) := Lib.hid (by
    rw [rootsAt, HN12.out.1, HN12.out.2, Int.toNat_natCast, Int.toNat_natCast, HLL.out, HTL.out, decide_eq_true (show (n1 : Int) ≤ (ne : Nat) by omega), decide_eq_true (show (n2 : Int) ≤ (nr : Nat) by omega)]; rfl)
   generalize rootFu width 513 (ll.take n1) = f1 at *
   generalize rootFu width 513 (tt.take n2) = f2 at *
   rw [← beq_iff, ← beq_iff] at HRA
   rcases hq : (x.root.toList == f1.toList) with _ | _
   ·have HNO : Hid (bk = false) := Lib.hid (by rw [HDEF.out, HDEP.out, rootsOk_no (L := ll) (T := tt) (width := width) HX.out (by rw [HRA.out, hq]; rfl), Bool.false_and, Bool.and_false, Bool.and_false]; rfl)
    have hqn := bne_of_beq hq
    refine wp_region_later (by kernel_rfl) (by kernel_rfl) ?_
    repeat (go_big_quiet_step ((with_reducible exact later_call (HR1.out _))))
    refine wpQuiet_nil ?_
    intro wA h9
    have hb9 := later_below h9
    replace HBR := Lib.hid (below_then HBR.out hb9 HBR.out.size)
    have hzwA : w8.heap.size ≤ wA.heap.size := hb9.size
    have hzzwA : w.heap.size ≤ wA.heap.size := by omega
    replace HB := Lib.hid (below_then HB.out hb9 HB.out.size)
    replace HOE := Lib.hid (HOE.out.below hb9)
    replace HOR := Lib.hid (HOR.out.below hb9)
    replace HOH := Lib.hid (HOH.out.below hb9)
    replace HOX := Lib.hid (HOX.out.below hb9)
    replace HOY := Lib.hid (HOY.out.below hb9)
    replace HOL := Lib.hid (HOL.out.below hb9)
    replace HOT := Lib.hid (HOT.out.below hb9)
    replace HXb := Lib.hid (HXb.out.below hb9)
    clear hxb hfb hkb
    have hxb := HXb.out.2.1
    have hfb := HXb.out.2.2
    have hkb := HXb.out.1
    replace HXf := Lib.hid (HXf.out.below hb9)
    clear hxf hff hkf
    have hxf := HXf.out.2.1
    have hff := HXf.out.2.2
    have hkf := HXf.out.1
    replace HXr := Lib.hid (HXr.out.below hb9)
    clear hxr hfr hkr
    have hxr := HXr.out.2.1
    have hfr := HXr.out.2.2
    have hkr := HXr.out.1
    clear h9 hb9 t0 q0 q1 q2 q3 q4
    clear hp1 hp2
    go_wp2
    refine bodyPost_named (fun w77 hw => ?_)
    have hb77 : Hid (Below w.heap.size w w77) := by rw [Hid, hw]; exact (by ((repeat (first | ((with_reducible refine Below.alloc ?_ ?_ _); rotate_left 1; (focus (first | omega | (simp; done) | (simp; omega)))) | (with_reducible refine Below.drew ?_) | ((with_reducible refine Below.setCell ?_ ?_ _); rotate_left 1; (focus (first | omega | (simp; done) | (simp; omega)))))); exact HB.out))
    clear hw
    go_ret
    exact ⟨ret_bool (by rw [HNO.out]), hb77.out⟩
   rw [hq] at HRA
   have hqn := bne_of_beq hq
   rcases hr : (x.troot.toList == f2.toList) with _ | _
   ·have HNO : Hid (bk = false) := Lib.hid (by rw [HDEF.out, HDEP.out, rootsOk_no (L := ll) (T := tt) (width := width) HX.out (by rw [HRA.out, hr]; rfl), Bool.false_and, Bool.and_false, Bool.and_false]; rfl)
    have hrn := bne_of_beq hr
    refine wp_region_later (by kernel_rfl) (by kernel_rfl) ?_
    repeat (go_big_quiet_step ((first | with_reducible exact later_call (HR1.out _) | with_reducible exact later_call (HR2.out _))))
    refine wpQuiet_nil ?_
    intro wA h9
    have hb9 := later_below h9
    replace HBR := Lib.hid (below_then HBR.out hb9 HBR.out.size)
    have hzwA : w8.heap.size ≤ wA.heap.size := hb9.size
    have hzzwA : w.heap.size ≤ wA.heap.size := by omega
    replace HB := Lib.hid (below_then HB.out hb9 HB.out.size)
    replace HOE := Lib.hid (HOE.out.below hb9)
    replace HOR := Lib.hid (HOR.out.below hb9)
    replace HOH := Lib.hid (HOH.out.below hb9)
    replace HOX := Lib.hid (HOX.out.below hb9)
    replace HOY := Lib.hid (HOY.out.below hb9)
    replace HOL := Lib.hid (HOL.out.below hb9)
    replace HOT := Lib.hid (HOT.out.below hb9)
    replace HXb := Lib.hid (HXb.out.below hb9)
    clear hxb hfb hkb
    have hxb := HXb.out.2.1
    have hfb := HXb.out.2.2
    have hkb := HXb.out.1
    replace HXf := Lib.hid (HXf.out.below hb9)
    clear hxf hff hkf
    have hxf := HXf.out.2.1
    have hff := HXf.out.2.2
    have hkf := HXf.out.1
    replace HXr := Lib.hid (HXr.out.below hb9)
    clear hxr hfr hkr
    have hxr := HXr.out.2.1
    have hfr := HXr.out.2.2
    have hkr := HXr.out.1
    clear h9 hb9 t0 q0 q1 q2 q3 q4
    clear hp1 hp2
    go_wp2
    refine bodyPost_named (fun w77 hw => ?_)
    have hb77 : Hid (Below w.heap.size w w77) := by rw [Hid, hw]; exact (by ((repeat (first | ((with_reducible refine Below.alloc ?_ ?_ _); rotate_left 1; (focus (first | omega | (simp; done) | (simp; omega)))) | (with_reducible refine Below.drew ?_) | ((with_reducible refine Below.setCell ?_ ?_ _); rotate_left 1; (focus (first | omega | (simp; done) | (simp; omega)))))); exact HB.out))
    clear hw
    go_ret
    exact ⟨ret_bool (by rw [HNO.out]), hb77.out⟩
   have hrn := bne_of_beq hr
   have HR5 : Hid (rootsTo width ll tt hs (k + 1) = true) := Lib.hid (by rw [rootsTo_succ HX.out, HRT.out, HRA.out, hr]; rfl)
   refine wp_region_later (by kernel_rfl) (by kernel_rfl) ?_
   repeat (go_big_quiet_step ((first | with_reducible exact later_call (HR1.out _) | with_reducible exact later_call (HR2.out _))))
   refine wpQuiet_nil ?_
   intro wA h9
   have hb9 := later_below h9
   replace HBR := Lib.hid (below_then HBR.out hb9 HBR.out.size)
   have hzwA : w8.heap.size ≤ wA.heap.size := hb9.size
   have hzzwA : w.heap.size ≤ wA.heap.size := by omega
   replace HB := Lib.hid (below_then HB.out hb9 HB.out.size)
   replace HOE := Lib.hid (HOE.out.below hb9)
   replace HOR := Lib.hid (HOR.out.below hb9)
   replace HOH := Lib.hid (HOH.out.below hb9)
   replace HOX := Lib.hid (HOX.out.below hb9)
   replace HOY := Lib.hid (HOY.out.below hb9)
   replace HOL := Lib.hid (HOL.out.below hb9)
   replace HOT := Lib.hid (HOT.out.below hb9)
   replace HXb := Lib.hid (HXb.out.below hb9)
   clear hxb hfb hkb
   have hxb := HXb.out.2.1
   have hfb := HXb.out.2.2
   have hkb := HXb.out.1
   replace HXf := Lib.hid (HXf.out.below hb9)
   clear hxf hff hkf
   have hxf := HXf.out.2.1
   have hff := HXf.out.2.2
   have hkf := HXf.out.1
   replace HXr := Lib.hid (HXr.out.below hb9)
   clear hxr hfr hkr
   have hxr := HXr.out.2.1
   have hfr := HXr.out.2.2
   have hkr := HXr.out.1
   clear h9 hb9 t0 q0 q1 q2 q3 q4
   clear hp1 hp2
   go_wp2
   go_roundw
   case rel => exact ⟨k + 1, by omega, by go_num, HR5.out, HBR.out⟩
   case measure => simp [intOf]; omega
  ·obtain rfl : nh = k := by omega
   have HRO := Lib.hid (rootsOk_all (L := ll) (T := tt) HHZ.out (by rw [HLEN.out.2.2.1]; exact HRT.out))
   rw [HRO.out] at HDEP
   have hra := rootsAt_all (roots_last (width := width) (L := ll) (T := tt) (hs := hs) (by rw [HLEN.out.2.2.1]; exact HRT.out) (by rw [HLEN.out.2.2.1]; exact hn0))
   rw [HLL.out, HTL.out] at hra
   clear HBR HRT HRO HHZ
   have i4 := headOk_all (headsOk_at HW4.out (lastHd_get (by rw [HLEN.out.2.2.1]; exact hn0))).2.1
   have HLF := Lib.hid (HFIT.out.2.2.1 _ (List.mem_of_getElem? (lastHd_get (by rw [HLEN.out.2.2.1]; exact hn0))))
   have HLS := Lib.hid (l12Last_c width z1 z2 E R H A1 A2 ne nr nh ce cr ch c1 c2 0 (wr).heap.size m1 m2 hs h wr HOH.out.base HLEN.out.2.2.1 hn0 (by omega))
   obtain ⟨n1, hn1⟩ : ∃ n1 : Nat, (lastHd hs).size = n1 := ⟨(lastHd hs).size.toNat, by omega⟩
   obtain ⟨n2, hn2⟩ : ∃ n2 : Nat, (lastHd hs).taken = n2 := ⟨(lastHd hs).taken.toNat, by omega⟩
   have hn5 : n1 ≤ 512 ∧ n2 ≤ 512 ∧ n1 ≤ ne ∧ n2 ≤ nr := by omega
   rw [hn1, hn2] at HLS
   rw [hn1, Int.toNat_natCast] at HDEP
   have HBK := Lib.hid (HBL.out n1 n2 · hn1 hn2)
   have HN12 := Lib.hid (And.intro hn1 hn2)
   clear hn1 hn2 i4 hra HBL
   generalize lastHd hs = lh at *
   go_wp2_with fail
   refine HLS.out.mono ?_
   rintro e wM ⟨rfl, hb8⟩
   have hzwM : wr.heap.size ≤ wM.heap.size := hb8.size
   have hzzwM : w.heap.size ≤ wM.heap.size := by omega
   replace HB := Lib.hid (below_then HB.out hb8 HB.out.size)
   replace HOE := Lib.hid (HOE.out.below hb8)
   replace HOR := Lib.hid (HOR.out.below hb8)
   replace HOH := Lib.hid (HOH.out.below hb8)
   replace HOX := Lib.hid (HOX.out.below hb8)
   replace HOY := Lib.hid (HOY.out.below hb8)
   replace HOL := Lib.hid (HOL.out.below hb8)
   replace HOT := Lib.hid (HOT.out.below hb8)
   replace HXb := Lib.hid (HXb.out.below hb8)
   clear hxb hfb hkb
   have hxb := HXb.out.2.1
   have hfb := HXb.out.2.2
   have hkb := HXb.out.1
   replace HXf := Lib.hid (HXf.out.below hb8)
   clear hxf hff hkf
   have hxf := HXf.out.2.1
   have hff := HXf.out.2.2
   have hkf := HXf.out.1
   clear hb8 HLS
   go_wp2
   refine wp_named (fun w8 hw => ?_)
   have hz8 : wM.heap.size + 1 ≤ w8.heap.size := by rw [hw]; first | omega | (simp [World.setCell]; done) | (simp [World.setCell]; omega)
   have hzz8 : w.heap.size ≤ w8.heap.size := by omega
   have hbn : Below wM.heap.size wM w8 := by rw [hw]; exact (by ((repeat (first | ((with_reducible refine Below.alloc ?_ ?_ _); rotate_left 1; (focus (first | omega | (simp; done) | (simp; omega)))) | (with_reducible refine Below.drew ?_) | ((with_reducible refine Below.setCell ?_ ?_ _); rotate_left 1; (focus (first | omega | (simp; done) | (simp; omega)))))); exact Below.refl _ _))
   replace HB := Lib.hid (below_then HB.out hbn HB.out.size)
   replace HOE := Lib.hid (HOE.out.below hbn)
   replace HOR := Lib.hid (HOR.out.below hbn)
   replace HOH := Lib.hid (HOH.out.below hbn)
   replace HOX := Lib.hid (HOX.out.below hbn)
   replace HOY := Lib.hid (HOY.out.below hbn)
   replace HOL := Lib.hid (HOL.out.below hbn)
   replace HOT := Lib.hid (HOT.out.below hbn)
   replace HXb := Lib.hid (HXb.out.below hbn)
   clear hxb hfb hkb
   have hxb := HXb.out.2.1
   have hfb := HXb.out.2.2
   have hkb := HXb.out.1
   replace HXf := Lib.hid (HXf.out.below hbn)
   clear hxf hff hkf
   have hxf := HXf.out.2.1
   have hff := HXf.out.2.2
   have hkf := HXf.out.1
   clear hbn
   have HXg : Hid (NewBox w8 (wM.heap.size) [.int .i64 lh.num, .int .i64 n1, .string lh.root, .int .i64 n2, .string lh.troot]) := by rw [Hid, hw]; exact ⟨by first | omega | (simp [World.setCell]; done) | (simp [World.setCell]; omega), fun o => by rcases o with _ | _ | _ | _ | _ | o <;> go_simp, fun o => by go_simp⟩
   have hxg := HXg.out.2.1
   have hfg := HXg.out.2.2
   have hkg := HXg.out.1
   clear hw
   go_loopw [10] (fun i wr => ∃ k : Nat, k ≤ nr ∧ i = .int .i64 k ∧ (rs.take k).all (leafIn es n1) = true ∧ Below w8.heap.size w8 wr) (fun i _ => nr - (intOf i).toNat)
   case atStart => exact ⟨0, Nat.zero_le _, rfl, rfl, Below.refl _ _⟩
   case round =>
    obtain ⟨k, hk, rfl, hal, hbr⟩ := hrel
    have HAL := Lib.hid hal
    clear hal
    have hbr9 := hbr
    have hzwr : w8.heap.size ≤ wr.heap.size := hbr.size
    have hzzwr : w.heap.size ≤ wr.heap.size := by omega
    replace HB := Lib.hid (below_then HB.out hbr HB.out.size)
    replace HOE := Lib.hid (HOE.out.below hbr)
    replace HOR := Lib.hid (HOR.out.below hbr)
    replace HOH := Lib.hid (HOH.out.below hbr)
    replace HOX := Lib.hid (HOX.out.below hbr)
    replace HOY := Lib.hid (HOY.out.below hbr)
    replace HOL := Lib.hid (HOL.out.below hbr)
    replace HOT := Lib.hid (HOT.out.below hbr)
    replace HXb := Lib.hid (HXb.out.below hbr)
    clear hxb hfb hkb
    have hxb := HXb.out.2.1
    have hfb := HXb.out.2.2
    have hkb := HXb.out.1
    replace HXf := Lib.hid (HXf.out.below hbr)
    clear hxf hff hkf
    have hxf := HXf.out.2.1
    have hff := HXf.out.2.2
    have hkf := HXf.out.1
    replace HXg := Lib.hid (HXg.out.below hbr)
    clear hxg hfg hkg
    have hxg := HXg.out.2.1
    have hfg := HXg.out.2.2
    have hkg := HXg.out.1
    clear hbr
    have HBR := Lib.hid hbr9
    clear hbr9
    by_cases hlt : k < nr
    ·obtain ⟨b2, off, x, hRe, hb2, hx, hc⟩ := rcp_cells HOR.out (k := k) (by rw [HLEN.out.2.1]; exact hlt)
     have HX := Lib.hid hx
     have hix := idxRcp R b2 off nr cr k hRe hlt
     have hI : (k : Int) < nr := by omega
     have x1 : ∀ v : Later wr, v.v.cell? ⟨b2, off + k * 3 + 1, none⟩ = some (.string x.topic) := fun v => (later_cell v _ _ hb2).trans hc.2.1
     have x2 : ∀ v : Later wr, v.v.cell? ⟨b2, off + k * 3 + 2, none⟩ = some (.int .i64 x.index) := fun v => (later_cell v _ _ hb2).trans hc.2.2
     have t1 : ∀ v : Later wr, v.v.cell? ⟨(w.heap.size), 1, none⟩ = some (.slice E ne ce) := fun v => (later_cell v _ _ hkb).trans (hxb 1)
     have t2 : ∀ v : Later wr, v.v.cell? ⟨(w.heap.size), 2, none⟩ = some (.slice R nr cr) := fun v => (later_cell v _ _ hkb).trans (hxb 2)
     have g1 : ∀ v : Later wr, v.v.cell? ⟨(wM.heap.size), 1, none⟩ = some (.int .i64 n1) := fun v => (later_cell v _ _ hkg).trans (hxg 1)
     have hpe := slicePreE E ne ce n1 (by omega)
     have HLE := Lib.hid (fun v : Later wr => l09Leaf_c E ce 0 v.v.heap.size n1 (es.take n1) x.topic x.index v.v ((HOE.out.below v.h).base.entsTake n1) (by rw [List.length_take, HLEN.out.1]; omega) (by omega))
     have HLI : Hid (leafIn es n1 x = decide (0 ≤ firstFrom (isTI x.topic x.index) (es.take n1) 0)) := Lib.hid rfl
     generalize firstFrom (isTI x.topic x.index) (es.take n1) 0 = fz at *
     clear hx hc hRe
     go_wp2_with fail
     rcases (show fz < 0 ∨ 0 ≤ fz by omega) with hz | hz
     ·have HNO : Hid (bk = false) := Lib.hid (by rw [HDEF.out, HDEP.out, allTo_bad HX.out (by rw [HLI.out, decide_eq_false (by omega)]), Bool.and_false, Bool.and_false, Bool.and_false]; rfl)
      have e1 : decide (fz < 0) = true := decide_eq_true hz
      refine wp_region_later (by kernel_rfl) (by kernel_rfl) ?_
      repeat (go_big_quiet_step ((with_reducible exact later_pure (HLE.out _))))
      refine wpQuiet_nil ?_
      intro wA h9
      have hb9 := later_below h9
      have hzwA : wr.heap.size ≤ wA.heap.size := hb9.size
      have hzzwA : w.heap.size ≤ wA.heap.size := by omega
      replace HB := Lib.hid (below_then HB.out hb9 HB.out.size)
      replace HOE := Lib.hid (HOE.out.below hb9)
      replace HOR := Lib.hid (HOR.out.below hb9)
      replace HOH := Lib.hid (HOH.out.below hb9)
      replace HOX := Lib.hid (HOX.out.below hb9)
      replace HOY := Lib.hid (HOY.out.below hb9)
      replace HOL := Lib.hid (HOL.out.below hb9)
      replace HOT := Lib.hid (HOT.out.below hb9)
      replace HXb := Lib.hid (HXb.out.below hb9)
      clear hxb hfb hkb
      have hxb := HXb.out.2.1
      have hfb := HXb.out.2.2
      have hkb := HXb.out.1
      replace HXf := Lib.hid (HXf.out.below hb9)
      clear hxf hff hkf
      have hxf := HXf.out.2.1
      have hff := HXf.out.2.2
      have hkf := HXf.out.1
      replace HXg := Lib.hid (HXg.out.below hb9)
      clear hxg hfg hkg
      have hxg := HXg.out.2.1
      have hfg := HXg.out.2.2
      have hkg := HXg.out.1
      clear h9 hb9 t1 t2 g1 x1 x2 hpe hix
      go_wp2
      refine bodyPost_named (fun w77 hw => ?_)
      have hb77 : Hid (Below w.heap.size w w77) := by rw [Hid, hw]; exact (by ((repeat (first | ((with_reducible refine Below.alloc ?_ ?_ _); rotate_left 1; (focus (first | omega | (simp; done) | (simp; omega)))) | (with_reducible refine Below.drew ?_) | ((with_reducible refine Below.setCell ?_ ?_ _); rotate_left 1; (focus (first | omega | (simp; done) | (simp; omega)))))); exact HB.out))
      clear hw
      go_ret
      exact ⟨ret_bool (by rw [HNO.out]), hb77.out⟩
     have e1 : decide (fz < 0) = false := decide_eq_false (by omega)
     have HA2 : Hid ((rs.take (k + 1)).all (leafIn es n1) = true) := Lib.hid (by rw [allTo_succ HX.out, HAL.out, HLI.out, decide_eq_true hz]; rfl)
     refine wp_region_later (by kernel_rfl) (by kernel_rfl) ?_
     repeat (go_big_quiet_step ((with_reducible exact later_pure (HLE.out _))))
     refine wpQuiet_nil ?_
     intro wA h9
     have hb9 := later_below h9
     replace HBR := Lib.hid (below_then HBR.out hb9 HBR.out.size)
     have hzwA : wr.heap.size ≤ wA.heap.size := hb9.size
     have hzzwA : w.heap.size ≤ wA.heap.size := by omega
     replace HB := Lib.hid (below_then HB.out hb9 HB.out.size)
     replace HOE := Lib.hid (HOE.out.below hb9)
     replace HOR := Lib.hid (HOR.out.below hb9)
     replace HOH := Lib.hid (HOH.out.below hb9)
     replace HOX := Lib.hid (HOX.out.below hb9)
     replace HOY := Lib.hid (HOY.out.below hb9)
     replace HOL := Lib.hid (HOL.out.below hb9)
     replace HOT := Lib.hid (HOT.out.below hb9)
     replace HXb := Lib.hid (HXb.out.below hb9)
     clear hxb hfb hkb
     have hxb := HXb.out.2.1
     have hfb := HXb.out.2.2
     have hkb := HXb.out.1
     replace HXf := Lib.hid (HXf.out.below hb9)
     clear hxf hff hkf
     have hxf := HXf.out.2.1
     have hff := HXf.out.2.2
     have hkf := HXf.out.1
     replace HXg := Lib.hid (HXg.out.below hb9)
     clear hxg hfg hkg
     have hxg := HXg.out.2.1
     have hfg := HXg.out.2.2
     have hkg := HXg.out.1
     clear h9 hb9 t1 t2 g1 x1 x2 hpe hix
     go_wp2
     go_roundw
     case rel => exact ⟨k + 1, by omega, by go_num, HA2.out, HBR.out⟩
     case measure => simp [intOf]; omega
    ·obtain rfl : nr = k := by omega
     have HYES : Hid (brkParts width es rs hs = true) := Lib.hid (by
      have h5 := HAL.out
      rw [List.take_of_length_le (by rw [HLEN.out.2.1]; exact Nat.le_refl _)] at h5
      rw [HDEP.out, h5, decide_eq_true hn0]; rfl)
     have HFN := Lib.hid (HBK.out HYES.out)
     clear HBK HDEP HDEF HAL HBR HEM
     have k1 := grow0 (width := width) HW1.out HLA.out (m := n1) (by rw [HLL.out]; omega) (by omega)
     have k2 := grow0 (width := width) HW1.out HTA.out (m := n2) (by rw [HTL.out]; omega) (by omega)
     have hrg1 := fun W (a : Rd W 0 W.heap.size X5 (strs (ll.take n1))) => specRangeOf_c width X5 d5 0 W.heap.size n1 (ll.take n1) W a (by rw [List.length_take, HLL.out]; omega) (by omega)
     have hrg2 := fun W (a : Rd W 0 W.heap.size X6 (strs (tt.take n2))) => specRangeOf_c width X6 d6 0 W.heap.size n2 (tt.take n2) W a (by rw [List.length_take, HTL.out]; omega) (by omega)
     rw [k1.1, k1.2.1, k1.2.2] at hrg1
     rw [k2.1, k2.2.1, k2.2.2] at hrg2
     have HRG1 := Lib.hid hrg1
     have HRG2 := Lib.hid hrg2
     have hgl1 := growUp_len (width := width) (leaves := ll) (show ([] : List ByteArray).length = popN 0 by decide) (k := n1) (by omega)
     have hgl2 := growUp_len (width := width) (leaves := tt) (show ([] : List ByteArray).length = popN 0 by decide) (k := n2) (by omega)
     have hp1 : popN (0 + n1) ≤ 10 := popUp_le _ 10
     have hp2 : popN (0 + n2) ≤ 10 := popUp_le _ 10
     have hgz1 : (growUp width 0 [] ll n1).length ≤ 1048576 := by omega
     have hgz2 : (growUp width 0 [] tt n2).length ≤ 1048576 := by omega
     have hs1 := slicePreS X5 ne d5 n1 (by omega)
     have hs2 := slicePreS X6 nr d6 n2 (by omega)
     clear hrg1 hrg2 k1 k2 hgl1 hgl2 hp1 hp2
     generalize growUp width 0 [] ll n1 = gl1 at *
     generalize growUp width 0 [] tt n2 = gl2 at *
     have HSO := Lib.hid (fun W (a1 : Rd W 0 W.heap.size A1 (strs l1)) (a2 : Rd W 0 W.heap.size A2 (strs l2)) => specSealOk_c width z1 z2 A1 A2 c1 c2 0 W.heap.size 0 W.heap.size m1 m2 l1 l2 h W a1 a2 HLEN.out.2.2.2.1 HLEN.out.2.2.2.2 b4 b5 HSB.out)
     go_wp2_with fail
     refine wp_named (fun w9 hw => ?_)
     have hz9 : wr.heap.size + 0 ≤ w9.heap.size := by rw [hw]; first | omega | (simp [World.setCell]; done) | (simp [World.setCell]; omega)
     have hzz9 : w.heap.size ≤ w9.heap.size := by omega
     have hbn : Below wr.heap.size wr w9 := by rw [hw]; exact (by ((repeat (first | ((with_reducible refine Below.alloc ?_ ?_ _); rotate_left 1; (focus (first | omega | (simp; done) | (simp; omega)))) | (with_reducible refine Below.drew ?_) | ((with_reducible refine Below.setCell ?_ ?_ _); rotate_left 1; (focus (first | omega | (simp; done) | (simp; omega)))))); exact Below.refl _ _))
     replace HB := Lib.hid (below_then HB.out hbn HB.out.size)
     replace HOE := Lib.hid (HOE.out.below hbn)
     replace HOR := Lib.hid (HOR.out.below hbn)
     replace HOH := Lib.hid (HOH.out.below hbn)
     replace HOX := Lib.hid (HOX.out.below hbn)
     replace HOY := Lib.hid (HOY.out.below hbn)
     replace HOL := Lib.hid (HOL.out.below hbn)
     replace HOT := Lib.hid (HOT.out.below hbn)
     replace HXb := Lib.hid (HXb.out.below hbn)
     clear hxb hfb hkb
     have hxb := HXb.out.2.1
     have hfb := HXb.out.2.2
     have hkb := HXb.out.1
     replace HXf := Lib.hid (HXf.out.below hbn)
     clear hxf hff hkf
     have hxf := HXf.out.2.1
     have hff := HXf.out.2.2
     have hkf := HXf.out.1
     replace HXg := Lib.hid (HXg.out.below hbn)
     clear hxg hfg hkg
     have hxg := HXg.out.2.1
     have hfg := HXg.out.2.2
     have hkg := HXg.out.1
     clear hbn
     clear hw
     obtain ⟨F, HF⟩ : ∃ F : Facts, Hid (F = fun iq xq tqs dsq uq => match iq with
      | 0 => xq.v = .pointer (some ⟨(w.heap.size), 0, none⟩)
      | 1 => xq.v = .int .i64 width
      | 2 => xq.v = .slice X5 ne d5
      | 3 => xq.v = .pointer (some ⟨(wM.heap.size), 1, none⟩)
      | 4 => xq.v = .int .i64 n1
      | 5 => xq.v = .slice X5 n1 d5
      | 6 => ∃ (Q1 : Option Addr) (y1 : Nat), xq.v = .tuple #[.agg #[.int .i64 n1, .slice Q1 gl1.length y1], .bool true] ∧ (Rd uq xq.s xq.e Q1 (strs gl1))
      | 7 => (match tqs, dsq with | [], [yq0] => ∃ (Q1 : Option Addr) (y1 : Nat), yq0.v = .tuple #[.agg #[.int .i64 n1, .slice Q1 gl1.length y1], .bool true] ∧ xq.v = .tuple #[.agg #[.int .i64 n1, .slice Q1 gl1.length y1], .bool true] | _, _ => False)
      | 8 => (match tqs, dsq with | [], [yq0] => ∃ (Q1 : Option Addr) (y1 : Nat), yq0.v = .tuple #[.agg #[.int .i64 n1, .slice Q1 gl1.length y1], .bool true] ∧ xq.v = .agg #[.int .i64 n1, .slice Q1 gl1.length y1] | _, _ => False)
      | 9 => (match tqs, dsq with | [], [yq0] => ∃ (Q1 : Option Addr) (y1 : Nat), yq0.v = .tuple #[.agg #[.int .i64 n1, .slice Q1 gl1.length y1], .bool true] ∧ xq.v = .bool true | _, _ => False)
      | 10 => xq.v = .pointer (some ⟨xq.s, 0, none⟩) ∧ xq.s < xq.e ∧ NewBox uq xq.s [.int .i64 0, .slice none 0 0]
      | 11 => (match tqs, dsq with | [tq0], [yq0] => tq0.v = .pointer (some ⟨tq0.s, 0, none⟩) ∧ tq0.s < tq0.e ∧ ∃ (Q1 : Option Addr) (y1 : Nat), yq0.v = .tuple #[.agg #[.int .i64 n1, .slice Q1 gl1.length y1], .bool true] ∧ NewBox uq tq0.s [.int .i64 n1, .slice Q1 gl1.length y1] | _, _ => False)
      | 12 => (match tqs, dsq with | [], [yq0] => ∃ (Q1 : Option Addr) (y1 : Nat), yq0.v = .tuple #[.agg #[.int .i64 n1, .slice Q1 gl1.length y1], .bool true] ∧ xq.v = .bool true | _, _ => False)
      | _ => False) := ⟨_, rfl⟩
     refine wp_region_facts [[], [], [], [], [], [], [], [6], [6], [6], [], [6], [6]] [[], [], [], [], [], [], [], [], [], [], [], [10], []] [some 146, some 147, some 148, some 149, some 150, some 151, some 152, some 145, some 153, some 154, some 11, none, some 12] none 0 0 (.inl rfl) F (by kernel_rfl) (by kernel_rfl) (by kernel_rfl) ?_ ⟨?_, ?_, ?_, ?_, ?_, ?_, ?_, ?_, ?_, ?_, ?_, ?_, ?_, trivial⟩ ?_
     ·rw [HF.out]; intro iq xq tqs dsq uq u' hi hf hs hW hx hbk
      have kx : ∀ b, xq.s ≤ b → b < xq.e → u'.heap[b]? = uq.heap[b]? := fun b h1 h2 => hbk b (.inr (.inl ⟨h1, h2⟩))
      have kt : ∀ t ∈ tqs, ∀ b, t.s ≤ b → b < t.e → u'.heap[b]? = uq.heap[b]? := fun t ht b h1 h2 => hbk b (.inr (.inr ⟨t, ht, h1, h2⟩))
      match iq with
      | 0 => exact hf
      | 1 => exact hf
      | 2 => exact hf
      | 3 => exact hf
      | 4 => exact hf
      | 5 => exact hf
      | 6 => obtain ⟨Q1, y1, hv, p0⟩ := hf; exact ⟨Q1, y1, hv, p0.keep hs (fun k h1 h2 => kx k h1 h2)⟩
      | 7 => exact hf
      | 8 => exact hf
      | 9 => exact hf
      | 10 => exact ⟨hf.1, hf.2.1, hf.2.2.keep hs (kx _ (Nat.le_refl _) hf.2.1)⟩
      | 11 => match tqs, dsq, hf with | [tq0], [yq0], hf => obtain ⟨h1, h2, Q1, y1, hvr6, hb⟩ := hf; exact ⟨h1, h2, Q1, y1, hvr6, hb.keep hs (kt tq0 List.mem_cons_self _ (Nat.le_refl _) h2)⟩
      | 12 => exact hf
     ·intro gh ρ u hc hf1 hg1 hd h0 hb he ha hF
      have r1 : ρ (.tmp 1) = .pointer (some ⟨w.heap.size, 0, none⟩) := (h0 1 (by decide +kernel)).trans rfl
      clear  hd h0 he ha hF
      go_simp
      rw [HF.out]
      exact ⟨OnlyL.refl _ _, rfl⟩
     ·intro gh ρ u hc hf1 hg1 hd h0 hb he ha hF
      replace hb : Below w9.heap.size w9 u := hb.drew.below (by decide +kernel)
      have hbz : w9.heap.size ≤ u.heap.size := hb.size
      have r146 : ρ (.tmp 146) = .pointer (some ⟨(w.heap.size), 0, none⟩) := by have h := hF 0 (by decide +kernel) (by decide +kernel); rw [HF.out] at h; exact (hd 0 (by decide +kernel) 146 (by kernel_rfl)).trans h
      have q_b := (HXb.out.below hb).2.1
      have k_b : w.heap.size < u.heap.size := by have := HXb.out.1; omega
      have q_g := (HXg.out.below hb).2.1
      have k_g : wM.heap.size < u.heap.size := by have := HXg.out.1; omega
      clear  hd h0 he ha hF
      go_simp
      rw [HF.out]
      exact ⟨OnlyL.refl _ _, rfl⟩
     ·intro gh ρ u hc hf1 hg1 hd h0 hb he ha hF
      have r5 : ρ (.tmp 5) = .slice X5 ne d5 := (h0 5 (by decide +kernel)).trans rfl
      clear  hd h0 he ha hF
      go_simp
      rw [HF.out]
      exact ⟨OnlyL.refl _ _, rfl⟩
     ·intro gh ρ u hc hf1 hg1 hd h0 hb he ha hF
      have r9 : ρ (.tmp 9) = .pointer (some ⟨wM.heap.size, 0, none⟩) := (h0 9 (by decide +kernel)).trans rfl
      clear  hd h0 he ha hF
      go_simp
      rw [HF.out]
      exact ⟨OnlyL.refl _ _, rfl⟩
     ·intro gh ρ u hc hf1 hg1 hd h0 hb he ha hF
      replace hb : Below w9.heap.size w9 u := hb.drew.below (by decide +kernel)
      have hbz : w9.heap.size ≤ u.heap.size := hb.size
      have r149 : ρ (.tmp 149) = .pointer (some ⟨(wM.heap.size), 1, none⟩) := by have h := hF 3 (by decide +kernel) (by decide +kernel); rw [HF.out] at h; exact (hd 3 (by decide +kernel) 149 (by kernel_rfl)).trans h
      have q_b := (HXb.out.below hb).2.1
      have k_b : w.heap.size < u.heap.size := by have := HXb.out.1; omega
      have q_g := (HXg.out.below hb).2.1
      have k_g : wM.heap.size < u.heap.size := by have := HXg.out.1; omega
      clear  hd h0 he ha hF
      go_simp
      rw [HF.out]
      exact ⟨OnlyL.refl _ _, rfl⟩
     ·intro gh ρ u hc hf1 hg1 hd h0 hb he ha hF
      have r148 : ρ (.tmp 148) = .slice X5 ne d5 := by have h := hF 2 (by decide +kernel) (by decide +kernel); rw [HF.out] at h; exact (hd 2 (by decide +kernel) 148 (by kernel_rfl)).trans h
      have r150 : ρ (.tmp 150) = .int .i64 n1 := by have h := hF 4 (by decide +kernel) (by decide +kernel); rw [HF.out] at h; exact (hd 4 (by decide +kernel) 150 (by kernel_rfl)).trans h
      clear  hd h0 he ha hF
      go_simp
      rw [HF.out]
      exact ⟨OnlyL.refl _ _, rfl⟩
     ·intro gh ρ u hc hf1 hg1 hd h0 hb he ha hF
      replace hb : Below w9.heap.size w9 u := hb.drew.below (by decide +kernel)
      have hbz : w9.heap.size ≤ u.heap.size := hb.size
      have r147 : ρ (.tmp 147) = .int .i64 width := by have h := hF 1 (by decide +kernel) (by decide +kernel); rw [HF.out] at h; exact (hd 1 (by decide +kernel) 147 (by kernel_rfl)).trans h
      have r151 : ρ (.tmp 151) = .slice X5 n1 d5 := by have h := hF 5 (by decide +kernel) (by decide +kernel); rw [HF.out] at h; exact (hd 5 (by decide +kernel) 151 (by kernel_rfl)).trans h
      clear  hd h0 he ha hF
      go_simp
      have q_b := (HXb.out.below hb)
      have q_g := (HXg.out.below hb)
      refine (HRG1.out _ ((HOL.out.below hb).base.takeS n1)).mono ?_
      rintro e u1 ⟨Q1, y1, rfl, ho, hb1⟩
      rw [HF.out]
      exact ⟨_, rfl, OnlyL.of_below hb1, Q1, y1, rfl, ho.rd⟩
     ·intro gh ρ u hc hf1 hg1 hd h0 hb he ha hF
      have f6 : ∃ (Q1 : Option Addr) (y1 : Nat), (gh 6).v = .tuple #[.agg #[.int .i64 n1, .slice Q1 gl1.length y1], .bool true] ∧ (Rd u (gh 6).s (gh 6).e Q1 (strs gl1)) := by have h := hF 6 (by decide +kernel) (by decide +kernel); rw [HF.out] at h; exact h
      obtain ⟨Q1, y1, hv6, g6_0⟩ := f6
      have hrt6 := hv6
      have r152 : ρ (.tmp 152) = .tuple #[.agg #[.int .i64 n1, .slice Q1 gl1.length y1], .bool true] := (hd 6 (by decide +kernel) 152 (by kernel_rfl)).trans hv6
      have HRT6 := Lib.hid hrt6
      clear hv6 hrt6 hd h0 he ha hF
      go_simp
      rw [HF.out]
      exact ⟨OnlyL.refl _ _, Q1, y1, HRT6.out, rfl⟩
     ·intro gh ρ u hc hf1 hg1 hd h0 hb he ha hF
      have f7 : ∃ (Q1 : Option Addr) (y1 : Nat), (gh 6).v = .tuple #[.agg #[.int .i64 n1, .slice Q1 gl1.length y1], .bool true] ∧ (gh 7).v = .tuple #[.agg #[.int .i64 n1, .slice Q1 gl1.length y1], .bool true] := by have h := hF 7 (by decide +kernel) (by decide +kernel); rw [HF.out] at h; exact h
      obtain ⟨Q1, y1, hrt6, hv7⟩ := f7
      have r145 : ρ (.tmp 145) = .tuple #[.agg #[.int .i64 n1, .slice Q1 gl1.length y1], .bool true] := (hd 7 (by decide +kernel) 145 (by kernel_rfl)).trans hv7
      have HRT6 := Lib.hid hrt6
      clear hv7 hrt6 hd h0 he ha hF
      go_simp
      rw [HF.out]
      exact ⟨OnlyL.refl _ _, Q1, y1, HRT6.out, rfl⟩
     ·intro gh ρ u hc hf1 hg1 hd h0 hb he ha hF
      have f7 : ∃ (Q1 : Option Addr) (y1 : Nat), (gh 6).v = .tuple #[.agg #[.int .i64 n1, .slice Q1 gl1.length y1], .bool true] ∧ (gh 7).v = .tuple #[.agg #[.int .i64 n1, .slice Q1 gl1.length y1], .bool true] := by have h := hF 7 (by decide +kernel) (by decide +kernel); rw [HF.out] at h; exact h
      obtain ⟨Q1, y1, hrt6, hv7⟩ := f7
      have r145 : ρ (.tmp 145) = .tuple #[.agg #[.int .i64 n1, .slice Q1 gl1.length y1], .bool true] := (hd 7 (by decide +kernel) 145 (by kernel_rfl)).trans hv7
      have HRT6 := Lib.hid hrt6
      clear hv7 hrt6 hd h0 he ha hF
      go_simp
      rw [HF.out]
      exact ⟨OnlyL.refl _ _, Q1, y1, HRT6.out, rfl⟩
     ·intro gh ρ u hc hf1 hg1 hd h0 hb he ha hF
      replace hb : Below w9.heap.size w9 u := hb.drew.below (by decide +kernel)
      have hbz : w9.heap.size ≤ u.heap.size := hb.size
      clear  hd h0 he ha hF
      go_simp
      rw [HF.out]
      exact ⟨OnlyL.of_below ((Below.refl _ _).alloc (Nat.le_refl _) _), rfl, by simp, NewBox.new _ _ _⟩
     ·intro gh ρ u hc hf1 hg1 hd h0 hb he ha hF
      replace hb : Below w9.heap.size w9 u := hb.drew.below (by decide +kernel)
      have hbz : w9.heap.size ≤ u.heap.size := hb.size
      have f10 : (gh 10).v = .pointer (some ⟨(gh 10).s, 0, none⟩) ∧ (gh 10).s < (gh 10).e ∧ NewBox u (gh 10).s [.int .i64 0, .slice none 0 0] := by have h := hF 10 (by decide +kernel) (by decide +kernel); rw [HF.out] at h; exact h
      obtain ⟨hv10, hpl, hpz, hpc, hpf⟩ := f10
      have r11 : ρ (.tmp 11) = .pointer (some ⟨(gh 10).s, 0, none⟩) := (hd 10 (by decide +kernel) 11 (by kernel_rfl)).trans hv10
      have HP := Lib.hid hv10
      have f8 : ∃ (Q1 : Option Addr) (y1 : Nat), (gh 6).v = .tuple #[.agg #[.int .i64 n1, .slice Q1 gl1.length y1], .bool true] ∧ (gh 8).v = .agg #[.int .i64 n1, .slice Q1 gl1.length y1] := by have h := hF 8 (by decide +kernel) (by decide +kernel); rw [HF.out] at h; exact h
      obtain ⟨Q1, y1, hrt6, hv8⟩ := f8
      have r153 : ρ (.tmp 153) = .agg #[.int .i64 n1, .slice Q1 gl1.length y1] := (hd 8 (by decide +kernel) 153 (by kernel_rfl)).trans hv8
      have HRT6 := Lib.hid hrt6
      obtain ⟨_, _, _⟩ := he 10 (by decide +kernel)
      clear hv10 hv8 hrt6 hd h0 he ha hF
      go_simp
      rw [HF.out]
      refine ⟨?_, HP.out, hpl, Q1, y1, HRT6.out, ?_⟩
      ·refine OnlyL.of_only (t := gh 10) ?_; refine Only.setCell ?_ (by exact Nat.le_refl _) (by exact hpl) _; refine Only.setCell ?_ (by exact Nat.le_refl _) (by exact hpl) _; exact Only.refl _ _ _
      ·show NewBox _ (gh 10).s _
       exact ⟨by simpa [World.setCell] using hpz, fun o => by rcases o with _ | _ | o <;> go_simp, fun o => by go_simp⟩
     ·intro gh ρ u hc hf1 hg1 hd h0 hb he ha hF
      have f9 : ∃ (Q1 : Option Addr) (y1 : Nat), (gh 6).v = .tuple #[.agg #[.int .i64 n1, .slice Q1 gl1.length y1], .bool true] ∧ (gh 9).v = .bool true := by have h := hF 9 (by decide +kernel) (by decide +kernel); rw [HF.out] at h; exact h
      obtain ⟨Q1, y1, hrt6, hv9⟩ := f9
      have r154 : ρ (.tmp 154) = .bool true := (hd 9 (by decide +kernel) 154 (by kernel_rfl)).trans hv9
      have HRT6 := Lib.hid hrt6
      clear hv9 hrt6 hd h0 he ha hF
      go_simp
      rw [HF.out]
      exact ⟨OnlyL.refl _ _, Q1, y1, HRT6.out, rfl⟩
     intro gh w10 hB hE hA hF
     replace hB : Below w9.heap.size w9 w10 := hB.below rfl
     have f0 : (gh 0).v = .pointer (some ⟨(w.heap.size), 0, none⟩) := by have h := hF 0 (by decide +kernel) (by decide +kernel); rw [HF.out] at h; exact h
     have f1 : (gh 1).v = .int .i64 width := by have h := hF 1 (by decide +kernel) (by decide +kernel); rw [HF.out] at h; exact h
     have f2 : (gh 2).v = .slice X5 ne d5 := by have h := hF 2 (by decide +kernel) (by decide +kernel); rw [HF.out] at h; exact h
     have f3 : (gh 3).v = .pointer (some ⟨(wM.heap.size), 1, none⟩) := by have h := hF 3 (by decide +kernel) (by decide +kernel); rw [HF.out] at h; exact h
     have f4 : (gh 4).v = .int .i64 n1 := by have h := hF 4 (by decide +kernel) (by decide +kernel); rw [HF.out] at h; exact h
     have f5 : (gh 5).v = .slice X5 n1 d5 := by have h := hF 5 (by decide +kernel) (by decide +kernel); rw [HF.out] at h; exact h
     have f6 : ∃ (Q1 : Option Addr) (y1 : Nat), (gh 6).v = .tuple #[.agg #[.int .i64 n1, .slice Q1 gl1.length y1], .bool true] ∧ (Rd w10 (gh 6).s (gh 6).e Q1 (strs gl1)) := by have h := hF 6 (by decide +kernel) (by decide +kernel); rw [HF.out] at h; exact h
     have f7 : ∃ (Q1 : Option Addr) (y1 : Nat), (gh 6).v = .tuple #[.agg #[.int .i64 n1, .slice Q1 gl1.length y1], .bool true] ∧ (gh 7).v = .tuple #[.agg #[.int .i64 n1, .slice Q1 gl1.length y1], .bool true] := by have h := hF 7 (by decide +kernel) (by decide +kernel); rw [HF.out] at h; exact h
     have f8 : ∃ (Q1 : Option Addr) (y1 : Nat), (gh 6).v = .tuple #[.agg #[.int .i64 n1, .slice Q1 gl1.length y1], .bool true] ∧ (gh 8).v = .agg #[.int .i64 n1, .slice Q1 gl1.length y1] := by have h := hF 8 (by decide +kernel) (by decide +kernel); rw [HF.out] at h; exact h
     have f9 : ∃ (Q1 : Option Addr) (y1 : Nat), (gh 6).v = .tuple #[.agg #[.int .i64 n1, .slice Q1 gl1.length y1], .bool true] ∧ (gh 9).v = .bool true := by have h := hF 9 (by decide +kernel) (by decide +kernel); rw [HF.out] at h; exact h
     have f11 : (gh 10).v = .pointer (some ⟨(gh 10).s, 0, none⟩) ∧ (gh 10).s < (gh 10).e ∧ ∃ (Q1 : Option Addr) (y1 : Nat), (gh 6).v = .tuple #[.agg #[.int .i64 n1, .slice Q1 gl1.length y1], .bool true] ∧ NewBox w10 (gh 10).s [.int .i64 n1, .slice Q1 gl1.length y1] := by have h := hF 11 (by decide +kernel) (by decide +kernel); rw [HF.out] at h; exact h
     have f12 : ∃ (Q1 : Option Addr) (y1 : Nat), (gh 6).v = .tuple #[.agg #[.int .i64 n1, .slice Q1 gl1.length y1], .bool true] ∧ (gh 12).v = .bool true := by have h := hF 12 (by decide +kernel) (by decide +kernel); rw [HF.out] at h; exact h
     obtain ⟨Q1, y1, hv6, hq1⟩ := f6
     have hv0 := f0
     have hv1 := f1
     have hv2 := f2
     have hv3 := f3
     have hv4 := f4
     have hv5 := f5
     obtain ⟨Q1_7, y1_7, hu6, hv7⟩ := f7
     replace hu6 := hv6.symm.trans hu6
     simp at hu6
     try simp only [and_assoc] at hu6
     obtain ⟨rfl, rfl⟩ := hu6
     obtain ⟨Q1_8, y1_8, hu6, hv8⟩ := f8
     replace hu6 := hv6.symm.trans hu6
     simp at hu6
     try simp only [and_assoc] at hu6
     obtain ⟨rfl, rfl⟩ := hu6
     obtain ⟨Q1_9, y1_9, hu6, hv9⟩ := f9
     replace hu6 := hv6.symm.trans hu6
     simp at hu6
     try simp only [and_assoc] at hu6
     obtain ⟨rfl, rfl⟩ := hu6
     obtain ⟨hv10, hl10, f11⟩ := f11
     obtain ⟨Q1_11, y1_11, hu6, hx11⟩ := f11
     replace hu6 := hv6.symm.trans hu6
     simp at hu6
     try simp only [and_assoc] at hu6
     obtain ⟨rfl, rfl⟩ := hu6
     obtain ⟨Q1_12, y1_12, hu6, hv12⟩ := f12
     replace hu6 := hv6.symm.trans hu6
     simp at hu6
     try simp only [and_assoc] at hu6
     obtain ⟨rfl, rfl⟩ := hu6
     obtain ⟨hs6, hse6, he6⟩ := hE 6 (by decide +kernel)
     obtain ⟨hs10, hse10, he10⟩ := hE 10 (by decide +kernel)
     have hdj10_6_10 := hA 6 (by decide +kernel) 10 (by decide +kernel) (by decide)
     change w9.heap.size ≤ _ at hs6 hs10
     clear hE hA hF
     simp only [putDs, Nat.reduceAdd, hv0, hv1, hv2, hv3, hv4, hv5, hv6, hv7, hv8, hv9, hv10, hv12]
     clear hv0 hv1 hv2 hv3 hv4 hv5 hv6 hv7 hv8 hv9 hv10 hv12
     generalize (gh 6).s = s10_6 at *
     generalize (gh 6).e = e10_6 at *
     generalize (gh 10).s = s10_10 at *
     generalize (gh 10).e = e10_10 at *
     clear HF
     have hb := hB
     clear hB
     have hzw10 : w9.heap.size ≤ w10.heap.size := hb.size
     have hzzw10 : w.heap.size ≤ w10.heap.size := by omega
     replace HB := Lib.hid (below_then HB.out hb HB.out.size)
     replace HOE := Lib.hid (HOE.out.below hb)
     replace HOR := Lib.hid (HOR.out.below hb)
     replace HOH := Lib.hid (HOH.out.below hb)
     replace HOX := Lib.hid (HOX.out.below hb)
     replace HOY := Lib.hid (HOY.out.below hb)
     replace HOL := Lib.hid (HOL.out.below hb)
     replace HOT := Lib.hid (HOT.out.below hb)
     replace HXb := Lib.hid (HXb.out.below hb)
     clear hxb hfb hkb
     have hxb := HXb.out.2.1
     have hfb := HXb.out.2.2
     have hkb := HXb.out.1
     replace HXf := Lib.hid (HXf.out.below hb)
     clear hxf hff hkf
     have hxf := HXf.out.2.1
     have hff := HXf.out.2.2
     have hkf := HXf.out.1
     replace HXg := Lib.hid (HXg.out.below hb)
     clear hxg hfg hkg
     have hxg := HXg.out.2.1
     have hfg := HXg.out.2.2
     have hkg := HXg.out.1
     clear hb
     have HXrA : Hid (NewBox w10 (s10_10) [.int .i64 n1, .slice Q1 gl1.length y1]) := hx11
     have hxrA := HXrA.out.2.1
     have hfrA := HXrA.out.2.2
     have hkrA := HXrA.out.1
     clear hx11
     have HOU : Hid (Rd w10 (s10_6) (e10_6) (Q1) (strs gl1)) := hq1
     clear hq1 HRG1 hs1
     simp only [Act.put, List.setIfInBounds_toArray, List.set_cons_zero, List.set_cons_succ]
     go_wp2_with fail
     refine wp_named (fun w11 hw => ?_)
     have hz11 : w10.heap.size + 0 ≤ w11.heap.size := by rw [hw]; first | omega | (simp [World.setCell]; done) | (simp [World.setCell]; omega)
     have hzz11 : w.heap.size ≤ w11.heap.size := by omega
     have hbn : Below w10.heap.size w10 w11 := by rw [hw]; exact (by ((repeat (first | ((with_reducible refine Below.alloc ?_ ?_ _); rotate_left 1; (focus (first | omega | (simp; done) | (simp; omega)))) | (with_reducible refine Below.drew ?_) | ((with_reducible refine Below.setCell ?_ ?_ _); rotate_left 1; (focus (first | omega | (simp; done) | (simp; omega)))))); exact Below.refl _ _))
     replace HB := Lib.hid (below_then HB.out hbn HB.out.size)
     replace HOE := Lib.hid (HOE.out.below hbn)
     replace HOR := Lib.hid (HOR.out.below hbn)
     replace HOH := Lib.hid (HOH.out.below hbn)
     replace HOX := Lib.hid (HOX.out.below hbn)
     replace HOY := Lib.hid (HOY.out.below hbn)
     replace HOL := Lib.hid (HOL.out.below hbn)
     replace HOT := Lib.hid (HOT.out.below hbn)
     replace HOU := Lib.hid (HOU.out.below hbn)
     replace HXb := Lib.hid (HXb.out.below hbn)
     clear hxb hfb hkb
     have hxb := HXb.out.2.1
     have hfb := HXb.out.2.2
     have hkb := HXb.out.1
     replace HXf := Lib.hid (HXf.out.below hbn)
     clear hxf hff hkf
     have hxf := HXf.out.2.1
     have hff := HXf.out.2.2
     have hkf := HXf.out.1
     replace HXg := Lib.hid (HXg.out.below hbn)
     clear hxg hfg hkg
     have hxg := HXg.out.2.1
     have hfg := HXg.out.2.2
     have hkg := HXg.out.1
     replace HXrA := Lib.hid (HXrA.out.below hbn)
     clear hxrA hfrA hkrA
     have hxrA := HXrA.out.2.1
     have hfrA := HXrA.out.2.2
     have hkrA := HXrA.out.1
     clear hbn
     clear hw
     obtain ⟨F, HF⟩ : ∃ F : Facts, Hid (F = fun iq xq tqs dsq uq => match iq with
      | 0 => xq.v = .pointer (some ⟨(w.heap.size), 0, none⟩)
      | 1 => xq.v = .int .i64 width
      | 2 => xq.v = .slice X6 nr d6
      | 3 => xq.v = .pointer (some ⟨(wM.heap.size), 3, none⟩)
      | 4 => xq.v = .int .i64 n2
      | 5 => xq.v = .slice X6 n2 d6
      | 6 => ∃ (Q2 : Option Addr) (y2 : Nat), xq.v = .tuple #[.agg #[.int .i64 n2, .slice Q2 gl2.length y2], .bool true] ∧ (Rd uq xq.s xq.e Q2 (strs gl2))
      | 7 => (match tqs, dsq with | [], [yq0] => ∃ (Q2 : Option Addr) (y2 : Nat), yq0.v = .tuple #[.agg #[.int .i64 n2, .slice Q2 gl2.length y2], .bool true] ∧ xq.v = .tuple #[.agg #[.int .i64 n2, .slice Q2 gl2.length y2], .bool true] | _, _ => False)
      | 8 => (match tqs, dsq with | [], [yq0] => ∃ (Q2 : Option Addr) (y2 : Nat), yq0.v = .tuple #[.agg #[.int .i64 n2, .slice Q2 gl2.length y2], .bool true] ∧ xq.v = .agg #[.int .i64 n2, .slice Q2 gl2.length y2] | _, _ => False)
      | 9 => (match tqs, dsq with | [], [yq0] => ∃ (Q2 : Option Addr) (y2 : Nat), yq0.v = .tuple #[.agg #[.int .i64 n2, .slice Q2 gl2.length y2], .bool true] ∧ xq.v = .bool true | _, _ => False)
      | 10 => xq.v = .pointer (some ⟨xq.s, 0, none⟩) ∧ xq.s < xq.e ∧ NewBox uq xq.s [.int .i64 0, .slice none 0 0]
      | 11 => (match tqs, dsq with | [tq0], [yq0] => tq0.v = .pointer (some ⟨tq0.s, 0, none⟩) ∧ tq0.s < tq0.e ∧ ∃ (Q2 : Option Addr) (y2 : Nat), yq0.v = .tuple #[.agg #[.int .i64 n2, .slice Q2 gl2.length y2], .bool true] ∧ NewBox uq tq0.s [.int .i64 n2, .slice Q2 gl2.length y2] | _, _ => False)
      | 12 => (match tqs, dsq with | [], [yq0] => ∃ (Q2 : Option Addr) (y2 : Nat), yq0.v = .tuple #[.agg #[.int .i64 n2, .slice Q2 gl2.length y2], .bool true] ∧ xq.v = .bool true | _, _ => False)
      | _ => False) := ⟨_, rfl⟩
     refine wp_region_facts [[], [], [], [], [], [], [], [6], [6], [6], [], [6], [6]] [[], [], [], [], [], [], [], [], [], [], [], [10], []] [some 156, some 157, some 158, some 159, some 160, some 161, some 162, some 155, some 163, some 164, some 13, none, some 14] none 0 0 (.inl rfl) F (by kernel_rfl) (by kernel_rfl) (by kernel_rfl) ?_ ⟨?_, ?_, ?_, ?_, ?_, ?_, ?_, ?_, ?_, ?_, ?_, ?_, ?_, trivial⟩ ?_
     ·rw [HF.out]; intro iq xq tqs dsq uq u' hi hf hs hW hx hbk
      have kx : ∀ b, xq.s ≤ b → b < xq.e → u'.heap[b]? = uq.heap[b]? := fun b h1 h2 => hbk b (.inr (.inl ⟨h1, h2⟩))
      have kt : ∀ t ∈ tqs, ∀ b, t.s ≤ b → b < t.e → u'.heap[b]? = uq.heap[b]? := fun t ht b h1 h2 => hbk b (.inr (.inr ⟨t, ht, h1, h2⟩))
      match iq with
      | 0 => exact hf
      | 1 => exact hf
      | 2 => exact hf
      | 3 => exact hf
      | 4 => exact hf
      | 5 => exact hf
      | 6 => obtain ⟨Q2, y2, hv, p0⟩ := hf; exact ⟨Q2, y2, hv, p0.keep hs (fun k h1 h2 => kx k h1 h2)⟩
      | 7 => exact hf
      | 8 => exact hf
      | 9 => exact hf
      | 10 => exact ⟨hf.1, hf.2.1, hf.2.2.keep hs (kx _ (Nat.le_refl _) hf.2.1)⟩
      | 11 => match tqs, dsq, hf with | [tq0], [yq0], hf => obtain ⟨h1, h2, Q2, y2, hvr6, hb⟩ := hf; exact ⟨h1, h2, Q2, y2, hvr6, hb.keep hs (kt tq0 List.mem_cons_self _ (Nat.le_refl _) h2)⟩
      | 12 => exact hf
     ·intro gh ρ u hc hf1 hg1 hd h0 hb he ha hF
      have r1 : ρ (.tmp 1) = .pointer (some ⟨w.heap.size, 0, none⟩) := (h0 1 (by decide +kernel)).trans rfl
      clear  hd h0 he ha hF
      go_simp
      rw [HF.out]
      exact ⟨OnlyL.refl _ _, rfl⟩
     ·intro gh ρ u hc hf1 hg1 hd h0 hb he ha hF
      replace hb : Below w11.heap.size w11 u := hb.drew.below (by decide +kernel)
      have hbz : w11.heap.size ≤ u.heap.size := hb.size
      have r156 : ρ (.tmp 156) = .pointer (some ⟨(w.heap.size), 0, none⟩) := by have h := hF 0 (by decide +kernel) (by decide +kernel); rw [HF.out] at h; exact (hd 0 (by decide +kernel) 156 (by kernel_rfl)).trans h
      have q_b := (HXb.out.below hb).2.1
      have k_b : w.heap.size < u.heap.size := by have := HXb.out.1; omega
      have q_g := (HXg.out.below hb).2.1
      have k_g : wM.heap.size < u.heap.size := by have := HXg.out.1; omega
      clear  hd h0 he ha hF
      go_simp
      rw [HF.out]
      exact ⟨OnlyL.refl _ _, rfl⟩
     ·intro gh ρ u hc hf1 hg1 hd h0 hb he ha hF
      have r6 : ρ (.tmp 6) = .slice X6 nr d6 := (h0 6 (by decide +kernel)).trans rfl
      clear  hd h0 he ha hF
      go_simp
      rw [HF.out]
      exact ⟨OnlyL.refl _ _, rfl⟩
     ·intro gh ρ u hc hf1 hg1 hd h0 hb he ha hF
      have r9 : ρ (.tmp 9) = .pointer (some ⟨wM.heap.size, 0, none⟩) := (h0 9 (by decide +kernel)).trans rfl
      clear  hd h0 he ha hF
      go_simp
      rw [HF.out]
      exact ⟨OnlyL.refl _ _, rfl⟩
     ·intro gh ρ u hc hf1 hg1 hd h0 hb he ha hF
      replace hb : Below w11.heap.size w11 u := hb.drew.below (by decide +kernel)
      have hbz : w11.heap.size ≤ u.heap.size := hb.size
      have r159 : ρ (.tmp 159) = .pointer (some ⟨(wM.heap.size), 3, none⟩) := by have h := hF 3 (by decide +kernel) (by decide +kernel); rw [HF.out] at h; exact (hd 3 (by decide +kernel) 159 (by kernel_rfl)).trans h
      have q_b := (HXb.out.below hb).2.1
      have k_b : w.heap.size < u.heap.size := by have := HXb.out.1; omega
      have q_g := (HXg.out.below hb).2.1
      have k_g : wM.heap.size < u.heap.size := by have := HXg.out.1; omega
      clear  hd h0 he ha hF
      go_simp
      rw [HF.out]
      exact ⟨OnlyL.refl _ _, rfl⟩
     ·intro gh ρ u hc hf1 hg1 hd h0 hb he ha hF
      have r158 : ρ (.tmp 158) = .slice X6 nr d6 := by have h := hF 2 (by decide +kernel) (by decide +kernel); rw [HF.out] at h; exact (hd 2 (by decide +kernel) 158 (by kernel_rfl)).trans h
      have r160 : ρ (.tmp 160) = .int .i64 n2 := by have h := hF 4 (by decide +kernel) (by decide +kernel); rw [HF.out] at h; exact (hd 4 (by decide +kernel) 160 (by kernel_rfl)).trans h
      clear  hd h0 he ha hF
      go_simp
      rw [HF.out]
      exact ⟨OnlyL.refl _ _, rfl⟩
     ·intro gh ρ u hc hf1 hg1 hd h0 hb he ha hF
      replace hb : Below w11.heap.size w11 u := hb.drew.below (by decide +kernel)
      have hbz : w11.heap.size ≤ u.heap.size := hb.size
      have r157 : ρ (.tmp 157) = .int .i64 width := by have h := hF 1 (by decide +kernel) (by decide +kernel); rw [HF.out] at h; exact (hd 1 (by decide +kernel) 157 (by kernel_rfl)).trans h
      have r161 : ρ (.tmp 161) = .slice X6 n2 d6 := by have h := hF 5 (by decide +kernel) (by decide +kernel); rw [HF.out] at h; exact (hd 5 (by decide +kernel) 161 (by kernel_rfl)).trans h
      clear  hd h0 he ha hF
      go_simp
      have q_b := (HXb.out.below hb)
      have q_g := (HXg.out.below hb)
      refine (HRG2.out _ ((HOT.out.below hb).base.takeS n2)).mono ?_
      rintro e u1 ⟨Q2, y2, rfl, ho, hb1⟩
      rw [HF.out]
      exact ⟨_, rfl, OnlyL.of_below hb1, Q2, y2, rfl, ho.rd⟩
     ·intro gh ρ u hc hf1 hg1 hd h0 hb he ha hF
      have f6 : ∃ (Q2 : Option Addr) (y2 : Nat), (gh 6).v = .tuple #[.agg #[.int .i64 n2, .slice Q2 gl2.length y2], .bool true] ∧ (Rd u (gh 6).s (gh 6).e Q2 (strs gl2)) := by have h := hF 6 (by decide +kernel) (by decide +kernel); rw [HF.out] at h; exact h
      obtain ⟨Q2, y2, hv6, g6_0⟩ := f6
      have hrt6 := hv6
      have r162 : ρ (.tmp 162) = .tuple #[.agg #[.int .i64 n2, .slice Q2 gl2.length y2], .bool true] := (hd 6 (by decide +kernel) 162 (by kernel_rfl)).trans hv6
      have HRT6 := Lib.hid hrt6
      clear hv6 hrt6 hd h0 he ha hF
      go_simp
      rw [HF.out]
      exact ⟨OnlyL.refl _ _, Q2, y2, HRT6.out, rfl⟩
     ·intro gh ρ u hc hf1 hg1 hd h0 hb he ha hF
      have f7 : ∃ (Q2 : Option Addr) (y2 : Nat), (gh 6).v = .tuple #[.agg #[.int .i64 n2, .slice Q2 gl2.length y2], .bool true] ∧ (gh 7).v = .tuple #[.agg #[.int .i64 n2, .slice Q2 gl2.length y2], .bool true] := by have h := hF 7 (by decide +kernel) (by decide +kernel); rw [HF.out] at h; exact h
      obtain ⟨Q2, y2, hrt6, hv7⟩ := f7
      have r155 : ρ (.tmp 155) = .tuple #[.agg #[.int .i64 n2, .slice Q2 gl2.length y2], .bool true] := (hd 7 (by decide +kernel) 155 (by kernel_rfl)).trans hv7
      have HRT6 := Lib.hid hrt6
      clear hv7 hrt6 hd h0 he ha hF
      go_simp
      rw [HF.out]
      exact ⟨OnlyL.refl _ _, Q2, y2, HRT6.out, rfl⟩
     ·intro gh ρ u hc hf1 hg1 hd h0 hb he ha hF
      have f7 : ∃ (Q2 : Option Addr) (y2 : Nat), (gh 6).v = .tuple #[.agg #[.int .i64 n2, .slice Q2 gl2.length y2], .bool true] ∧ (gh 7).v = .tuple #[.agg #[.int .i64 n2, .slice Q2 gl2.length y2], .bool true] := by have h := hF 7 (by decide +kernel) (by decide +kernel); rw [HF.out] at h; exact h
      obtain ⟨Q2, y2, hrt6, hv7⟩ := f7
      have r155 : ρ (.tmp 155) = .tuple #[.agg #[.int .i64 n2, .slice Q2 gl2.length y2], .bool true] := (hd 7 (by decide +kernel) 155 (by kernel_rfl)).trans hv7
      have HRT6 := Lib.hid hrt6
      clear hv7 hrt6 hd h0 he ha hF
      go_simp
      rw [HF.out]
      exact ⟨OnlyL.refl _ _, Q2, y2, HRT6.out, rfl⟩
     ·intro gh ρ u hc hf1 hg1 hd h0 hb he ha hF
      replace hb : Below w11.heap.size w11 u := hb.drew.below (by decide +kernel)
      have hbz : w11.heap.size ≤ u.heap.size := hb.size
      clear  hd h0 he ha hF
      go_simp
      rw [HF.out]
      exact ⟨OnlyL.of_below ((Below.refl _ _).alloc (Nat.le_refl _) _), rfl, by simp, NewBox.new _ _ _⟩
     ·intro gh ρ u hc hf1 hg1 hd h0 hb he ha hF
      replace hb : Below w11.heap.size w11 u := hb.drew.below (by decide +kernel)
      have hbz : w11.heap.size ≤ u.heap.size := hb.size
      have f10 : (gh 10).v = .pointer (some ⟨(gh 10).s, 0, none⟩) ∧ (gh 10).s < (gh 10).e ∧ NewBox u (gh 10).s [.int .i64 0, .slice none 0 0] := by have h := hF 10 (by decide +kernel) (by decide +kernel); rw [HF.out] at h; exact h
      obtain ⟨hv10, hpl, hpz, hpc, hpf⟩ := f10
      have r13 : ρ (.tmp 13) = .pointer (some ⟨(gh 10).s, 0, none⟩) := (hd 10 (by decide +kernel) 13 (by kernel_rfl)).trans hv10
      have HP := Lib.hid hv10
      have f8 : ∃ (Q2 : Option Addr) (y2 : Nat), (gh 6).v = .tuple #[.agg #[.int .i64 n2, .slice Q2 gl2.length y2], .bool true] ∧ (gh 8).v = .agg #[.int .i64 n2, .slice Q2 gl2.length y2] := by have h := hF 8 (by decide +kernel) (by decide +kernel); rw [HF.out] at h; exact h
      obtain ⟨Q2, y2, hrt6, hv8⟩ := f8
      have r163 : ρ (.tmp 163) = .agg #[.int .i64 n2, .slice Q2 gl2.length y2] := (hd 8 (by decide +kernel) 163 (by kernel_rfl)).trans hv8
      have HRT6 := Lib.hid hrt6
      obtain ⟨_, _, _⟩ := he 10 (by decide +kernel)
      clear hv10 hv8 hrt6 hd h0 he ha hF
      go_simp
      rw [HF.out]
      refine ⟨?_, HP.out, hpl, Q2, y2, HRT6.out, ?_⟩
      ·refine OnlyL.of_only (t := gh 10) ?_; refine Only.setCell ?_ (by exact Nat.le_refl _) (by exact hpl) _; refine Only.setCell ?_ (by exact Nat.le_refl _) (by exact hpl) _; exact Only.refl _ _ _
      ·show NewBox _ (gh 10).s _
       exact ⟨by simpa [World.setCell] using hpz, fun o => by rcases o with _ | _ | o <;> go_simp, fun o => by go_simp⟩
     ·intro gh ρ u hc hf1 hg1 hd h0 hb he ha hF
      have f9 : ∃ (Q2 : Option Addr) (y2 : Nat), (gh 6).v = .tuple #[.agg #[.int .i64 n2, .slice Q2 gl2.length y2], .bool true] ∧ (gh 9).v = .bool true := by have h := hF 9 (by decide +kernel) (by decide +kernel); rw [HF.out] at h; exact h
      obtain ⟨Q2, y2, hrt6, hv9⟩ := f9
      have r164 : ρ (.tmp 164) = .bool true := (hd 9 (by decide +kernel) 164 (by kernel_rfl)).trans hv9
      have HRT6 := Lib.hid hrt6
      clear hv9 hrt6 hd h0 he ha hF
      go_simp
      rw [HF.out]
      exact ⟨OnlyL.refl _ _, Q2, y2, HRT6.out, rfl⟩
     intro gh w12 hB hE hA hF
     replace hB : Below w11.heap.size w11 w12 := hB.below rfl
     have f0 : (gh 0).v = .pointer (some ⟨(w.heap.size), 0, none⟩) := by have h := hF 0 (by decide +kernel) (by decide +kernel); rw [HF.out] at h; exact h
     have f1 : (gh 1).v = .int .i64 width := by have h := hF 1 (by decide +kernel) (by decide +kernel); rw [HF.out] at h; exact h
     have f2 : (gh 2).v = .slice X6 nr d6 := by have h := hF 2 (by decide +kernel) (by decide +kernel); rw [HF.out] at h; exact h
     have f3 : (gh 3).v = .pointer (some ⟨(wM.heap.size), 3, none⟩) := by have h := hF 3 (by decide +kernel) (by decide +kernel); rw [HF.out] at h; exact h
     have f4 : (gh 4).v = .int .i64 n2 := by have h := hF 4 (by decide +kernel) (by decide +kernel); rw [HF.out] at h; exact h
     have f5 : (gh 5).v = .slice X6 n2 d6 := by have h := hF 5 (by decide +kernel) (by decide +kernel); rw [HF.out] at h; exact h
     have f6 : ∃ (Q2 : Option Addr) (y2 : Nat), (gh 6).v = .tuple #[.agg #[.int .i64 n2, .slice Q2 gl2.length y2], .bool true] ∧ (Rd w12 (gh 6).s (gh 6).e Q2 (strs gl2)) := by have h := hF 6 (by decide +kernel) (by decide +kernel); rw [HF.out] at h; exact h
     have f7 : ∃ (Q2 : Option Addr) (y2 : Nat), (gh 6).v = .tuple #[.agg #[.int .i64 n2, .slice Q2 gl2.length y2], .bool true] ∧ (gh 7).v = .tuple #[.agg #[.int .i64 n2, .slice Q2 gl2.length y2], .bool true] := by have h := hF 7 (by decide +kernel) (by decide +kernel); rw [HF.out] at h; exact h
     have f8 : ∃ (Q2 : Option Addr) (y2 : Nat), (gh 6).v = .tuple #[.agg #[.int .i64 n2, .slice Q2 gl2.length y2], .bool true] ∧ (gh 8).v = .agg #[.int .i64 n2, .slice Q2 gl2.length y2] := by have h := hF 8 (by decide +kernel) (by decide +kernel); rw [HF.out] at h; exact h
     have f9 : ∃ (Q2 : Option Addr) (y2 : Nat), (gh 6).v = .tuple #[.agg #[.int .i64 n2, .slice Q2 gl2.length y2], .bool true] ∧ (gh 9).v = .bool true := by have h := hF 9 (by decide +kernel) (by decide +kernel); rw [HF.out] at h; exact h
     have f11 : (gh 10).v = .pointer (some ⟨(gh 10).s, 0, none⟩) ∧ (gh 10).s < (gh 10).e ∧ ∃ (Q2 : Option Addr) (y2 : Nat), (gh 6).v = .tuple #[.agg #[.int .i64 n2, .slice Q2 gl2.length y2], .bool true] ∧ NewBox w12 (gh 10).s [.int .i64 n2, .slice Q2 gl2.length y2] := by have h := hF 11 (by decide +kernel) (by decide +kernel); rw [HF.out] at h; exact h
     have f12 : ∃ (Q2 : Option Addr) (y2 : Nat), (gh 6).v = .tuple #[.agg #[.int .i64 n2, .slice Q2 gl2.length y2], .bool true] ∧ (gh 12).v = .bool true := by have h := hF 12 (by decide +kernel) (by decide +kernel); rw [HF.out] at h; exact h
     obtain ⟨Q2, y2, hv6, hq2⟩ := f6
     have hv0 := f0
     have hv1 := f1
     have hv2 := f2
     have hv3 := f3
     have hv4 := f4
     have hv5 := f5
     obtain ⟨Q2_7, y2_7, hu6, hv7⟩ := f7
     replace hu6 := hv6.symm.trans hu6
     simp at hu6
     try simp only [and_assoc] at hu6
     obtain ⟨rfl, rfl⟩ := hu6
     obtain ⟨Q2_8, y2_8, hu6, hv8⟩ := f8
     replace hu6 := hv6.symm.trans hu6
     simp at hu6
     try simp only [and_assoc] at hu6
     obtain ⟨rfl, rfl⟩ := hu6
     obtain ⟨Q2_9, y2_9, hu6, hv9⟩ := f9
     replace hu6 := hv6.symm.trans hu6
     simp at hu6
     try simp only [and_assoc] at hu6
     obtain ⟨rfl, rfl⟩ := hu6
     obtain ⟨hv10, hl10, f11⟩ := f11
     obtain ⟨Q2_11, y2_11, hu6, hx11⟩ := f11
     replace hu6 := hv6.symm.trans hu6
     simp at hu6
     try simp only [and_assoc] at hu6
     obtain ⟨rfl, rfl⟩ := hu6
     obtain ⟨Q2_12, y2_12, hu6, hv12⟩ := f12
     replace hu6 := hv6.symm.trans hu6
     simp at hu6
     try simp only [and_assoc] at hu6
     obtain ⟨rfl, rfl⟩ := hu6
     obtain ⟨hs6, hse6, he6⟩ := hE 6 (by decide +kernel)
     obtain ⟨hs10, hse10, he10⟩ := hE 10 (by decide +kernel)
     have hdj12_6_10 := hA 6 (by decide +kernel) 10 (by decide +kernel) (by decide)
     change w11.heap.size ≤ _ at hs6 hs10
     clear hE hA hF
     simp only [putDs, Nat.reduceAdd, hv0, hv1, hv2, hv3, hv4, hv5, hv6, hv7, hv8, hv9, hv10, hv12]
     clear hv0 hv1 hv2 hv3 hv4 hv5 hv6 hv7 hv8 hv9 hv10 hv12
     generalize (gh 6).s = s12_6 at *
     generalize (gh 6).e = e12_6 at *
     generalize (gh 10).s = s12_10 at *
     generalize (gh 10).e = e12_10 at *
     clear HF
     have hb := hB
     clear hB
     have hzw12 : w11.heap.size ≤ w12.heap.size := hb.size
     have hzzw12 : w.heap.size ≤ w12.heap.size := by omega
     replace HB := Lib.hid (below_then HB.out hb HB.out.size)
     replace HOE := Lib.hid (HOE.out.below hb)
     replace HOR := Lib.hid (HOR.out.below hb)
     replace HOH := Lib.hid (HOH.out.below hb)
     replace HOX := Lib.hid (HOX.out.below hb)
     replace HOY := Lib.hid (HOY.out.below hb)
     replace HOL := Lib.hid (HOL.out.below hb)
     replace HOT := Lib.hid (HOT.out.below hb)
     replace HOU := Lib.hid (HOU.out.below hb)
     replace HXb := Lib.hid (HXb.out.below hb)
     clear hxb hfb hkb
     have hxb := HXb.out.2.1
     have hfb := HXb.out.2.2
     have hkb := HXb.out.1
     replace HXf := Lib.hid (HXf.out.below hb)
     clear hxf hff hkf
     have hxf := HXf.out.2.1
     have hff := HXf.out.2.2
     have hkf := HXf.out.1
     replace HXg := Lib.hid (HXg.out.below hb)
     clear hxg hfg hkg
     have hxg := HXg.out.2.1
     have hfg := HXg.out.2.2
     have hkg := HXg.out.1
     replace HXrA := Lib.hid (HXrA.out.below hb)
     clear hxrA hfrA hkrA
     have hxrA := HXrA.out.2.1
     have hfrA := HXrA.out.2.2
     have hkrA := HXrA.out.1
     clear hb
     have HXrB : Hid (NewBox w12 (s12_10) [.int .i64 n2, .slice Q2 gl2.length y2]) := hx11
     have hxrB := HXrB.out.2.1
     have hfrB := HXrB.out.2.2
     have hkrB := HXrB.out.1
     clear hx11
     have HOV : Hid (Rd w12 (s12_6) (e12_6) (Q2) (strs gl2)) := hq2
     clear hq2 HRG2 hs2
     simp only [Act.put, List.setIfInBounds_toArray, List.set_cons_zero, List.set_cons_succ]
     have HSR1 := Lib.hid (fun W (a1 : Rd W 0 W.heap.size A1 (strs l1)) (a2 : Rd W 0 W.heap.size Q1 (strs gl1)) => l12SameRange_c z1 n1 A1 Q1 c1 y1 0 W.heap.size 0 W.heap.size m1 gl1.length l1 gl1 W a1 a2 HLEN.out.2.2.2.1 rfl b4 hgz1)
     have HSR2 := Lib.hid (fun W (a1 : Rd W 0 W.heap.size A2 (strs l2)) (a2 : Rd W 0 W.heap.size Q2 (strs gl2)) => l12SameRange_c z2 n2 A2 Q2 c2 y2 0 W.heap.size 0 W.heap.size m2 gl2.length l2 gl2 W a1 a2 HLEN.out.2.2.2.2 rfl b5 hgz2)
     have heq := eqlHd h lh HFIT.out.2.2.2 HLF.out
     rw [HN12.out.1, HN12.out.2] at heq
     generalize sealOk width z1 l1 z2 l2 h = so at *
     generalize sameR z1 l1 n1 gl1 = sr1 at *
     generalize sameR z2 l2 n2 gl2 = sr2 at *
     generalize decide (h = lh) = dh at *
     go_wp2_with fail
     refine calls_named (fun w13 hw => ?_)
     have hz13 : w12.heap.size + 0 ≤ w13.heap.size := by rw [hw]; first | omega | (simp [World.setCell]; done) | (simp [World.setCell]; omega)
     have hzz13 : w.heap.size ≤ w13.heap.size := by omega
     have hbn : Below w12.heap.size w12 w13 := by rw [hw]; exact (by ((repeat (first | ((with_reducible refine Below.alloc ?_ ?_ _); rotate_left 1; (focus (first | omega | (simp; done) | (simp; omega)))) | (with_reducible refine Below.drew ?_) | ((with_reducible refine Below.setCell ?_ ?_ _); rotate_left 1; (focus (first | omega | (simp; done) | (simp; omega)))))); exact Below.refl _ _))
     replace HB := Lib.hid (below_then HB.out hbn HB.out.size)
     replace HOE := Lib.hid (HOE.out.below hbn)
     replace HOR := Lib.hid (HOR.out.below hbn)
     replace HOH := Lib.hid (HOH.out.below hbn)
     replace HOX := Lib.hid (HOX.out.below hbn)
     replace HOY := Lib.hid (HOY.out.below hbn)
     replace HOL := Lib.hid (HOL.out.below hbn)
     replace HOT := Lib.hid (HOT.out.below hbn)
     replace HOU := Lib.hid (HOU.out.below hbn)
     replace HOV := Lib.hid (HOV.out.below hbn)
     replace HXb := Lib.hid (HXb.out.below hbn)
     clear hxb hfb hkb
     have hxb := HXb.out.2.1
     have hfb := HXb.out.2.2
     have hkb := HXb.out.1
     replace HXf := Lib.hid (HXf.out.below hbn)
     clear hxf hff hkf
     have hxf := HXf.out.2.1
     have hff := HXf.out.2.2
     have hkf := HXf.out.1
     replace HXg := Lib.hid (HXg.out.below hbn)
     clear hxg hfg hkg
     have hxg := HXg.out.2.1
     have hfg := HXg.out.2.2
     have hkg := HXg.out.1
     replace HXrA := Lib.hid (HXrA.out.below hbn)
     clear hxrA hfrA hkrA
     have hxrA := HXrA.out.2.1
     have hfrA := HXrA.out.2.2
     have hkrA := HXrA.out.1
     replace HXrB := Lib.hid (HXrB.out.below hbn)
     clear hxrB hfrB hkrB
     have hxrB := HXrB.out.2.1
     have hfrB := HXrB.out.2.2
     have hkrB := HXrB.out.1
     clear hbn
     clear hw
     refine (HSO.out _ HOX.out.base HOY.out.base).mono ?_
     rintro e w14 ⟨rfl, hb⟩
     have hzw14 : w13.heap.size ≤ w14.heap.size := hb.size
     have hzzw14 : w.heap.size ≤ w14.heap.size := by omega
     replace HB := Lib.hid (below_then HB.out hb HB.out.size)
     replace HOE := Lib.hid (HOE.out.below hb)
     replace HOR := Lib.hid (HOR.out.below hb)
     replace HOH := Lib.hid (HOH.out.below hb)
     replace HOX := Lib.hid (HOX.out.below hb)
     replace HOY := Lib.hid (HOY.out.below hb)
     replace HOL := Lib.hid (HOL.out.below hb)
     replace HOT := Lib.hid (HOT.out.below hb)
     replace HOU := Lib.hid (HOU.out.below hb)
     replace HOV := Lib.hid (HOV.out.below hb)
     replace HXb := Lib.hid (HXb.out.below hb)
     clear hxb hfb hkb
     have hxb := HXb.out.2.1
     have hfb := HXb.out.2.2
     have hkb := HXb.out.1
     replace HXf := Lib.hid (HXf.out.below hb)
     clear hxf hff hkf
     have hxf := HXf.out.2.1
     have hff := HXf.out.2.2
     have hkf := HXf.out.1
     replace HXg := Lib.hid (HXg.out.below hb)
     clear hxg hfg hkg
     have hxg := HXg.out.2.1
     have hfg := HXg.out.2.2
     have hkg := HXg.out.1
     replace HXrA := Lib.hid (HXrA.out.below hb)
     clear hxrA hfrA hkrA
     have hxrA := HXrA.out.2.1
     have hfrA := HXrA.out.2.2
     have hkrA := HXrA.out.1
     replace HXrB := Lib.hid (HXrB.out.below hb)
     clear hxrB hfrB hkrB
     have hxrB := HXrB.out.2.1
     have hfrB := HXrB.out.2.2
     have hkrB := HXrB.out.1
     clear hb
     rcases so with _ | _
     ·have HNO : Hid (bk = false) := Lib.hid (by rw [HFN.out]; rfl)
      clear heq
      go_wp2
      refine bodyPost_named (fun w77 hw => ?_)
      have hb77 : Hid (Below w.heap.size w w77) := by rw [Hid, hw]; exact (by ((repeat (first | ((with_reducible refine Below.alloc ?_ ?_ _); rotate_left 1; (focus (first | omega | (simp; done) | (simp; omega)))) | (with_reducible refine Below.drew ?_) | ((with_reducible refine Below.setCell ?_ ?_ _); rotate_left 1; (focus (first | omega | (simp; done) | (simp; omega)))))); exact HB.out))
      clear hw
      go_ret
      exact ⟨ret_bool (by rw [HNO.out]), hb77.out⟩
     rcases dh with _ | _
     ·have HNO : Hid (bk = false) := Lib.hid (by rw [HFN.out]; rfl)
      go_wp2
      refine bodyPost_named (fun w77 hw => ?_)
      have hb77 : Hid (Below w.heap.size w w77) := by rw [Hid, hw]; exact (by ((repeat (first | ((with_reducible refine Below.alloc ?_ ?_ _); rotate_left 1; (focus (first | omega | (simp; done) | (simp; omega)))) | (with_reducible refine Below.drew ?_) | ((with_reducible refine Below.setCell ?_ ?_ _); rotate_left 1; (focus (first | omega | (simp; done) | (simp; omega)))))); exact HB.out))
      clear hw
      go_ret
      exact ⟨ret_bool (by rw [HNO.out]), hb77.out⟩
     go_wp2_with fail
     refine calls_named (fun w15 hw => ?_)
     have hz15 : w14.heap.size + 0 ≤ w15.heap.size := by rw [hw]; first | omega | (simp [World.setCell]; done) | (simp [World.setCell]; omega)
     have hzz15 : w.heap.size ≤ w15.heap.size := by omega
     have hbn : Below w14.heap.size w14 w15 := by rw [hw]; exact (by ((repeat (first | ((with_reducible refine Below.alloc ?_ ?_ _); rotate_left 1; (focus (first | omega | (simp; done) | (simp; omega)))) | (with_reducible refine Below.drew ?_) | ((with_reducible refine Below.setCell ?_ ?_ _); rotate_left 1; (focus (first | omega | (simp; done) | (simp; omega)))))); exact Below.refl _ _))
     replace HB := Lib.hid (below_then HB.out hbn HB.out.size)
     replace HOE := Lib.hid (HOE.out.below hbn)
     replace HOR := Lib.hid (HOR.out.below hbn)
     replace HOH := Lib.hid (HOH.out.below hbn)
     replace HOX := Lib.hid (HOX.out.below hbn)
     replace HOY := Lib.hid (HOY.out.below hbn)
     replace HOL := Lib.hid (HOL.out.below hbn)
     replace HOT := Lib.hid (HOT.out.below hbn)
     replace HOU := Lib.hid (HOU.out.below hbn)
     replace HOV := Lib.hid (HOV.out.below hbn)
     replace HXb := Lib.hid (HXb.out.below hbn)
     clear hxb hfb hkb
     have hxb := HXb.out.2.1
     have hfb := HXb.out.2.2
     have hkb := HXb.out.1
     replace HXf := Lib.hid (HXf.out.below hbn)
     clear hxf hff hkf
     have hxf := HXf.out.2.1
     have hff := HXf.out.2.2
     have hkf := HXf.out.1
     replace HXg := Lib.hid (HXg.out.below hbn)
     clear hxg hfg hkg
     have hxg := HXg.out.2.1
     have hfg := HXg.out.2.2
     have hkg := HXg.out.1
     replace HXrA := Lib.hid (HXrA.out.below hbn)
     clear hxrA hfrA hkrA
     have hxrA := HXrA.out.2.1
     have hfrA := HXrA.out.2.2
     have hkrA := HXrA.out.1
     replace HXrB := Lib.hid (HXrB.out.below hbn)
     clear hxrB hfrB hkrB
     have hxrB := HXrB.out.2.1
     have hfrB := HXrB.out.2.2
     have hkrB := HXrB.out.1
     clear hbn
     clear hw
     refine (HSR1.out _ HOX.out.base HOU.out.base).mono ?_
     rintro e w16 ⟨rfl, hb⟩
     have hzw16 : w15.heap.size ≤ w16.heap.size := hb.size
     have hzzw16 : w.heap.size ≤ w16.heap.size := by omega
     replace HB := Lib.hid (below_then HB.out hb HB.out.size)
     replace HOE := Lib.hid (HOE.out.below hb)
     replace HOR := Lib.hid (HOR.out.below hb)
     replace HOH := Lib.hid (HOH.out.below hb)
     replace HOX := Lib.hid (HOX.out.below hb)
     replace HOY := Lib.hid (HOY.out.below hb)
     replace HOL := Lib.hid (HOL.out.below hb)
     replace HOT := Lib.hid (HOT.out.below hb)
     replace HOU := Lib.hid (HOU.out.below hb)
     replace HOV := Lib.hid (HOV.out.below hb)
     replace HXb := Lib.hid (HXb.out.below hb)
     clear hxb hfb hkb
     have hxb := HXb.out.2.1
     have hfb := HXb.out.2.2
     have hkb := HXb.out.1
     replace HXf := Lib.hid (HXf.out.below hb)
     clear hxf hff hkf
     have hxf := HXf.out.2.1
     have hff := HXf.out.2.2
     have hkf := HXf.out.1
     replace HXg := Lib.hid (HXg.out.below hb)
     clear hxg hfg hkg
     have hxg := HXg.out.2.1
     have hfg := HXg.out.2.2
     have hkg := HXg.out.1
     replace HXrA := Lib.hid (HXrA.out.below hb)
     clear hxrA hfrA hkrA
     have hxrA := HXrA.out.2.1
     have hfrA := HXrA.out.2.2
     have hkrA := HXrA.out.1
     replace HXrB := Lib.hid (HXrB.out.below hb)
     clear hxrB hfrB hkrB
     have hxrB := HXrB.out.2.1
     have hfrB := HXrB.out.2.2
     have hkrB := HXrB.out.1
     clear hb
     clear heq
     rcases sr1 with _ | _
     ·have HNO : Hid (bk = false) := Lib.hid (by rw [HFN.out]; rfl)
      go_wp2
      refine bodyPost_named (fun w77 hw => ?_)
      have hb77 : Hid (Below w.heap.size w w77) := by rw [Hid, hw]; exact (by ((repeat (first | ((with_reducible refine Below.alloc ?_ ?_ _); rotate_left 1; (focus (first | omega | (simp; done) | (simp; omega)))) | (with_reducible refine Below.drew ?_) | ((with_reducible refine Below.setCell ?_ ?_ _); rotate_left 1; (focus (first | omega | (simp; done) | (simp; omega)))))); exact HB.out))
      clear hw
      go_ret
      exact ⟨ret_bool (by rw [HNO.out]), hb77.out⟩
     go_wp2_with fail
     refine calls_named (fun w17 hw => ?_)
     have hz17 : w16.heap.size + 0 ≤ w17.heap.size := by rw [hw]; first | omega | (simp [World.setCell]; done) | (simp [World.setCell]; omega)
     have hzz17 : w.heap.size ≤ w17.heap.size := by omega
     have hbn : Below w16.heap.size w16 w17 := by rw [hw]; exact (by ((repeat (first | ((with_reducible refine Below.alloc ?_ ?_ _); rotate_left 1; (focus (first | omega | (simp; done) | (simp; omega)))) | (with_reducible refine Below.drew ?_) | ((with_reducible refine Below.setCell ?_ ?_ _); rotate_left 1; (focus (first | omega | (simp; done) | (simp; omega)))))); exact Below.refl _ _))
     replace HB := Lib.hid (below_then HB.out hbn HB.out.size)
     replace HOE := Lib.hid (HOE.out.below hbn)
     replace HOR := Lib.hid (HOR.out.below hbn)
     replace HOH := Lib.hid (HOH.out.below hbn)
     replace HOX := Lib.hid (HOX.out.below hbn)
     replace HOY := Lib.hid (HOY.out.below hbn)
     replace HOL := Lib.hid (HOL.out.below hbn)
     replace HOT := Lib.hid (HOT.out.below hbn)
     replace HOU := Lib.hid (HOU.out.below hbn)
     replace HOV := Lib.hid (HOV.out.below hbn)
     replace HXb := Lib.hid (HXb.out.below hbn)
     clear hxb hfb hkb
     have hxb := HXb.out.2.1
     have hfb := HXb.out.2.2
     have hkb := HXb.out.1
     replace HXf := Lib.hid (HXf.out.below hbn)
     clear hxf hff hkf
     have hxf := HXf.out.2.1
     have hff := HXf.out.2.2
     have hkf := HXf.out.1
     replace HXg := Lib.hid (HXg.out.below hbn)
     clear hxg hfg hkg
     have hxg := HXg.out.2.1
     have hfg := HXg.out.2.2
     have hkg := HXg.out.1
     replace HXrA := Lib.hid (HXrA.out.below hbn)
     clear hxrA hfrA hkrA
     have hxrA := HXrA.out.2.1
     have hfrA := HXrA.out.2.2
     have hkrA := HXrA.out.1
     replace HXrB := Lib.hid (HXrB.out.below hbn)
     clear hxrB hfrB hkrB
     have hxrB := HXrB.out.2.1
     have hfrB := HXrB.out.2.2
     have hkrB := HXrB.out.1
     clear hbn
     clear hw
     refine (HSR2.out _ HOY.out.base HOV.out.base).mono ?_
     rintro e w18 ⟨rfl, hb⟩
     have hzw18 : w17.heap.size ≤ w18.heap.size := hb.size
     have hzzw18 : w.heap.size ≤ w18.heap.size := by omega
     replace HB := Lib.hid (below_then HB.out hb HB.out.size)
     replace HOE := Lib.hid (HOE.out.below hb)
     replace HOR := Lib.hid (HOR.out.below hb)
     replace HOH := Lib.hid (HOH.out.below hb)
     replace HOX := Lib.hid (HOX.out.below hb)
     replace HOY := Lib.hid (HOY.out.below hb)
     replace HOL := Lib.hid (HOL.out.below hb)
     replace HOT := Lib.hid (HOT.out.below hb)
     replace HOU := Lib.hid (HOU.out.below hb)
     replace HOV := Lib.hid (HOV.out.below hb)
     replace HXb := Lib.hid (HXb.out.below hb)
     clear hxb hfb hkb
     have hxb := HXb.out.2.1
     have hfb := HXb.out.2.2
     have hkb := HXb.out.1
     replace HXf := Lib.hid (HXf.out.below hb)
     clear hxf hff hkf
     have hxf := HXf.out.2.1
     have hff := HXf.out.2.2
     have hkf := HXf.out.1
     replace HXg := Lib.hid (HXg.out.below hb)
     clear hxg hfg hkg
     have hxg := HXg.out.2.1
     have hfg := HXg.out.2.2
     have hkg := HXg.out.1
     replace HXrA := Lib.hid (HXrA.out.below hb)
     clear hxrA hfrA hkrA
     have hxrA := HXrA.out.2.1
     have hfrA := HXrA.out.2.2
     have hkrA := HXrA.out.1
     replace HXrB := Lib.hid (HXrB.out.below hb)
     clear hxrB hfrB hkrB
     have hxrB := HXrB.out.2.1
     have hfrB := HXrB.out.2.2
     have hkrB := HXrB.out.1
     clear hb
     go_wp2
     refine bodyPost_named (fun w77 hw => ?_)
     have hb77 : Hid (Below w.heap.size w w77) := by rw [Hid, hw]; exact (by ((repeat (first | ((with_reducible refine Below.alloc ?_ ?_ _); rotate_left 1; (focus (first | omega | (simp; done) | (simp; omega)))) | (with_reducible refine Below.drew ?_) | ((with_reducible refine Below.setCell ?_ ?_ _); rotate_left 1; (focus (first | omega | (simp; done) | (simp; omega)))))); exact HB.out))
     clear hw
     go_ret
     exact ⟨ret_bool (by rw [HFN.out]; rfl), hb77.out⟩
end Go.Proofs.YtmmepogjocfefaaGreat
