/- Part 27 of the proof of FnDeeds: lemmas and contracts. -/
import Derived.StillTailTactics
import Derived.Test.YtoccjgcokffkbaaGreatTd20
namespace Go.Proofs.YtoccjgcokffkbaaGreat
set_option linter.unusedVariables false
set_option linter.unusedSimpArgs false
set_option maxHeartbeats 20000000
section
open Go.RowKit
set_option maxRecDepth 100000 in
theorem growAllX_c (width : Int) (n p o base c xl xh : Nat) (A : Option Addr) (l : List ByteArray) (X : Option Addr) (g k0 : Nat) (leaves : List ByteArray) (w : World) (hw : inR width 1 32 = true) (hl : l.length = aO n) (ha : bE width l = true)
  (hk : leaves.length = k0) (hv : bE width leaves = true) (hn : n + k0 ≤ 512) (hbase : base ≤ w.heap.size) (hxh : xh ≤ w.heap.size) (hxp : p < xl ∨ xh ≤ p) (hxr : ∀ k, (.slice A (aO n) c : Value).ownBlock = some k → k < xl ∨ xh ≤ k) (hX : Rd w xl xh X (strs leaves)) (hR : cB w base p o n (.slice A (aO n) c) (aO n) l) :
  Calls Tryz.prog 184 #[.pointer (some ⟨p, o, none⟩), .int .i64 width, .slice X k0 g] w fun e w' => ∃ A' c', e = .returned (.int .i64 (aW n k0 : Nat)) ∧ cB w' base p o ((n + k0 : Nat) : Int) (.slice A' (aO (n + k0)) c') (aO (n + k0)) (ax width n l leaves k0) ∧
   bV p o (.slice A (aO n) c) (.slice A' (aO (n + k0)) c') w w' := by
 have HW := lH hw
 have HL := lH hl
 have HA := lH ha
 have HK := lH hk
 have HV := lH hv
 have HX := lH hX
 have HXR := lH hxr
 have HR := lH hR
 clear hw hl ha hk hv hX hR hxr
 go_enter Tryz.func184, Tryz.ntmps184
 go_wp2
 go_loopw [7, 12] (fun md i wx => ∃ (k : Nat) (A' : Option Addr) (c' : Nat), k ≤ k0 ∧ i = .int .i64 k ∧ md = .int .i64 (aW n k : Nat) ∧ cB wx base p o ((n + k : Nat) : Int) (.slice A' (aO (n + k)) c') (aO (n + k)) (ax width n l leaves k) ∧ bV p o (.slice A (aO n) c) (.slice A' (aO (n + k)) c') w wx) (fun _ i _ => k0 - (intOf i).toNat)
 case atStart => exact ⟨0, A, c, Nat.zero_le _, rfl, rfl, HR.out, bV.refl _ _ _ _⟩
 case round =>
  obtain ⟨k, A1, c1, hk, rfl, rfl, hR1, hG1⟩ := hrel
  have HR1 := lH hR1
  have HG1 := lH hG1
  have hsz := hG1.size
  have hxk := HX.out.keep hG1.size (fun k h1 h2 => hG1.block k (by omega) (by omega) (fun e => by have := HXR.out k e.symm; omega))
  by_cases hlt : k < k0
  ·obtain ⟨b, off, s, rfl, hb, hks, hc⟩ := hxk.str (k := k) (by rw [HK.out]; exact hlt)
   have hsd : leaves.getD k ByteArray.empty = s := by rw [List.getD_eq_getElem?_getD, hks]; rfl
   have hss : (s.size : Int) = width := cz HV.out s (List.mem_of_getElem? hks)
   have HGU : Hid (ax width n l leaves (k + 1) = gU width (n + k) (ax width n l leaves k) s) := lH (by rw [ax, hsd])
   have HCU : Hid (aW n (k + 1) = aW n k + tz (n + k)) := lH rfl
   have hgl := bn (width := width) (leaves := leaves) HL.out (k := k) (by omega)
   have hga := df HW.out HL.out HA.out HV.out (k := k) (by omega) (by rw [HK.out]; omega)
   have hI : (k : Int) < k0 := by omega
   have hcl := eF n k
   have htl := tz_le (n + k)
   have HGR := lH (fun (W : World) (h : base ≤ W.heap.size) h2 => grow_c width (n + k) p o base c1 A1 (ax width n l leaves k) s W HW.out (by omega) hgl hga hss h h2)
   have hcb : (aW n k : Int) ≤ 10000 := by omega
   have htb : (tz (n + k) : Int) ≤ 10 := by omega
   have hadd : n + (k + 1) = n + k + 1 := by omega
   have HADD := lH hadd
   clear hks hsd hss hgl hga hR1 hG1 hxk hadd; generalize ax width n l leaves k = gu at *; generalize aW n k = cu at *
   generalize tz (n + k) = tk at *
   go_wp2_with fail
   refine (HGR.out _ (by omega) HR1.out).mono ?_
   rintro e w5 ⟨A5, c5, rfl, hR5, hG5⟩
   have HR5 := lH hR5
   have HG5 := lH (HG1.out.trans hG5)
   clear hR5 hG5 HR1 HG1 HGR; go_wp2
   go_roundw
   case rel => exact ⟨k + 1, A5, c5, by omega, by go_num, by rw [HCU.out]; go_num, by rw [HADD.out, HGU.out]; exact HR5.out, by rw [HADD.out]; exact HG5.out⟩
   case measure => simp [intOf]; omega
  obtain rfl : k = k0 := by omega
  clear hR1 hG1 hxk; go_wp2
  go_ret
  exact ⟨A1, c1, rfl, HR1.out, HG1.out⟩
theorem head_setX {w : World} {p : Nat} (a0 a1 a2 a3 a4 : Value) (h : ∀ j, 8 ≤ j → j < 13 → ∃ v, w.cell? ⟨p, j, none⟩ = some v) :
  let w' := ((((w.setCell ⟨p, 8, none⟩ a0).setCell ⟨p, 9, none⟩ a1).setCell ⟨p, 10, none⟩ a2).setCell ⟨p, 11, none⟩ a3).setCell ⟨p, 12, none⟩ a4
  w'.cell? ⟨p, 8, none⟩ = some a0 ∧ w'.cell? ⟨p, 9, none⟩ = some a1 ∧ w'.cell? ⟨p, 10, none⟩ = some a2 ∧ w'.cell? ⟨p, 11, none⟩ = some a3 ∧ w'.cell? ⟨p, 12, none⟩ = some a4 := by
 obtain ⟨v4, h4⟩ := h 8 (by omega) (by omega)
 obtain ⟨v5, h5⟩ := h 9 (by omega) (by omega)
 obtain ⟨v6, h6⟩ := h 10 (by omega) (by omega)
 obtain ⟨v7, h7⟩ := h 11 (by omega) (by omega)
 obtain ⟨v8, h8⟩ := h 12 (by omega) (by omega)
 have no : ∀ (W : World) (i j : Nat) (v : Value), i ≠ j → (W.setCell ⟨p, i, none⟩ v).cell? ⟨p, j, none⟩ = W.cell? ⟨p, j, none⟩ := fun W i j v hij => World.cell?_setCell_other _ _ _ _ (by simp only [ne_eq, Addr.mk.injEq, and_true, true_and]; omega)
 refine ⟨?_, ?_, ?_, ?_, ?_⟩
 ·rw [no _ 12 8 _ (by omega), no _ 11 8 _ (by omega), no _ 10 8 _ (by omega), no _ 9 8 _ (by omega)]; exact World.cell?_setCell_same _ _ _ h4
 ·rw [no _ 12 9 _ (by omega), no _ 11 9 _ (by omega), no _ 10 9 _ (by omega)]; exact World.cell?_setCell_same _ _ _ ((no _ 8 9 _ (by omega)).trans h5)
 ·rw [no _ 12 10 _ (by omega), no _ 11 10 _ (by omega)]; exact World.cell?_setCell_same _ _ _ ((no _ 9 10 _ (by omega)).trans ((no _ 8 10 _ (by omega)).trans h6))
 ·rw [no _ 12 11 _ (by omega)]; exact World.cell?_setCell_same _ _ _ ((no _ 10 11 _ (by omega)).trans ((no _ 9 11 _ (by omega)).trans ((no _ 8 11 _ (by omega)).trans h7)))
 ·exact World.cell?_setCell_same _ _ _ ((no _ 11 12 _ (by omega)).trans ((no _ 10 12 _ (by omega)).trans ((no _ 9 12 _ (by omega)).trans ((no _ 8 12 _ (by omega)).trans h8))))
theorem head_off {w : World} {p j : Nat} (a0 a1 a2 a3 a4 : Value) (hj : j < 8 ∨ 13 ≤ j) :
  (((((w.setCell ⟨p, 8, none⟩ a0).setCell ⟨p, 9, none⟩ a1).setCell ⟨p, 10, none⟩ a2).setCell ⟨p, 11, none⟩ a3).setCell ⟨p, 12, none⟩ a4).cell? ⟨p, j, none⟩ = w.cell? ⟨p, j, none⟩ := by
 have no : ∀ (W : World) (i : Nat) (v : Value), i ≠ j → (W.setCell ⟨p, i, none⟩ v).cell? ⟨p, j, none⟩ = W.cell? ⟨p, j, none⟩ := fun W i v hij => World.cell?_setCell_other _ _ _ _ (by simp only [ne_eq, Addr.mk.injEq, and_true, true_and]; omega)
 rw [no _ 12 _ (by omega), no _ 11 _ (by omega), no _ 10 _ (by omega), no _ 9 _ (by omega), no _ 8 _ (by omega)]
set_option maxRecDepth 100000 in
theorem moreX_c (width : Int) (n1 n2 p base xl1 xh1 xl2 xh2 c1 c2 : Nat) (A1 A2 : Option Addr) (l1 l2 : List ByteArray) (h : Hd) (X1 X2 : Option Addr) (g1 g2 k1 k2 : Nat) (L T : List ByteArray) (w : World) (hw : inR width 1 32 = true) (hl1 : l1.length = aO n1) (ha1 : bE width l1 = true) (hl2 : l2.length = aO n2) (ha2 : bE width l2 = true)
  (hk1 : L.length = k1) (hv1 : bE width L = true) (hk2 : T.length = k2) (hv2 : bE width T = true) (hn1 : n1 + k1 ≤ 512) (hn2 : n2 + k2 ≤ 512) (hbase : base ≤ w.heap.size) (hbp : base ≤ p) (hX1 : Rd w xl1 xh1 X1 (strs L)) (hX2 : Rd w xl2 xh2 X2 (strs T)) (hx1 : xh1 ≤ w.heap.size) (hx2 : xh2 ≤ w.heap.size) (hxp1 : p < xl1 ∨ xh1 ≤ p) (hxp2 : p < xl2 ∨ xh2 ≤ p) (hd1 : ∀ k, (.slice A1 (aO n1) c1 : Value).ownBlock = some k → k < xl1 ∨ xh1 ≤ k) (hd2 : ∀ k, (.slice A1 (aO n1) c1 : Value).ownBlock = some k ∨ (.slice A2 (aO n2) c2 : Value).ownBlock = some k → k < xl2 ∨ xh2 ≤ k)
  (hR1 : cB w base p 4 n1 (.slice A1 (aO n1) c1) (aO n1) l1) (hR2 : cB w base p 6 n2 (.slice A2 (aO n2) c2) (aO n2) l2) (hap : Apart (.slice A1 (aO n1) c1) (.slice A2 (aO n2) c2))
  (hnum : 0 ≤ h.num ∧ h.num ≤ 399) (hc4 : w.cell? ⟨p, 8, none⟩ = some (.int .i64 h.num)) (hcs : ∀ j, 8 ≤ j → j < 13 → ∃ v, w.cell? ⟨p, j, none⟩ = some v) :
  Calls Tryz.prog 142 #[.pointer (some ⟨p, 4, none⟩), .int .i64 width, .slice X1 k1 g1, .slice X2 k2 g2] w fun e w' => ∃ A3 c3 A4 c4, e = .returned (.int .i64 ((aW n1 k1 + aW n2 k2 + aS (ax width n1 l1 L k1) + aS (ax width n2 l2 T k2) : Nat) : Int)) ∧
   cB w' base p 4 ((n1 + k1 : Nat) : Int) (.slice A3 (aO (n1 + k1)) c3) (aO (n1 + k1)) (ax width n1 l1 L k1) ∧ cB w' base p 6 ((n2 + k2 : Nat) : Int) (.slice A4 (aO (n2 + k2)) c4) (aO (n2 + k2)) (ax width n2 l2 T k2) ∧
   Apart (.slice A3 (aO (n1 + k1)) c3) (.slice A4 (aO (n2 + k2)) c4) ∧ w'.cell? ⟨p, 8, none⟩ = some (.int .i64 (h.num + 1)) ∧ w'.cell? ⟨p, 9, none⟩ = some (.int .i64 ((n1 + k1 : Nat) : Int)) ∧ w'.cell? ⟨p, 10, none⟩ = some (.string (aU width (ax width n1 l1 L k1))) ∧
   w'.cell? ⟨p, 11, none⟩ = some (.int .i64 ((n2 + k2 : Nat) : Int)) ∧ w'.cell? ⟨p, 12, none⟩ = some (.string (aU width (ax width n2 l2 T k2))) ∧ Only base w.heap.size w w' ∧ dI p w w' ∧ ∀ j, j < 4 ∨ 13 ≤ j → w'.cell? ⟨p, j, none⟩ = w.cell? ⟨p, j, none⟩ := by
 have hgl1 := bn (width := width) (leaves := L) hl1 hn1
 have hgl2 := bn (width := width) (leaves := T) hl2 hn2
 have hga1 := df hw hl1 ha1 hv1 hn1 (by omega)
 have hga2 := df hw hl2 ha2 hv2 hn2 (by omega)
 have hp1 : aO (n1 + k1) ≤ 10 := dM _ 10
 have hp2 : aO (n2 + k2) ≤ 10 := dM _ 10
 have hcu1 := eF n1 k1
 have hcu2 := eF n2 k2
 have HG1 := lH (growAllX_c width n1 p 4 base c1 xl1 xh1 A1 l1 X1 g1 k1 L w hw hl1 ha1 hk1 hv1 hn1 hbase hx1 hxp1 hd1 hX1 hR1)
 have HG2 := lH (fun W e1 e2 e3 (e0 : xh2 ≤ W.heap.size) => growAllX_c width n2 p 6 base c2 xl2 xh2 A2 l2 X2 g2 k2 T W hw hl2 ha2 hk2 hv2 hn2 e1 e0 hxp2 (fun k hk => hd2 k (.inr hk)) e2 e3)
 have HT1 := lH (fun W A c (r : Rd W 0 W.heap.size A (strs (ax width n1 l1 L k1))) => root_c width ((n1 + k1 : Nat) : Int) A c 0 W.heap.size _ _ W r hgl1 (by omega) hw hga1)
 have HT2 := lH (fun W A c (r : Rd W 0 W.heap.size A (strs (ax width n2 l2 T k2))) => root_c width ((n2 + k2 : Nat) : Int) A c 0 W.heap.size _ _ W r hgl2 (by omega) hw hga2)
 have hrm1 : aS (ax width n1 l1 L k1) ≤ 20 := by rw [aS]; omega
 have hrm2 : aS (ax width n2 l2 T k2) ≤ 20 := by rw [aS]; omega
 have HR1 := lH hR1
 have HR2 := lH hR2
 have HAP := lH hap
 have HX2 := lH hX2
 have HCS := lH hcs
 have HD2 := lH hd2
 clear hcs
 clear hd1 hd2 hl1 ha1 hl2 ha2 hk1 hv1 hk2 hv2 hX1 hX2 hR1 hR2 hap hgl1 hgl2 hga1 hga2
 generalize ax width n1 l1 L k1 = q1 at *
 generalize ax width n2 l2 T k2 = q2 at *
 generalize aU width q1 = r1 at *
 generalize aU width q2 = r2 at *
 generalize aS q1 = d1 at *
 generalize aS q2 = d2 at *
 generalize aW n1 k1 = u1 at *
 generalize aW n2 k2 = u2 at *
 obtain ⟨s1, hs1⟩ : ∃ s1, s1 = n1 + k1 := ⟨_, rfl⟩
 obtain ⟨s2, hs2⟩ : ∃ s2, s2 = n2 + k2 := ⟨_, rfl⟩
 rw [← hs1] at HG1 HT1 hp1 hn1 ⊢
 rw [← hs2] at HG2 HT2 hp2 hn2 ⊢
 generalize aO s1 = m1 at *
 generalize aO s2 = m2 at *
 have hu1 : (u1 : Int) ≤ 5120 := by omega
 have hu2 : (u2 : Int) ≤ 5120 := by omega
 have hd1 : (d1 : Int) ≤ 20 := by omega
 have hd2 : (d2 : Int) ≤ 20 := by omega
 clear hs1 hs2 hcu1 hcu2 hrm1 hrm2 hw
 go_enter Tryz.func142, Tryz.ntmps142
 go_wp2_with fail
 refine HG1.out.mono ?_
 rintro e w1 ⟨A3, c3, rfl, hR1, hG⟩
 have HR1a := lH hR1
 have HR2a := lH (HR2.out.keepG hG hR1.typed HAP.out.symm (by omega))
 have HAPa := lH (HAP.out.symm.next hG HR2.out.row)
 have HX2a := lH (HX2.out.keep hG.size (fun k h1 h2 => hG.block k (by omega) (by omega) (fun e => by have := HD2.out k (.inl e.symm); omega)))
 have HO1 := lH (hG.only HR1.out.row hbp)
 have HT1a := lH (dI.grow hG HR1.out.row)
 have HK1 : Hid (∀ j, j < 4 ∨ 13 ≤ j → w1.cell? ⟨p, j, none⟩ = w.cell? ⟨p, j, none⟩) := lH (fun j hj => hG.cell j (by omega) (by omega))
 have HCSa := lH (fun j h1 h2 => (HCS.out j h1 h2).imp fun v hv => (hG.cell j (by omega) (by omega)).trans hv)
 have hc4a := (hG.cell 8 (by omega) (by omega)).trans hc4
 have hz1 : base ≤ w1.heap.size := Nat.le_trans hbase hG.size
 have hzz1 := hG.size
 clear hR1 hG hc4 HR2 HAP HX2 HG1 HR1
 go_wp2_with fail
 refine (HG2.out _ hz1 HX2a.out HR2a.out (Nat.le_trans hx2 hzz1)).mono ?_
 rintro e w2 ⟨A4, c4, rfl, hR2, hG⟩
 have HR2b := lH hR2
 have HR1b := lH (HR1a.out.keepG hG hR2.typed HAPa.out.symm (by omega))
 have HAPb := lH (HAPa.out.symm.next hG HR1a.out.row)
 have HO2 := lH (gJ HO1.out (hG.only HR2a.out.row hbp))
 have HT2a := lH (HT1a.out.trans (dI.grow hG HR2a.out.row))
 have HK2 : Hid (∀ j, j < 4 ∨ 13 ≤ j → w2.cell? ⟨p, j, none⟩ = w.cell? ⟨p, j, none⟩) := lH (fun j hj => (hG.cell j (by omega) (by omega)).trans (HK1.out j hj))
 have HCSb := lH (fun j h1 h2 => (HCSa.out j h1 h2).imp fun v hv => (hG.cell j (by omega) (by omega)).trans hv)
 have hc4b := (hG.cell 8 (by omega) (by omega)).trans hc4a
 have hz2 : base ≤ w2.heap.size := Nat.le_trans hz1 hG.size
 have hzz2 : w.heap.size ≤ w2.heap.size := Nat.le_trans hzz1 hG.size
 have e0 : w2.cell? ⟨p, 4, none⟩ = some (.int .i64 (s1 : Nat)) := HR1b.out.c0
 have e1 : w2.cell? ⟨p, 5, none⟩ = some (.slice A3 m1 c3) := HR1b.out.c1
 clear hR2 hG hc4a HR1a HR2a HAPa HX2a HO1 HG2
 go_wp2_with fail
 refine (HT1.out _ _ _ (Own.bg HR1b.out.row).rd.base).mono ?_
 rintro e w3 ⟨rfl, hb3⟩
 have HR1c := lH (HR1b.out.below hb3)
 have HR2c := lH (HR2b.out.below hb3)
 have HO3 := lH (gJ HO2.out (Only.of_below hb3))
 have HT3a := lH (HT2a.out.trans (dI.below hb3))
 have hpl : p < w2.heap.size := HR1b.out.typed.lt
 have HK3 : Hid (∀ j, j < 4 ∨ 13 ≤ j → w3.cell? ⟨p, j, none⟩ = w.cell? ⟨p, j, none⟩) := lH (fun j hj => (hb3.cell (p := ⟨p, j, none⟩) hpl).trans (HK2.out j hj))
 have HCSc := lH (fun j h1 h2 => (HCSb.out j h1 h2).imp fun v hv => (hb3.cell (p := ⟨p, j, none⟩) hpl).trans hv)
 have hc4c := (hb3.cell (p := ⟨p, 8, none⟩) hpl).trans hc4b
 have f2 : w3.cell? ⟨p, 6, none⟩ = some (.int .i64 (s2 : Nat)) := HR2c.out.c0
 have f3 : w3.cell? ⟨p, 7, none⟩ = some (.slice A4 m2 c4) := HR2c.out.c1
 have hzz3 : w.heap.size ≤ w3.heap.size := Nat.le_trans hzz2 hb3.size
 clear hb3 e0 e1 hc4b HO2 HR1b HR2b HT1
 go_wp2_with fail
 refine (HT2.out _ _ _ (Own.bg HR2c.out.row).rd.base).mono ?_
 rintro e w4 ⟨rfl, hb4⟩
 have HR1d := lH (HR1c.out.below hb4)
 have HR2d := lH (HR2c.out.below hb4)
 have HO4 := lH (gJ HO3.out (Only.of_below hb4))
 have HT4a := lH (HT3a.out.trans (dI.below hb4))
 have hpl3 : p < w3.heap.size := HR1c.out.typed.lt
 have HK4 : Hid (∀ j, j < 4 ∨ 13 ≤ j → w4.cell? ⟨p, j, none⟩ = w.cell? ⟨p, j, none⟩) := lH (fun j hj => (hb4.cell (p := ⟨p, j, none⟩) hpl3).trans (HK3.out j hj))
 have HCSd := lH (fun j h1 h2 => (HCSc.out j h1 h2).imp fun v hv => (hb4.cell (p := ⟨p, j, none⟩) hpl3).trans hv)
 have i4 := (hb4.cell (p := ⟨p, 8, none⟩) hpl3).trans hc4c
 have i0 : w4.cell? ⟨p, 4, none⟩ = some (.int .i64 (s1 : Nat)) := HR1d.out.c0
 have i2 : w4.cell? ⟨p, 6, none⟩ = some (.int .i64 (s2 : Nat)) := HR2d.out.c0
 have hfz := HR1d.out.typed.frozen
 have hzz4 : w.heap.size ≤ w4.heap.size := Nat.le_trans hzz3 hb4.size
 have hpl4 : p < w4.heap.size := HR1d.out.typed.lt
 have N1 : IntKind.i64.wrap (h.num + 1) = h.num + 1 := by rw [IntKind.wrap_i64]; omega
 clear hb4 f2 f3 hc4c HO3 HR1c HR2c HT2
 go_wp2_with fail
 go_still_tail 22, (by kernel_rfl)
 change wpList _ _ _ _ _ w4.drew
 have hbD : Below w4.heap.size w4 w4.drew := (Below.refl _ _).drew
 have HR1e := lH (HR1d.out.below hbD)
 have HR2e := lH (HR2d.out.below hbD)
 have HO5 := lH (gJ HO4.out (Only.of_below hbD))
 have HT5a := lH (HT4a.out.trans (dI.below hbD))
 have HCSe : Hid (∀ j, 8 ≤ j → j < 13 → ∃ v, w4.drew.cell? ⟨p, j, none⟩ = some v) := lH HCSd.out
 have hpl5 : p < w4.drew.heap.size := hpl4
 have HK5 : Hid (∀ j, j < 4 ∨ 13 ≤ j → w4.drew.cell? ⟨p, j, none⟩ = w.cell? ⟨p, j, none⟩) := lH HK4.out
 clear HK1 HK2 HK3 HK4
 have hf5 : ∀ o, w4.drew.frozen? ⟨p, o, none⟩ = false := hfz
 clear hbD HR1d HR2d HO4 HCSd HCSc HCSb HCSa HCS i0 i2 i4 hfz
 generalize w4.drew = w5 at *
 obtain ⟨v4, j4⟩ := HCSe.out 8 (by omega) (by omega)
 obtain ⟨v5, j5⟩ := HCSe.out 9 (by omega) (by omega)
 obtain ⟨v6, j6⟩ := HCSe.out 10 (by omega) (by omega)
 obtain ⟨v7, j7⟩ := HCSe.out 11 (by omega) (by omega)
 obtain ⟨v8, j8⟩ := HCSe.out 12 (by omega) (by omega)
 go_wp2
 refine ai (fun w9 hw => ?_)
 have HFIN : Hid (cB w9 base p 4 s1 (.slice A3 m1 c3) m1 q1 ∧ cB w9 base p 6 s2 (.slice A4 m2 c4) m2 q2 ∧ (w9.cell? ⟨p, 8, none⟩ = some (.int .i64 (h.num + 1)) ∧ w9.cell? ⟨p, 9, none⟩ = some (.int .i64 (s1 : Nat)) ∧ w9.cell? ⟨p, 10, none⟩ = some (.string r1) ∧
   w9.cell? ⟨p, 11, none⟩ = some (.int .i64 (s2 : Nat)) ∧ w9.cell? ⟨p, 12, none⟩ = some (.string r2)) ∧ Only base w.heap.size w w9 ∧ dI p w w9 ∧ ∀ j, j < 4 ∨ 13 ≤ j → w9.cell? ⟨p, j, none⟩ = w.cell? ⟨p, j, none⟩) := by
  rw [Hid, hw]
  refine ⟨((((HR1e.out.setO (j := 8) (by omega) _).setO (j := 9) (by omega) _).setO (j := 10) (by omega) _).setO (j := 11) (by omega) _).setO (j := 12) (by omega) _,
   ((((HR2e.out.setO (j := 8) (by omega) _).setO (j := 9) (by omega) _).setO (j := 10) (by omega) _).setO (j := 11) (by omega) _).setO (j := 12) (by omega) _, head_setX _ _ _ _ _ HCSe.out, gJ HO5.out ?_, ((((HT5a.out.set _ _).set _ _).set _ _).set _ _).set _ _, fun j hj => (head_off _ _ _ _ _ (by omega)).trans (HK5.out j hj)⟩
  exact (((((Only.refl _ _ _).setCell (by exact hbp) (by exact hpl5) _).setCell (by exact hbp) (by exact hpl5) _).setCell (by exact hbp) (by exact hpl5) _).setCell (by exact hbp) (by exact hpl5) _).setCell (by exact hbp) (by exact hpl5) _
 clear hw
 refine bodyPost_ret (v := .int .i64 ((u1 + u2 + d1 + d2 : Nat) : Int)) (by simp [results, Tryz.results142, go_sem]) rfl ?_
 obtain ⟨k1', k2', ⟨k3', k4', k5', k6', k7'⟩, k8'⟩ := HFIN.out
 exact ⟨A3, c3, A4, c4, rfl, k1', k2', HAPb.out, k3', k4', k5', k6', k7', k8'⟩
def cutX (m : Nat) (A : Option Addr) (n g : Nat) : Option Addr := if g = n then A else A.map (fun a => a.add (n * m))
theorem Rd.sufX {α : Type} {f : α → List Value} {m : Nat} {w : World} {lo hi : Nat} {A : Option Addr} {L : List α} (hm : ∀ x, (f x).length = m) (h : Rd w lo hi A (L.flatMap f)) (n g : Nat) (hg : L.length ≤ g) : Rd w lo hi (cutX m A n g) ((L.drop n).flatMap f) := by
 rw [cutX]
 split
 ·rename_i e
  rw [List.drop_of_length_le (by omega)]
  exact Rd.nil
 intro hn
 have hL : L.flatMap f = (L.take n).flatMap f ++ (L.drop n).flatMap f := by rw [← List.flatMap_append, List.take_append_drop]
 have hlen : ∀ l : List α, (l.flatMap f).length = l.length * m := by
  intro l
  induction l with
  | nil => simp
  | cons x l ih => rw [List.flatMap_cons, List.length_append, hm, ih, List.length_cons, Nat.add_mul]; omega
 have hnl : n < L.length := by
  rcases Nat.lt_or_ge n L.length with h1 | h1
  ·exact h1
  rw [List.drop_of_length_le h1] at hn; exact absurd rfl hn
 obtain ⟨b, off, e, h1, h2, h3, h4⟩ := h (by rw [hL]; intro e; exact hn (List.append_eq_nil_iff.1 e).2)
 subst e
 refine ⟨b, off + n * m, by rw [Option.map_some, Addr.add_lit], h1, h2, h3, fun j u hj => ?_⟩
 have ht : ((L.take n).flatMap f).length = n * m := by rw [hlen, List.length_take, Nat.min_eq_left (by omega)]
 have := h4 (n * m + j) u (by rw [hL, List.getElem?_append_right (by rw [ht]; omega), ht, Nat.add_sub_cancel_left]; exact hj)
 rw [← this, Nat.add_assoc]
theorem sufE_rd {w : World} {lo hi : Nat} {A : Option Addr} {L : List Ent} (h : Rd w lo hi A (aR L)) (n g : Nat) (hg : L.length ≤ g) : Rd w lo hi (cutX 5 A n g) (aR (L.drop n)) := Rd.sufX (f := Ent.cells) (fun _ => rfl) h n g hg
theorem sufR_rd {w : World} {lo hi : Nat} {A : Option Addr} {L : List Rcp} (h : Rd w lo hi A (bf L)) (n g : Nat) (hg : L.length ≤ g) : Rd w lo hi (cutX 3 A n g) (bf (L.drop n)) := Rd.sufX (f := Rcp.cells) (fun _ => rfl) h n g hg
theorem preXE (A : Option Addr) (k g m : Nat) (h : m ≤ g) (W : World) : (Instr.slice 24 (.slice A k g) none (some (.int .i64 m)) none).run Tryz.prog W = .ok (.slice A m g) W := by
 have hu := Tryz.underlying24
 simp [Instr.slice, run_underlying hu, Instr.sliceBounds, run_sliceBound, h, go_sem]
theorem sufXE (A : Option Addr) (k g n : Nat) (h1 : n ≤ k) (h2 : k ≤ g) (W : World) : (Instr.slice 24 (.slice A k g) (some (.int .i64 n)) none none).run Tryz.prog W = .ok (.slice (cutX 5 A n g) (k - n) (g - n)) W := by
 have hu := Tryz.underlying24
 obtain ⟨i0, hi0, hz0, hz1, hz2⟩ := info_parts info_Entry
 simp only [cutX]
 simp [Instr.slice, run_underlying hu, Instr.sliceBounds, run_sliceBound, h1, h2, go_sem, sizeOf, typeInfo, hi0, hz1]
theorem sufXR (A : Option Addr) (k g n : Nat) (h1 : n ≤ k) (h2 : k ≤ g) (W : World) : (Instr.slice 27 (.slice A k g) (some (.int .i64 n)) none none).run Tryz.prog W = .ok (.slice (cutX 3 A n g) (k - n) (g - n)) W := by
 have hu := Tryz.underlying27
 obtain ⟨i0, hi0, hz0, hz1, hz2⟩ := info_parts gL
 simp only [cutX]
 simp [Instr.slice, run_underlying hu, Instr.sliceBounds, run_sliceBound, h1, h2, go_sem, sizeOf, typeInfo, hi0, hz1]
def wt1 (width : Int) (es : List Ent) (rs : List Rcp) (hs : List Hd) (z1 : Int) (l1 : List ByteArray) (z2 : Int) (l2 : List ByteArray) (h : Hd) : Int := if brkOk width es rs hs z1 l1 z2 l2 h then (es.length : Nat) - (ae hs).size else 0
def wt2 (width : Int) (es : List Ent) (rs : List Rcp) (hs : List Hd) (z1 : Int) (l1 : List ByteArray) (z2 : Int) (l2 : List ByteArray) (h : Hd) : Int := if brkOk width es rs hs z1 l1 z2 l2 h then (rs.length : Nat) - (ae hs).taken else 0
set_option maxRecDepth 100000 in
theorem waiting_c (width z1 z2 : Int) (p : Nat) (E R H A1 A2 : Option Addr) (ne nr nh ce cr ch c1 c2 lo3 hi3 m1 m2 : Nat) (hs : List Hd) (h : Hd) (w : World) (hbx : aa w p [.int .i64 width, .slice E ne ce, .slice R nr cr, .slice H nh ch, .int .i64 z1, .slice A1 m1 c1, .int .i64 z2, .slice A2 m2 c2, .int .i64 h.num, .int .i64 h.size, .string h.root, .int .i64 h.taken, .string h.troot]) (hH : Rd w lo3 hi3 H (hds hs)) (hnh : hs.length = nh) (hpos : 0 < nh) (h1 : ne ≤ 1048576) (h2 : nr ≤ 1048576) (h3 : nh ≤ 1048576)
  (hs1 : 0 ≤ (ae hs).size ∧ (ae hs).size ≤ 512) (hs2 : 0 ≤ (ae hs).taken ∧ (ae hs).taken ≤ 512) :
  Calls Tryz.prog 52 #[.pointer (some ⟨p, 0, none⟩)] w fun e w' => e = .returned (.tuple #[.int .i64 ((ne : Nat) - (ae hs).size), .int .i64 ((nr : Nat) - (ae hs).taken)]) ∧ Below w.heap.size w w' := by
 have HLA := lH (fun v : Later w => last_c p nh ch 0 v.v.heap.size H hs v.v (Nat.lt_of_lt_of_le hbx.1 v.h.size) ((ag v _ _ hbx.1).trans (hbx.2.1 3)) (hH.below v.h).base hnh hpos h3)
 have hkb := hbx.1
 have hxb := hbx.2.1
 generalize ae hs = lh at *
 have hf1 := hdField1 lh.num lh.size lh.taken lh.root lh.troot
 have hf3 := hdField3 lh.num lh.size lh.taken lh.root lh.troot
 have E1 : IntKind.i64.wrap ((ne : Nat) - lh.size) = (ne : Nat) - lh.size := by rw [IntKind.wrap_i64]; omega
 have E2 : IntKind.i64.wrap ((nr : Nat) - lh.taken) = (nr : Nat) - lh.taken := by rw [IntKind.wrap_i64]; omega
 have t1 : ∀ v : Later w, v.v.cell? ⟨p, 1, none⟩ = some (.slice E ne ce) := fun v => (ag v _ _ hkb).trans (hxb 1)
 have t2 : ∀ v : Later w, v.v.cell? ⟨p, 2, none⟩ = some (.slice R nr cr) := fun v => (ag v _ _ hkb).trans (hxb 2)
 clear hbx hH hnh hpos
 go_enter Tryz.func52, Tryz.ntmps52
 go_wp2_with fail
 refine aA (by kernel_rfl) (by kernel_rfl) ?_
 repeat (go_big_quiet_step ((with_reducible exact aC (HLA.out _))))
 refine wpQuiet_nil ?_
 intro wA h9
 have HB := lH (aP h9)
 clear h9 t1 t2 HLA hxb
 go_wp2
 refine bodyPost_ret (v := .tuple #[.int .i64 ((ne : Nat) - lh.size), .int .i64 ((nr : Nat) - lh.taken)]) (by simp [results, Tryz.results52, go_sem]) rfl ?_
 exact ⟨rfl, HB.out⟩
set_option maxRecDepth 100000 in
theorem implWaiting_c (width z1 z2 : Int) (E R H A1 A2 : Option Addr) (ne nr nh ce cr ch c1 c2 lo1 hi1 lo2 hi2 lo3 hi3 lo4 hi4 lo5 hi5 m1 m2 : Nat) (es : List Ent) (rs : List Rcp) (hs : List Hd) (l1 l2 : List ByteArray) (h : Hd) (w : World) (hE : Rd w lo1 hi1 E (aR es)) (hR : Rd w lo2 hi2 R (bf rs)) (hH : Rd w lo3 hi3 H (hds hs)) (hA1 : Rd w lo4 hi4 A1 (strs l1)) (hA2 : Rd w lo5 hi5 A2 (strs l2)) (hne : es.length = ne) (hnr : rs.length = nr) (hnh : hs.length = nh) (hm1 : l1.length = m1) (hm2 : l2.length = m2)
  (b1 : ne ≤ 1048576) (b2 : nr ≤ 1048576) (b3 : nh + dW Hd.bulk hs ≤ 1048576) (b4 : m1 ≤ 1048576) (b5 : m2 ≤ 1048576) (b6 : ne ≤ ce) (b7 : nr ≤ cr) (b8 : nh ≤ ch) (hfe : ∀ x ∈ es, x.fits) (hfr : ∀ x ∈ rs, x.fits) (hfh : ∀ x ∈ hs, x.fits) (hf : h.fits) (hsb : h.bulk ≤ 1048576) :
  Calls Tryz.prog 24 #[.agg #[.int .i64 width, .slice E ne ce, .slice R nr cr, .slice H nh ch, .int .i64 z1, .slice A1 m1 c1, .int .i64 z2, .slice A2 m2 c2, .int .i64 h.num, .int .i64 h.size, .string h.root, .int .i64 h.taken, .string h.troot]] w fun e w' => e = .returned (.tuple #[.int .i64 (wt1 width es rs hs z1 l1 z2 l2 h), .int .i64 (wt2 width es rs hs z1 l1 z2 l2 h)]) ∧ Below w.heap.size w w' := by
 have HBK := lH (fun W (r0 : Rd W 0 W.heap.size E (aR es)) (r1 : Rd W 0 W.heap.size R (bf rs)) (r2 : Rd W 0 W.heap.size H (hds hs)) (r3 : Rd W 0 W.heap.size A1 (strs l1)) (r4 : Rd W 0 W.heap.size A2 (strs l2)) => eZ width z1 z2 E R H A1 A2 ne nr nh ce cr ch c1 c2 0 W.heap.size 0 W.heap.size 0 W.heap.size 0 W.heap.size 0 W.heap.size m1 m2 es rs hs l1 l2 h W r0 r1 r2 r3 r4 hne hnr hnh hm1 hm2 b1 b2 b3 b4 b5 b6 b7 b8 hfe hfr hfh hf hsb)
 have HP := lH (fun hb => (brkOk_parts (width := width) (es := es) (rs := rs) (hs := hs) (z1 := z1) (l1 := l1) (z2 := z2) (l2 := l2) (h := h) hb).last)
 have HL := lH (And.intro hne (And.intro hnr hnh))
 have HPP := lH (fun hb => (brkOk_parts (width := width) (es := es) (rs := rs) (hs := hs) (z1 := z1) (l1 := l1) (z2 := z2) (l2 := l2) (h := h) hb).pos)
 have HD1 : Hid (wt1 width es rs hs z1 l1 z2 l2 h = if brkOk width es rs hs z1 l1 z2 l2 h then (ne : Nat) - (ae hs).size else 0) := lH (by rw [wt1, hne])
 have HD2 : Hid (wt2 width es rs hs z1 l1 z2 l2 h = if brkOk width es rs hs z1 l1 z2 l2 h then (nr : Nat) - (ae hs).taken else 0) := lH (by rw [wt2, hnr])
 generalize brkOk width es rs hs z1 l1 z2 l2 h = bk at *
 generalize wt1 width es rs hs z1 l1 z2 l2 h = v1 at *
 generalize wt2 width es rs hs z1 l1 z2 l2 h = v2 at *
 have HB : Hid (Below w.heap.size w w) := Below.refl _ _
 have HOE : Hid (Rd w (0) (w.heap.size) (E) (aR es)) := Rd.base hE
 have HOR : Hid (Rd w (0) (w.heap.size) (R) (bf rs)) := Rd.base hR
 have HOH : Hid (Rd w (0) (w.heap.size) (H) (hds hs)) := Rd.base hH
 have HOX : Hid (Rd w (0) (w.heap.size) (A1) (strs l1)) := Rd.base hA1
 have HOY : Hid (Rd w (0) (w.heap.size) (A2) (strs l2)) := Rd.base hA2
 clear hE hR hH hA1 hA2
 clear hne hnr hnh hm1 hm2 hfe hfr hfh hf
 go_enter Tryz.func24, Tryz.ntmps24
 go_wp2_with fail
 refine af (fun w1 hw => ?_)
 have hz1 : w.heap.size + 1 ≤ w1.heap.size := zA
 have hbn : Below w.heap.size w w1 := zB
 replace HB := bT HB hbn
 replace HOE := lH (HOE.out.below hbn)
 replace HOR := lH (HOR.out.below hbn)
 replace HOH := lH (HOH.out.below hbn)
 replace HOX := lH (HOX.out.below hbn)
 replace HOY := lH (HOY.out.below hbn)
 clear hbn
 have HXb : Hid (aa w1 (w.heap.size) [.int .i64 width, .slice E ne ce, .slice R nr cr, .slice H nh ch, .int .i64 z1, .slice A1 m1 c1, .int .i64 z2, .slice A2 m2 c2, .int .i64 h.num, .int .i64 h.size, .string h.root, .int .i64 h.taken, .string h.troot]) := zG13
 obtain ⟨hkb, hxb, hfb⟩ := HXb.out
 clear hw
 refine (HBK.out _ HOE.out.base HOR.out.base HOH.out.base HOX.out.base HOY.out.base).mono ?_
 rintro e w2 ⟨rfl, hb⟩
 have hzw2 : w1.heap.size ≤ w2.heap.size := hb.size
 replace HB := bT HB hb
 replace HOE := lH (HOE.out.below hb)
 replace HOR := lH (HOR.out.below hb)
 replace HOH := lH (HOH.out.below hb)
 replace HOX := lH (HOX.out.below hb)
 replace HOY := lH (HOY.out.below hb)
 replace HXb := nB HXb hb
 clear hxb hfb hkb
 obtain ⟨hkb, hxb, hfb⟩ := HXb.out
 clear hb
 rcases bk with _ | _
 ·have e1 : v1 = 0 := HD1.out
  have e2 : v2 = 0 := HD2.out
  subst e1 e2; go_wp2
  refine bodyPost_ret (v := .tuple #[.int .i64 0, .int .i64 0]) (by simp [results, Tryz.results24, go_sem]) rfl ?_
  exact ⟨rfl, HB.out⟩
 have hp := HP.out rfl
 have hpp := HPP.out rfl
 have HWT := lH (fun W (q : aa W (w.heap.size) [.int .i64 width, .slice E ne ce, .slice R nr cr, .slice H nh ch, .int .i64 z1, .slice A1 m1 c1, .int .i64 z2, .slice A2 m2 c2, .int .i64 h.num, .int .i64 h.size, .string h.root, .int .i64 h.taken, .string h.troot]) (r : Rd W 0 W.heap.size H (hds hs)) => waiting_c width z1 z2 (w.heap.size) E R H A1 A2 ne nr nh ce cr ch c1 c2 0 W.heap.size m1 m2 hs h W q r HL.out.2.2 (by rw [← HL.out.2.2]; exact hpp) b1 b2 (by omega) ⟨hp.1, hp.2.2.1⟩ ⟨hp.2.2.2.1, hp.2.2.2.2.2.1⟩)
 have e1 : v1 = (ne : Nat) - (ae hs).size := HD1.out
 have e2 : v2 = (nr : Nat) - (ae hs).taken := HD2.out
 rw [← e1, ← e2] at HWT
 clear e1 e2 hp hpp HD1 HD2
 go_wp2_with fail
 refine af (fun w3 hw => ?_)
 have hz3 : w2.heap.size + 0 ≤ w3.heap.size := zA
 have hbn : Below w2.heap.size w2 w3 := zB
 replace HB := bT HB hbn
 replace HOE := lH (HOE.out.below hbn)
 replace HOR := lH (HOR.out.below hbn)
 replace HOH := lH (HOH.out.below hbn)
 replace HOX := lH (HOX.out.below hbn)
 replace HOY := lH (HOY.out.below hbn)
 replace HXb := nB HXb hbn
 clear hxb hfb hkb
 obtain ⟨hkb, hxb, hfb⟩ := HXb.out
 clear hbn
 clear hw
 refine (HWT.out _ HXb.out HOH.out.base).mono ?_
 rintro e w4 ⟨rfl, hb⟩
 have hzw4 : w3.heap.size ≤ w4.heap.size := hb.size
 replace HB := bT HB hb
 replace HOE := lH (HOE.out.below hb)
 replace HOR := lH (HOR.out.below hb)
 replace HOH := lH (HOH.out.below hb)
 replace HOX := lH (HOX.out.below hb)
 replace HOY := lH (HOY.out.below hb)
 replace HXb := nB HXb hb
 clear hxb hfb hkb
 obtain ⟨hkb, hxb, hfb⟩ := HXb.out
 clear hb
 go_wp2
 refine bodyPost_ret (v := .tuple #[.int .i64 v1, .int .i64 v2]) (by simp [results, Tryz.results24, go_sem]) rfl ?_
 exact ⟨rfl, HB.out⟩
end
end Go.Proofs.YtoccjgcokffkbaaGreat
