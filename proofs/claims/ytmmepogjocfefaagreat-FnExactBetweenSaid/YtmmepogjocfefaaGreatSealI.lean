/- SealMore of the program. -/
import Derived.Test.YtmmepogjocfefaaGreatSealM
import Derived.Test.YtmmepogjocfefaaGreatRowB
import Derived.StillTailTactics
namespace Go.Proofs.YtmmepogjocfefaaGreat
set_option linter.unusedVariables false
set_option linter.unusedSimpArgs false
open Go.RowKit

theorem only_up {lo : Nat} {a b c : World} (h : Only lo a.heap.size a b) (k : Only lo b.heap.size b c) : Only lo a.heap.size a c :=
 ⟨k.os.trans h.os, k.tape.trans h.tape, k.output.trans h.output, Nat.le_trans h.size k.size, fun i hi hd => (k.block i (Nat.lt_of_lt_of_le hi h.size) (by omega)).trans (h.block i hi hd)⟩
def Apart (v1 v2 : Value) : Prop := ∀ k, v1.ownBlock = some k → v2.ownBlock ≠ some k
theorem Apart.symm {v1 v2 : Value} (h : Apart v1 v2) : Apart v2 v1 := fun k h1 h2 => h k h2 h1
theorem Apart.next {w w' : World} {p o m base : Nat} {v v1 v1' : Value} {xs : List Value} (h : Apart v v1) (hg : GrowRel p o v1 v1' w w') (hr : w.ownsRow base 9 1 v m xs) : Apart v v1' := fun k hk e =>
 (hg.own k e).elim (h k hk) (fun h2 => by have := (hr.lt k hk).2; omega)
theorem RngAt.keepG {w w' : World} {base p o o' m : Nat} {n : Int} {v v1 v1' : Value} {l : List ByteArray} (h : RngAt w base p o n v m l) (hg : GrowRel p o' v1 v1' w w') (ht : Typed w' p) (hne : Apart v v1) (h1 : o ≠ o' ∧ o ≠ o' + 1 ∧ o + 1 ≠ o') :
  RngAt w' base p o n v m l := by
 refine ⟨ht, (hg.cell o h1.1 h1.2.1).trans h.c0, (hg.cell (o + 1) h1.2.2 (by omega)).trans h.c1, h.row.1, ?_⟩
 rcases h.row.2 with h2 | ⟨g, cap, cur, h2, h3, h4, h5⟩
 ·exact .inl h2
 ·have hb : v.ownBlock = some g := by rw [h2]; rfl
  have hlt := (h.row.lt g hb).2
  exact .inr ⟨g, cap, cur, h2, h3, (hg.block g hlt (fun e => h.typed.not_row h.row (by rw [hb, e])) (fun e => hne g hb e.symm)).trans h4, h5⟩
theorem RngAt.setO {w : World} {base p o m j : Nat} {n : Int} {v : Value} {l : List ByteArray} (h : RngAt w base p o n v m l) (hj : j ≠ o ∧ j ≠ o + 1) (u : Value) : RngAt (w.setCell ⟨p, j, none⟩ u) base p o n v m l := by
 have hne := h.typed.not_row h.row
 refine ⟨h.typed.set _ _, ?_, ?_, ?_⟩
 ·rw [World.cell?_setCell_other _ _ _ _ (by simp only [ne_eq, Addr.mk.injEq, and_true, true_and]; omega), h.c0]
 ·rw [World.cell?_setCell_other _ _ _ _ (by simp only [ne_eq, Addr.mk.injEq, and_true, true_and]; omega), h.c1]
 ·exact h.row.kept (row := some p) ⟨rfl, rfl, rfl, by simp [World.setCell], fun k hk hn => Below.heap_setCell _ _ _ _ (fun e => hn (congrArg some e))⟩ (.inr (fun e => hne e.symm))
theorem row_one {w : World} {base m c : Nat} {A : Option Addr} {xs : List Value} (h : w.ownsRow base 9 1 (.slice A m c) m xs) (hb : base ≤ w.heap.size) :
  (xs = []) ∨ ∃ g, A = some ⟨g, 0, none⟩ ∧ base ≤ g ∧ g < w.heap.size ∧ Own w g (g + 1) A xs := by
 rcases h.2 with ⟨h1, h2⟩ | ⟨g, cap, cur, h1, h2, h3, h4⟩
 ·refine .inl (List.eq_nil_of_length_eq_zero ?_)
  rw [h.1, h2]
 ·injection h1 with e1 e2 e3
  subst e1
  subst e3
  have hlt := (h.lt g rfl).2
  refine .inr ⟨g, rfl, h2, hlt, ?_⟩
  have h5 : w.ownsRow g 9 1 (.slice (some ⟨g, 0, none⟩) m c) m xs := ⟨h.1, .inr ⟨g, c, cur, rfl, Nat.le_refl _, h3, h4⟩⟩
  exact (Own.of_ownsRow h5).tight
theorem two_rows {w : World} {base m1 m2 c1 c2 : Nat} {A1 A2 : Option Addr} {xs1 xs2 : List Value} (h1 : w.ownsRow base 9 1 (.slice A1 m1 c1) m1 xs1) (h2 : w.ownsRow base 9 1 (.slice A2 m2 c2) m2 xs2) (hb : base ≤ w.heap.size)
  (hap : Apart (.slice A1 m1 c1) (.slice A2 m2 c2)) : ∃ a1 b1 a2 b2, base ≤ a1 ∧ b1 ≤ w.heap.size ∧ Own w a1 b1 A1 xs1 ∧ base ≤ a2 ∧ b2 ≤ w.heap.size ∧ Own w a2 b2 A2 xs2 ∧ (b1 ≤ a2 ∨ b2 ≤ a1) := by
 rcases row_one h1 hb with rfl | ⟨g, rfl, p1, p2, p3⟩
 ·rcases row_one h2 hb with rfl | ⟨g', rfl, q1, q2, q3⟩
  ·exact ⟨base, base, base, base, Nat.le_refl _, hb, Own.nil, Nat.le_refl _, hb, Own.nil, .inl (Nat.le_refl _)⟩
  ·exact ⟨base, base, g', g' + 1, Nat.le_refl _, hb, Own.nil, q1, q2, q3, .inl q1⟩
 ·rcases row_one h2 hb with rfl | ⟨g', rfl, q1, q2, q3⟩
  ·exact ⟨g, g + 1, base, base, p1, p2, p3, Nat.le_refl _, hb, Own.nil, .inr p1⟩
  ·have hne : g ≠ g' := fun e => hap g rfl (by rw [e]; rfl)
   exact ⟨g, g + 1, g', g' + 1, p1, p2, p3, q1, q2, q3, by omega⟩

theorem head_set {w : World} {p : Nat} (a0 a1 a2 a3 a4 : Value) (h : ∀ j, 4 ≤ j → j < 9 → ∃ v, w.cell? ⟨p, j, none⟩ = some v) :
  let w' := ((((w.setCell ⟨p, 4, none⟩ a0).setCell ⟨p, 5, none⟩ a1).setCell ⟨p, 6, none⟩ a2).setCell ⟨p, 7, none⟩ a3).setCell ⟨p, 8, none⟩ a4
  w'.cell? ⟨p, 4, none⟩ = some a0 ∧ w'.cell? ⟨p, 5, none⟩ = some a1 ∧ w'.cell? ⟨p, 6, none⟩ = some a2 ∧ w'.cell? ⟨p, 7, none⟩ = some a3 ∧ w'.cell? ⟨p, 8, none⟩ = some a4 := by
 obtain ⟨v4, h4⟩ := h 4 (by omega) (by omega)
 obtain ⟨v5, h5⟩ := h 5 (by omega) (by omega)
 obtain ⟨v6, h6⟩ := h 6 (by omega) (by omega)
 obtain ⟨v7, h7⟩ := h 7 (by omega) (by omega)
 obtain ⟨v8, h8⟩ := h 8 (by omega) (by omega)
 have no : ∀ (W : World) (i j : Nat) (v : Value), i ≠ j → (W.setCell ⟨p, i, none⟩ v).cell? ⟨p, j, none⟩ = W.cell? ⟨p, j, none⟩ := fun W i j v hij => World.cell?_setCell_other _ _ _ _ (by simp only [ne_eq, Addr.mk.injEq, and_true, true_and]; omega)
 refine ⟨?_, ?_, ?_, ?_, ?_⟩
 ·rw [no _ 8 4 _ (by omega), no _ 7 4 _ (by omega), no _ 6 4 _ (by omega), no _ 5 4 _ (by omega)]; exact World.cell?_setCell_same _ _ _ h4
 ·rw [no _ 8 5 _ (by omega), no _ 7 5 _ (by omega), no _ 6 5 _ (by omega)]; exact World.cell?_setCell_same _ _ _ ((no _ 4 5 _ (by omega)).trans h5)
 ·rw [no _ 8 6 _ (by omega), no _ 7 6 _ (by omega)]; exact World.cell?_setCell_same _ _ _ ((no _ 5 6 _ (by omega)).trans ((no _ 4 6 _ (by omega)).trans h6))
 ·rw [no _ 8 7 _ (by omega)]; exact World.cell?_setCell_same _ _ _ ((no _ 6 7 _ (by omega)).trans ((no _ 5 7 _ (by omega)).trans ((no _ 4 7 _ (by omega)).trans h7)))
 ·exact World.cell?_setCell_same _ _ _ ((no _ 7 8 _ (by omega)).trans ((no _ 6 8 _ (by omega)).trans ((no _ 5 8 _ (by omega)).trans ((no _ 4 8 _ (by omega)).trans h8))))
/-- the blocks that hold no strings of a row stay, but for p -/
def KeepT (p : Nat) (w w' : World) : Prop := w.heap.size ≤ w'.heap.size ∧ ∀ k, k ≠ p → Typed w k → w'.heap[k]? = w.heap[k]?
theorem KeepT.trans {p : Nat} {a b c : World} (h : KeepT p a b) (k : KeepT p b c) : KeepT p a c := ⟨Nat.le_trans h.1 k.1, fun i hi ht => (k.2 i hi (ht.keep (h.2 i hi ht))).trans (h.2 i hi ht)⟩
theorem KeepT.grow {w w' : World} {p o m base : Nat} {v v' : Value} {xs : List Value} (hg : GrowRel p o v v' w w') (hr : w.ownsRow base 9 1 v m xs) : KeepT p w w' := ⟨hg.size, fun k hk ht => hg.block k ht.lt hk (ht.not_row hr)⟩
theorem KeepT.below {p : Nat} {w w' : World} (hb : Below w.heap.size w w') : KeepT p w w' := ⟨hb.size, fun k _ ht => hb.block k ht.lt⟩
theorem KeepT.set {p : Nat} {w w' : World} (h : KeepT p w w') (j : Nat) (u : Value) : KeepT p w (w'.setCell ⟨p, j, none⟩ u) :=
 ⟨by simpa [World.setCell] using h.1, fun k hk ht => (Below.heap_setCell _ _ _ _ (fun e => hk e)).trans (h.2 k hk ht)⟩
theorem KeepT.box {p k : Nat} {w w' : World} {cs : List Value} (h : KeepT p w w') (hx : NewBox w k cs) (hk : k ≠ p) (ht : Typed w k) : NewBox w' k cs := hx.keep h.1 (h.2 k hk ht)
set_option maxRecDepth 100000 in
set_option maxHeartbeats 4000000 in
theorem moreT_c (width : Int) (n1 n2 p base B0 c1 c2 : Nat) (A1 A2 : Option Addr) (l1 l2 : List ByteArray) (h : Hd) (X1 X2 : Option Addr) (g1 g2 k1 k2 : Nat) (L T : List ByteArray) (w : World) (hw : inR width 1 32 = true) (hl1 : l1.length = popN n1) (ha1 : areH width l1 = true) (hl2 : l2.length = popN n2) (ha2 : areH width l2 = true)
  (hk1 : L.length = k1) (hv1 : areH width L = true) (hk2 : T.length = k2) (hv2 : areH width T = true) (hn1 : n1 + k1 ≤ 512) (hn2 : n2 + k2 ≤ 512) (hbase : base ≤ w.heap.size) (hB1 : B0 ≤ p) (hB2 : B0 ≤ base) (hbp : base ≤ p) (hX1 : Rd w 0 B0 X1 (strs L)) (hX2 : Rd w 0 B0 X2 (strs T))
  (hR1 : RngAt w base p 0 n1 (.slice A1 (popN n1) c1) (popN n1) l1) (hR2 : RngAt w base p 2 n2 (.slice A2 (popN n2) c2) (popN n2) l2) (hap : Apart (.slice A1 (popN n1) c1) (.slice A2 (popN n2) c2))
  (hnum : 0 ≤ h.num ∧ h.num ≤ 399) (hc4 : w.cell? ⟨p, 4, none⟩ = some (.int .i64 h.num)) (hcs : ∀ j, 4 ≤ j → j < 9 → ∃ v, w.cell? ⟨p, j, none⟩ = some v) :
  Calls Tryz.prog 163 #[.pointer (some ⟨p, 0, none⟩), .int .i64 width, .slice X1 k1 g1, .slice X2 k2 g2] w fun e w' => ∃ A3 c3 A4 c4, e = .returned (.int .i64 ((callsUp n1 k1 + callsUp n2 k2 + rngMade (growUp width n1 l1 L k1) + rngMade (growUp width n2 l2 T k2) : Nat) : Int)) ∧
   RngAt w' base p 0 ((n1 + k1 : Nat) : Int) (.slice A3 (popN (n1 + k1)) c3) (popN (n1 + k1)) (growUp width n1 l1 L k1) ∧ RngAt w' base p 2 ((n2 + k2 : Nat) : Int) (.slice A4 (popN (n2 + k2)) c4) (popN (n2 + k2)) (growUp width n2 l2 T k2) ∧
   Apart (.slice A3 (popN (n1 + k1)) c3) (.slice A4 (popN (n2 + k2)) c4) ∧ w'.cell? ⟨p, 4, none⟩ = some (.int .i64 (h.num + 1)) ∧ w'.cell? ⟨p, 5, none⟩ = some (.int .i64 ((n1 + k1 : Nat) : Int)) ∧ w'.cell? ⟨p, 6, none⟩ = some (.string (rngRoot width (growUp width n1 l1 L k1))) ∧
   w'.cell? ⟨p, 7, none⟩ = some (.int .i64 ((n2 + k2 : Nat) : Int)) ∧ w'.cell? ⟨p, 8, none⟩ = some (.string (rngRoot width (growUp width n2 l2 T k2))) ∧ Only base w.heap.size w w' ∧ KeepT p w w' := by
 have hgl1 := growUp_len (width := width) (leaves := L) hl1 hn1
 have hgl2 := growUp_len (width := width) (leaves := T) hl2 hn2
 have hga1 := growUp_are hw hl1 ha1 hv1 hn1 (by omega)
 have hga2 := growUp_are hw hl2 ha2 hv2 hn2 (by omega)
 have hp1 : popN (n1 + k1) ≤ 10 := popUp_le _ 10
 have hp2 : popN (n2 + k2) ≤ 10 := popUp_le _ 10
 have hcu1 := callsUp_le n1 k1
 have hcu2 := callsUp_le n2 k2
 have HG1 := Lib.hid (growAll_c width n1 p 0 base c1 B0 A1 l1 X1 g1 k1 L w hw hl1 ha1 hk1 hv1 hn1 hbase hB1 hB2 hX1 hR1)
 have HG2 := Lib.hid (fun W e1 e2 e3 => growAll_c width n2 p 2 base c2 B0 A2 l2 X2 g2 k2 T W hw hl2 ha2 hk2 hv2 hn2 e1 hB1 hB2 e2 e3)
 have HT1 := Lib.hid (fun W A c (r : Rd W 0 W.heap.size A (strs (growUp width n1 l1 L k1))) => root_c width ((n1 + k1 : Nat) : Int) A c 0 W.heap.size _ _ W r hgl1 (by omega) hw hga1)
 have HT2 := Lib.hid (fun W A c (r : Rd W 0 W.heap.size A (strs (growUp width n2 l2 T k2))) => root_c width ((n2 + k2 : Nat) : Int) A c 0 W.heap.size _ _ W r hgl2 (by omega) hw hga2)
 have hrm1 : rngMade (growUp width n1 l1 L k1) ≤ 20 := by rw [rngMade]; omega
 have hrm2 : rngMade (growUp width n2 l2 T k2) ≤ 20 := by rw [rngMade]; omega
 have HR1 := Lib.hid hR1
 have HR2 := Lib.hid hR2
 have HAP := Lib.hid hap
 have HX2 := Lib.hid hX2
 have HCS := Lib.hid hcs
 clear hcs
 clear hl1 ha1 hl2 ha2 hk1 hv1 hk2 hv2 hX1 hX2 hR1 hR2 hap hgl1 hgl2 hga1 hga2
 generalize growUp width n1 l1 L k1 = q1 at *
 generalize growUp width n2 l2 T k2 = q2 at *
 generalize rngRoot width q1 = r1 at *
 generalize rngRoot width q2 = r2 at *
 generalize rngMade q1 = d1 at *
 generalize rngMade q2 = d2 at *
 generalize callsUp n1 k1 = u1 at *
 generalize callsUp n2 k2 = u2 at *
 obtain ⟨s1, hs1⟩ : ∃ s1, s1 = n1 + k1 := ⟨_, rfl⟩
 obtain ⟨s2, hs2⟩ : ∃ s2, s2 = n2 + k2 := ⟨_, rfl⟩
 rw [← hs1] at HG1 HT1 hp1 hn1 ⊢
 rw [← hs2] at HG2 HT2 hp2 hn2 ⊢
 generalize popN s1 = m1 at *
 generalize popN s2 = m2 at *
 have hu1 : (u1 : Int) ≤ 5120 := by omega
 have hu2 : (u2 : Int) ≤ 5120 := by omega
 have hd1 : (d1 : Int) ≤ 20 := by omega
 have hd2 : (d2 : Int) ≤ 20 := by omega
 clear hs1 hs2 hcu1 hcu2 hrm1 hrm2 hw
 go_enter Tryz.func163, Tryz.ntmps163
 go_wp2_with fail
 refine HG1.out.mono ?_
 rintro e w1 ⟨A3, c3, rfl, hR1, hG⟩
 have HR1a := Lib.hid hR1
 have HR2a := Lib.hid (HR2.out.keepG hG hR1.typed HAP.out.symm (by omega))
 have HAPa := Lib.hid (HAP.out.symm.next hG HR2.out.row)
 have HX2a := Lib.hid (HX2.out.lowB (hG.toBelow HR1.out.row hB1 hB2 (by omega)) (Nat.le_refl _))
 have HO1 := Lib.hid (hG.only HR1.out.row hbp)
 have HT1a := Lib.hid (KeepT.grow hG HR1.out.row)
 have HCSa := Lib.hid (fun j h1 h2 => (HCS.out j h1 h2).imp fun v hv => (hG.cell j (by omega) (by omega)).trans hv)
 have hc4a := (hG.cell 4 (by omega) (by omega)).trans hc4
 have hz1 : base ≤ w1.heap.size := Nat.le_trans hbase hG.size
 have hzz1 := hG.size
 clear hR1 hG hc4 HR2 HAP HX2 HG1 HR1
 go_wp2_with fail
 refine (HG2.out _ hz1 HX2a.out HR2a.out).mono ?_
 rintro e w2 ⟨A4, c4, rfl, hR2, hG⟩
 have HR2b := Lib.hid hR2
 have HR1b := Lib.hid (HR1a.out.keepG hG hR2.typed HAPa.out.symm (by omega))
 have HAPb := Lib.hid (HAPa.out.symm.next hG HR1a.out.row)
 have HO2 := Lib.hid (only_up HO1.out (hG.only HR2a.out.row hbp))
 have HT2a := Lib.hid (HT1a.out.trans (KeepT.grow hG HR2a.out.row))
 have HCSb := Lib.hid (fun j h1 h2 => (HCSa.out j h1 h2).imp fun v hv => (hG.cell j (by omega) (by omega)).trans hv)
 have hc4b := (hG.cell 4 (by omega) (by omega)).trans hc4a
 have hz2 : base ≤ w2.heap.size := Nat.le_trans hz1 hG.size
 have hzz2 : w.heap.size ≤ w2.heap.size := Nat.le_trans hzz1 hG.size
 have e0 : w2.cell? ⟨p, 0, none⟩ = some (.int .i64 (s1 : Nat)) := HR1b.out.c0
 have e1 : w2.cell? ⟨p, 1, none⟩ = some (.slice A3 m1 c3) := HR1b.out.c1
 clear hR2 hG hc4a HR1a HR2a HAPa HX2a HO1 HG2
 go_wp2_with fail
 refine (HT1.out _ _ _ (Own.of_ownsRow HR1b.out.row).rd.base).mono ?_
 rintro e w3 ⟨rfl, hb3⟩
 have HR1c := Lib.hid (HR1b.out.below hb3)
 have HR2c := Lib.hid (HR2b.out.below hb3)
 have HO3 := Lib.hid (only_up HO2.out (Only.of_below hb3))
 have HT3a := Lib.hid (HT2a.out.trans (KeepT.below hb3))
 have hpl : p < w2.heap.size := HR1b.out.typed.lt
 have HCSc := Lib.hid (fun j h1 h2 => (HCSb.out j h1 h2).imp fun v hv => (hb3.cell (p := ⟨p, j, none⟩) hpl).trans hv)
 have hc4c := (hb3.cell (p := ⟨p, 4, none⟩) hpl).trans hc4b
 have f2 : w3.cell? ⟨p, 2, none⟩ = some (.int .i64 (s2 : Nat)) := HR2c.out.c0
 have f3 : w3.cell? ⟨p, 3, none⟩ = some (.slice A4 m2 c4) := HR2c.out.c1
 have hzz3 : w.heap.size ≤ w3.heap.size := Nat.le_trans hzz2 hb3.size
 clear hb3 e0 e1 hc4b HO2 HR1b HR2b HT1
 go_wp2_with fail
 refine (HT2.out _ _ _ (Own.of_ownsRow HR2c.out.row).rd.base).mono ?_
 rintro e w4 ⟨rfl, hb4⟩
 have HR1d := Lib.hid (HR1c.out.below hb4)
 have HR2d := Lib.hid (HR2c.out.below hb4)
 have HO4 := Lib.hid (only_up HO3.out (Only.of_below hb4))
 have HT4a := Lib.hid (HT3a.out.trans (KeepT.below hb4))
 have hpl3 : p < w3.heap.size := HR1c.out.typed.lt
 have HCSd := Lib.hid (fun j h1 h2 => (HCSc.out j h1 h2).imp fun v hv => (hb4.cell (p := ⟨p, j, none⟩) hpl3).trans hv)
 have i4 := (hb4.cell (p := ⟨p, 4, none⟩) hpl3).trans hc4c
 have i0 : w4.cell? ⟨p, 0, none⟩ = some (.int .i64 (s1 : Nat)) := HR1d.out.c0
 have i2 : w4.cell? ⟨p, 2, none⟩ = some (.int .i64 (s2 : Nat)) := HR2d.out.c0
 have hfz := HR1d.out.typed.frozen
 have hzz4 : w.heap.size ≤ w4.heap.size := Nat.le_trans hzz3 hb4.size
 have hpl4 : p < w4.heap.size := HR1d.out.typed.lt
 have N1 : IntKind.i64.wrap (h.num + 1) = h.num + 1 := by rw [IntKind.wrap_i64]; omega
 clear hb4 f2 f3 hc4c HO3 HR1c HR2c HT2
 go_wp2_with fail
 go_still_tail 22, (by kernel_rfl)
 change wpList _ _ _ _ _ w4.drew
 have hbD : Below w4.heap.size w4 w4.drew := (Below.refl _ _).drew
 have HR1e := Lib.hid (HR1d.out.below hbD)
 have HR2e := Lib.hid (HR2d.out.below hbD)
 have HO5 := Lib.hid (only_up HO4.out (Only.of_below hbD))
 have HT5a := Lib.hid (HT4a.out.trans (KeepT.below hbD))
 have HCSe : Hid (∀ j, 4 ≤ j → j < 9 → ∃ v, w4.drew.cell? ⟨p, j, none⟩ = some v) := Lib.hid HCSd.out
 have hpl5 : p < w4.drew.heap.size := hpl4
 have hf5 : ∀ o, w4.drew.frozen? ⟨p, o, none⟩ = false := hfz
 clear hbD HR1d HR2d HO4 HCSd HCSc HCSb HCSa HCS i0 i2 i4 hfz
 generalize w4.drew = w5 at *
 obtain ⟨v4, j4⟩ := HCSe.out 4 (by omega) (by omega)
 obtain ⟨v5, j5⟩ := HCSe.out 5 (by omega) (by omega)
 obtain ⟨v6, j6⟩ := HCSe.out 6 (by omega) (by omega)
 obtain ⟨v7, j7⟩ := HCSe.out 7 (by omega) (by omega)
 obtain ⟨v8, j8⟩ := HCSe.out 8 (by omega) (by omega)
 go_wp2
 refine bodyPost_named (fun w9 hw => ?_)
 have HFIN : Hid (RngAt w9 base p 0 s1 (.slice A3 m1 c3) m1 q1 ∧ RngAt w9 base p 2 s2 (.slice A4 m2 c4) m2 q2 ∧ (w9.cell? ⟨p, 4, none⟩ = some (.int .i64 (h.num + 1)) ∧ w9.cell? ⟨p, 5, none⟩ = some (.int .i64 (s1 : Nat)) ∧ w9.cell? ⟨p, 6, none⟩ = some (.string r1) ∧
   w9.cell? ⟨p, 7, none⟩ = some (.int .i64 (s2 : Nat)) ∧ w9.cell? ⟨p, 8, none⟩ = some (.string r2)) ∧ Only base w.heap.size w w9 ∧ KeepT p w w9) := by
  rw [Hid, hw]
  refine ⟨((((HR1e.out.setO (j := 4) (by omega) _).setO (j := 5) (by omega) _).setO (j := 6) (by omega) _).setO (j := 7) (by omega) _).setO (j := 8) (by omega) _,
   ((((HR2e.out.setO (j := 4) (by omega) _).setO (j := 5) (by omega) _).setO (j := 6) (by omega) _).setO (j := 7) (by omega) _).setO (j := 8) (by omega) _, head_set _ _ _ _ _ HCSe.out, only_up HO5.out ?_, ((((HT5a.out.set _ _).set _ _).set _ _).set _ _).set _ _⟩
  exact (((((Only.refl _ _ _).setCell (by exact hbp) (by exact hpl5) _).setCell (by exact hbp) (by exact hpl5) _).setCell (by exact hbp) (by exact hpl5) _).setCell (by exact hbp) (by exact hpl5) _).setCell (by exact hbp) (by exact hpl5) _
 clear hw
 refine bodyPost_ret (v := .int .i64 ((u1 + u2 + d1 + d2 : Nat) : Int)) (by simp [results, Tryz.results163, go_sem]) rfl ?_
 obtain ⟨k1', k2', ⟨k3', k4', k5', k6', k7'⟩, k8'⟩ := HFIN.out
 exact ⟨A3, c3, A4, c4, rfl, k1', k2', HAPb.out, k3', k4', k5', k6', k7', k8'⟩
theorem more_c (width : Int) (n1 n2 p base B0 c1 c2 : Nat) (A1 A2 : Option Addr) (l1 l2 : List ByteArray) (h : Hd) (X1 X2 : Option Addr) (g1 g2 k1 k2 : Nat) (L T : List ByteArray) (w : World) (hw : inR width 1 32 = true) (hl1 : l1.length = popN n1) (ha1 : areH width l1 = true) (hl2 : l2.length = popN n2) (ha2 : areH width l2 = true)
  (hk1 : L.length = k1) (hv1 : areH width L = true) (hk2 : T.length = k2) (hv2 : areH width T = true) (hn1 : n1 + k1 ≤ 512) (hn2 : n2 + k2 ≤ 512) (hbase : base ≤ w.heap.size) (hB1 : B0 ≤ p) (hB2 : B0 ≤ base) (hbp : base ≤ p) (hX1 : Rd w 0 B0 X1 (strs L)) (hX2 : Rd w 0 B0 X2 (strs T))
  (hR1 : RngAt w base p 0 n1 (.slice A1 (popN n1) c1) (popN n1) l1) (hR2 : RngAt w base p 2 n2 (.slice A2 (popN n2) c2) (popN n2) l2) (hap : Apart (.slice A1 (popN n1) c1) (.slice A2 (popN n2) c2))
  (hnum : 0 ≤ h.num ∧ h.num ≤ 399) (hc4 : w.cell? ⟨p, 4, none⟩ = some (.int .i64 h.num)) (hcs : ∀ j, 4 ≤ j → j < 9 → ∃ v, w.cell? ⟨p, j, none⟩ = some v) :
  Calls Tryz.prog 163 #[.pointer (some ⟨p, 0, none⟩), .int .i64 width, .slice X1 k1 g1, .slice X2 k2 g2] w fun e w' => ∃ A3 c3 A4 c4, e = .returned (.int .i64 ((callsUp n1 k1 + callsUp n2 k2 + rngMade (growUp width n1 l1 L k1) + rngMade (growUp width n2 l2 T k2) : Nat) : Int)) ∧
   RngAt w' base p 0 ((n1 + k1 : Nat) : Int) (.slice A3 (popN (n1 + k1)) c3) (popN (n1 + k1)) (growUp width n1 l1 L k1) ∧ RngAt w' base p 2 ((n2 + k2 : Nat) : Int) (.slice A4 (popN (n2 + k2)) c4) (popN (n2 + k2)) (growUp width n2 l2 T k2) ∧
   Apart (.slice A3 (popN (n1 + k1)) c3) (.slice A4 (popN (n2 + k2)) c4) ∧ w'.cell? ⟨p, 4, none⟩ = some (.int .i64 (h.num + 1)) ∧ w'.cell? ⟨p, 5, none⟩ = some (.int .i64 ((n1 + k1 : Nat) : Int)) ∧ w'.cell? ⟨p, 6, none⟩ = some (.string (rngRoot width (growUp width n1 l1 L k1))) ∧
   w'.cell? ⟨p, 7, none⟩ = some (.int .i64 ((n2 + k2 : Nat) : Int)) ∧ w'.cell? ⟨p, 8, none⟩ = some (.string (rngRoot width (growUp width n2 l2 T k2))) ∧ Only base w.heap.size w w' :=
 (moreT_c width n1 n2 p base B0 c1 c2 A1 A2 l1 l2 h X1 X2 g1 g2 k1 k2 L T w hw hl1 ha1 hl2 ha2 hk1 hv1 hk2 hv2 hn1 hn2 hbase hB1 hB2 hbp hX1 hX2 hR1 hR2 hap hnum hc4 hcs).mono fun e w' ⟨A3, c3, A4, c4, h1, h2, h3, h4, h5, h6, h7, h8, h9, h10, _⟩ => ⟨A3, c3, A4, c4, h1, h2, h3, h4, h5, h6, h7, h8, h9, h10⟩
end Go.Proofs.YtmmepogjocfefaaGreat
