/- What the laws' helpers do to a Broker. Written by gen_wrap.py. -/
import Derived.Test.YtmmepogjocfefaaGreatWLog
import Derived.Test.YtmmepogjocfefaaGreatWSeal
import Derived.Test.YtmmepogjocfefaaGreatSHead
import Derived.Test.YtmmepogjocfefaaGreatSReceipt
import Derived.Test.YtmmepogjocfefaaGreatData
namespace Go.Proofs.YtmmepogjocfefaaGreat
set_option linter.unusedVariables false
set_option linter.unusedSimpArgs false
open Go.RowKit

set_option maxRecDepth 100000 in
set_option maxHeartbeats 400000 in
theorem szBroker_c (z0 z1 z2 : Int) (d0 : Hd) (A0 A1 A2 A3 A4 : Option Addr) (c0 c1 c2 c3 c4 : Nat) (n0 n1 n2 n3 n4 : Nat) (l0 : List Ent) (l1 : List Rcp) (l2 : List Hd) (l3 : List ByteArray) (l4 : List ByteArray) (lo0 hi0 lo1 hi1 lo2 hi2 lo3 hi3 lo4 hi4 : Nat) (left : Int) (w : World) (hr0 : Rd w lo0 hi0 A0 (ents l0)) (hn0 : l0.length = n0) (hl0 : n0 ≤ maxLen) (hs0 : ∀ x ∈ l0, x.fits) (hr1 : Rd w lo1 hi1 A1 (rcps l1)) (hn1 : l1.length = n1) (hl1 : n1 ≤ maxLen) (hs1 : ∀ x ∈ l1, x.fits) (hr2 : Rd w lo2 hi2 A2 (hds l2)) (hn2 : l2.length = n2) (hl2 : n2 ≤ maxLen) (hs2 : ∀ x ∈ l2, x.fits) (hr3 : Rd w lo3 hi3 A3 (strs l3)) (hn3 : l3.length = n3) (hl3 : n3 ≤ maxLen) (hs3 : ∀ x ∈ l3, x.size ≤ maxLen) (hr4 : Rd w lo4 hi4 A4 (strs l4)) (hn4 : l4.length = n4) (hl4 : n4 ≤ maxLen) (hs4 : ∀ x ∈ l4, x.size ≤ maxLen) (hfd0 : d0.fits) (h0 : 0 ≤ left) (h1 : left ≤ 1048576) :
  Calls Tryz.prog 10 #[.agg #[.int .i64 z0, .slice A0 n0 c0, .slice A1 n1 c1, .slice A2 n2 c2, .int .i64 z1, .slice A3 n3 c3, .int .i64 z2, .slice A4 n4 c4, .int .i64 d0.num, .int .i64 d0.size, .string d0.root, .int .i64 d0.taken, .string d0.troot], .int .i64 left] w fun r w' => r = .returned (.int .i64 (szF left (((n0 + sumBy Ent.bulk l0)) + (n1 + sumBy Rcp.bulk l1) + (n2 + sumBy Hd.bulk l2) + (((n3 + bulkS l3)) + ((n4 + bulkS l4)) + d0.bulk)))) ∧ Below w.heap.size w w' := by
 have HN0 := Lib.hid hn0
 have HS0 := Lib.hid hs0
 clear hn0 hs0
 have HN1 := Lib.hid hn1
 have HS1 := Lib.hid hs1
 clear hn1 hs1
 have HN2 := Lib.hid hn2
 have HS2 := Lib.hid hs2
 clear hn2 hs2
 have HN3 := Lib.hid hn3
 have HS3 := Lib.hid hs3
 clear hn3 hs3
 have HN4 := Lib.hid hn4
 have HS4 := Lib.hid hs4
 clear hn4 hs4
 have HB0 : Hid (Below w.heap.size w (w.alloc _)) := (Below.refl _ _).alloc (Nat.le_refl _) (.cells #[.int .i64 z0, .slice A0 n0 c0, .slice A1 n1 c1, .slice A2 n2 c2, .int .i64 z1, .slice A3 n3 c3, .int .i64 z2, .slice A4 n4 c4, .int .i64 d0.num, .int .i64 d0.size, .string d0.root, .int .i64 d0.taken, .string d0.troot] 35)
 go_enter Tryz.func10, Tryz.ntmps10
 go_wp2_with fail
 refine (szLog_c A0 c0 n0 l0 _ _ _ _ (hr0.below HB0.out) HN0.out hl0 HS0.out (by omega) (by omega)).mono ?_
 rintro e w1 ⟨rfl, hb1⟩
 obtain ⟨hc1, _⟩ := bcell hb1
 have hq1 : w.heap.size < w1.heap.size := by have := hb1.size; first | omega | (simp at this; omega)
 have HB1 : Hid (Below w.heap.size w w1) := below_then HB0.out hb1 (by first | omega | (simp; done) | (simp; omega))
 have HA1 : Hid (szF left ((n0 + sumBy Ent.bulk l0)) = szF left (((n0 + sumBy Ent.bulk l0)))) := rfl
 clear hb1
 go_wp2_with fail
 ·go_ret
  exact ⟨ret_int (szF_neg_more (b := (((n0 + sumBy Ent.bulk l0)) + (n1 + sumBy Rcp.bulk l1) + (n2 + sumBy Hd.bulk l2) + (((n3 + bulkS l3)) + ((n4 + bulkS l4)) + d0.bulk))) (by omega) (by assumption) (by omega)), HB1.out⟩
 ·have hp1 : 0 ≤ szF left (((n0 + sumBy Ent.bulk l0))) := by assumption
  have hg1 := (szF_le left (((n0 + sumBy Ent.bulk l0))) (by omega)).2
  go_wp2_with fail
  refine (szReceiptS_c A1 _ _ _ n1 l1 _ _ (hr1.below HB1.out) HN1.out hl1 HS1.out (by omega) (by omega)).mono ?_
  rintro e w2 ⟨rfl, hb2⟩
  obtain ⟨hc2, _⟩ := bcell hb2
  have hq2 : w.heap.size < w2.heap.size := by have := hb2.size; first | omega | (simp at this; omega)
  have HB2 : Hid (Below w.heap.size w w2) := below_then HB1.out hb2 (by first | omega | (simp; done) | (simp; omega))
  have HA2 : Hid (szF (szF left (((n0 + sumBy Ent.bulk l0)))) (n1 + sumBy Rcp.bulk l1) = szF left (((n0 + sumBy Ent.bulk l0)) + (n1 + sumBy Rcp.bulk l1))) := szF_add (by assumption)
  clear hb2
  rw [HA2.out]
  go_wp2_with fail
  ·go_ret
   exact ⟨ret_int (szF_neg_more (b := (((n0 + sumBy Ent.bulk l0)) + (n1 + sumBy Rcp.bulk l1) + (n2 + sumBy Hd.bulk l2) + (((n3 + bulkS l3)) + ((n4 + bulkS l4)) + d0.bulk))) (by omega) (by assumption) (by omega)), HB2.out⟩
  ·have hp2 : 0 ≤ szF left (((n0 + sumBy Ent.bulk l0)) + (n1 + sumBy Rcp.bulk l1)) := by assumption
   have hg2 := (szF_le left (((n0 + sumBy Ent.bulk l0)) + (n1 + sumBy Rcp.bulk l1)) (by omega)).2
   go_wp2_with fail
   refine (szHeadS_c A2 _ _ _ n2 l2 _ _ (hr2.below HB2.out) HN2.out hl2 HS2.out (by omega) (by omega)).mono ?_
   rintro e w3 ⟨rfl, hb3⟩
   obtain ⟨hc3, _⟩ := bcell hb3
   have hq3 : w.heap.size < w3.heap.size := by have := hb3.size; first | omega | (simp at this; omega)
   have HB3 : Hid (Below w.heap.size w w3) := below_then HB2.out hb3 (by first | omega | (simp; done) | (simp; omega))
   have HA3 : Hid (szF (szF left (((n0 + sumBy Ent.bulk l0)) + (n1 + sumBy Rcp.bulk l1))) (n2 + sumBy Hd.bulk l2) = szF left (((n0 + sumBy Ent.bulk l0)) + (n1 + sumBy Rcp.bulk l1) + (n2 + sumBy Hd.bulk l2))) := szF_add (by assumption)
   clear hb3
   rw [HA3.out]
   go_wp2_with fail
   ·go_ret
    exact ⟨ret_int (szF_neg_more (b := (((n0 + sumBy Ent.bulk l0)) + (n1 + sumBy Rcp.bulk l1) + (n2 + sumBy Hd.bulk l2) + (((n3 + bulkS l3)) + ((n4 + bulkS l4)) + d0.bulk))) (by omega) (by assumption) (by omega)), HB3.out⟩
   ·have hp3 : 0 ≤ szF left (((n0 + sumBy Ent.bulk l0)) + (n1 + sumBy Rcp.bulk l1) + (n2 + sumBy Hd.bulk l2)) := by assumption
    have hg3 := (szF_le left (((n0 + sumBy Ent.bulk l0)) + (n1 + sumBy Rcp.bulk l1) + (n2 + sumBy Hd.bulk l2)) (by omega)).2
    go_wp2_with fail
    refine (szSeal_c z1 z2 d0 A3 A4 c3 c4 n3 n4 l3 l4 _ _ _ _ _ _ (hr3.below HB3.out) HN3.out hl3 HS3.out (hr4.below HB3.out) HN4.out hl4 HS4.out hfd0 (by omega) (by omega)).mono ?_
    rintro e w4 ⟨rfl, hb4⟩
    obtain ⟨hc4, _⟩ := bcell hb4
    have hq4 : w.heap.size < w4.heap.size := by have := hb4.size; first | omega | (simp at this; omega)
    have HB4 : Hid (Below w.heap.size w w4) := below_then HB3.out hb4 (by first | omega | (simp; done) | (simp; omega))
    have HA4 : Hid (szF (szF left (((n0 + sumBy Ent.bulk l0)) + (n1 + sumBy Rcp.bulk l1) + (n2 + sumBy Hd.bulk l2))) (((n3 + bulkS l3)) + ((n4 + bulkS l4)) + d0.bulk) = szF left (((n0 + sumBy Ent.bulk l0)) + (n1 + sumBy Rcp.bulk l1) + (n2 + sumBy Hd.bulk l2) + (((n3 + bulkS l3)) + ((n4 + bulkS l4)) + d0.bulk))) := szF_add (by assumption)
    clear hb4
    rw [HA4.out]
    go_wp2_with fail
    ·go_ret
     exact ⟨ret_int (szF_neg_more (b := (((n0 + sumBy Ent.bulk l0)) + (n1 + sumBy Rcp.bulk l1) + (n2 + sumBy Hd.bulk l2) + (((n3 + bulkS l3)) + ((n4 + bulkS l4)) + d0.bulk))) (by omega) (by assumption) (by omega)), HB4.out⟩
    ·go_ret
     exact ⟨rfl, HB4.out⟩

set_option maxRecDepth 100000 in
set_option maxHeartbeats 400000 in
theorem toBroker_c (z0 z1 z2 : Int) (d0 : Hd) (A0 A1 A2 A3 A4 : Option Addr) (c0 c1 c2 c3 c4 : Nat) (n0 n1 n2 n3 n4 : Nat) (l0 : List Ent) (l1 : List Rcp) (l2 : List Hd) (l3 : List ByteArray) (l4 : List ByteArray) (lo0 hi0 lo1 hi1 lo2 hi2 lo3 hi3 lo4 hi4 : Nat) (w : World) (hr0 : Rd w lo0 hi0 A0 (ents l0)) (hn0 : l0.length = n0) (hl0 : n0 ≤ 1048576) (hr1 : Rd w lo1 hi1 A1 (rcps l1)) (hn1 : l1.length = n1) (hl1 : n1 ≤ 1048576) (hr2 : Rd w lo2 hi2 A2 (hds l2)) (hn2 : l2.length = n2) (hl2 : n2 ≤ 1048576) (hr3 : Rd w lo3 hi3 A3 (strs l3)) (hn3 : l3.length = n3) (hl3 : n3 ≤ 1048576) (hr4 : Rd w lo4 hi4 A4 (strs l4)) (hn4 : l4.length = n4) (hl4 : n4 ≤ 1048576) :
  Calls Tryz.prog 13 #[.agg #[.int .i64 z0, .slice A0 n0 c0, .slice A1 n1 c1, .slice A2 n2 c2, .int .i64 z1, .slice A3 n3 c3, .int .i64 z2, .slice A4 n4 c4, .int .i64 d0.num, .int .i64 d0.size, .string d0.root, .int .i64 d0.taken, .string d0.troot]] w fun r w' => ∃ A0' A1' A2' A3' A4' m1 m2 m3 m4, r = .returned (.agg #[.int .i64 z0, .slice A0' n0 n0, .slice A1' n1 n1, .slice A2' n2 n2, .int .i64 z1, .slice A3' n3 n3, .int .i64 z2, .slice A4' n4 n4, .int .i64 d0.num, .int .i64 d0.size, .string d0.root, .int .i64 d0.taken, .string d0.troot]) ∧ w.heap.size ≤ m1 ∧ m1 ≤ m2 ∧ m2 ≤ m3 ∧ m3 ≤ m4 ∧ m4 ≤ w'.heap.size ∧ Own w' w.heap.size m1 A0' (ents l0) ∧ Own w' m1 m2 A1' (rcps l1) ∧ Own w' m2 m3 A2' (hds l2) ∧ Own w' m3 m4 A3' (strs l3) ∧ Own w' m4 w'.heap.size A4' (strs l4) ∧ Below w.heap.size w w' := by
 have HN0 := Lib.hid hn0
 clear hn0
 have HN1 := Lib.hid hn1
 clear hn1
 have HN2 := Lib.hid hn2
 clear hn2
 have HN3 := Lib.hid hn3
 clear hn3
 have HN4 := Lib.hid hn4
 clear hn4
 go_enter Tryz.func13, Tryz.ntmps13
 go_wp2_with fail
 refine (toLog_c A0 c0 n0 l0 _ _ _ (hr0.below (by ((repeat (first | refine Below.setCell ?_ (by first | omega | (simp; done) | (simp; omega)) _ | refine Below.alloc ?_ (by first | omega | (simp; done) | (simp; omega)) _)); exact Below.refl _ _))) HN0.out hl0).mono ?_
 rintro e w1 ⟨A0', rfl, le1_0, ho0, hb1⟩
 obtain ⟨hc1, hf1⟩ := bcell hb1
 have hq1 : w.heap.size + 2 < w1.heap.size := by have := hb1.size; simp [World.setCell] at this; omega
 have hqa1 : w.heap.size < w1.heap.size := by omega
 have hqb1 : w.heap.size + 1 < w1.heap.size := by omega
 have hqc1 : w.heap.size + 1 + 1 < w1.heap.size := by omega
 have hz1 := hb1.size
 simp [World.setCell] at hz1
 have HB1 : Hid (Below w.heap.size w w1) := below_then (by ((repeat (first | refine Below.setCell ?_ (by first | omega | (simp; done) | (simp; omega)) _ | refine Below.alloc ?_ (by first | omega | (simp; done) | (simp; omega)) _)); exact Below.refl _ _)) hb1 (by first | omega | (simp [World.setCell]; done) | (simp [World.setCell]; omega))
 obtain ⟨q0, hw0, hm0, HO0⟩ : ∃ q, w.heap.size + 2 < q ∧ w.heap.size ≤ q ∧ Hid (Own w1 q w1.heap.size A0' (ents l0)) := ⟨_, by first | omega | (simp [World.setCell] at *; done) | (simp [World.setCell] at *; omega), by first | omega | (simp [World.setCell] at *; done) | (simp [World.setCell] at *; omega), ho0⟩
 clear hb1 ho0
 go_wp2_with fail
 refine (toReceiptS_c A1 _ _ _ n1 l1 _ (hr1.below (by ((repeat (first | refine Below.setCell ?_ (by first | omega | (simp; done) | (simp; omega)) _ | refine Below.alloc ?_ (by first | omega | (simp; done) | (simp; omega)) _)); exact HB1.out))) HN1.out hl1).mono ?_
 rintro e w2 ⟨A1', rfl, ho1, hb2⟩
 obtain ⟨hc2, hf2⟩ := bcell hb2
 have hq2 : w.heap.size + 2 < w2.heap.size := by have := hb2.size; simp [World.setCell] at this; omega
 have hqa2 : w.heap.size < w2.heap.size := by omega
 have hqb2 : w.heap.size + 1 < w2.heap.size := by omega
 have hqc2 : w.heap.size + 1 + 1 < w2.heap.size := by omega
 have hz2 := hb2.size
 simp [World.setCell] at hz2
 have HB2 : Hid (Below w.heap.size w w2) := below_then (by ((repeat (first | refine Below.setCell ?_ (by first | omega | (simp; done) | (simp; omega)) _ | refine Below.alloc ?_ (by first | omega | (simp; done) | (simp; omega)) _)); exact HB1.out)) hb2 (by first | omega | (simp [World.setCell]; done) | (simp [World.setCell]; omega))
 have HO0 : Hid (Own w2 q0 w1.heap.size A0' (ents l0)) := Own.below (by (repeat (refine Own.setCell ?_ (Or.inl (by simp; omega)) _)); exact HO0.out) hb2
 obtain ⟨q1, hw1, hm1, HO1⟩ : ∃ q, w.heap.size + 2 < q ∧ w1.heap.size ≤ q ∧ Hid (Own w2 q w2.heap.size A1' (rcps l1)) := ⟨_, by first | omega | (simp [World.setCell] at *; done) | (simp [World.setCell] at *; omega), by first | omega | (simp [World.setCell] at *; done) | (simp [World.setCell] at *; omega), ho1⟩
 clear hb2 ho1
 go_wp2_with fail
 refine (toHeadS_c A2 _ _ _ n2 l2 _ (hr2.below (by ((repeat (first | refine Below.setCell ?_ (by first | omega | (simp; done) | (simp; omega)) _ | refine Below.alloc ?_ (by first | omega | (simp; done) | (simp; omega)) _)); exact HB2.out))) HN2.out hl2).mono ?_
 rintro e w3 ⟨A2', rfl, ho2, hb3⟩
 obtain ⟨hc3, hf3⟩ := bcell hb3
 have hq3 : w.heap.size + 2 < w3.heap.size := by have := hb3.size; simp [World.setCell] at this; omega
 have hqa3 : w.heap.size < w3.heap.size := by omega
 have hqb3 : w.heap.size + 1 < w3.heap.size := by omega
 have hqc3 : w.heap.size + 1 + 1 < w3.heap.size := by omega
 have hz3 := hb3.size
 simp [World.setCell] at hz3
 have HB3 : Hid (Below w.heap.size w w3) := below_then (by ((repeat (first | refine Below.setCell ?_ (by first | omega | (simp; done) | (simp; omega)) _ | refine Below.alloc ?_ (by first | omega | (simp; done) | (simp; omega)) _)); exact HB2.out)) hb3 (by first | omega | (simp [World.setCell]; done) | (simp [World.setCell]; omega))
 have HO0 : Hid (Own w3 q0 w1.heap.size A0' (ents l0)) := Own.below (by (repeat (refine Own.setCell ?_ (Or.inl (by simp; omega)) _)); exact HO0.out) hb3
 have HO1 : Hid (Own w3 q1 w2.heap.size A1' (rcps l1)) := Own.below (by (repeat (refine Own.setCell ?_ (Or.inl (by simp; omega)) _)); exact HO1.out) hb3
 obtain ⟨q2, hw2, hm2, HO2⟩ : ∃ q, w.heap.size + 2 < q ∧ w2.heap.size ≤ q ∧ Hid (Own w3 q w3.heap.size A2' (hds l2)) := ⟨_, by first | omega | (simp [World.setCell] at *; done) | (simp [World.setCell] at *; omega), by first | omega | (simp [World.setCell] at *; done) | (simp [World.setCell] at *; omega), ho2⟩
 clear hb3 ho2
 go_wp2_with fail
 refine (toSeal_c z1 z2 d0 A3 A4 c3 c4 n3 n4 l3 l4 _ _ _ _ _ (hr3.below (by ((repeat (first | refine Below.setCell ?_ (by first | omega | (simp; done) | (simp; omega)) _ | refine Below.alloc ?_ (by first | omega | (simp; done) | (simp; omega)) _)); exact HB3.out))) HN3.out hl3 (hr4.below (by ((repeat (first | refine Below.setCell ?_ (by first | omega | (simp; done) | (simp; omega)) _ | refine Below.alloc ?_ (by first | omega | (simp; done) | (simp; omega)) _)); exact HB3.out))) HN4.out hl4).mono ?_
 rintro e w4 ⟨A3', A4', s4_1, rfl, le4_0, le4_1, ho3, ho4, hb4⟩
 obtain ⟨hc4, hf4⟩ := bcell hb4
 have hq4 : w.heap.size + 2 < w4.heap.size := by have := hb4.size; simp [World.setCell] at this; omega
 have hqa4 : w.heap.size < w4.heap.size := by omega
 have hqb4 : w.heap.size + 1 < w4.heap.size := by omega
 have hqc4 : w.heap.size + 1 + 1 < w4.heap.size := by omega
 have hz4 := hb4.size
 simp [World.setCell] at hz4
 have HB4 : Hid (Below w.heap.size w w4) := below_then (by ((repeat (first | refine Below.setCell ?_ (by first | omega | (simp; done) | (simp; omega)) _ | refine Below.alloc ?_ (by first | omega | (simp; done) | (simp; omega)) _)); exact HB3.out)) hb4 (by first | omega | (simp [World.setCell]; done) | (simp [World.setCell]; omega))
 have HO0 : Hid (Own w4 q0 w1.heap.size A0' (ents l0)) := Own.below (by (repeat (refine Own.setCell ?_ (Or.inl (by simp; omega)) _)); exact HO0.out) hb4
 have HO1 : Hid (Own w4 q1 w2.heap.size A1' (rcps l1)) := Own.below (by (repeat (refine Own.setCell ?_ (Or.inl (by simp; omega)) _)); exact HO1.out) hb4
 have HO2 : Hid (Own w4 q2 w3.heap.size A2' (hds l2)) := Own.below (by (repeat (refine Own.setCell ?_ (Or.inl (by simp; omega)) _)); exact HO2.out) hb4
 obtain ⟨q3, hw3, hm3, HO3⟩ : ∃ q, w.heap.size + 2 < q ∧ w3.heap.size ≤ q ∧ Hid (Own w4 q s4_1 A3' (strs l3)) := ⟨_, by first | omega | (simp [World.setCell] at *; done) | (simp [World.setCell] at *; omega), by first | omega | (simp [World.setCell] at *; done) | (simp [World.setCell] at *; omega), ho3⟩
 obtain ⟨q4, hw4, hm4, HO4⟩ : ∃ q, w.heap.size + 2 < q ∧ s4_1 ≤ q ∧ Hid (Own w4 q w4.heap.size A4' (strs l4)) := ⟨_, by first | omega | (simp [World.setCell] at *; done) | (simp [World.setCell] at *; omega), by first | omega | (simp [World.setCell] at *; done) | (simp [World.setCell] at *; omega), ho4⟩
 clear hb4 ho3 ho4
 go_wp2
 refine bodyPost_ret (v := .agg #[.int .i64 z0, .slice A0' n0 n0, .slice A1' n1 n1, .slice A2' n2 n2, .int .i64 z1, .slice A3' n3 n3, .int .i64 z2, .slice A4' n4 n4, .int .i64 d0.num, .int .i64 d0.size, .string d0.root, .int .i64 d0.taken, .string d0.troot]) (by simp [results, Tryz.results13, go_sem, hc1, hqa1, hqb1, hqc1, hc2, hqa2, hqb2, hqc2, hc3, hqa3, hqb3, hqc3, hc4, hqa4, hqb4, hqc4]) rfl ?_
 refine ⟨A0', A1', A2', A3', A4', w1.heap.size, w2.heap.size, w3.heap.size, s4_1, rfl, ?_, ?_, ?_, ?_, ?_, ?_, ?_, ?_, ?_, ?_, ?_⟩
 ·first | omega | (simp [World.setCell] at *; done) | (simp [World.setCell] at *; omega)
 ·first | omega | (simp [World.setCell] at *; done) | (simp [World.setCell] at *; omega)
 ·first | omega | (simp [World.setCell] at *; done) | (simp [World.setCell] at *; omega)
 ·first | omega | (simp [World.setCell] at *; done) | (simp [World.setCell] at *; omega)
 ·first | omega | (simp [World.setCell] at *; done) | (simp [World.setCell] at *; omega)
 ·refine Own.mono (lo := q0) (hi := w1.heap.size) (by (repeat (refine Own.setCell ?_ (Or.inl (by simp; omega)) _)); exact HO0.out) (by first | omega | (simp [World.setCell] at *; done) | (simp [World.setCell] at *; omega)) (by first | omega | (simp [World.setCell] at *; done) | (simp [World.setCell] at *; omega)) (by first | omega | (simp [World.setCell] at *; done) | (simp [World.setCell] at *; omega))
 ·refine Own.mono (lo := q1) (hi := w2.heap.size) (by (repeat (refine Own.setCell ?_ (Or.inl (by simp; omega)) _)); exact HO1.out) (by first | omega | (simp [World.setCell] at *; done) | (simp [World.setCell] at *; omega)) (by first | omega | (simp [World.setCell] at *; done) | (simp [World.setCell] at *; omega)) (by first | omega | (simp [World.setCell] at *; done) | (simp [World.setCell] at *; omega))
 ·refine Own.mono (lo := q2) (hi := w3.heap.size) (by (repeat (refine Own.setCell ?_ (Or.inl (by simp; omega)) _)); exact HO2.out) (by first | omega | (simp [World.setCell] at *; done) | (simp [World.setCell] at *; omega)) (by first | omega | (simp [World.setCell] at *; done) | (simp [World.setCell] at *; omega)) (by first | omega | (simp [World.setCell] at *; done) | (simp [World.setCell] at *; omega))
 ·refine Own.mono (lo := q3) (hi := s4_1) (by (repeat (refine Own.setCell ?_ (Or.inl (by simp; omega)) _)); exact HO3.out) (by first | omega | (simp [World.setCell] at *; done) | (simp [World.setCell] at *; omega)) (by first | omega | (simp [World.setCell] at *; done) | (simp [World.setCell] at *; omega)) (by first | omega | (simp [World.setCell] at *; done) | (simp [World.setCell] at *; omega))
 ·refine Own.mono (lo := q4) (hi := w4.heap.size) (by (repeat (refine Own.setCell ?_ (Or.inl (by simp; omega)) _)); exact HO4.out) (by first | omega | (simp [World.setCell] at *; done) | (simp [World.setCell] at *; omega)) (by first | omega | (simp [World.setCell] at *; done) | (simp [World.setCell] at *; omega)) (by first | omega | (simp [World.setCell] at *; done) | (simp [World.setCell] at *; omega))
 ·((repeat (first | refine Below.setCell ?_ (by first | omega | (simp; done) | (simp; omega)) _ | refine Below.alloc ?_ (by first | omega | (simp; done) | (simp; omega)) _)); exact HB4.out)

set_option maxRecDepth 100000 in
set_option maxHeartbeats 400000 in
theorem eqBroker_c (z0 z1 z2 : Int) (d0 : Hd) (A0 A1 A2 A3 A4 : Option Addr) (c0 c1 c2 c3 c4 : Nat) (n0 n1 n2 n3 n4 : Nat) (l0 : List Ent) (l1 : List Rcp) (l2 : List Hd) (l3 : List ByteArray) (l4 : List ByteArray) (A0' A1' A2' A3' A4' : Option Addr) (c0' c1' c2' c3' c4' : Nat) (lo0 hi0 lo1 hi1 lo2 hi2 lo3 hi3 lo4 hi4 : Nat) (lo0' hi0' lo1' hi1' lo2' hi2' lo3' hi3' lo4' hi4' : Nat) (w : World) (hr0 : Rd w lo0 hi0 A0 (ents l0)) (hr0' : Rd w lo0' hi0' A0' (ents l0)) (hn0 : l0.length = n0) (hl0 : n0 ≤ maxLen) (hr1 : Rd w lo1 hi1 A1 (rcps l1)) (hr1' : Rd w lo1' hi1' A1' (rcps l1)) (hn1 : l1.length = n1) (hl1 : n1 ≤ maxLen) (hr2 : Rd w lo2 hi2 A2 (hds l2)) (hr2' : Rd w lo2' hi2' A2' (hds l2)) (hn2 : l2.length = n2) (hl2 : n2 ≤ maxLen) (hr3 : Rd w lo3 hi3 A3 (strs l3)) (hr3' : Rd w lo3' hi3' A3' (strs l3)) (hn3 : l3.length = n3) (hl3 : n3 ≤ maxLen) (hr4 : Rd w lo4 hi4 A4 (strs l4)) (hr4' : Rd w lo4' hi4' A4' (strs l4)) (hn4 : l4.length = n4) (hl4 : n4 ≤ maxLen) :
  Calls Tryz.prog 17 #[.agg #[.int .i64 z0, .slice A0 n0 c0, .slice A1 n1 c1, .slice A2 n2 c2, .int .i64 z1, .slice A3 n3 c3, .int .i64 z2, .slice A4 n4 c4, .int .i64 d0.num, .int .i64 d0.size, .string d0.root, .int .i64 d0.taken, .string d0.troot], .agg #[.int .i64 z0, .slice A0' n0 c0', .slice A1' n1 c1', .slice A2' n2 c2', .int .i64 z1, .slice A3' n3 c3', .int .i64 z2, .slice A4' n4 c4', .int .i64 d0.num, .int .i64 d0.size, .string d0.root, .int .i64 d0.taken, .string d0.troot]] w fun r w' => r = .returned (.bool true) ∧ Below w.heap.size w w' := by
 have HN0 := Lib.hid hn0
 clear hn0
 have HN1 := Lib.hid hn1
 clear hn1
 have HN2 := Lib.hid hn2
 clear hn2
 have HN3 := Lib.hid hn3
 clear hn3
 have HN4 := Lib.hid hn4
 clear hn4
 go_enter Tryz.func17, Tryz.ntmps17
 go_wp2_with fail
 refine (eqLog_c A0 c0 n0 l0 A0' c0' _ _ _ _ _ (hr0.below (by ((repeat (first | refine Below.setCell ?_ (by first | omega | (simp; done) | (simp; omega)) _ | refine Below.alloc ?_ (by first | omega | (simp; done) | (simp; omega)) _)); exact Below.refl _ _))) (hr0'.below (by ((repeat (first | refine Below.setCell ?_ (by first | omega | (simp; done) | (simp; omega)) _ | refine Below.alloc ?_ (by first | omega | (simp; done) | (simp; omega)) _)); exact Below.refl _ _))) HN0.out hl0).mono ?_
 rintro e w1 ⟨rfl, hb1⟩
 obtain ⟨hc1, _⟩ := bcell hb1
 have hq1 : w.heap.size + 1 < w1.heap.size := by have := hb1.size; first | omega | (simp at this; omega)
 have hp1 : w.heap.size < w1.heap.size := by omega
 have HB1 : Hid (Below w.heap.size w w1) := below_then (by ((repeat (first | refine Below.setCell ?_ (by first | omega | (simp; done) | (simp; omega)) _ | refine Below.alloc ?_ (by first | omega | (simp; done) | (simp; omega)) _)); exact Below.refl _ _)) hb1 (by first | omega | (simp; done) | (simp; omega))
 clear hb1
 go_wp2_with fail
 refine (eqReceiptS_c A1 A1' _ _ _ _ _ _ n1 n1 l1 _ (hr1.below (by ((repeat (first | refine Below.setCell ?_ (by first | omega | (simp; done) | (simp; omega)) _ | refine Below.alloc ?_ (by first | omega | (simp; done) | (simp; omega)) _)); exact HB1.out))) (hr1'.below (by ((repeat (first | refine Below.setCell ?_ (by first | omega | (simp; done) | (simp; omega)) _ | refine Below.alloc ?_ (by first | omega | (simp; done) | (simp; omega)) _)); exact HB1.out))) HN1.out HN1.out hl1).mono ?_
 rintro e w2 ⟨rfl, hb2⟩
 obtain ⟨hc2, _⟩ := bcell hb2
 have hq2 : w.heap.size + 1 < w2.heap.size := by have := hb2.size; first | omega | (simp at this; omega)
 have hp2 : w.heap.size < w2.heap.size := by omega
 have HB2 : Hid (Below w.heap.size w w2) := below_then (by ((repeat (first | refine Below.setCell ?_ (by first | omega | (simp; done) | (simp; omega)) _ | refine Below.alloc ?_ (by first | omega | (simp; done) | (simp; omega)) _)); exact HB1.out)) hb2 (by first | omega | (simp; done) | (simp; omega))
 clear hb2
 go_wp2_with fail
 refine (eqHeadS_c A2 A2' _ _ _ _ _ _ n2 n2 l2 _ (hr2.below (by ((repeat (first | refine Below.setCell ?_ (by first | omega | (simp; done) | (simp; omega)) _ | refine Below.alloc ?_ (by first | omega | (simp; done) | (simp; omega)) _)); exact HB2.out))) (hr2'.below (by ((repeat (first | refine Below.setCell ?_ (by first | omega | (simp; done) | (simp; omega)) _ | refine Below.alloc ?_ (by first | omega | (simp; done) | (simp; omega)) _)); exact HB2.out))) HN2.out HN2.out hl2).mono ?_
 rintro e w3 ⟨rfl, hb3⟩
 obtain ⟨hc3, _⟩ := bcell hb3
 have hq3 : w.heap.size + 1 < w3.heap.size := by have := hb3.size; first | omega | (simp at this; omega)
 have hp3 : w.heap.size < w3.heap.size := by omega
 have HB3 : Hid (Below w.heap.size w w3) := below_then (by ((repeat (first | refine Below.setCell ?_ (by first | omega | (simp; done) | (simp; omega)) _ | refine Below.alloc ?_ (by first | omega | (simp; done) | (simp; omega)) _)); exact HB2.out)) hb3 (by first | omega | (simp; done) | (simp; omega))
 clear hb3
 go_wp2_with fail
 refine (eqSeal_c z1 z2 d0 A3 A4 c3 c4 n3 n4 l3 l4 A3' A4' c3' c4' _ _ _ _ _ _ _ _ _ (hr3.below (by ((repeat (first | refine Below.setCell ?_ (by first | omega | (simp; done) | (simp; omega)) _ | refine Below.alloc ?_ (by first | omega | (simp; done) | (simp; omega)) _)); exact HB3.out))) (hr3'.below (by ((repeat (first | refine Below.setCell ?_ (by first | omega | (simp; done) | (simp; omega)) _ | refine Below.alloc ?_ (by first | omega | (simp; done) | (simp; omega)) _)); exact HB3.out))) HN3.out hl3 (hr4.below (by ((repeat (first | refine Below.setCell ?_ (by first | omega | (simp; done) | (simp; omega)) _ | refine Below.alloc ?_ (by first | omega | (simp; done) | (simp; omega)) _)); exact HB3.out))) (hr4'.below (by ((repeat (first | refine Below.setCell ?_ (by first | omega | (simp; done) | (simp; omega)) _ | refine Below.alloc ?_ (by first | omega | (simp; done) | (simp; omega)) _)); exact HB3.out))) HN4.out hl4).mono ?_
 rintro e w4 ⟨rfl, hb4⟩
 obtain ⟨hc4, _⟩ := bcell hb4
 have hq4 : w.heap.size + 1 < w4.heap.size := by have := hb4.size; first | omega | (simp at this; omega)
 have hp4 : w.heap.size < w4.heap.size := by omega
 have HB4 : Hid (Below w.heap.size w w4) := below_then (by ((repeat (first | refine Below.setCell ?_ (by first | omega | (simp; done) | (simp; omega)) _ | refine Below.alloc ?_ (by first | omega | (simp; done) | (simp; omega)) _)); exact HB3.out)) hb4 (by first | omega | (simp; done) | (simp; omega))
 clear hb4
 go_wp2
 go_ret
 exact ⟨rfl, HB4.out⟩

set_option maxRecDepth 100000 in
set_option maxHeartbeats 400000 in
theorem markBroker_c (z0 z1 z2 : Int) (d0 : Hd) (A0 A1 A2 A3 A4 : Option Addr) (c0 c1 c2 c3 c4 : Nat) (n0 n1 n2 n3 n4 : Nat) (lo0 hi0 lo1 hi1 lo2 hi2 lo3 hi3 lo4 hi4 : Nat) (k0 : Nat) (x : Int) (xs0 xs1 xs2 xs3 xs4 : List Value) (w : World) (hx : x = (k0 : Int)) (hr0 : Own w lo0 hi0 A0 xs0) (hn0 : xs0.length = n0 * 5) (hH0 : hi0 ≤ w.heap.size) (hr1 : Own w lo1 hi1 A1 xs1) (hn1 : xs1.length = n1 * 3) (hH1 : hi1 ≤ w.heap.size) (hr2 : Own w lo2 hi2 A2 xs2) (hn2 : xs2.length = n2 * 5) (hH2 : hi2 ≤ w.heap.size) (hr3 : Own w lo3 hi3 A3 xs3) (hn3 : xs3.length = n3) (hH3 : hi3 ≤ w.heap.size) (hr4 : Own w lo4 hi4 A4 xs4) (hn4 : xs4.length = n4) (hH4 : hi4 ≤ w.heap.size) (hd0_1 : hi0 ≤ lo1 ∨ hi1 ≤ lo0) (hd0_2 : hi0 ≤ lo2 ∨ hi2 ≤ lo0) (hd0_3 : hi0 ≤ lo3 ∨ hi3 ≤ lo0) (hd0_4 : hi0 ≤ lo4 ∨ hi4 ≤ lo0) (hd1_2 : hi1 ≤ lo2 ∨ hi2 ≤ lo1) (hd1_3 : hi1 ≤ lo3 ∨ hi3 ≤ lo1) (hd1_4 : hi1 ≤ lo4 ∨ hi4 ≤ lo1) (hd2_3 : hi2 ≤ lo3 ∨ hi3 ≤ lo2) (hd2_4 : hi2 ≤ lo4 ∨ hi4 ≤ lo2) (hd3_4 : hi3 ≤ lo4 ∨ hi4 ≤ lo3) (hk : k0 + n0 * 5 + n1 * 3 + n2 * 5 + n3 + n4 ≤ 100000000) :
  Calls Tryz.prog 18 #[.agg #[.int .i64 z0, .slice A0 n0 c0, .slice A1 n1 c1, .slice A2 n2 c2, .int .i64 z1, .slice A3 n3 c3, .int .i64 z2, .slice A4 n4 c4, .int .i64 d0.num, .int .i64 d0.size, .string d0.root, .int .i64 d0.taken, .string d0.troot], .int .i64 x] w fun r w' => ∃ v1 v2 v3 v4 : World, r = .returned (.int .i64 (k0 + n0 * 5 + n1 * 3 + n2 * 5 + n3 + n4 : Nat)) ∧ (Only lo0 hi0 w v1 ∧ Only lo1 hi1 v1 v2 ∧ Only lo2 hi2 v2 v3 ∧ Only lo3 hi3 v3 v4 ∧ Only lo4 hi4 v4 w') ∧ Own w' lo0 hi0 A0 (ents (mksEntry (k0) n0)) ∧ Own w' lo1 hi1 A1 (rcps (mksReceipt (k0 + n0 * 5) n1)) ∧ Own w' lo2 hi2 A2 (hds (mksHead (k0 + n0 * 5 + n1 * 3) n2)) ∧ Own w' lo3 hi3 A3 (strs (marks (k0 + n0 * 5 + n1 * 3 + n2 * 5) n3)) ∧ Own w' lo4 hi4 A4 (strs (marks (k0 + n0 * 5 + n1 * 3 + n2 * 5 + n3) n4)) := by
 subst hx
 have HN0 := Lib.hid hn0
 clear hn0
 have HN1 := Lib.hid hn1
 clear hn1
 have HN2 := Lib.hid hn2
 clear hn2
 have HN3 := Lib.hid hn3
 clear hn3
 have HN4 := Lib.hid hn4
 clear hn4
 have HZ : Hid (∀ lo hi : Nat, Only lo hi w (w.alloc _)) := fun lo hi => (Only.refl lo hi w).alloc (.cells #[.int .i64 z0, .slice A0 n0 c0, .slice A1 n1 c1, .slice A2 n2 c2, .int .i64 z1, .slice A3 n3 c3, .int .i64 z2, .slice A4 n4 c4, .int .i64 d0.num, .int .i64 d0.size, .string d0.root, .int .i64 d0.taken, .string d0.troot] 52)
 have HO0 := Lib.hid (hr0.alloc (.cells #[.int .i64 z0, .slice A0 n0 c0, .slice A1 n1 c1, .slice A2 n2 c2, .int .i64 z1, .slice A3 n3 c3, .int .i64 z2, .slice A4 n4 c4, .int .i64 d0.num, .int .i64 d0.size, .string d0.root, .int .i64 d0.taken, .string d0.troot] 52))
 have HO1 := Lib.hid (hr1.alloc (.cells #[.int .i64 z0, .slice A0 n0 c0, .slice A1 n1 c1, .slice A2 n2 c2, .int .i64 z1, .slice A3 n3 c3, .int .i64 z2, .slice A4 n4 c4, .int .i64 d0.num, .int .i64 d0.size, .string d0.root, .int .i64 d0.taken, .string d0.troot] 52))
 have HO2 := Lib.hid (hr2.alloc (.cells #[.int .i64 z0, .slice A0 n0 c0, .slice A1 n1 c1, .slice A2 n2 c2, .int .i64 z1, .slice A3 n3 c3, .int .i64 z2, .slice A4 n4 c4, .int .i64 d0.num, .int .i64 d0.size, .string d0.root, .int .i64 d0.taken, .string d0.troot] 52))
 have HO3 := Lib.hid (hr3.alloc (.cells #[.int .i64 z0, .slice A0 n0 c0, .slice A1 n1 c1, .slice A2 n2 c2, .int .i64 z1, .slice A3 n3 c3, .int .i64 z2, .slice A4 n4 c4, .int .i64 d0.num, .int .i64 d0.size, .string d0.root, .int .i64 d0.taken, .string d0.troot] 52))
 have HO4 := Lib.hid (hr4.alloc (.cells #[.int .i64 z0, .slice A0 n0 c0, .slice A1 n1 c1, .slice A2 n2 c2, .int .i64 z1, .slice A3 n3 c3, .int .i64 z2, .slice A4 n4 c4, .int .i64 d0.num, .int .i64 d0.size, .string d0.root, .int .i64 d0.taken, .string d0.troot] 52))
 clear hr0 hr1 hr2 hr3 hr4
 go_enter Tryz.func18, Tryz.ntmps18
 go_wp2_with fail
 refine (markLog_c A0 c0 n0 lo0 hi0 (k0) _ xs0 _ (by omega) HO0.out HN0.out (by first | omega | (simp; omega))  (by omega)).mono ?_
 rintro e w1 ⟨rfl, hp1_0, ho0⟩
 have HO1 := Lib.hid (HO1.out.only hp1_0 (by omega))
 have HO2 := Lib.hid (HO2.out.only hp1_0 (by omega))
 have HO3 := Lib.hid (HO3.out.only hp1_0 (by omega))
 have HO4 := Lib.hid (HO4.out.only hp1_0 (by omega))
 have HO0 := Lib.hid ho0
 have hc1_0 := only_at hp1_0 (b := w.heap.size) (by first | omega | (simp; done) | (simp; omega)) (.inr (by omega))
 have hq1_0 : w.heap.size < w1.heap.size := by have := hp1_0.size; first | omega | (simp at this; omega)
 have HP0 := Lib.hid ((HZ.out _ _).trans hp1_0)
 clear hp1_0 ho0
 go_wp2_with fail
 refine (markReceiptS_c A1 _ lo1 hi1 (k0 + n0 * 5) n1 _ xs1 _ (by omega) HO1.out HN1.out (by omega)).mono ?_
 rintro e w2 ⟨rfl, hp2_1, ho1⟩
 have HO0 := Lib.hid (HO0.out.only hp2_1 (by omega))
 have HO2 := Lib.hid (HO2.out.only hp2_1 (by omega))
 have HO3 := Lib.hid (HO3.out.only hp2_1 (by omega))
 have HO4 := Lib.hid (HO4.out.only hp2_1 (by omega))
 have HO1 := Lib.hid ho1
 have hc2_0 := only_at hp2_1 (b := w.heap.size) (by first | omega | (simp; done) | (simp; omega)) (.inr (by omega))
 have hq2_0 : w.heap.size < w2.heap.size := by have := hp2_1.size; first | omega | (simp at this; omega)
 have HP1 := Lib.hid hp2_1
 clear hp2_1 ho1
 go_wp2_with fail
 refine (markHeadS_c A2 _ lo2 hi2 (k0 + n0 * 5 + n1 * 3) n2 _ xs2 _ (by omega) HO2.out HN2.out (by omega)).mono ?_
 rintro e w3 ⟨rfl, hp3_2, ho2⟩
 have HO0 := Lib.hid (HO0.out.only hp3_2 (by omega))
 have HO1 := Lib.hid (HO1.out.only hp3_2 (by omega))
 have HO3 := Lib.hid (HO3.out.only hp3_2 (by omega))
 have HO4 := Lib.hid (HO4.out.only hp3_2 (by omega))
 have HO2 := Lib.hid ho2
 have hc3_0 := only_at hp3_2 (b := w.heap.size) (by first | omega | (simp; done) | (simp; omega)) (.inr (by omega))
 have hq3_0 : w.heap.size < w3.heap.size := by have := hp3_2.size; first | omega | (simp at this; omega)
 have HP2 := Lib.hid hp3_2
 clear hp3_2 ho2
 go_wp2_with fail
 refine (markSeal_c z1 z2 d0 A3 A4 c3 c4 n3 n4 lo3 hi3 lo4 hi4 (k0 + n0 * 5 + n1 * 3 + n2 * 5) _ xs3 xs4 _ (by omega) HO3.out HN3.out (by first | omega | (simp; omega)) HO4.out HN4.out (by first | omega | (simp; omega)) hd3_4 (by omega)).mono ?_
 rintro e w4 ⟨v4_1, rfl, ⟨hp4_3, hp4_4⟩, ho3, ho4⟩
 have HO0 := Lib.hid ((HO0.out.only hp4_3 (by omega)).only hp4_4 (by omega))
 have HO1 := Lib.hid ((HO1.out.only hp4_3 (by omega)).only hp4_4 (by omega))
 have HO2 := Lib.hid ((HO2.out.only hp4_3 (by omega)).only hp4_4 (by omega))
 have HO3 := Lib.hid ho3
 have HO4 := Lib.hid ho4
 have hc4_0 := only_at hp4_3 (b := w.heap.size) (by first | omega | (simp; done) | (simp; omega)) (.inr (by omega))
 have hq4_0 : w.heap.size < v4_1.heap.size := by have := hp4_3.size; first | omega | (simp at this; omega)
 have HP3 := Lib.hid hp4_3
 have hc4_1 := only_at hp4_4 (b := w.heap.size) (by first | omega | (simp; done) | (simp; omega)) (.inr (by omega))
 have hq4_1 : w.heap.size < w4.heap.size := by have := hp4_4.size; first | omega | (simp at this; omega)
 have HP4 := Lib.hid hp4_4
 clear hp4_3 hp4_4 ho3 ho4
 go_wp2
 go_ret
 exact ⟨w1, w2, w3, v4_1, by first | rfl | (congr 2; push_cast; omega), ⟨HP0.out, HP1.out, HP2.out, HP3.out, HP4.out⟩, HO0.out, HO1.out, HO2.out, HO3.out, HO4.out⟩


end Go.Proofs.YtmmepogjocfefaaGreat
