/- The walk of the law FnExactLeafProof; what spec.LeafProof and impl.LeafProof do comes in as hypotheses. Written by gen_law.py. -/
import Derived.Test.YtmmepogjocfefaaGreatData
import Derived.Test.YtmmepogjocfefaaGreatReg
import Derived.Test.YtmmepogjocfefaaGreatSEntry
import Derived.Test.YtmmepogjocfefaaGreatStr
import Derived.Test.YtmmepogjocfefaaGreatWBroker
import Derived.Test.YtmmepogjocfefaaGreatOpen
import Derived.Test.YtmmepogjocfefaaGreatSeat
namespace Go.Proofs.YtmmepogjocfefaaGreat
set_option linter.unusedVariables false
set_option linter.unusedSimpArgs false
open Go.RowKit
attribute [local go_sem ↓] Go.wp_at_zero Go.wp_at_succ

def specLeafProof_does (z0_0 z0_1 z0_2 : Int) (d0_0 : Hd) (n0_0 n0_1 n0_2 n0_3 n0_4 : Nat) (l0_0 : List Ent) (l0_1 : List Rcp) (l0_2 : List Hd) (l0_3 : List ByteArray) (l0_4 : List ByteArray) (z1 : Int) (z2 : Int) (er0 : Ent) (nr1 : Nat) (lr1 : List ByteArray) (zr2 : Int) : Prop :=
    (((n0_0 + sumBy Ent.bulk l0_0)) + (n0_1 + sumBy Rcp.bulk l0_1) + (n0_2 + sumBy Hd.bulk l0_2) + (((n0_3 + bulkS l0_3)) + ((n0_4 + bulkS l0_4)) + d0_0.bulk)) ≤ 1048576 → ∀ (B0_0 : Option Addr) (g0_0 aA0_0 bA0_0 : Nat) (B0_1 : Option Addr) (g0_1 aA0_1 bA0_1 : Nat) (B0_2 : Option Addr) (g0_2 aA0_2 bA0_2 : Nat) (B0_3 : Option Addr) (g0_3 aA0_3 bA0_3 : Nat) (B0_4 : Option Addr) (g0_4 aA0_4 bA0_4 : Nat) (W : World), Rd W aA0_0 bA0_0 B0_0 (ents l0_0) → g0_0 = n0_0 → Rd W aA0_1 bA0_1 B0_1 (rcps l0_1) → g0_1 = n0_1 → Rd W aA0_2 bA0_2 B0_2 (hds l0_2) → g0_2 = n0_2 → Rd W aA0_3 bA0_3 B0_3 (strs l0_3) → g0_3 = n0_3 → Rd W aA0_4 bA0_4 B0_4 (strs l0_4) → g0_4 = n0_4 → Calls Tryz.prog 35 #[.agg #[.int .i64 z0_0, .slice B0_0 n0_0 g0_0, .slice B0_1 n0_1 g0_1, .slice B0_2 n0_2 g0_2, .int .i64 z0_1, .slice B0_3 n0_3 g0_3, .int .i64 z0_2, .slice B0_4 n0_4 g0_4, .int .i64 d0_0.num, .int .i64 d0_0.size, .string d0_0.root, .int .i64 d0_0.taken, .string d0_0.troot], .int .i64 z1, .int .i64 z2] W fun r W' => ∃ (Ar1 : Option Addr) (cr1 : Nat), r = .returned (.tuple #[.agg #[.string er0.topic, .int .i64 er0.index, .int .i64 er0.time, .string er0.key, .string er0.body], .slice Ar1 nr1 cr1, .int .i64 zr2]) ∧ Own W' W.heap.size W'.heap.size Ar1 (strs lr1) ∧ Below W.heap.size W W'
def implLeafProof_does (z0_0 z0_1 z0_2 : Int) (d0_0 : Hd) (n0_0 n0_1 n0_2 n0_3 n0_4 : Nat) (l0_0 : List Ent) (l0_1 : List Rcp) (l0_2 : List Hd) (l0_3 : List ByteArray) (l0_4 : List ByteArray) (z1 : Int) (z2 : Int) (er0 : Ent) (nr1 : Nat) (lr1 : List ByteArray) (zr2 : Int) : Prop :=
    (((n0_0 + sumBy Ent.bulk l0_0)) + (n0_1 + sumBy Rcp.bulk l0_1) + (n0_2 + sumBy Hd.bulk l0_2) + (((n0_3 + bulkS l0_3)) + ((n0_4 + bulkS l0_4)) + d0_0.bulk)) ≤ 1048576 → ∀ (B0_0 : Option Addr) (g0_0 aA0_0 bA0_0 : Nat) (B0_1 : Option Addr) (g0_1 aA0_1 bA0_1 : Nat) (B0_2 : Option Addr) (g0_2 aA0_2 bA0_2 : Nat) (B0_3 : Option Addr) (g0_3 aA0_3 bA0_3 : Nat) (B0_4 : Option Addr) (g0_4 aA0_4 bA0_4 : Nat) (W : World), Rd W aA0_0 bA0_0 B0_0 (ents l0_0) → g0_0 = n0_0 → Rd W aA0_1 bA0_1 B0_1 (rcps l0_1) → g0_1 = n0_1 → Rd W aA0_2 bA0_2 B0_2 (hds l0_2) → g0_2 = n0_2 → Rd W aA0_3 bA0_3 B0_3 (strs l0_3) → g0_3 = n0_3 → Rd W aA0_4 bA0_4 B0_4 (strs l0_4) → g0_4 = n0_4 → Calls Tryz.prog 36 #[.agg #[.int .i64 z0_0, .slice B0_0 n0_0 g0_0, .slice B0_1 n0_1 g0_1, .slice B0_2 n0_2 g0_2, .int .i64 z0_1, .slice B0_3 n0_3 g0_3, .int .i64 z0_2, .slice B0_4 n0_4 g0_4, .int .i64 d0_0.num, .int .i64 d0_0.size, .string d0_0.root, .int .i64 d0_0.taken, .string d0_0.troot], .int .i64 z1, .int .i64 z2] W fun r W' => ∃ (Ar1 : Option Addr) (cr1 : Nat), r = .returned (.tuple #[.agg #[.string er0.topic, .int .i64 er0.index, .int .i64 er0.time, .string er0.key, .string er0.body], .slice Ar1 nr1 cr1, .int .i64 zr2]) ∧ Own W' W.heap.size W'.heap.size Ar1 (strs lr1) ∧ Below W.heap.size W W'
set_option maxRecDepth 100000 in
set_option maxHeartbeats 4000000 in
theorem walk_LeafProof (z0_0 z0_1 z0_2 : Int) (d0_0 : Hd) (A0_0 A0_1 A0_2 A0_3 A0_4 : Option Addr) (c0_0 c0_1 c0_2 c0_3 c0_4 : Nat) (n0_0 n0_1 n0_2 n0_3 n0_4 : Nat) (l0_0 : List Ent) (l0_1 : List Rcp) (l0_2 : List Hd) (l0_3 : List ByteArray) (l0_4 : List ByteArray) (z1 : Int) (z2 : Int) (er0 : Ent) (nr1 : Nat) (lr1 : List ByteArray) (zr2 : Int) (w : World) (hrA0_0 : Rd w 0 w.heap.size A0_0 (ents l0_0)) (hnA0_0 : l0_0.length = n0_0) (hlA0_0 : n0_0 ≤ maxLen) (hsA0_0 : ∀ x ∈ l0_0, x.fits) (hrA0_1 : Rd w 0 w.heap.size A0_1 (rcps l0_1)) (hnA0_1 : l0_1.length = n0_1) (hlA0_1 : n0_1 ≤ maxLen) (hsA0_1 : ∀ x ∈ l0_1, x.fits) (hrA0_2 : Rd w 0 w.heap.size A0_2 (hds l0_2)) (hnA0_2 : l0_2.length = n0_2) (hlA0_2 : n0_2 ≤ maxLen) (hsA0_2 : ∀ x ∈ l0_2, x.fits) (hrA0_3 : Rd w 0 w.heap.size A0_3 (strs l0_3)) (hnA0_3 : l0_3.length = n0_3) (hlA0_3 : n0_3 ≤ maxLen) (hsA0_3 : ∀ x ∈ l0_3, x.size ≤ maxLen) (hrA0_4 : Rd w 0 w.heap.size A0_4 (strs l0_4)) (hnA0_4 : l0_4.length = n0_4) (hlA0_4 : n0_4 ≤ maxLen) (hsA0_4 : ∀ x ∈ l0_4, x.size ≤ maxLen) (hfd0_0 : d0_0.fits) (hrnAr1 : lr1.length = nr1) (hrlAr1 : (((n0_0 + sumBy Ent.bulk l0_0)) + (n0_1 + sumBy Rcp.bulk l0_1) + (n0_2 + sumBy Hd.bulk l0_2) + (((n0_3 + bulkS l0_3)) + ((n0_4 + bulkS l0_4)) + d0_0.bulk)) ≤ 1048576 → nr1 ≤ 2000000) (HSP : specLeafProof_does z0_0 z0_1 z0_2 d0_0 n0_0 n0_1 n0_2 n0_3 n0_4 l0_0 l0_1 l0_2 l0_3 l0_4 z1 z2 er0 nr1 lr1 zr2) (HIM : implLeafProof_does z0_0 z0_1 z0_2 d0_0 n0_0 n0_1 n0_2 n0_3 n0_4 l0_0 l0_1 l0_2 l0_3 l0_4 z1 z2 er0 nr1 lr1 zr2) :
  Calls Tryz.prog 9 #[.agg #[.int .i64 z0_0, .slice A0_0 n0_0 c0_0, .slice A0_1 n0_1 c0_1, .slice A0_2 n0_2 c0_2, .int .i64 z0_1, .slice A0_3 n0_3 c0_3, .int .i64 z0_2, .slice A0_4 n0_4 c0_4, .int .i64 d0_0.num, .int .i64 d0_0.size, .string d0_0.root, .int .i64 d0_0.taken, .string d0_0.troot], .int .i64 z1, .int .i64 z2] w fun e w' => e = .returned (.bool true) ∧ Below w.heap.size w w' := by
 have HNA0_0 := Lib.hid hnA0_0
 have HSA0_0 := Lib.hid hsA0_0
 clear hnA0_0 hsA0_0
 have HNA0_1 := Lib.hid hnA0_1
 have HSA0_1 := Lib.hid hsA0_1
 clear hnA0_1 hsA0_1
 have HNA0_2 := Lib.hid hnA0_2
 have HSA0_2 := Lib.hid hsA0_2
 clear hnA0_2 hsA0_2
 have HNA0_3 := Lib.hid hnA0_3
 have HSA0_3 := Lib.hid hsA0_3
 clear hnA0_3 hsA0_3
 have HNA0_4 := Lib.hid hnA0_4
 have HSA0_4 := Lib.hid hsA0_4
 clear hnA0_4 hsA0_4
 have HRNAr1 := Lib.hid hrnAr1
 have HRLAr1 := Lib.hid hrlAr1
 clear hrnAr1 hrlAr1
 have HB0 : Hid (Below w.heap.size w w) := Below.refl _ _
 go_enter Tryz.func9, Tryz.ntmps9
 go_wp2_with fail
 refine (szBroker_c z0_0 z0_1 z0_2 d0_0 A0_0 A0_1 A0_2 A0_3 A0_4 c0_0 c0_1 c0_2 c0_3 c0_4 n0_0 n0_1 n0_2 n0_3 n0_4 l0_0 l0_1 l0_2 l0_3 l0_4 _ _ _ _ _ _ _ _ _ _ _ _ (hrA0_0.below (by ((repeat (first | refine Below.alloc ?_ (by first | omega | (simp; done) | (simp; omega)) _ | refine Below.drew ?_)); exact HB0.out))) HNA0_0.out hlA0_0 HSA0_0.out (hrA0_1.below (by ((repeat (first | refine Below.alloc ?_ (by first | omega | (simp; done) | (simp; omega)) _ | refine Below.drew ?_)); exact HB0.out))) HNA0_1.out hlA0_1 HSA0_1.out (hrA0_2.below (by ((repeat (first | refine Below.alloc ?_ (by first | omega | (simp; done) | (simp; omega)) _ | refine Below.drew ?_)); exact HB0.out))) HNA0_2.out hlA0_2 HSA0_2.out (hrA0_3.below (by ((repeat (first | refine Below.alloc ?_ (by first | omega | (simp; done) | (simp; omega)) _ | refine Below.drew ?_)); exact HB0.out))) HNA0_3.out hlA0_3 HSA0_3.out (hrA0_4.below (by ((repeat (first | refine Below.alloc ?_ (by first | omega | (simp; done) | (simp; omega)) _ | refine Below.drew ?_)); exact HB0.out))) HNA0_4.out hlA0_4 HSA0_4.out hfd0_0 (by omega) (by omega)).mono ?_
 rintro e w1 ⟨rfl, hb1⟩
 have hz1 : w.heap.size + 1 ≤ w1.heap.size := by have := hb1.size; first | omega | (simp at this; omega)
 have hzz1 : w.heap.size ≤ w1.heap.size := by omega
 have HB1 : Hid (Below w.heap.size w w1) := below_then (by ((repeat (first | refine Below.alloc ?_ (by first | omega | (simp; done) | (simp; omega)) _ | refine Below.drew ?_)); exact HB0.out)) hb1 (by first | omega | (simp; done) | (simp; omega))
 have HXaB : Hid (Box w1 (w.heap.size) [.int .i64 z0_0, .slice A0_0 n0_0 c0_0, .slice A0_1 n0_1 c0_1, .slice A0_2 n0_2 c0_2, .int .i64 z0_1, .slice A0_3 n0_3 c0_3, .int .i64 z0_2, .slice A0_4 n0_4 c0_4, .int .i64 d0_0.num, .int .i64 d0_0.size, .string d0_0.root, .int .i64 d0_0.taken, .string d0_0.troot]) := Box.below (Box.new0 _ _ _) hb1
 have hxaB := HXaB.out.2
 have hkaB := HXaB.out.1
 clear hb1
 go_wp2_with fail
 ·go_ret
  exact ⟨rfl, HB1.out⟩
 ·have hp1 : 0 ≤ szF 1048576 ((((n0_0 + sumBy Ent.bulk l0_0)) + (n0_1 + sumBy Rcp.bulk l0_1) + (n0_2 + sumBy Hd.bulk l0_2) + (((n0_3 + bulkS l0_3)) + ((n0_4 + bulkS l0_4)) + d0_0.bulk))) := by assumption
  have hg1 := (szF_le 1048576 ((((n0_0 + sumBy Ent.bulk l0_0)) + (n0_1 + sumBy Rcp.bulk l0_1) + (n0_2 + sumBy Hd.bulk l0_2) + (((n0_3 + bulkS l0_3)) + ((n0_4 + bulkS l0_4)) + d0_0.bulk))) (by omega)).2
  have hbk : (((n0_0 + sumBy Ent.bulk l0_0)) + (n0_1 + sumBy Rcp.bulk l0_1) + (n0_2 + sumBy Hd.bulk l0_2) + (((n0_3 + bulkS l0_3)) + ((n0_4 + bulkS l0_4)) + d0_0.bulk)) ≤ 1048576 := by have := (szF_pos hp1).1; omega
  have hmA0_0 : n0_0 ≤ 1048576 := by omega
  have hmA0_1 : n0_1 ≤ 1048576 := by omega
  have hmA0_2 : n0_2 ≤ 1048576 := by omega
  have hmA0_3 : n0_3 ≤ 1048576 := by omega
  have hmA0_4 : n0_4 ≤ 1048576 := by omega
  have hrlAr1 := HRLAr1.out hbk
  refine (toBroker_c z0_0 z0_1 z0_2 d0_0 A0_0 A0_1 A0_2 A0_3 A0_4 c0_0 c0_1 c0_2 c0_3 c0_4 n0_0 n0_1 n0_2 n0_3 n0_4 l0_0 l0_1 l0_2 l0_3 l0_4 _ _ _ _ _ _ _ _ _ _ _ (hrA0_0.below (by ((repeat (first | refine Below.alloc ?_ (by first | omega | (simp; done) | (simp; omega)) _ | refine Below.drew ?_)); exact HB1.out))) HNA0_0.out hmA0_0 (hrA0_1.below (by ((repeat (first | refine Below.alloc ?_ (by first | omega | (simp; done) | (simp; omega)) _ | refine Below.drew ?_)); exact HB1.out))) HNA0_1.out hmA0_1 (hrA0_2.below (by ((repeat (first | refine Below.alloc ?_ (by first | omega | (simp; done) | (simp; omega)) _ | refine Below.drew ?_)); exact HB1.out))) HNA0_2.out hmA0_2 (hrA0_3.below (by ((repeat (first | refine Below.alloc ?_ (by first | omega | (simp; done) | (simp; omega)) _ | refine Below.drew ?_)); exact HB1.out))) HNA0_3.out hmA0_3 (hrA0_4.below (by ((repeat (first | refine Below.alloc ?_ (by first | omega | (simp; done) | (simp; omega)) _ | refine Below.drew ?_)); exact HB1.out))) HNA0_4.out hmA0_4).mono ?_
  rintro e w2 ⟨TwA0_0, TwA0_1, TwA0_2, TwA0_3, TwA0_4, mm2_1, mm2_2, mm2_3, mm2_4, rfl, le2_0, le2_1, le2_2, le2_3, le2_4, ho0, ho1, ho2, ho3, ho4, hb2⟩
  have hz2 : w1.heap.size ≤ w2.heap.size := by have := hb2.size; first | omega | (simp at this; omega)
  have hzz2 : w.heap.size ≤ w2.heap.size := by omega
  have HB2 : Hid (Below w.heap.size w w2) := below_then (by ((repeat (first | refine Below.alloc ?_ (by first | omega | (simp; done) | (simp; omega)) _ | refine Below.drew ?_)); exact HB1.out)) hb2 (by first | omega | (simp; done) | (simp; omega))
  replace HXaB : Hid (Box w2 (w.heap.size) [.int .i64 z0_0, .slice A0_0 n0_0 c0_0, .slice A0_1 n0_1 c0_1, .slice A0_2 n0_2 c0_2, .int .i64 z0_1, .slice A0_3 n0_3 c0_3, .int .i64 z0_2, .slice A0_4 n0_4 c0_4, .int .i64 d0_0.num, .int .i64 d0_0.size, .string d0_0.root, .int .i64 d0_0.taken, .string d0_0.troot]) := Box.below HXaB.out hb2
  clear hxaB hkaB
  have hxaB := HXaB.out.2
  have hkaB := HXaB.out.1
  obtain ⟨qTwA0_0, hqTwA0_0, hqqTwA0_0, HOTwA0_0⟩ : ∃ q, w1.heap.size ≤ q ∧ mm2_1 ≤ w2.heap.size ∧ Hid (Own w2 q mm2_1 TwA0_0 (ents l0_0)) := ⟨_, by first | omega | (simp at *; done) | (simp at *; omega), by first | omega | (simp at *; done) | (simp at *; omega), ho0⟩
  obtain ⟨qTwA0_1, hqTwA0_1, hqqTwA0_1, HOTwA0_1⟩ : ∃ q, mm2_1 ≤ q ∧ mm2_2 ≤ w2.heap.size ∧ Hid (Own w2 q mm2_2 TwA0_1 (rcps l0_1)) := ⟨_, by first | omega | (simp at *; done) | (simp at *; omega), by first | omega | (simp at *; done) | (simp at *; omega), ho1⟩
  obtain ⟨qTwA0_2, hqTwA0_2, hqqTwA0_2, HOTwA0_2⟩ : ∃ q, mm2_2 ≤ q ∧ mm2_3 ≤ w2.heap.size ∧ Hid (Own w2 q mm2_3 TwA0_2 (hds l0_2)) := ⟨_, by first | omega | (simp at *; done) | (simp at *; omega), by first | omega | (simp at *; done) | (simp at *; omega), ho2⟩
  obtain ⟨qTwA0_3, hqTwA0_3, hqqTwA0_3, HOTwA0_3⟩ : ∃ q, mm2_3 ≤ q ∧ mm2_4 ≤ w2.heap.size ∧ Hid (Own w2 q mm2_4 TwA0_3 (strs l0_3)) := ⟨_, by first | omega | (simp at *; done) | (simp at *; omega), by first | omega | (simp at *; done) | (simp at *; omega), ho3⟩
  obtain ⟨qTwA0_4, hqTwA0_4, hqqTwA0_4, HOTwA0_4⟩ : ∃ q, mm2_4 ≤ q ∧ w2.heap.size ≤ w2.heap.size ∧ Hid (Own w2 q w2.heap.size TwA0_4 (strs l0_4)) := ⟨_, by first | omega | (simp at *; done) | (simp at *; omega), by first | omega | (simp at *; done) | (simp at *; omega), ho4⟩
  clear hb2 ho0 ho1 ho2 ho3 ho4
  go_wp2_with fail
  refine (HSP hbk _ _ _ _ _ _ _ _ _ _ _ _ _ _ _ _ _ _ _ _ _ (HOTwA0_0.out.rd) rfl (HOTwA0_1.out.rd) rfl (HOTwA0_2.out.rd) rfl (HOTwA0_3.out.rd) rfl (HOTwA0_4.out.rd) rfl).mono ?_
  rintro e w3 ⟨wAr1, wcr1, rfl, ho0, hb3⟩
  have hz3 : w2.heap.size ≤ w3.heap.size := by have := hb3.size; first | omega | (simp at this; omega)
  have hzz3 : w.heap.size ≤ w3.heap.size := by omega
  have HB3 : Hid (Below w.heap.size w w3) := below_then (by ((repeat (first | refine Below.alloc ?_ (by first | omega | (simp; done) | (simp; omega)) _ | refine Below.drew ?_)); exact HB2.out)) hb3 (by first | omega | (simp; done) | (simp; omega))
  replace HXaB : Hid (Box w3 (w.heap.size) [.int .i64 z0_0, .slice A0_0 n0_0 c0_0, .slice A0_1 n0_1 c0_1, .slice A0_2 n0_2 c0_2, .int .i64 z0_1, .slice A0_3 n0_3 c0_3, .int .i64 z0_2, .slice A0_4 n0_4 c0_4, .int .i64 d0_0.num, .int .i64 d0_0.size, .string d0_0.root, .int .i64 d0_0.taken, .string d0_0.troot]) := Box.below HXaB.out hb3
  clear hxaB hkaB
  have hxaB := HXaB.out.2
  have hkaB := HXaB.out.1
  replace HOTwA0_0 := Lib.hid (HOTwA0_0.out.below hb3)
  replace HOTwA0_1 := Lib.hid (HOTwA0_1.out.below hb3)
  replace HOTwA0_2 := Lib.hid (HOTwA0_2.out.below hb3)
  replace HOTwA0_3 := Lib.hid (HOTwA0_3.out.below hb3)
  replace HOTwA0_4 := Lib.hid (HOTwA0_4.out.below hb3)
  obtain ⟨qwAr1, hqwAr1, HOwAr1⟩ : ∃ q, w2.heap.size ≤ q ∧ Hid (Own w3 q w3.heap.size wAr1 (strs lr1)) := ⟨_, by first | omega | (simp at *; done) | (simp at *; omega), ho0⟩
  clear hb3 ho0
  go_wp2_with fail
  refine (toBroker_c z0_0 z0_1 z0_2 d0_0 A0_0 A0_1 A0_2 A0_3 A0_4 c0_0 c0_1 c0_2 c0_3 c0_4 n0_0 n0_1 n0_2 n0_3 n0_4 l0_0 l0_1 l0_2 l0_3 l0_4 _ _ _ _ _ _ _ _ _ _ _ (hrA0_0.below (by ((repeat (first | refine Below.alloc ?_ (by first | omega | (simp; done) | (simp; omega)) _ | refine Below.drew ?_)); exact HB3.out))) HNA0_0.out hmA0_0 (hrA0_1.below (by ((repeat (first | refine Below.alloc ?_ (by first | omega | (simp; done) | (simp; omega)) _ | refine Below.drew ?_)); exact HB3.out))) HNA0_1.out hmA0_1 (hrA0_2.below (by ((repeat (first | refine Below.alloc ?_ (by first | omega | (simp; done) | (simp; omega)) _ | refine Below.drew ?_)); exact HB3.out))) HNA0_2.out hmA0_2 (hrA0_3.below (by ((repeat (first | refine Below.alloc ?_ (by first | omega | (simp; done) | (simp; omega)) _ | refine Below.drew ?_)); exact HB3.out))) HNA0_3.out hmA0_3 (hrA0_4.below (by ((repeat (first | refine Below.alloc ?_ (by first | omega | (simp; done) | (simp; omega)) _ | refine Below.drew ?_)); exact HB3.out))) HNA0_4.out hmA0_4).mono ?_
  rintro e w4 ⟨Tx0A0_0, Tx0A0_1, Tx0A0_2, Tx0A0_3, Tx0A0_4, mm4_1, mm4_2, mm4_3, mm4_4, rfl, le4_0, le4_1, le4_2, le4_3, le4_4, ho0, ho1, ho2, ho3, ho4, hb4⟩
  have hz4 : w3.heap.size + 1 ≤ w4.heap.size := by have := hb4.size; first | omega | (simp at this; omega)
  have hzz4 : w.heap.size ≤ w4.heap.size := by omega
  have HB4 : Hid (Below w.heap.size w w4) := below_then (by ((repeat (first | refine Below.alloc ?_ (by first | omega | (simp; done) | (simp; omega)) _ | refine Below.drew ?_)); exact HB3.out)) hb4 (by first | omega | (simp; done) | (simp; omega))
  replace HXaB : Hid (Box w4 (w.heap.size) [.int .i64 z0_0, .slice A0_0 n0_0 c0_0, .slice A0_1 n0_1 c0_1, .slice A0_2 n0_2 c0_2, .int .i64 z0_1, .slice A0_3 n0_3 c0_3, .int .i64 z0_2, .slice A0_4 n0_4 c0_4, .int .i64 d0_0.num, .int .i64 d0_0.size, .string d0_0.root, .int .i64 d0_0.taken, .string d0_0.troot]) := Box.below (HXaB.out.alloc _) hb4
  clear hxaB hkaB
  have hxaB := HXaB.out.2
  have hkaB := HXaB.out.1
  have HXw0 : Hid (Box w4 (w3.heap.size) [.string er0.topic, .int .i64 er0.index, .int .i64 er0.time, .string er0.key, .string er0.body]) := Box.below (Box.new0 _ _ _) hb4
  have hxw0 := HXw0.out.2
  have hkw0 := HXw0.out.1
  replace HOTwA0_0 := Lib.hid ((HOTwA0_0.out.alloc _).below hb4)
  replace HOTwA0_1 := Lib.hid ((HOTwA0_1.out.alloc _).below hb4)
  replace HOTwA0_2 := Lib.hid ((HOTwA0_2.out.alloc _).below hb4)
  replace HOTwA0_3 := Lib.hid ((HOTwA0_3.out.alloc _).below hb4)
  replace HOTwA0_4 := Lib.hid ((HOTwA0_4.out.alloc _).below hb4)
  replace HOwAr1 := Lib.hid ((HOwAr1.out.alloc _).below hb4)
  have hpm4 : w3.heap.size + 1 ≤ mm4_1 := by first | omega | (simp at le4_0; omega)
  obtain ⟨qTx0A0_0, hqTx0A0_0, hqqTx0A0_0, HOTx0A0_0⟩ : ∃ q, w3.heap.size + 1 ≤ q ∧ mm4_1 ≤ w4.heap.size ∧ Hid (Own w4 q mm4_1 Tx0A0_0 (ents l0_0)) := ⟨_, by first | omega | (simp at *; done) | (simp at *; omega), by first | omega | (simp at *; done) | (simp at *; omega), ho0⟩
  obtain ⟨qTx0A0_1, hqTx0A0_1, hqqTx0A0_1, HOTx0A0_1⟩ : ∃ q, mm4_1 ≤ q ∧ mm4_2 ≤ w4.heap.size ∧ Hid (Own w4 q mm4_2 Tx0A0_1 (rcps l0_1)) := ⟨_, by first | omega | (simp at *; done) | (simp at *; omega), by first | omega | (simp at *; done) | (simp at *; omega), ho1⟩
  obtain ⟨qTx0A0_2, hqTx0A0_2, hqqTx0A0_2, HOTx0A0_2⟩ : ∃ q, mm4_2 ≤ q ∧ mm4_3 ≤ w4.heap.size ∧ Hid (Own w4 q mm4_3 Tx0A0_2 (hds l0_2)) := ⟨_, by first | omega | (simp at *; done) | (simp at *; omega), by first | omega | (simp at *; done) | (simp at *; omega), ho2⟩
  obtain ⟨qTx0A0_3, hqTx0A0_3, hqqTx0A0_3, HOTx0A0_3⟩ : ∃ q, mm4_3 ≤ q ∧ mm4_4 ≤ w4.heap.size ∧ Hid (Own w4 q mm4_4 Tx0A0_3 (strs l0_3)) := ⟨_, by first | omega | (simp at *; done) | (simp at *; omega), by first | omega | (simp at *; done) | (simp at *; omega), ho3⟩
  obtain ⟨qTx0A0_4, hqTx0A0_4, hqqTx0A0_4, HOTx0A0_4⟩ : ∃ q, mm4_4 ≤ q ∧ w4.heap.size ≤ w4.heap.size ∧ Hid (Own w4 q w4.heap.size Tx0A0_4 (strs l0_4)) := ⟨_, by first | omega | (simp at *; done) | (simp at *; omega), by first | omega | (simp at *; done) | (simp at *; omega), ho4⟩
  clear hb4 ho0 ho1 ho2 ho3 ho4
  go_wp2_with fail
  refine (HIM hbk _ _ _ _ _ _ _ _ _ _ _ _ _ _ _ _ _ _ _ _ _ ((HOTx0A0_0.out.rd).alloc _) rfl ((HOTx0A0_1.out.rd).alloc _) rfl ((HOTx0A0_2.out.rd).alloc _) rfl ((HOTx0A0_3.out.rd).alloc _) rfl ((HOTx0A0_4.out.rd).alloc _) rfl).mono ?_
  rintro e w5 ⟨gAr1, gcr1, rfl, ho0, hb5⟩
  have hz5 : w4.heap.size + 1 ≤ w5.heap.size := by have := hb5.size; first | omega | (simp at this; omega)
  have hzz5 : w.heap.size ≤ w5.heap.size := by omega
  have HB5 : Hid (Below w.heap.size w w5) := below_then (by ((repeat (first | refine Below.alloc ?_ (by first | omega | (simp; done) | (simp; omega)) _ | refine Below.drew ?_)); exact HB4.out)) hb5 (by first | omega | (simp; done) | (simp; omega))
  replace HXaB : Hid (Box w5 (w.heap.size) [.int .i64 z0_0, .slice A0_0 n0_0 c0_0, .slice A0_1 n0_1 c0_1, .slice A0_2 n0_2 c0_2, .int .i64 z0_1, .slice A0_3 n0_3 c0_3, .int .i64 z0_2, .slice A0_4 n0_4 c0_4, .int .i64 d0_0.num, .int .i64 d0_0.size, .string d0_0.root, .int .i64 d0_0.taken, .string d0_0.troot]) := Box.below (HXaB.out.alloc _) hb5
  clear hxaB hkaB
  have hxaB := HXaB.out.2
  have hkaB := HXaB.out.1
  replace HXw0 : Hid (Box w5 (w3.heap.size) [.string er0.topic, .int .i64 er0.index, .int .i64 er0.time, .string er0.key, .string er0.body]) := Box.below (HXw0.out.alloc _) hb5
  clear hxw0 hkw0
  have hxw0 := HXw0.out.2
  have hkw0 := HXw0.out.1
  have HXx0 : Hid (Box w5 (w4.heap.size) [.int .i64 z0_0, .slice Tx0A0_0 n0_0 n0_0, .slice Tx0A0_1 n0_1 n0_1, .slice Tx0A0_2 n0_2 n0_2, .int .i64 z0_1, .slice Tx0A0_3 n0_3 n0_3, .int .i64 z0_2, .slice Tx0A0_4 n0_4 n0_4, .int .i64 d0_0.num, .int .i64 d0_0.size, .string d0_0.root, .int .i64 d0_0.taken, .string d0_0.troot]) := Box.below (Box.new0 _ _ _) hb5
  have hxx0 := HXx0.out.2
  have hkx0 := HXx0.out.1
  replace HOTwA0_0 := Lib.hid ((HOTwA0_0.out.alloc _).below hb5)
  replace HOTwA0_1 := Lib.hid ((HOTwA0_1.out.alloc _).below hb5)
  replace HOTwA0_2 := Lib.hid ((HOTwA0_2.out.alloc _).below hb5)
  replace HOTwA0_3 := Lib.hid ((HOTwA0_3.out.alloc _).below hb5)
  replace HOTwA0_4 := Lib.hid ((HOTwA0_4.out.alloc _).below hb5)
  replace HOwAr1 := Lib.hid ((HOwAr1.out.alloc _).below hb5)
  replace HOTx0A0_0 := Lib.hid ((HOTx0A0_0.out.alloc _).below hb5)
  replace HOTx0A0_1 := Lib.hid ((HOTx0A0_1.out.alloc _).below hb5)
  replace HOTx0A0_2 := Lib.hid ((HOTx0A0_2.out.alloc _).below hb5)
  replace HOTx0A0_3 := Lib.hid ((HOTx0A0_3.out.alloc _).below hb5)
  replace HOTx0A0_4 := Lib.hid ((HOTx0A0_4.out.alloc _).below hb5)
  obtain ⟨qgAr1, hqgAr1, HOgAr1⟩ : ∃ q, w4.heap.size + 1 ≤ q ∧ Hid (Own w5 q w5.heap.size gAr1 (strs lr1)) := ⟨_, by first | omega | (simp at *; done) | (simp at *; omega), ho0⟩
  clear hb5 ho0
  go_wp2_with fail
  refine (eqEntry_c er0 _).mono ?_
  rintro e w6 ⟨rfl, hb6⟩
  have hz6 : w5.heap.size + 1 ≤ w6.heap.size := by have := hb6.size; first | omega | (simp at this; omega)
  have hzz6 : w.heap.size ≤ w6.heap.size := by omega
  have HB6 : Hid (Below w.heap.size w w6) := below_then (by ((repeat (first | refine Below.alloc ?_ (by first | omega | (simp; done) | (simp; omega)) _ | refine Below.drew ?_)); exact HB5.out)) hb6 (by first | omega | (simp; done) | (simp; omega))
  replace HXaB : Hid (Box w6 (w.heap.size) [.int .i64 z0_0, .slice A0_0 n0_0 c0_0, .slice A0_1 n0_1 c0_1, .slice A0_2 n0_2 c0_2, .int .i64 z0_1, .slice A0_3 n0_3 c0_3, .int .i64 z0_2, .slice A0_4 n0_4 c0_4, .int .i64 d0_0.num, .int .i64 d0_0.size, .string d0_0.root, .int .i64 d0_0.taken, .string d0_0.troot]) := Box.below (HXaB.out.alloc _) hb6
  clear hxaB hkaB
  have hxaB := HXaB.out.2
  have hkaB := HXaB.out.1
  replace HXw0 : Hid (Box w6 (w3.heap.size) [.string er0.topic, .int .i64 er0.index, .int .i64 er0.time, .string er0.key, .string er0.body]) := Box.below (HXw0.out.alloc _) hb6
  clear hxw0 hkw0
  have hxw0 := HXw0.out.2
  have hkw0 := HXw0.out.1
  replace HXx0 : Hid (Box w6 (w4.heap.size) [.int .i64 z0_0, .slice Tx0A0_0 n0_0 n0_0, .slice Tx0A0_1 n0_1 n0_1, .slice Tx0A0_2 n0_2 n0_2, .int .i64 z0_1, .slice Tx0A0_3 n0_3 n0_3, .int .i64 z0_2, .slice Tx0A0_4 n0_4 n0_4, .int .i64 d0_0.num, .int .i64 d0_0.size, .string d0_0.root, .int .i64 d0_0.taken, .string d0_0.troot]) := Box.below (HXx0.out.alloc _) hb6
  clear hxx0 hkx0
  have hxx0 := HXx0.out.2
  have hkx0 := HXx0.out.1
  have HXg0 : Hid (Box w6 (w5.heap.size) [.string er0.topic, .int .i64 er0.index, .int .i64 er0.time, .string er0.key, .string er0.body]) := Box.below (Box.new0 _ _ _) hb6
  have hxg0 := HXg0.out.2
  have hkg0 := HXg0.out.1
  replace HOTwA0_0 := Lib.hid ((HOTwA0_0.out.alloc _).below hb6)
  replace HOTwA0_1 := Lib.hid ((HOTwA0_1.out.alloc _).below hb6)
  replace HOTwA0_2 := Lib.hid ((HOTwA0_2.out.alloc _).below hb6)
  replace HOTwA0_3 := Lib.hid ((HOTwA0_3.out.alloc _).below hb6)
  replace HOTwA0_4 := Lib.hid ((HOTwA0_4.out.alloc _).below hb6)
  replace HOwAr1 := Lib.hid ((HOwAr1.out.alloc _).below hb6)
  replace HOTx0A0_0 := Lib.hid ((HOTx0A0_0.out.alloc _).below hb6)
  replace HOTx0A0_1 := Lib.hid ((HOTx0A0_1.out.alloc _).below hb6)
  replace HOTx0A0_2 := Lib.hid ((HOTx0A0_2.out.alloc _).below hb6)
  replace HOTx0A0_3 := Lib.hid ((HOTx0A0_3.out.alloc _).below hb6)
  replace HOTx0A0_4 := Lib.hid ((HOTx0A0_4.out.alloc _).below hb6)
  replace HOgAr1 := Lib.hid ((HOgAr1.out.alloc _).below hb6)
  clear hb6
  go_wp2_with fail
  refine (eqStringS_c' gAr1 wAr1 _ _ _ _ _ _ nr1 nr1 lr1 _ (HOgAr1.out.rd) (HOwAr1.out.rd) HRNAr1.out HRNAr1.out (by unfold maxLen; omega)).mono ?_
  rintro e w7 ⟨rfl, hb7⟩
  have hz7 : w6.heap.size ≤ w7.heap.size := by have := hb7.size; first | omega | (simp at this; omega)
  have hzz7 : w.heap.size ≤ w7.heap.size := by omega
  have HB7 : Hid (Below w.heap.size w w7) := below_then (by ((repeat (first | refine Below.alloc ?_ (by first | omega | (simp; done) | (simp; omega)) _ | refine Below.drew ?_)); exact HB6.out)) hb7 (by first | omega | (simp; done) | (simp; omega))
  replace HXaB : Hid (Box w7 (w.heap.size) [.int .i64 z0_0, .slice A0_0 n0_0 c0_0, .slice A0_1 n0_1 c0_1, .slice A0_2 n0_2 c0_2, .int .i64 z0_1, .slice A0_3 n0_3 c0_3, .int .i64 z0_2, .slice A0_4 n0_4 c0_4, .int .i64 d0_0.num, .int .i64 d0_0.size, .string d0_0.root, .int .i64 d0_0.taken, .string d0_0.troot]) := Box.below HXaB.out hb7
  clear hxaB hkaB
  have hxaB := HXaB.out.2
  have hkaB := HXaB.out.1
  replace HXw0 : Hid (Box w7 (w3.heap.size) [.string er0.topic, .int .i64 er0.index, .int .i64 er0.time, .string er0.key, .string er0.body]) := Box.below HXw0.out hb7
  clear hxw0 hkw0
  have hxw0 := HXw0.out.2
  have hkw0 := HXw0.out.1
  replace HXx0 : Hid (Box w7 (w4.heap.size) [.int .i64 z0_0, .slice Tx0A0_0 n0_0 n0_0, .slice Tx0A0_1 n0_1 n0_1, .slice Tx0A0_2 n0_2 n0_2, .int .i64 z0_1, .slice Tx0A0_3 n0_3 n0_3, .int .i64 z0_2, .slice Tx0A0_4 n0_4 n0_4, .int .i64 d0_0.num, .int .i64 d0_0.size, .string d0_0.root, .int .i64 d0_0.taken, .string d0_0.troot]) := Box.below HXx0.out hb7
  clear hxx0 hkx0
  have hxx0 := HXx0.out.2
  have hkx0 := HXx0.out.1
  replace HXg0 : Hid (Box w7 (w5.heap.size) [.string er0.topic, .int .i64 er0.index, .int .i64 er0.time, .string er0.key, .string er0.body]) := Box.below HXg0.out hb7
  clear hxg0 hkg0
  have hxg0 := HXg0.out.2
  have hkg0 := HXg0.out.1
  replace HOTwA0_0 := Lib.hid (HOTwA0_0.out.below hb7)
  replace HOTwA0_1 := Lib.hid (HOTwA0_1.out.below hb7)
  replace HOTwA0_2 := Lib.hid (HOTwA0_2.out.below hb7)
  replace HOTwA0_3 := Lib.hid (HOTwA0_3.out.below hb7)
  replace HOTwA0_4 := Lib.hid (HOTwA0_4.out.below hb7)
  replace HOwAr1 := Lib.hid (HOwAr1.out.below hb7)
  replace HOTx0A0_0 := Lib.hid (HOTx0A0_0.out.below hb7)
  replace HOTx0A0_1 := Lib.hid (HOTx0A0_1.out.below hb7)
  replace HOTx0A0_2 := Lib.hid (HOTx0A0_2.out.below hb7)
  replace HOTx0A0_3 := Lib.hid (HOTx0A0_3.out.below hb7)
  replace HOTx0A0_4 := Lib.hid (HOTx0A0_4.out.below hb7)
  replace HOgAr1 := Lib.hid (HOgAr1.out.below hb7)
  clear hb7
  go_wp2_with fail
  go_region_held3 (fun w' => (∀ o, w'.cell? ⟨w4.heap.size, o, none⟩ = [.int .i64 z0_0, .slice Tx0A0_0 n0_0 n0_0, .slice Tx0A0_1 n0_1 n0_1, .slice Tx0A0_2 n0_2 n0_2, .int .i64 z0_1, .slice Tx0A0_3 n0_3 n0_3, .int .i64 z0_2, .slice Tx0A0_4 n0_4 n0_4, .int .i64 d0_0.num, .int .i64 d0_0.size, .string d0_0.root, .int .i64 d0_0.taken, .string d0_0.troot][o]?) ∧ (∀ o, w'.cell? ⟨w.heap.size, o, none⟩ = [.int .i64 z0_0, .slice A0_0 n0_0 c0_0, .slice A0_1 n0_1 c0_1, .slice A0_2 n0_2 c0_2, .int .i64 z0_1, .slice A0_3 n0_3 c0_3, .int .i64 z0_2, .slice A0_4 n0_4 c0_4, .int .i64 d0_0.num, .int .i64 d0_0.size, .string d0_0.root, .int .i64 d0_0.taken, .string d0_0.troot][o]?))
   (first | exact ⟨HXx0.out.2, HXaB.out.2⟩ | exact ⟨HPx0.out.2, HPaB.out.2⟩ | exact ⟨HQx0.out.2, HQaB.out.2⟩)
   (first
   | (go_at_call 13
      with_reducible refine (toBroker_c z0_0 z0_1 z0_2 d0_0 A0_0 A0_1 A0_2 A0_3 A0_4 c0_0 c0_1 c0_2 c0_3 c0_4 n0_0 n0_1 n0_2 n0_3 n0_4 l0_0 l0_1 l0_2 l0_3 l0_4 _ _ _ _ _ _ _ _ _ _ _ (hrA0_0.below (by ((repeat (first | refine Below.alloc ?_ (by first | omega | (simp; done) | (simp; omega)) _ | refine Below.drew ?_)); exact HB7.out))) HNA0_0.out hmA0_0 (hrA0_1.below (by ((repeat (first | refine Below.alloc ?_ (by first | omega | (simp; done) | (simp; omega)) _ | refine Below.drew ?_)); exact HB7.out))) HNA0_1.out hmA0_1 (hrA0_2.below (by ((repeat (first | refine Below.alloc ?_ (by first | omega | (simp; done) | (simp; omega)) _ | refine Below.drew ?_)); exact HB7.out))) HNA0_2.out hmA0_2 (hrA0_3.below (by ((repeat (first | refine Below.alloc ?_ (by first | omega | (simp; done) | (simp; omega)) _ | refine Below.drew ?_)); exact HB7.out))) HNA0_3.out hmA0_3 (hrA0_4.below (by ((repeat (first | refine Below.alloc ?_ (by first | omega | (simp; done) | (simp; omega)) _ | refine Below.drew ?_)); exact HB7.out))) HNA0_4.out hmA0_4).mono ?_
      rintro e w8 ⟨T8A0_0, T8A0_1, T8A0_2, T8A0_3, T8A0_4, mm8_1, mm8_2, mm8_3, mm8_4, rfl, le8_0, le8_1, le8_2, le8_3, le8_4, hod0, hod1, hod2, hod3, hod4, hb8⟩
      have HPx0 : Hid (Box w8 (w4.heap.size) [.int .i64 z0_0, .slice Tx0A0_0 n0_0 n0_0, .slice Tx0A0_1 n0_1 n0_1, .slice Tx0A0_2 n0_2 n0_2, .int .i64 z0_1, .slice Tx0A0_3 n0_3 n0_3, .int .i64 z0_2, .slice Tx0A0_4 n0_4 n0_4, .int .i64 d0_0.num, .int .i64 d0_0.size, .string d0_0.root, .int .i64 d0_0.taken, .string d0_0.troot]) := Box.below (HXx0.out.drew) hb8
      have HPaB : Hid (Box w8 (w.heap.size) [.int .i64 z0_0, .slice A0_0 n0_0 c0_0, .slice A0_1 n0_1 c0_1, .slice A0_2 n0_2 c0_2, .int .i64 z0_1, .slice A0_3 n0_3 c0_3, .int .i64 z0_2, .slice A0_4 n0_4 c0_4, .int .i64 d0_0.num, .int .i64 d0_0.size, .string d0_0.root, .int .i64 d0_0.taken, .string d0_0.troot]) := Box.below (HXaB.out.drew) hb8
      have HPOTwA0_0 : Hid (Own w8 qTwA0_0 mm2_1 TwA0_0 (ents l0_0)) := (HOTwA0_0.out.drew).below hb8
      have HPOTwA0_1 : Hid (Own w8 qTwA0_1 mm2_2 TwA0_1 (rcps l0_1)) := (HOTwA0_1.out.drew).below hb8
      have HPOTwA0_2 : Hid (Own w8 qTwA0_2 mm2_3 TwA0_2 (hds l0_2)) := (HOTwA0_2.out.drew).below hb8
      have HPOTwA0_3 : Hid (Own w8 qTwA0_3 mm2_4 TwA0_3 (strs l0_3)) := (HOTwA0_3.out.drew).below hb8
      have HPOTwA0_4 : Hid (Own w8 qTwA0_4 w2.heap.size TwA0_4 (strs l0_4)) := (HOTwA0_4.out.drew).below hb8
      have HPOwAr1 : Hid (Own w8 qwAr1 w3.heap.size wAr1 (strs lr1)) := (HOwAr1.out.drew).below hb8
      have HPOTx0A0_0 : Hid (Own w8 qTx0A0_0 mm4_1 Tx0A0_0 (ents l0_0)) := (HOTx0A0_0.out.drew).below hb8
      have HPOTx0A0_1 : Hid (Own w8 qTx0A0_1 mm4_2 Tx0A0_1 (rcps l0_1)) := (HOTx0A0_1.out.drew).below hb8
      have HPOTx0A0_2 : Hid (Own w8 qTx0A0_2 mm4_3 Tx0A0_2 (hds l0_2)) := (HOTx0A0_2.out.drew).below hb8
      have HPOTx0A0_3 : Hid (Own w8 qTx0A0_3 mm4_4 Tx0A0_3 (strs l0_3)) := (HOTx0A0_3.out.drew).below hb8
      have HPOTx0A0_4 : Hid (Own w8 qTx0A0_4 w4.heap.size Tx0A0_4 (strs l0_4)) := (HOTx0A0_4.out.drew).below hb8
      have HPOgAr1 : Hid (Own w8 qgAr1 w5.heap.size gAr1 (strs lr1)) := (HOgAr1.out.drew).below hb8
      have hz8 : w7.heap.size ≤ w8.heap.size := hb8.size
      have HB8 : Hid (Below w.heap.size w w8) := below_then HB7.out.drew hb8 (by first | omega | (simp; omega))
      have HBB8 := Lib.hid hb8
      clear hb8)
   | (go_at_call 17
      with_reducible refine (eqBroker_c z0_0 z0_1 z0_2 d0_0 Tx0A0_0 Tx0A0_1 Tx0A0_2 Tx0A0_3 Tx0A0_4 n0_0 n0_1 n0_2 n0_3 n0_4 n0_0 n0_1 n0_2 n0_3 n0_4 l0_0 l0_1 l0_2 l0_3 l0_4 T8A0_0 T8A0_1 T8A0_2 T8A0_3 T8A0_4 n0_0 n0_1 n0_2 n0_3 n0_4 _ _ _ _ _ _ _ _ _ _ _ _ _ _ _ _ _ _ _ _  _ (HPOTx0A0_0.out.rd) hod0.rd HNA0_0.out (by unfold maxLen; omega) (HPOTx0A0_1.out.rd) hod1.rd HNA0_1.out (by unfold maxLen; omega) (HPOTx0A0_2.out.rd) hod2.rd HNA0_2.out (by unfold maxLen; omega) (HPOTx0A0_3.out.rd) hod3.rd HNA0_3.out (by unfold maxLen; omega) (HPOTx0A0_4.out.rd) hod4.rd HNA0_4.out (by unfold maxLen; omega)).mono ?_
      rintro e w9 ⟨rfl, hb9⟩
      have HQx0 : Hid (Box w9 (w4.heap.size) [.int .i64 z0_0, .slice Tx0A0_0 n0_0 n0_0, .slice Tx0A0_1 n0_1 n0_1, .slice Tx0A0_2 n0_2 n0_2, .int .i64 z0_1, .slice Tx0A0_3 n0_3 n0_3, .int .i64 z0_2, .slice Tx0A0_4 n0_4 n0_4, .int .i64 d0_0.num, .int .i64 d0_0.size, .string d0_0.root, .int .i64 d0_0.taken, .string d0_0.troot]) := Box.below HPx0.out hb9
      have HQaB : Hid (Box w9 (w.heap.size) [.int .i64 z0_0, .slice A0_0 n0_0 c0_0, .slice A0_1 n0_1 c0_1, .slice A0_2 n0_2 c0_2, .int .i64 z0_1, .slice A0_3 n0_3 c0_3, .int .i64 z0_2, .slice A0_4 n0_4 c0_4, .int .i64 d0_0.num, .int .i64 d0_0.size, .string d0_0.root, .int .i64 d0_0.taken, .string d0_0.troot]) := Box.below HPaB.out hb9
      have HQOTwA0_0 := Lib.hid (HPOTwA0_0.out.below hb9)
      have HQOTwA0_1 := Lib.hid (HPOTwA0_1.out.below hb9)
      have HQOTwA0_2 := Lib.hid (HPOTwA0_2.out.below hb9)
      have HQOTwA0_3 := Lib.hid (HPOTwA0_3.out.below hb9)
      have HQOTwA0_4 := Lib.hid (HPOTwA0_4.out.below hb9)
      have HQOwAr1 := Lib.hid (HPOwAr1.out.below hb9)
      have HQOTx0A0_0 := Lib.hid (HPOTx0A0_0.out.below hb9)
      have HQOTx0A0_1 := Lib.hid (HPOTx0A0_1.out.below hb9)
      have HQOTx0A0_2 := Lib.hid (HPOTx0A0_2.out.below hb9)
      have HQOTx0A0_3 := Lib.hid (HPOTx0A0_3.out.below hb9)
      have HQOTx0A0_4 := Lib.hid (HPOTx0A0_4.out.below hb9)
      have HQOgAr1 := Lib.hid (HPOgAr1.out.below hb9)
      have HQw0 : Hid (Box w9 (w3.heap.size) [.string er0.topic, .int .i64 er0.index, .int .i64 er0.time, .string er0.key, .string er0.body]) := Box.below (Box.below2 HXw0.out.drew HBB8.out) hb9
      have HQg0 : Hid (Box w9 (w5.heap.size) [.string er0.topic, .int .i64 er0.index, .int .i64 er0.time, .string er0.key, .string er0.body]) := Box.below (Box.below2 HXg0.out.drew HBB8.out) hb9
      have hz9 : w8.heap.size ≤ w9.heap.size := hb9.size
      have HB9 : Hid (Below w.heap.size w w9) := below_then HB8.out hb9 (by first | omega | exact HB8.out.size)
      clear hb9))
  have hzz9 : w.heap.size ≤ w9.heap.size := by omega
  replace HOTwA0_0 := HQOTwA0_0
  clear HQOTwA0_0 HPOTwA0_0
  replace HOTwA0_1 := HQOTwA0_1
  clear HQOTwA0_1 HPOTwA0_1
  replace HOTwA0_2 := HQOTwA0_2
  clear HQOTwA0_2 HPOTwA0_2
  replace HOTwA0_3 := HQOTwA0_3
  clear HQOTwA0_3 HPOTwA0_3
  replace HOTwA0_4 := HQOTwA0_4
  clear HQOTwA0_4 HPOTwA0_4
  replace HOwAr1 := HQOwAr1
  clear HQOwAr1 HPOwAr1
  replace HOTx0A0_0 := HQOTx0A0_0
  clear HQOTx0A0_0 HPOTx0A0_0
  replace HOTx0A0_1 := HQOTx0A0_1
  clear HQOTx0A0_1 HPOTx0A0_1
  replace HOTx0A0_2 := HQOTx0A0_2
  clear HQOTx0A0_2 HPOTx0A0_2
  replace HOTx0A0_3 := HQOTx0A0_3
  clear HQOTx0A0_3 HPOTx0A0_3
  replace HOTx0A0_4 := HQOTx0A0_4
  clear HQOTx0A0_4 HPOTx0A0_4
  replace HOgAr1 := HQOgAr1
  clear HQOgAr1 HPOgAr1
  replace HXaB := HQaB
  clear HQaB HPaB hxaB hkaB
  have hxaB := HXaB.out.2
  have hkaB := HXaB.out.1
  replace HXw0 := HQw0
  clear HQw0 hxw0 hkw0
  have hxw0 := HXw0.out.2
  have hkw0 := HXw0.out.1
  replace HXx0 := HQx0
  clear HQx0 HPx0 hxx0 hkx0
  have hxx0 := HXx0.out.2
  have hkx0 := HXx0.out.1
  replace HXg0 := HQg0
  clear HQg0 hxg0 hkg0
  have hxg0 := HXg0.out.2
  have hkg0 := HXg0.out.1
  go_wp2_with fail
  refine (markBroker_c z0_0 z0_1 z0_2 d0_0 Tx0A0_0 Tx0A0_1 Tx0A0_2 Tx0A0_3 Tx0A0_4 n0_0 n0_1 n0_2 n0_3 n0_4 n0_0 n0_1 n0_2 n0_3 n0_4 qTx0A0_0 mm4_1 qTx0A0_1 mm4_2 qTx0A0_2 mm4_3 qTx0A0_3 mm4_4 qTx0A0_4 w4.heap.size (1) _ (ents l0_0) (rcps l0_1) (hds l0_2) (strs l0_3) (strs l0_4) _ (by omega) (HOTx0A0_0.out) (by rw [ents_len, HNA0_0.out]) (by omega) (HOTx0A0_1.out) (by rw [rcps_len, HNA0_1.out]) (by omega) (HOTx0A0_2.out) (by rw [hds_len, HNA0_2.out]) (by omega) (HOTx0A0_3.out) (by rw [strs_len]; exact HNA0_3.out) (by omega) (HOTx0A0_4.out) (by rw [strs_len]; exact HNA0_4.out) (by omega) (by omega) (by omega) (by omega) (by omega) (by omega) (by omega) (by omega) (by omega) (by omega) (by omega) (by omega)).mono ?_
  rintro e w10 ⟨v10_1, v10_2, v10_3, v10_4, rfl, ⟨hp10_0, hp10_1, hp10_2, hp10_3, hp10_4⟩, ho0, ho1, ho2, ho3, ho4⟩
  have hz10_0 : w9.heap.size ≤ v10_1.heap.size := by have := hp10_0.size; first | omega | (simp at this; omega)
  have hz10_1 : v10_1.heap.size ≤ v10_2.heap.size := by have := hp10_1.size; first | omega | (simp at this; omega)
  have hz10_2 : v10_2.heap.size ≤ v10_3.heap.size := by have := hp10_2.size; first | omega | (simp at this; omega)
  have hz10_3 : v10_3.heap.size ≤ v10_4.heap.size := by have := hp10_3.size; first | omega | (simp at this; omega)
  have hz10_4 : v10_4.heap.size ≤ w10.heap.size := by have := hp10_4.size; first | omega | (simp at this; omega)
  have hzz10 : w.heap.size ≤ w10.heap.size := by omega
  have HB10 : Hid (Below w.heap.size w w10) := (below_only (below_only (below_only (below_only (below_only (by ((repeat (first | refine Below.alloc ?_ (by first | omega | (simp; done) | (simp; omega)) _ | refine Below.drew ?_)); exact HB9.out)) hp10_0 (by omega) (by first | omega | (simp; omega))) hp10_1 (by omega) (by first | omega | (simp; omega))) hp10_2 (by omega) (by first | omega | (simp; omega))) hp10_3 (by omega) (by first | omega | (simp; omega))) hp10_4 (by omega) (by first | omega | (simp; omega)))
  replace HXaB : Hid (Box w10 (w.heap.size) [.int .i64 z0_0, .slice A0_0 n0_0 c0_0, .slice A0_1 n0_1 c0_1, .slice A0_2 n0_2 c0_2, .int .i64 z0_1, .slice A0_3 n0_3 c0_3, .int .i64 z0_2, .slice A0_4 n0_4 c0_4, .int .i64 d0_0.num, .int .i64 d0_0.size, .string d0_0.root, .int .i64 d0_0.taken, .string d0_0.troot]) := (Box.only (Box.only (Box.only (Box.only (Box.only HXaB.out hp10_0 (by first | omega | (simp; omega))) hp10_1 (by first | omega | (simp; omega))) hp10_2 (by first | omega | (simp; omega))) hp10_3 (by first | omega | (simp; omega))) hp10_4 (by first | omega | (simp; omega)))
  clear hxaB hkaB
  have hxaB := HXaB.out.2
  have hkaB := HXaB.out.1
  replace HXw0 : Hid (Box w10 (w3.heap.size) [.string er0.topic, .int .i64 er0.index, .int .i64 er0.time, .string er0.key, .string er0.body]) := (Box.only (Box.only (Box.only (Box.only (Box.only HXw0.out hp10_0 (by first | omega | (simp; omega))) hp10_1 (by first | omega | (simp; omega))) hp10_2 (by first | omega | (simp; omega))) hp10_3 (by first | omega | (simp; omega))) hp10_4 (by first | omega | (simp; omega)))
  clear hxw0 hkw0
  have hxw0 := HXw0.out.2
  have hkw0 := HXw0.out.1
  replace HXx0 : Hid (Box w10 (w4.heap.size) [.int .i64 z0_0, .slice Tx0A0_0 n0_0 n0_0, .slice Tx0A0_1 n0_1 n0_1, .slice Tx0A0_2 n0_2 n0_2, .int .i64 z0_1, .slice Tx0A0_3 n0_3 n0_3, .int .i64 z0_2, .slice Tx0A0_4 n0_4 n0_4, .int .i64 d0_0.num, .int .i64 d0_0.size, .string d0_0.root, .int .i64 d0_0.taken, .string d0_0.troot]) := (Box.only (Box.only (Box.only (Box.only (Box.only HXx0.out hp10_0 (by first | omega | (simp; omega))) hp10_1 (by first | omega | (simp; omega))) hp10_2 (by first | omega | (simp; omega))) hp10_3 (by first | omega | (simp; omega))) hp10_4 (by first | omega | (simp; omega)))
  clear hxx0 hkx0
  have hxx0 := HXx0.out.2
  have hkx0 := HXx0.out.1
  replace HXg0 : Hid (Box w10 (w5.heap.size) [.string er0.topic, .int .i64 er0.index, .int .i64 er0.time, .string er0.key, .string er0.body]) := (Box.only (Box.only (Box.only (Box.only (Box.only HXg0.out hp10_0 (by first | omega | (simp; omega))) hp10_1 (by first | omega | (simp; omega))) hp10_2 (by first | omega | (simp; omega))) hp10_3 (by first | omega | (simp; omega))) hp10_4 (by first | omega | (simp; omega)))
  clear hxg0 hkg0
  have hxg0 := HXg0.out.2
  have hkg0 := HXg0.out.1
  replace HOTwA0_0 : Hid (Own w10 qTwA0_0 mm2_1 TwA0_0 (ents l0_0)) := (((((HOTwA0_0.out.only hp10_0 (by first | omega | (simp; omega))).only hp10_1 (by first | omega | (simp; omega))).only hp10_2 (by first | omega | (simp; omega))).only hp10_3 (by first | omega | (simp; omega))).only hp10_4 (by first | omega | (simp; omega)))
  replace HOTwA0_1 : Hid (Own w10 qTwA0_1 mm2_2 TwA0_1 (rcps l0_1)) := (((((HOTwA0_1.out.only hp10_0 (by first | omega | (simp; omega))).only hp10_1 (by first | omega | (simp; omega))).only hp10_2 (by first | omega | (simp; omega))).only hp10_3 (by first | omega | (simp; omega))).only hp10_4 (by first | omega | (simp; omega)))
  replace HOTwA0_2 : Hid (Own w10 qTwA0_2 mm2_3 TwA0_2 (hds l0_2)) := (((((HOTwA0_2.out.only hp10_0 (by first | omega | (simp; omega))).only hp10_1 (by first | omega | (simp; omega))).only hp10_2 (by first | omega | (simp; omega))).only hp10_3 (by first | omega | (simp; omega))).only hp10_4 (by first | omega | (simp; omega)))
  replace HOTwA0_3 : Hid (Own w10 qTwA0_3 mm2_4 TwA0_3 (strs l0_3)) := (((((HOTwA0_3.out.only hp10_0 (by first | omega | (simp; omega))).only hp10_1 (by first | omega | (simp; omega))).only hp10_2 (by first | omega | (simp; omega))).only hp10_3 (by first | omega | (simp; omega))).only hp10_4 (by first | omega | (simp; omega)))
  replace HOTwA0_4 : Hid (Own w10 qTwA0_4 w2.heap.size TwA0_4 (strs l0_4)) := (((((HOTwA0_4.out.only hp10_0 (by first | omega | (simp; omega))).only hp10_1 (by first | omega | (simp; omega))).only hp10_2 (by first | omega | (simp; omega))).only hp10_3 (by first | omega | (simp; omega))).only hp10_4 (by first | omega | (simp; omega)))
  replace HOwAr1 : Hid (Own w10 qwAr1 w3.heap.size wAr1 (strs lr1)) := (((((HOwAr1.out.only hp10_0 (by first | omega | (simp; omega))).only hp10_1 (by first | omega | (simp; omega))).only hp10_2 (by first | omega | (simp; omega))).only hp10_3 (by first | omega | (simp; omega))).only hp10_4 (by first | omega | (simp; omega)))
  replace HOgAr1 : Hid (Own w10 qgAr1 w5.heap.size gAr1 (strs lr1)) := (((((HOgAr1.out.only hp10_0 (by first | omega | (simp; omega))).only hp10_1 (by first | omega | (simp; omega))).only hp10_2 (by first | omega | (simp; omega))).only hp10_3 (by first | omega | (simp; omega))).only hp10_4 (by first | omega | (simp; omega)))
  clear HOTx0A0_0
  clear HOTx0A0_1
  clear HOTx0A0_2
  clear HOTx0A0_3
  clear HOTx0A0_4
  clear hp10_0 hp10_1 hp10_2 hp10_3 hp10_4 ho0 ho1 ho2 ho3 ho4
  generalize hkk : ((1 + n0_0 * 5 + n0_1 * 3 + n0_2 * 5 + n0_3 + n0_4 : Nat) : Int) = kk10
  have hk0k10 : 0 ≤ kk10 := by omega
  have hkdk10 : decide (kk10 < 0) = false := by simp; omega
  have HKk10 := Lib.hid hkk
  clear hkk
  go_wp2_with fail
  refine (eqEntry_c er0 _).mono ?_
  rintro e w11 ⟨rfl, hb11⟩
  have hz11 : w10.heap.size ≤ w11.heap.size := by have := hb11.size; first | omega | (simp at this; omega)
  have hzz11 : w.heap.size ≤ w11.heap.size := by omega
  have HB11 : Hid (Below w.heap.size w w11) := below_then (by ((repeat (first | refine Below.alloc ?_ (by first | omega | (simp; done) | (simp; omega)) _ | refine Below.drew ?_)); exact HB10.out)) hb11 (by first | omega | (simp; done) | (simp; omega))
  replace HXaB : Hid (Box w11 (w.heap.size) [.int .i64 z0_0, .slice A0_0 n0_0 c0_0, .slice A0_1 n0_1 c0_1, .slice A0_2 n0_2 c0_2, .int .i64 z0_1, .slice A0_3 n0_3 c0_3, .int .i64 z0_2, .slice A0_4 n0_4 c0_4, .int .i64 d0_0.num, .int .i64 d0_0.size, .string d0_0.root, .int .i64 d0_0.taken, .string d0_0.troot]) := Box.below HXaB.out hb11
  clear hxaB hkaB
  have hxaB := HXaB.out.2
  have hkaB := HXaB.out.1
  replace HXw0 : Hid (Box w11 (w3.heap.size) [.string er0.topic, .int .i64 er0.index, .int .i64 er0.time, .string er0.key, .string er0.body]) := Box.below HXw0.out hb11
  clear hxw0 hkw0
  have hxw0 := HXw0.out.2
  have hkw0 := HXw0.out.1
  replace HXx0 : Hid (Box w11 (w4.heap.size) [.int .i64 z0_0, .slice Tx0A0_0 n0_0 n0_0, .slice Tx0A0_1 n0_1 n0_1, .slice Tx0A0_2 n0_2 n0_2, .int .i64 z0_1, .slice Tx0A0_3 n0_3 n0_3, .int .i64 z0_2, .slice Tx0A0_4 n0_4 n0_4, .int .i64 d0_0.num, .int .i64 d0_0.size, .string d0_0.root, .int .i64 d0_0.taken, .string d0_0.troot]) := Box.below HXx0.out hb11
  clear hxx0 hkx0
  have hxx0 := HXx0.out.2
  have hkx0 := HXx0.out.1
  replace HXg0 : Hid (Box w11 (w5.heap.size) [.string er0.topic, .int .i64 er0.index, .int .i64 er0.time, .string er0.key, .string er0.body]) := Box.below HXg0.out hb11
  clear hxg0 hkg0
  have hxg0 := HXg0.out.2
  have hkg0 := HXg0.out.1
  replace HOTwA0_0 := Lib.hid (HOTwA0_0.out.below hb11)
  replace HOTwA0_1 := Lib.hid (HOTwA0_1.out.below hb11)
  replace HOTwA0_2 := Lib.hid (HOTwA0_2.out.below hb11)
  replace HOTwA0_3 := Lib.hid (HOTwA0_3.out.below hb11)
  replace HOTwA0_4 := Lib.hid (HOTwA0_4.out.below hb11)
  replace HOwAr1 := Lib.hid (HOwAr1.out.below hb11)
  replace HOgAr1 := Lib.hid (HOgAr1.out.below hb11)
  clear hb11
  go_wp2_with fail
  refine (eqStringS_c' gAr1 wAr1 _ _ _ _ _ _ nr1 nr1 lr1 _ (HOgAr1.out.rd) (HOwAr1.out.rd) HRNAr1.out HRNAr1.out (by unfold maxLen; omega)).mono ?_
  rintro e w12 ⟨rfl, hb12⟩
  have hz12 : w11.heap.size ≤ w12.heap.size := by have := hb12.size; first | omega | (simp at this; omega)
  have hzz12 : w.heap.size ≤ w12.heap.size := by omega
  have HB12 : Hid (Below w.heap.size w w12) := below_then (by ((repeat (first | refine Below.alloc ?_ (by first | omega | (simp; done) | (simp; omega)) _ | refine Below.drew ?_)); exact HB11.out)) hb12 (by first | omega | (simp; done) | (simp; omega))
  replace HXaB : Hid (Box w12 (w.heap.size) [.int .i64 z0_0, .slice A0_0 n0_0 c0_0, .slice A0_1 n0_1 c0_1, .slice A0_2 n0_2 c0_2, .int .i64 z0_1, .slice A0_3 n0_3 c0_3, .int .i64 z0_2, .slice A0_4 n0_4 c0_4, .int .i64 d0_0.num, .int .i64 d0_0.size, .string d0_0.root, .int .i64 d0_0.taken, .string d0_0.troot]) := Box.below HXaB.out hb12
  clear hxaB hkaB
  have hxaB := HXaB.out.2
  have hkaB := HXaB.out.1
  replace HXw0 : Hid (Box w12 (w3.heap.size) [.string er0.topic, .int .i64 er0.index, .int .i64 er0.time, .string er0.key, .string er0.body]) := Box.below HXw0.out hb12
  clear hxw0 hkw0
  have hxw0 := HXw0.out.2
  have hkw0 := HXw0.out.1
  replace HXx0 : Hid (Box w12 (w4.heap.size) [.int .i64 z0_0, .slice Tx0A0_0 n0_0 n0_0, .slice Tx0A0_1 n0_1 n0_1, .slice Tx0A0_2 n0_2 n0_2, .int .i64 z0_1, .slice Tx0A0_3 n0_3 n0_3, .int .i64 z0_2, .slice Tx0A0_4 n0_4 n0_4, .int .i64 d0_0.num, .int .i64 d0_0.size, .string d0_0.root, .int .i64 d0_0.taken, .string d0_0.troot]) := Box.below HXx0.out hb12
  clear hxx0 hkx0
  have hxx0 := HXx0.out.2
  have hkx0 := HXx0.out.1
  replace HXg0 : Hid (Box w12 (w5.heap.size) [.string er0.topic, .int .i64 er0.index, .int .i64 er0.time, .string er0.key, .string er0.body]) := Box.below HXg0.out hb12
  clear hxg0 hkg0
  have hxg0 := HXg0.out.2
  have hkg0 := HXg0.out.1
  replace HOTwA0_0 := Lib.hid (HOTwA0_0.out.below hb12)
  replace HOTwA0_1 := Lib.hid (HOTwA0_1.out.below hb12)
  replace HOTwA0_2 := Lib.hid (HOTwA0_2.out.below hb12)
  replace HOTwA0_3 := Lib.hid (HOTwA0_3.out.below hb12)
  replace HOTwA0_4 := Lib.hid (HOTwA0_4.out.below hb12)
  replace HOwAr1 := Lib.hid (HOwAr1.out.below hb12)
  replace HOgAr1 := Lib.hid (HOgAr1.out.below hb12)
  clear hb12
  go_wp2_with fail
  refine (markStringS_c gAr1 _ qgAr1 w5.heap.size (1) nr1 _ (strs lr1) _ (by omega) (HOgAr1.out) (by rw [strs_len]; exact HRNAr1.out) (by omega)).mono ?_
  rintro e w13 ⟨rfl, hp13_0, ho0⟩
  have hz13_0 : w12.heap.size ≤ w13.heap.size := by have := hp13_0.size; first | omega | (simp at this; omega)
  have hzz13 : w.heap.size ≤ w13.heap.size := by omega
  have HB13 : Hid (Below w.heap.size w w13) := (below_only (by ((repeat (first | refine Below.alloc ?_ (by first | omega | (simp; done) | (simp; omega)) _ | refine Below.drew ?_)); exact HB12.out)) hp13_0 (by omega) (by first | omega | (simp; omega)))
  replace HXaB : Hid (Box w13 (w.heap.size) [.int .i64 z0_0, .slice A0_0 n0_0 c0_0, .slice A0_1 n0_1 c0_1, .slice A0_2 n0_2 c0_2, .int .i64 z0_1, .slice A0_3 n0_3 c0_3, .int .i64 z0_2, .slice A0_4 n0_4 c0_4, .int .i64 d0_0.num, .int .i64 d0_0.size, .string d0_0.root, .int .i64 d0_0.taken, .string d0_0.troot]) := (Box.only HXaB.out hp13_0 (by first | omega | (simp; omega)))
  clear hxaB hkaB
  have hxaB := HXaB.out.2
  have hkaB := HXaB.out.1
  replace HXw0 : Hid (Box w13 (w3.heap.size) [.string er0.topic, .int .i64 er0.index, .int .i64 er0.time, .string er0.key, .string er0.body]) := (Box.only HXw0.out hp13_0 (by first | omega | (simp; omega)))
  clear hxw0 hkw0
  have hxw0 := HXw0.out.2
  have hkw0 := HXw0.out.1
  replace HXx0 : Hid (Box w13 (w4.heap.size) [.int .i64 z0_0, .slice Tx0A0_0 n0_0 n0_0, .slice Tx0A0_1 n0_1 n0_1, .slice Tx0A0_2 n0_2 n0_2, .int .i64 z0_1, .slice Tx0A0_3 n0_3 n0_3, .int .i64 z0_2, .slice Tx0A0_4 n0_4 n0_4, .int .i64 d0_0.num, .int .i64 d0_0.size, .string d0_0.root, .int .i64 d0_0.taken, .string d0_0.troot]) := (Box.only HXx0.out hp13_0 (by first | omega | (simp; omega)))
  clear hxx0 hkx0
  have hxx0 := HXx0.out.2
  have hkx0 := HXx0.out.1
  replace HXg0 : Hid (Box w13 (w5.heap.size) [.string er0.topic, .int .i64 er0.index, .int .i64 er0.time, .string er0.key, .string er0.body]) := (Box.only HXg0.out hp13_0 (by first | omega | (simp; omega)))
  clear hxg0 hkg0
  have hxg0 := HXg0.out.2
  have hkg0 := HXg0.out.1
  replace HOTwA0_0 := Lib.hid ((HOTwA0_0.out.only hp13_0 (by first | omega | (simp; omega))))
  replace HOTwA0_1 := Lib.hid ((HOTwA0_1.out.only hp13_0 (by first | omega | (simp; omega))))
  replace HOTwA0_2 := Lib.hid ((HOTwA0_2.out.only hp13_0 (by first | omega | (simp; omega))))
  replace HOTwA0_3 := Lib.hid ((HOTwA0_3.out.only hp13_0 (by first | omega | (simp; omega))))
  replace HOTwA0_4 := Lib.hid ((HOTwA0_4.out.only hp13_0 (by first | omega | (simp; omega))))
  replace HOwAr1 := Lib.hid ((HOwAr1.out.only hp13_0 (by first | omega | (simp; omega))))
  replace HOgAr1 : Hid (Own w13 qgAr1 w5.heap.size gAr1 (strs (marks (1) nr1))) := ho0
  clear hp13_0 ho0
  generalize hkk : ((1 + nr1 : Nat) : Int) = km13
  have hk0m13 : 0 ≤ km13 := by omega
  have hkdm13 : decide (km13 < 0) = false := by simp; omega
  have HKm13 := Lib.hid hkk
  clear hkk
  go_wp2_with fail
  refine (heldStringS_c gAr1 _ _ _ (1) nr1 _ _ (by omega) (HOgAr1.out.rd) (by omega)).mono ?_
  rintro e w14 ⟨rfl, hb14⟩
  have hz14 : w13.heap.size ≤ w14.heap.size := by have := hb14.size; first | omega | (simp at this; omega)
  have hzz14 : w.heap.size ≤ w14.heap.size := by omega
  have HB14 : Hid (Below w.heap.size w w14) := below_then (by ((repeat (first | refine Below.alloc ?_ (by first | omega | (simp; done) | (simp; omega)) _ | refine Below.drew ?_)); exact HB13.out)) hb14 (by first | omega | (simp; done) | (simp; omega))
  replace HXaB : Hid (Box w14 (w.heap.size) [.int .i64 z0_0, .slice A0_0 n0_0 c0_0, .slice A0_1 n0_1 c0_1, .slice A0_2 n0_2 c0_2, .int .i64 z0_1, .slice A0_3 n0_3 c0_3, .int .i64 z0_2, .slice A0_4 n0_4 c0_4, .int .i64 d0_0.num, .int .i64 d0_0.size, .string d0_0.root, .int .i64 d0_0.taken, .string d0_0.troot]) := Box.below HXaB.out hb14
  clear hxaB hkaB
  have hxaB := HXaB.out.2
  have hkaB := HXaB.out.1
  replace HXw0 : Hid (Box w14 (w3.heap.size) [.string er0.topic, .int .i64 er0.index, .int .i64 er0.time, .string er0.key, .string er0.body]) := Box.below HXw0.out hb14
  clear hxw0 hkw0
  have hxw0 := HXw0.out.2
  have hkw0 := HXw0.out.1
  replace HXx0 : Hid (Box w14 (w4.heap.size) [.int .i64 z0_0, .slice Tx0A0_0 n0_0 n0_0, .slice Tx0A0_1 n0_1 n0_1, .slice Tx0A0_2 n0_2 n0_2, .int .i64 z0_1, .slice Tx0A0_3 n0_3 n0_3, .int .i64 z0_2, .slice Tx0A0_4 n0_4 n0_4, .int .i64 d0_0.num, .int .i64 d0_0.size, .string d0_0.root, .int .i64 d0_0.taken, .string d0_0.troot]) := Box.below HXx0.out hb14
  clear hxx0 hkx0
  have hxx0 := HXx0.out.2
  have hkx0 := HXx0.out.1
  replace HXg0 : Hid (Box w14 (w5.heap.size) [.string er0.topic, .int .i64 er0.index, .int .i64 er0.time, .string er0.key, .string er0.body]) := Box.below HXg0.out hb14
  clear hxg0 hkg0
  have hxg0 := HXg0.out.2
  have hkg0 := HXg0.out.1
  replace HOTwA0_0 := Lib.hid (HOTwA0_0.out.below hb14)
  replace HOTwA0_1 := Lib.hid (HOTwA0_1.out.below hb14)
  replace HOTwA0_2 := Lib.hid (HOTwA0_2.out.below hb14)
  replace HOTwA0_3 := Lib.hid (HOTwA0_3.out.below hb14)
  replace HOTwA0_4 := Lib.hid (HOTwA0_4.out.below hb14)
  replace HOwAr1 := Lib.hid (HOwAr1.out.below hb14)
  replace HOgAr1 := Lib.hid (HOgAr1.out.below hb14)
  clear hb14
  generalize hkk : ((1 + nr1 : Nat) : Int) = kq14
  have hk0q14 : 0 ≤ kq14 := by omega
  have hkdq14 : decide (kq14 < 0) = false := by simp; omega
  have HKq14 := Lib.hid hkk
  clear hkk
  obtain rfl : kq14 = km13 := HKq14.out.symm.trans HKm13.out
  go_wp2_with fail
  refine (toBroker_c z0_0 z0_1 z0_2 d0_0 A0_0 A0_1 A0_2 A0_3 A0_4 c0_0 c0_1 c0_2 c0_3 c0_4 n0_0 n0_1 n0_2 n0_3 n0_4 l0_0 l0_1 l0_2 l0_3 l0_4 _ _ _ _ _ _ _ _ _ _ _ (hrA0_0.below (by ((repeat (first | refine Below.alloc ?_ (by first | omega | (simp; done) | (simp; omega)) _ | refine Below.drew ?_)); exact HB14.out))) HNA0_0.out hmA0_0 (hrA0_1.below (by ((repeat (first | refine Below.alloc ?_ (by first | omega | (simp; done) | (simp; omega)) _ | refine Below.drew ?_)); exact HB14.out))) HNA0_1.out hmA0_1 (hrA0_2.below (by ((repeat (first | refine Below.alloc ?_ (by first | omega | (simp; done) | (simp; omega)) _ | refine Below.drew ?_)); exact HB14.out))) HNA0_2.out hmA0_2 (hrA0_3.below (by ((repeat (first | refine Below.alloc ?_ (by first | omega | (simp; done) | (simp; omega)) _ | refine Below.drew ?_)); exact HB14.out))) HNA0_3.out hmA0_3 (hrA0_4.below (by ((repeat (first | refine Below.alloc ?_ (by first | omega | (simp; done) | (simp; omega)) _ | refine Below.drew ?_)); exact HB14.out))) HNA0_4.out hmA0_4).mono ?_
  rintro e w15 ⟨ThA0_0, ThA0_1, ThA0_2, ThA0_3, ThA0_4, mm15_1, mm15_2, mm15_3, mm15_4, rfl, le15_0, le15_1, le15_2, le15_3, le15_4, ho0, ho1, ho2, ho3, ho4, hb15⟩
  have hz15 : w14.heap.size ≤ w15.heap.size := by have := hb15.size; first | omega | (simp at this; omega)
  have hzz15 : w.heap.size ≤ w15.heap.size := by omega
  have HB15 : Hid (Below w.heap.size w w15) := below_then (by ((repeat (first | refine Below.alloc ?_ (by first | omega | (simp; done) | (simp; omega)) _ | refine Below.drew ?_)); exact HB14.out)) hb15 (by first | omega | (simp; done) | (simp; omega))
  replace HXaB : Hid (Box w15 (w.heap.size) [.int .i64 z0_0, .slice A0_0 n0_0 c0_0, .slice A0_1 n0_1 c0_1, .slice A0_2 n0_2 c0_2, .int .i64 z0_1, .slice A0_3 n0_3 c0_3, .int .i64 z0_2, .slice A0_4 n0_4 c0_4, .int .i64 d0_0.num, .int .i64 d0_0.size, .string d0_0.root, .int .i64 d0_0.taken, .string d0_0.troot]) := Box.below HXaB.out hb15
  clear hxaB hkaB
  have hxaB := HXaB.out.2
  have hkaB := HXaB.out.1
  replace HXw0 : Hid (Box w15 (w3.heap.size) [.string er0.topic, .int .i64 er0.index, .int .i64 er0.time, .string er0.key, .string er0.body]) := Box.below HXw0.out hb15
  clear hxw0 hkw0
  have hxw0 := HXw0.out.2
  have hkw0 := HXw0.out.1
  replace HXx0 : Hid (Box w15 (w4.heap.size) [.int .i64 z0_0, .slice Tx0A0_0 n0_0 n0_0, .slice Tx0A0_1 n0_1 n0_1, .slice Tx0A0_2 n0_2 n0_2, .int .i64 z0_1, .slice Tx0A0_3 n0_3 n0_3, .int .i64 z0_2, .slice Tx0A0_4 n0_4 n0_4, .int .i64 d0_0.num, .int .i64 d0_0.size, .string d0_0.root, .int .i64 d0_0.taken, .string d0_0.troot]) := Box.below HXx0.out hb15
  clear hxx0 hkx0
  have hxx0 := HXx0.out.2
  have hkx0 := HXx0.out.1
  replace HXg0 : Hid (Box w15 (w5.heap.size) [.string er0.topic, .int .i64 er0.index, .int .i64 er0.time, .string er0.key, .string er0.body]) := Box.below HXg0.out hb15
  clear hxg0 hkg0
  have hxg0 := HXg0.out.2
  have hkg0 := HXg0.out.1
  replace HOTwA0_0 := Lib.hid (HOTwA0_0.out.below hb15)
  replace HOTwA0_1 := Lib.hid (HOTwA0_1.out.below hb15)
  replace HOTwA0_2 := Lib.hid (HOTwA0_2.out.below hb15)
  replace HOTwA0_3 := Lib.hid (HOTwA0_3.out.below hb15)
  replace HOTwA0_4 := Lib.hid (HOTwA0_4.out.below hb15)
  replace HOwAr1 := Lib.hid (HOwAr1.out.below hb15)
  replace HOgAr1 := Lib.hid (HOgAr1.out.below hb15)
  obtain ⟨qThA0_0, hqThA0_0, hqqThA0_0, HOThA0_0⟩ : ∃ q, w14.heap.size ≤ q ∧ mm15_1 ≤ w15.heap.size ∧ Hid (Own w15 q mm15_1 ThA0_0 (ents l0_0)) := ⟨_, by first | omega | (simp at *; done) | (simp at *; omega), by first | omega | (simp at *; done) | (simp at *; omega), ho0⟩
  obtain ⟨qThA0_1, hqThA0_1, hqqThA0_1, HOThA0_1⟩ : ∃ q, mm15_1 ≤ q ∧ mm15_2 ≤ w15.heap.size ∧ Hid (Own w15 q mm15_2 ThA0_1 (rcps l0_1)) := ⟨_, by first | omega | (simp at *; done) | (simp at *; omega), by first | omega | (simp at *; done) | (simp at *; omega), ho1⟩
  obtain ⟨qThA0_2, hqThA0_2, hqqThA0_2, HOThA0_2⟩ : ∃ q, mm15_2 ≤ q ∧ mm15_3 ≤ w15.heap.size ∧ Hid (Own w15 q mm15_3 ThA0_2 (hds l0_2)) := ⟨_, by first | omega | (simp at *; done) | (simp at *; omega), by first | omega | (simp at *; done) | (simp at *; omega), ho2⟩
  obtain ⟨qThA0_3, hqThA0_3, hqqThA0_3, HOThA0_3⟩ : ∃ q, mm15_3 ≤ q ∧ mm15_4 ≤ w15.heap.size ∧ Hid (Own w15 q mm15_4 ThA0_3 (strs l0_3)) := ⟨_, by first | omega | (simp at *; done) | (simp at *; omega), by first | omega | (simp at *; done) | (simp at *; omega), ho3⟩
  obtain ⟨qThA0_4, hqThA0_4, hqqThA0_4, HOThA0_4⟩ : ∃ q, mm15_4 ≤ q ∧ w15.heap.size ≤ w15.heap.size ∧ Hid (Own w15 q w15.heap.size ThA0_4 (strs l0_4)) := ⟨_, by first | omega | (simp at *; done) | (simp at *; omega), by first | omega | (simp at *; done) | (simp at *; omega), ho4⟩
  clear hb15 ho0 ho1 ho2 ho3 ho4
  go_wp2_with fail
  refine (HIM hbk _ _ _ _ _ _ _ _ _ _ _ _ _ _ _ _ _ _ _ _ _ (HOThA0_0.out.rd) rfl (HOThA0_1.out.rd) rfl (HOThA0_2.out.rd) rfl (HOThA0_3.out.rd) rfl (HOThA0_4.out.rd) rfl).mono ?_
  rintro e w16 ⟨hAr1, hcr1, rfl, ho0, hb16⟩
  have hz16 : w15.heap.size ≤ w16.heap.size := by have := hb16.size; first | omega | (simp at this; omega)
  have hzz16 : w.heap.size ≤ w16.heap.size := by omega
  have HB16 : Hid (Below w.heap.size w w16) := below_then (by ((repeat (first | refine Below.alloc ?_ (by first | omega | (simp; done) | (simp; omega)) _ | refine Below.drew ?_)); exact HB15.out)) hb16 (by first | omega | (simp; done) | (simp; omega))
  replace HXaB : Hid (Box w16 (w.heap.size) [.int .i64 z0_0, .slice A0_0 n0_0 c0_0, .slice A0_1 n0_1 c0_1, .slice A0_2 n0_2 c0_2, .int .i64 z0_1, .slice A0_3 n0_3 c0_3, .int .i64 z0_2, .slice A0_4 n0_4 c0_4, .int .i64 d0_0.num, .int .i64 d0_0.size, .string d0_0.root, .int .i64 d0_0.taken, .string d0_0.troot]) := Box.below HXaB.out hb16
  clear hxaB hkaB
  have hxaB := HXaB.out.2
  have hkaB := HXaB.out.1
  replace HXw0 : Hid (Box w16 (w3.heap.size) [.string er0.topic, .int .i64 er0.index, .int .i64 er0.time, .string er0.key, .string er0.body]) := Box.below HXw0.out hb16
  clear hxw0 hkw0
  have hxw0 := HXw0.out.2
  have hkw0 := HXw0.out.1
  replace HXx0 : Hid (Box w16 (w4.heap.size) [.int .i64 z0_0, .slice Tx0A0_0 n0_0 n0_0, .slice Tx0A0_1 n0_1 n0_1, .slice Tx0A0_2 n0_2 n0_2, .int .i64 z0_1, .slice Tx0A0_3 n0_3 n0_3, .int .i64 z0_2, .slice Tx0A0_4 n0_4 n0_4, .int .i64 d0_0.num, .int .i64 d0_0.size, .string d0_0.root, .int .i64 d0_0.taken, .string d0_0.troot]) := Box.below HXx0.out hb16
  clear hxx0 hkx0
  have hxx0 := HXx0.out.2
  have hkx0 := HXx0.out.1
  replace HXg0 : Hid (Box w16 (w5.heap.size) [.string er0.topic, .int .i64 er0.index, .int .i64 er0.time, .string er0.key, .string er0.body]) := Box.below HXg0.out hb16
  clear hxg0 hkg0
  have hxg0 := HXg0.out.2
  have hkg0 := HXg0.out.1
  replace HOTwA0_0 := Lib.hid (HOTwA0_0.out.below hb16)
  replace HOTwA0_1 := Lib.hid (HOTwA0_1.out.below hb16)
  replace HOTwA0_2 := Lib.hid (HOTwA0_2.out.below hb16)
  replace HOTwA0_3 := Lib.hid (HOTwA0_3.out.below hb16)
  replace HOTwA0_4 := Lib.hid (HOTwA0_4.out.below hb16)
  replace HOwAr1 := Lib.hid (HOwAr1.out.below hb16)
  replace HOgAr1 := Lib.hid (HOgAr1.out.below hb16)
  replace HOThA0_0 := Lib.hid (HOThA0_0.out.below hb16)
  replace HOThA0_1 := Lib.hid (HOThA0_1.out.below hb16)
  replace HOThA0_2 := Lib.hid (HOThA0_2.out.below hb16)
  replace HOThA0_3 := Lib.hid (HOThA0_3.out.below hb16)
  replace HOThA0_4 := Lib.hid (HOThA0_4.out.below hb16)
  obtain ⟨qhAr1, hqhAr1, HOhAr1⟩ : ∃ q, w15.heap.size ≤ q ∧ Hid (Own w16 q w16.heap.size hAr1 (strs lr1)) := ⟨_, by first | omega | (simp at *; done) | (simp at *; omega), ho0⟩
  clear hb16 ho0
  go_wp2_with fail
  refine (eqEntry_c er0 _).mono ?_
  rintro e w17 ⟨rfl, hb17⟩
  have hz17 : w16.heap.size + 1 ≤ w17.heap.size := by have := hb17.size; first | omega | (simp at this; omega)
  have hzz17 : w.heap.size ≤ w17.heap.size := by omega
  have HB17 : Hid (Below w.heap.size w w17) := below_then (by ((repeat (first | refine Below.alloc ?_ (by first | omega | (simp; done) | (simp; omega)) _ | refine Below.drew ?_)); exact HB16.out)) hb17 (by first | omega | (simp; done) | (simp; omega))
  replace HXaB : Hid (Box w17 (w.heap.size) [.int .i64 z0_0, .slice A0_0 n0_0 c0_0, .slice A0_1 n0_1 c0_1, .slice A0_2 n0_2 c0_2, .int .i64 z0_1, .slice A0_3 n0_3 c0_3, .int .i64 z0_2, .slice A0_4 n0_4 c0_4, .int .i64 d0_0.num, .int .i64 d0_0.size, .string d0_0.root, .int .i64 d0_0.taken, .string d0_0.troot]) := Box.below (HXaB.out.alloc _) hb17
  clear hxaB hkaB
  have hxaB := HXaB.out.2
  have hkaB := HXaB.out.1
  replace HXw0 : Hid (Box w17 (w3.heap.size) [.string er0.topic, .int .i64 er0.index, .int .i64 er0.time, .string er0.key, .string er0.body]) := Box.below (HXw0.out.alloc _) hb17
  clear hxw0 hkw0
  have hxw0 := HXw0.out.2
  have hkw0 := HXw0.out.1
  replace HXx0 : Hid (Box w17 (w4.heap.size) [.int .i64 z0_0, .slice Tx0A0_0 n0_0 n0_0, .slice Tx0A0_1 n0_1 n0_1, .slice Tx0A0_2 n0_2 n0_2, .int .i64 z0_1, .slice Tx0A0_3 n0_3 n0_3, .int .i64 z0_2, .slice Tx0A0_4 n0_4 n0_4, .int .i64 d0_0.num, .int .i64 d0_0.size, .string d0_0.root, .int .i64 d0_0.taken, .string d0_0.troot]) := Box.below (HXx0.out.alloc _) hb17
  clear hxx0 hkx0
  have hxx0 := HXx0.out.2
  have hkx0 := HXx0.out.1
  replace HXg0 : Hid (Box w17 (w5.heap.size) [.string er0.topic, .int .i64 er0.index, .int .i64 er0.time, .string er0.key, .string er0.body]) := Box.below (HXg0.out.alloc _) hb17
  clear hxg0 hkg0
  have hxg0 := HXg0.out.2
  have hkg0 := HXg0.out.1
  have HXh0 : Hid (Box w17 (w16.heap.size) [.string er0.topic, .int .i64 er0.index, .int .i64 er0.time, .string er0.key, .string er0.body]) := Box.below (Box.new0 _ _ _) hb17
  have hxh0 := HXh0.out.2
  have hkh0 := HXh0.out.1
  replace HOTwA0_0 := Lib.hid ((HOTwA0_0.out.alloc _).below hb17)
  replace HOTwA0_1 := Lib.hid ((HOTwA0_1.out.alloc _).below hb17)
  replace HOTwA0_2 := Lib.hid ((HOTwA0_2.out.alloc _).below hb17)
  replace HOTwA0_3 := Lib.hid ((HOTwA0_3.out.alloc _).below hb17)
  replace HOTwA0_4 := Lib.hid ((HOTwA0_4.out.alloc _).below hb17)
  replace HOwAr1 := Lib.hid ((HOwAr1.out.alloc _).below hb17)
  replace HOgAr1 := Lib.hid ((HOgAr1.out.alloc _).below hb17)
  replace HOThA0_0 := Lib.hid ((HOThA0_0.out.alloc _).below hb17)
  replace HOThA0_1 := Lib.hid ((HOThA0_1.out.alloc _).below hb17)
  replace HOThA0_2 := Lib.hid ((HOThA0_2.out.alloc _).below hb17)
  replace HOThA0_3 := Lib.hid ((HOThA0_3.out.alloc _).below hb17)
  replace HOThA0_4 := Lib.hid ((HOThA0_4.out.alloc _).below hb17)
  replace HOhAr1 := Lib.hid ((HOhAr1.out.alloc _).below hb17)
  clear hb17
  go_wp2_with fail
  refine (eqStringS_c' hAr1 wAr1 _ _ _ _ _ _ nr1 nr1 lr1 _ (HOhAr1.out.rd) (HOwAr1.out.rd) HRNAr1.out HRNAr1.out (by unfold maxLen; omega)).mono ?_
  rintro e w18 ⟨rfl, hb18⟩
  have hz18 : w17.heap.size ≤ w18.heap.size := by have := hb18.size; first | omega | (simp at this; omega)
  have hzz18 : w.heap.size ≤ w18.heap.size := by omega
  have HB18 : Hid (Below w.heap.size w w18) := below_then (by ((repeat (first | refine Below.alloc ?_ (by first | omega | (simp; done) | (simp; omega)) _ | refine Below.drew ?_)); exact HB17.out)) hb18 (by first | omega | (simp; done) | (simp; omega))
  replace HXaB : Hid (Box w18 (w.heap.size) [.int .i64 z0_0, .slice A0_0 n0_0 c0_0, .slice A0_1 n0_1 c0_1, .slice A0_2 n0_2 c0_2, .int .i64 z0_1, .slice A0_3 n0_3 c0_3, .int .i64 z0_2, .slice A0_4 n0_4 c0_4, .int .i64 d0_0.num, .int .i64 d0_0.size, .string d0_0.root, .int .i64 d0_0.taken, .string d0_0.troot]) := Box.below HXaB.out hb18
  clear hxaB hkaB
  have hxaB := HXaB.out.2
  have hkaB := HXaB.out.1
  replace HXw0 : Hid (Box w18 (w3.heap.size) [.string er0.topic, .int .i64 er0.index, .int .i64 er0.time, .string er0.key, .string er0.body]) := Box.below HXw0.out hb18
  clear hxw0 hkw0
  have hxw0 := HXw0.out.2
  have hkw0 := HXw0.out.1
  replace HXx0 : Hid (Box w18 (w4.heap.size) [.int .i64 z0_0, .slice Tx0A0_0 n0_0 n0_0, .slice Tx0A0_1 n0_1 n0_1, .slice Tx0A0_2 n0_2 n0_2, .int .i64 z0_1, .slice Tx0A0_3 n0_3 n0_3, .int .i64 z0_2, .slice Tx0A0_4 n0_4 n0_4, .int .i64 d0_0.num, .int .i64 d0_0.size, .string d0_0.root, .int .i64 d0_0.taken, .string d0_0.troot]) := Box.below HXx0.out hb18
  clear hxx0 hkx0
  have hxx0 := HXx0.out.2
  have hkx0 := HXx0.out.1
  replace HXg0 : Hid (Box w18 (w5.heap.size) [.string er0.topic, .int .i64 er0.index, .int .i64 er0.time, .string er0.key, .string er0.body]) := Box.below HXg0.out hb18
  clear hxg0 hkg0
  have hxg0 := HXg0.out.2
  have hkg0 := HXg0.out.1
  replace HXh0 : Hid (Box w18 (w16.heap.size) [.string er0.topic, .int .i64 er0.index, .int .i64 er0.time, .string er0.key, .string er0.body]) := Box.below HXh0.out hb18
  clear hxh0 hkh0
  have hxh0 := HXh0.out.2
  have hkh0 := HXh0.out.1
  replace HOTwA0_0 := Lib.hid (HOTwA0_0.out.below hb18)
  replace HOTwA0_1 := Lib.hid (HOTwA0_1.out.below hb18)
  replace HOTwA0_2 := Lib.hid (HOTwA0_2.out.below hb18)
  replace HOTwA0_3 := Lib.hid (HOTwA0_3.out.below hb18)
  replace HOTwA0_4 := Lib.hid (HOTwA0_4.out.below hb18)
  replace HOwAr1 := Lib.hid (HOwAr1.out.below hb18)
  replace HOgAr1 := Lib.hid (HOgAr1.out.below hb18)
  replace HOThA0_0 := Lib.hid (HOThA0_0.out.below hb18)
  replace HOThA0_1 := Lib.hid (HOThA0_1.out.below hb18)
  replace HOThA0_2 := Lib.hid (HOThA0_2.out.below hb18)
  replace HOThA0_3 := Lib.hid (HOThA0_3.out.below hb18)
  replace HOThA0_4 := Lib.hid (HOThA0_4.out.below hb18)
  replace HOhAr1 := Lib.hid (HOhAr1.out.below hb18)
  clear hb18
  go_wp2_with fail
  refine (heldStringS_c gAr1 _ _ _ (1) nr1 _ _ (by omega) (HOgAr1.out.rd) (by omega)).mono ?_
  rintro e w19 ⟨rfl, hb19⟩
  have hz19 : w18.heap.size ≤ w19.heap.size := by have := hb19.size; first | omega | (simp at this; omega)
  have hzz19 : w.heap.size ≤ w19.heap.size := by omega
  have HB19 : Hid (Below w.heap.size w w19) := below_then (by ((repeat (first | refine Below.alloc ?_ (by first | omega | (simp; done) | (simp; omega)) _ | refine Below.drew ?_)); exact HB18.out)) hb19 (by first | omega | (simp; done) | (simp; omega))
  replace HXaB : Hid (Box w19 (w.heap.size) [.int .i64 z0_0, .slice A0_0 n0_0 c0_0, .slice A0_1 n0_1 c0_1, .slice A0_2 n0_2 c0_2, .int .i64 z0_1, .slice A0_3 n0_3 c0_3, .int .i64 z0_2, .slice A0_4 n0_4 c0_4, .int .i64 d0_0.num, .int .i64 d0_0.size, .string d0_0.root, .int .i64 d0_0.taken, .string d0_0.troot]) := Box.below HXaB.out hb19
  clear hxaB hkaB
  have hxaB := HXaB.out.2
  have hkaB := HXaB.out.1
  replace HXw0 : Hid (Box w19 (w3.heap.size) [.string er0.topic, .int .i64 er0.index, .int .i64 er0.time, .string er0.key, .string er0.body]) := Box.below HXw0.out hb19
  clear hxw0 hkw0
  have hxw0 := HXw0.out.2
  have hkw0 := HXw0.out.1
  replace HXx0 : Hid (Box w19 (w4.heap.size) [.int .i64 z0_0, .slice Tx0A0_0 n0_0 n0_0, .slice Tx0A0_1 n0_1 n0_1, .slice Tx0A0_2 n0_2 n0_2, .int .i64 z0_1, .slice Tx0A0_3 n0_3 n0_3, .int .i64 z0_2, .slice Tx0A0_4 n0_4 n0_4, .int .i64 d0_0.num, .int .i64 d0_0.size, .string d0_0.root, .int .i64 d0_0.taken, .string d0_0.troot]) := Box.below HXx0.out hb19
  clear hxx0 hkx0
  have hxx0 := HXx0.out.2
  have hkx0 := HXx0.out.1
  replace HXg0 : Hid (Box w19 (w5.heap.size) [.string er0.topic, .int .i64 er0.index, .int .i64 er0.time, .string er0.key, .string er0.body]) := Box.below HXg0.out hb19
  clear hxg0 hkg0
  have hxg0 := HXg0.out.2
  have hkg0 := HXg0.out.1
  replace HXh0 : Hid (Box w19 (w16.heap.size) [.string er0.topic, .int .i64 er0.index, .int .i64 er0.time, .string er0.key, .string er0.body]) := Box.below HXh0.out hb19
  clear hxh0 hkh0
  have hxh0 := HXh0.out.2
  have hkh0 := HXh0.out.1
  replace HOTwA0_0 := Lib.hid (HOTwA0_0.out.below hb19)
  replace HOTwA0_1 := Lib.hid (HOTwA0_1.out.below hb19)
  replace HOTwA0_2 := Lib.hid (HOTwA0_2.out.below hb19)
  replace HOTwA0_3 := Lib.hid (HOTwA0_3.out.below hb19)
  replace HOTwA0_4 := Lib.hid (HOTwA0_4.out.below hb19)
  replace HOwAr1 := Lib.hid (HOwAr1.out.below hb19)
  replace HOgAr1 := Lib.hid (HOgAr1.out.below hb19)
  replace HOThA0_0 := Lib.hid (HOThA0_0.out.below hb19)
  replace HOThA0_1 := Lib.hid (HOThA0_1.out.below hb19)
  replace HOThA0_2 := Lib.hid (HOThA0_2.out.below hb19)
  replace HOThA0_3 := Lib.hid (HOThA0_3.out.below hb19)
  replace HOThA0_4 := Lib.hid (HOThA0_4.out.below hb19)
  replace HOhAr1 := Lib.hid (HOhAr1.out.below hb19)
  clear hb19
  generalize hkk : ((1 + nr1 : Nat) : Int) = kq19
  have hk0q19 : 0 ≤ kq19 := by omega
  have hkdq19 : decide (kq19 < 0) = false := by simp; omega
  have HKq19 := Lib.hid hkk
  clear hkk
  obtain rfl : kq19 = kq14 := HKq19.out.symm.trans HKq14.out
  go_wp2
  go_ret
  exact ⟨rfl, HB19.out⟩

section
open Go.ChangeShapes Go.WideShapes Go.ChangeAt
open Go.ChangeMaps (open_string)
set_option maxRecDepth 100000 in
theorem lifted_LeafProof (f0 : Int → Int → Int → Hd → (List Ent) → (List Rcp) → (List Hd) → (List ByteArray) → (List ByteArray) → Int → Int → Ent) (f1 : Int → Int → Int → Hd → (List Ent) → (List Rcp) → (List Hd) → (List ByteArray) → (List ByteArray) → Int → Int → List ByteArray) (f2 : Int → Int → Int → Hd → (List Ent) → (List Rcp) → (List Hd) → (List ByteArray) → (List ByteArray) → Int → Int → Int) (hsp : ∀ (z0_0 : Int) (z0_1 : Int) (z0_2 : Int) (d0_0 : Hd) (l0_0 : List Ent) (l0_1 : List Rcp) (l0_2 : List Hd) (l0_3 : List ByteArray) (l0_4 : List ByteArray) (z1 : Int) (z2 : Int), (I64 z0_0) → (I64 z0_1) → (I64 z0_2) → (d0_0.fits) → (∀ x ∈ l0_0, x.fits) → (∀ x ∈ l0_1, x.fits) → (∀ x ∈ l0_2, x.fits) → (I64 z1) → (I64 z2) → specLeafProof_does z0_0 z0_1 z0_2 d0_0 l0_0.length l0_1.length l0_2.length l0_3.length l0_4.length l0_0 l0_1 l0_2 l0_3 l0_4 z1 z2 (f0 z0_0 z0_1 z0_2 d0_0 l0_0 l0_1 l0_2 l0_3 l0_4 z1 z2) (f1 z0_0 z0_1 z0_2 d0_0 l0_0 l0_1 l0_2 l0_3 l0_4 z1 z2).length (f1 z0_0 z0_1 z0_2 d0_0 l0_0 l0_1 l0_2 l0_3 l0_4 z1 z2) (f2 z0_0 z0_1 z0_2 d0_0 l0_0 l0_1 l0_2 l0_3 l0_4 z1 z2)) (him : ∀ (z0_0 : Int) (z0_1 : Int) (z0_2 : Int) (d0_0 : Hd) (l0_0 : List Ent) (l0_1 : List Rcp) (l0_2 : List Hd) (l0_3 : List ByteArray) (l0_4 : List ByteArray) (z1 : Int) (z2 : Int), (I64 z0_0) → (I64 z0_1) → (I64 z0_2) → (d0_0.fits) → (∀ x ∈ l0_0, x.fits) → (∀ x ∈ l0_1, x.fits) → (∀ x ∈ l0_2, x.fits) → (I64 z1) → (I64 z2) → implLeafProof_does z0_0 z0_1 z0_2 d0_0 l0_0.length l0_1.length l0_2.length l0_3.length l0_4.length l0_0 l0_1 l0_2 l0_3 l0_4 z1 z2 (f0 z0_0 z0_1 z0_2 d0_0 l0_0 l0_1 l0_2 l0_3 l0_4 z1 z2) (f1 z0_0 z0_1 z0_2 d0_0 l0_0 l0_1 l0_2 l0_3 l0_4 z1 z2).length (f1 z0_0 z0_1 z0_2 d0_0 l0_0 l0_1 l0_2 l0_3 l0_4 z1 z2) (f2 z0_0 z0_1 z0_2 d0_0 l0_0 l0_1 l0_2 l0_3 l0_4 z1 z2)) (hlen0 : ∀ (z0_0 : Int) (z0_1 : Int) (z0_2 : Int) (d0_0 : Hd) (l0_0 : List Ent) (l0_1 : List Rcp) (l0_2 : List Hd) (l0_3 : List ByteArray) (l0_4 : List ByteArray) (z1 : Int) (z2 : Int), (I64 z0_0) → (I64 z0_1) → (I64 z0_2) → (d0_0.fits) → (∀ x ∈ l0_0, x.fits) → (∀ x ∈ l0_1, x.fits) → (∀ x ∈ l0_2, x.fits) → (I64 z1) → (I64 z2) → (((l0_0.length + sumBy Ent.bulk l0_0)) + (l0_1.length + sumBy Rcp.bulk l0_1) + (l0_2.length + sumBy Hd.bulk l0_2) + (((l0_3.length + bulkS l0_3)) + ((l0_4.length + bulkS l0_4)) + d0_0.bulk)) ≤ 1048576 → (f1 z0_0 z0_1 z0_2 d0_0 l0_0 l0_1 l0_2 l0_3 l0_4 z1 z2).length ≤ 2000000) (os : Os) (started : os.Started) (H : Type) (enc : TypeId × Value → H) :
  ReturnsInHanded {} Tryz.checked os 9 .any (Rows.fnExactLeafProofSpec.pre6 enc Tryz.prog Tryz.f9 Rows.fnExactLeafProofRow.domain false) (Rows.fnExactLeafProofSpec.post enc Tryz.prog Tryz.f9 false true false false) := by
 refine returnsInHanded_of_change (C := Tryz.checked) Tryz.own started (by kernel_rfl) Tryz.func9
  (ChangeSpec.witness6 (enc := enc) (C := Tryz.checked) false ⟨#[], #[.agg #[.int .i64 0, .slice none 0 0, .slice none 0 0, .slice none 0 0, .int .i64 0, .slice none 0 0, .int .i64 0, .slice none 0 0, .int .i64 0, .int .i64 0, .string ByteArray.empty, .int .i64 0, .string ByteArray.empty], .int .i64 0, .int .i64 0], []⟩ 8 (by kernel_rfl) (by kernel_rfl) (by kernel_rfl) (by kernel_rfl)) ?_
 intro W base args ds gs before hval0 hW hcnd _
 have hval : ∀ (j : Nat) t v, Tryz.f9.params[j]? = some t → args[j]? = some v → Value.okWide Tryz.prog W .any base t v := hval0
 have hW' := hW
 obtain ⟨p, q, hA0, hV, rfl, hfz, hnd⟩ := hW
 have hA : DataW.TrodAll enc Tryz.prog W 0 (fun _ => true) true Tryz.f9.params.toList args.toList ds p := hA0
 rw [Tryz.params9] at hA hval
 obtain ⟨v0, vs0, d0, ds0, p0, q0, hargs, rfl, rfl, h0, r0⟩ := trodAll_cons hA
 obtain ⟨v1, vs1, d1, ds1, p1, q1, rfl, rfl, rfl, h1, r1⟩ := trodAll_cons r0
 obtain ⟨v2, vs2, d2, ds2, p2, q2, rfl, rfl, rfl, h2, r2⟩ := trodAll_cons r1
 obtain ⟨rfl, rfl, rfl⟩ := trodAll_nil r2
 obtain rfl : args = #[v0, v1, v2] := by cases args; simp_all
 obtain ⟨rfl, rfl⟩ := trodVars_none hV
 have lt0 : ∀ x ∈ p0, x.block < W.heap.size := by obtain ⟨m, hm⟩ := h0; exact DataW.trod_lt m _ _ _ hm
 have kk0 := h0
 have lt1 : ∀ x ∈ p1, x.block < W.heap.size := by obtain ⟨m, hm⟩ := h1; exact DataW.trod_lt m _ _ _ hm
 have kk1 := h1
 have lt2 : ∀ x ∈ p2, x.block < W.heap.size := by obtain ⟨m, hm⟩ := h2; exact DataW.trod_lt m _ _ _ hm
 have kk2 := h2
 obtain ⟨z0_0, z0_1, z0_2, d0_0, A0_0, A0_1, A0_2, A0_3, A0_4, n0_0, c0_0, n0_1, c0_1, n0_2, c0_2, n0_3, c0_3, n0_4, c0_4, l0_0, l0_1, l0_2, l0_3, l0_4, rfl, hiz0_0, hiz0_1, hiz0_2, hid0_0, o0_0, hil0_0, o0_1, hil0_1, o0_2, hil0_2, o0_3, hil0_3, o0_4, hil0_4⟩ := open_Broker (hval 0 _ v0 rfl rfl) h0
 obtain ⟨rfl, o0_0b, o0_0c, o0_0d⟩ := o0_0
 obtain ⟨rfl, o0_1b, o0_1c, o0_1d⟩ := o0_1
 obtain ⟨rfl, o0_2b, o0_2c, o0_2d⟩ := o0_2
 obtain ⟨rfl, o0_3b, o0_3c, o0_3d⟩ := o0_3
 obtain ⟨rfl, o0_4b, o0_4c, o0_4d⟩ := o0_4
 obtain ⟨z1, rfl, rfl, rfl, wi1⟩ := open_int Tryz.underlying3 (hval 1 _ v1 rfl rfl) h1
 have hiz1 : I64 z1 := i64_of_wf wi1
 obtain ⟨z2, rfl, rfl, rfl, wi2⟩ := open_int Tryz.underlying3 (hval 2 _ v2 rfl rfl) h2
 have hiz2 : I64 z2 := i64_of_wf wi2
 clear hA0 hval0
 refine (walk_LeafProof z0_0 z0_1 z0_2 d0_0 A0_0 A0_1 A0_2 A0_3 A0_4 c0_0 c0_1 c0_2 c0_3 c0_4 _ _ _ _ _ l0_0 l0_1 l0_2 l0_3 l0_4 z1 z2 _ _ _ _ W o0_0d rfl (Nat.le_trans o0_0b o0_0c) hil0_0 o0_1d rfl (Nat.le_trans o0_1b o0_1c) hil0_1 o0_2d rfl (Nat.le_trans o0_2b o0_2c) hil0_2 o0_3d rfl (Nat.le_trans o0_3b o0_3c) hil0_3 o0_4d rfl (Nat.le_trans o0_4b o0_4c) hil0_4 hid0_0 rfl (hlen0 z0_0 z0_1 z0_2 d0_0 l0_0 l0_1 l0_2 l0_3 l0_4 z1 z2 hiz0_0 hiz0_1 hiz0_2 hid0_0 hil0_0 hil0_1 hil0_2 hiz1 hiz2) (hsp z0_0 z0_1 z0_2 d0_0 l0_0 l0_1 l0_2 l0_3 l0_4 z1 z2 hiz0_0 hiz0_1 hiz0_2 hid0_0 hil0_0 hil0_1 hil0_2 hiz1 hiz2) (him z0_0 z0_1 z0_2 d0_0 l0_0 l0_1 l0_2 l0_3 l0_4 z1 z2 hiz0_0 hiz0_1 hiz0_2 hid0_0 hil0_0 hil0_1 hil0_2 hiz1 hiz2)).mono fun e W' ⟨he, bel⟩ => ?_
 subst he
 exact ⟨_, rfl, _, _, _, [], _, [], hW', trodAll_mk1 (shut_bool Tryz.underlying4 _), (trodAll_cons_mk (Below.trod Tryz.laidOut (by kernel_rfl) (of_decide_eq_true (by kernel_rfl)) kk0 bel lt0) (trodAll_cons_mk (Below.trod Tryz.laidOut (by kernel_rfl) (of_decide_eq_true (by kernel_rfl)) kk1 bel lt1) (trodAll_cons_mk (Below.trod Tryz.laidOut (by kernel_rfl) (of_decide_eq_true (by kernel_rfl)) kk2 bel lt2) trodAll_mk0))), rfl, bel.frame _, fun h => by cases h⟩
theorem said_LeafProof (f0 : Int → Int → Int → Hd → (List Ent) → (List Rcp) → (List Hd) → (List ByteArray) → (List ByteArray) → Int → Int → Ent) (f1 : Int → Int → Int → Hd → (List Ent) → (List Rcp) → (List Hd) → (List ByteArray) → (List ByteArray) → Int → Int → List ByteArray) (f2 : Int → Int → Int → Hd → (List Ent) → (List Rcp) → (List Hd) → (List ByteArray) → (List ByteArray) → Int → Int → Int) (hsp : ∀ (z0_0 : Int) (z0_1 : Int) (z0_2 : Int) (d0_0 : Hd) (l0_0 : List Ent) (l0_1 : List Rcp) (l0_2 : List Hd) (l0_3 : List ByteArray) (l0_4 : List ByteArray) (z1 : Int) (z2 : Int), (I64 z0_0) → (I64 z0_1) → (I64 z0_2) → (d0_0.fits) → (∀ x ∈ l0_0, x.fits) → (∀ x ∈ l0_1, x.fits) → (∀ x ∈ l0_2, x.fits) → (I64 z1) → (I64 z2) → specLeafProof_does z0_0 z0_1 z0_2 d0_0 l0_0.length l0_1.length l0_2.length l0_3.length l0_4.length l0_0 l0_1 l0_2 l0_3 l0_4 z1 z2 (f0 z0_0 z0_1 z0_2 d0_0 l0_0 l0_1 l0_2 l0_3 l0_4 z1 z2) (f1 z0_0 z0_1 z0_2 d0_0 l0_0 l0_1 l0_2 l0_3 l0_4 z1 z2).length (f1 z0_0 z0_1 z0_2 d0_0 l0_0 l0_1 l0_2 l0_3 l0_4 z1 z2) (f2 z0_0 z0_1 z0_2 d0_0 l0_0 l0_1 l0_2 l0_3 l0_4 z1 z2)) (him : ∀ (z0_0 : Int) (z0_1 : Int) (z0_2 : Int) (d0_0 : Hd) (l0_0 : List Ent) (l0_1 : List Rcp) (l0_2 : List Hd) (l0_3 : List ByteArray) (l0_4 : List ByteArray) (z1 : Int) (z2 : Int), (I64 z0_0) → (I64 z0_1) → (I64 z0_2) → (d0_0.fits) → (∀ x ∈ l0_0, x.fits) → (∀ x ∈ l0_1, x.fits) → (∀ x ∈ l0_2, x.fits) → (I64 z1) → (I64 z2) → implLeafProof_does z0_0 z0_1 z0_2 d0_0 l0_0.length l0_1.length l0_2.length l0_3.length l0_4.length l0_0 l0_1 l0_2 l0_3 l0_4 z1 z2 (f0 z0_0 z0_1 z0_2 d0_0 l0_0 l0_1 l0_2 l0_3 l0_4 z1 z2) (f1 z0_0 z0_1 z0_2 d0_0 l0_0 l0_1 l0_2 l0_3 l0_4 z1 z2).length (f1 z0_0 z0_1 z0_2 d0_0 l0_0 l0_1 l0_2 l0_3 l0_4 z1 z2) (f2 z0_0 z0_1 z0_2 d0_0 l0_0 l0_1 l0_2 l0_3 l0_4 z1 z2)) (hlen0 : ∀ (z0_0 : Int) (z0_1 : Int) (z0_2 : Int) (d0_0 : Hd) (l0_0 : List Ent) (l0_1 : List Rcp) (l0_2 : List Hd) (l0_3 : List ByteArray) (l0_4 : List ByteArray) (z1 : Int) (z2 : Int), (I64 z0_0) → (I64 z0_1) → (I64 z0_2) → (d0_0.fits) → (∀ x ∈ l0_0, x.fits) → (∀ x ∈ l0_1, x.fits) → (∀ x ∈ l0_2, x.fits) → (I64 z1) → (I64 z2) → (((l0_0.length + sumBy Ent.bulk l0_0)) + (l0_1.length + sumBy Rcp.bulk l0_1) + (l0_2.length + sumBy Hd.bulk l0_2) + (((l0_3.length + bulkS l0_3)) + ((l0_4.length + bulkS l0_4)) + d0_0.bulk)) ≤ 1048576 → (f1 z0_0 z0_1 z0_2 d0_0 l0_0 l0_1 l0_2 l0_3 l0_4 z1 z2).length ≤ 2000000) : Rows.FnExactLeafProofSaid :=
 OpenClaim.holds_of_wide 9 Tryz.f9 rfl rfl rfl rfl rfl rfl rfl ⟨rfl, rfl, rfl, rfl, rfl⟩ rfl rfl rfl rfl rfl (by kernel_rfl) Tryz.func9 (by show joinedFacts Tryz.prog 9 Tryz.f9 Rows.fnExactLeafProofSpec Rows.fnExactLeafProofRow = true; unfold joinedFacts; rw [seat_enter, seat_final, seat_make]; kernel_rfl)
  (of_decide_eq_true (by kernel_rfl)) (by unfold Func.isWrapper; first | (rw [if_pos (by decide +kernel)]; kernel_rfl) | (rw [if_neg (by decide +kernel)]; exact ⟨rfl, rfl⟩))
  (fun os started H enc _ => lifted_LeafProof f0 f1 f2 hsp him hlen0 os started H enc)
end
end Go.Proofs.YtmmepogjocfefaaGreat
