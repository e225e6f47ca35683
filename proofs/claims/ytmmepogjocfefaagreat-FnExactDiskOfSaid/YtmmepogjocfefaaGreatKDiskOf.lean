/- The walk of the law FnExactDiskOf; what spec.DiskOf and impl.DiskOf do comes in as hypotheses. Written by gen_law.py. -/
import Derived.Test.YtmmepogjocfefaaGreatData
import Derived.Test.YtmmepogjocfefaaGreatReg
import Derived.Test.YtmmepogjocfefaaGreatStr
import Derived.Test.YtmmepogjocfefaaGreatWBroker
import Derived.Test.YtmmepogjocfefaaGreatWDisk
import Derived.Test.YtmmepogjocfefaaGreatOpen
import Derived.Test.YtmmepogjocfefaaGreatSeat
namespace Go.Proofs.YtmmepogjocfefaaGreat
set_option linter.unusedVariables false
set_option linter.unusedSimpArgs false
open Go.RowKit
attribute [local go_sem ↓] Go.wp_at_zero Go.wp_at_succ

def specDiskOf_does (z0_0 z0_1 z0_2 : Int) (d0_0 : Hd) (n0_0 n0_1 n0_2 n0_3 n0_4 : Nat) (l0_0 : List Ent) (l0_1 : List Rcp) (l0_2 : List Hd) (l0_3 : List ByteArray) (l0_4 : List ByteArray) (nr0_0 : Nat) (lr0_0 : List ByteArray) (br1 : Bool) : Prop :=
    (((n0_0 + sumBy Ent.bulk l0_0)) + (n0_1 + sumBy Rcp.bulk l0_1) + (n0_2 + sumBy Hd.bulk l0_2) + (((n0_3 + bulkS l0_3)) + ((n0_4 + bulkS l0_4)) + d0_0.bulk)) ≤ 1048576 → ∀ (B0_0 : Option Addr) (g0_0 aA0_0 bA0_0 : Nat) (B0_1 : Option Addr) (g0_1 aA0_1 bA0_1 : Nat) (B0_2 : Option Addr) (g0_2 aA0_2 bA0_2 : Nat) (B0_3 : Option Addr) (g0_3 aA0_3 bA0_3 : Nat) (B0_4 : Option Addr) (g0_4 aA0_4 bA0_4 : Nat) (W : World), Rd W aA0_0 bA0_0 B0_0 (ents l0_0) → g0_0 = n0_0 → Rd W aA0_1 bA0_1 B0_1 (rcps l0_1) → g0_1 = n0_1 → Rd W aA0_2 bA0_2 B0_2 (hds l0_2) → g0_2 = n0_2 → Rd W aA0_3 bA0_3 B0_3 (strs l0_3) → g0_3 = n0_3 → Rd W aA0_4 bA0_4 B0_4 (strs l0_4) → g0_4 = n0_4 → Calls Tryz.prog 21 #[.agg #[.int .i64 z0_0, .slice B0_0 n0_0 g0_0, .slice B0_1 n0_1 g0_1, .slice B0_2 n0_2 g0_2, .int .i64 z0_1, .slice B0_3 n0_3 g0_3, .int .i64 z0_2, .slice B0_4 n0_4 g0_4, .int .i64 d0_0.num, .int .i64 d0_0.size, .string d0_0.root, .int .i64 d0_0.taken, .string d0_0.troot]] W fun r W' => ∃ (Ar0_0 : Option Addr) (cr0_0 : Nat), r = .returned (.tuple #[.agg #[.slice Ar0_0 nr0_0 cr0_0], .bool br1]) ∧ Own W' W.heap.size W'.heap.size Ar0_0 (strs lr0_0) ∧ Below W.heap.size W W'
def implDiskOf_does (z0_0 z0_1 z0_2 : Int) (d0_0 : Hd) (n0_0 n0_1 n0_2 n0_3 n0_4 : Nat) (l0_0 : List Ent) (l0_1 : List Rcp) (l0_2 : List Hd) (l0_3 : List ByteArray) (l0_4 : List ByteArray) (nr0_0 : Nat) (lr0_0 : List ByteArray) (br1 : Bool) : Prop :=
    (((n0_0 + sumBy Ent.bulk l0_0)) + (n0_1 + sumBy Rcp.bulk l0_1) + (n0_2 + sumBy Hd.bulk l0_2) + (((n0_3 + bulkS l0_3)) + ((n0_4 + bulkS l0_4)) + d0_0.bulk)) ≤ 1048576 → ∀ (B0_0 : Option Addr) (g0_0 aA0_0 bA0_0 : Nat) (B0_1 : Option Addr) (g0_1 aA0_1 bA0_1 : Nat) (B0_2 : Option Addr) (g0_2 aA0_2 bA0_2 : Nat) (B0_3 : Option Addr) (g0_3 aA0_3 bA0_3 : Nat) (B0_4 : Option Addr) (g0_4 aA0_4 bA0_4 : Nat) (W : World), Rd W aA0_0 bA0_0 B0_0 (ents l0_0) → g0_0 = n0_0 → Rd W aA0_1 bA0_1 B0_1 (rcps l0_1) → g0_1 = n0_1 → Rd W aA0_2 bA0_2 B0_2 (hds l0_2) → g0_2 = n0_2 → Rd W aA0_3 bA0_3 B0_3 (strs l0_3) → g0_3 = n0_3 → Rd W aA0_4 bA0_4 B0_4 (strs l0_4) → g0_4 = n0_4 → Calls Tryz.prog 22 #[.agg #[.int .i64 z0_0, .slice B0_0 n0_0 g0_0, .slice B0_1 n0_1 g0_1, .slice B0_2 n0_2 g0_2, .int .i64 z0_1, .slice B0_3 n0_3 g0_3, .int .i64 z0_2, .slice B0_4 n0_4 g0_4, .int .i64 d0_0.num, .int .i64 d0_0.size, .string d0_0.root, .int .i64 d0_0.taken, .string d0_0.troot]] W fun r W' => ∃ (Ar0_0 : Option Addr) (cr0_0 : Nat), r = .returned (.tuple #[.agg #[.slice Ar0_0 nr0_0 cr0_0], .bool br1]) ∧ Own W' W.heap.size W'.heap.size Ar0_0 (strs lr0_0) ∧ Below W.heap.size W W'
set_option maxRecDepth 100000 in
set_option maxHeartbeats 4000000 in
theorem walk_DiskOf (z0_0 z0_1 z0_2 : Int) (d0_0 : Hd) (A0_0 A0_1 A0_2 A0_3 A0_4 : Option Addr) (c0_0 c0_1 c0_2 c0_3 c0_4 : Nat) (n0_0 n0_1 n0_2 n0_3 n0_4 : Nat) (l0_0 : List Ent) (l0_1 : List Rcp) (l0_2 : List Hd) (l0_3 : List ByteArray) (l0_4 : List ByteArray) (nr0_0 : Nat) (lr0_0 : List ByteArray) (br1 : Bool) (w : World) (hrA0_0 : Rd w 0 w.heap.size A0_0 (ents l0_0)) (hnA0_0 : l0_0.length = n0_0) (hlA0_0 : n0_0 ≤ maxLen) (hsA0_0 : ∀ x ∈ l0_0, x.fits) (hrA0_1 : Rd w 0 w.heap.size A0_1 (rcps l0_1)) (hnA0_1 : l0_1.length = n0_1) (hlA0_1 : n0_1 ≤ maxLen) (hsA0_1 : ∀ x ∈ l0_1, x.fits) (hrA0_2 : Rd w 0 w.heap.size A0_2 (hds l0_2)) (hnA0_2 : l0_2.length = n0_2) (hlA0_2 : n0_2 ≤ maxLen) (hsA0_2 : ∀ x ∈ l0_2, x.fits) (hrA0_3 : Rd w 0 w.heap.size A0_3 (strs l0_3)) (hnA0_3 : l0_3.length = n0_3) (hlA0_3 : n0_3 ≤ maxLen) (hsA0_3 : ∀ x ∈ l0_3, x.size ≤ maxLen) (hrA0_4 : Rd w 0 w.heap.size A0_4 (strs l0_4)) (hnA0_4 : l0_4.length = n0_4) (hlA0_4 : n0_4 ≤ maxLen) (hsA0_4 : ∀ x ∈ l0_4, x.size ≤ maxLen) (hfd0_0 : d0_0.fits) (hrnAr0_0 : lr0_0.length = nr0_0) (hrlAr0_0 : (((n0_0 + sumBy Ent.bulk l0_0)) + (n0_1 + sumBy Rcp.bulk l0_1) + (n0_2 + sumBy Hd.bulk l0_2) + (((n0_3 + bulkS l0_3)) + ((n0_4 + bulkS l0_4)) + d0_0.bulk)) ≤ 1048576 → nr0_0 ≤ 2000000) (HSP : specDiskOf_does z0_0 z0_1 z0_2 d0_0 n0_0 n0_1 n0_2 n0_3 n0_4 l0_0 l0_1 l0_2 l0_3 l0_4 nr0_0 lr0_0 br1) (HIM : implDiskOf_does z0_0 z0_1 z0_2 d0_0 n0_0 n0_1 n0_2 n0_3 n0_4 l0_0 l0_1 l0_2 l0_3 l0_4 nr0_0 lr0_0 br1) :
  Calls Tryz.prog 4 #[.agg #[.int .i64 z0_0, .slice A0_0 n0_0 c0_0, .slice A0_1 n0_1 c0_1, .slice A0_2 n0_2 c0_2, .int .i64 z0_1, .slice A0_3 n0_3 c0_3, .int .i64 z0_2, .slice A0_4 n0_4 c0_4, .int .i64 d0_0.num, .int .i64 d0_0.size, .string d0_0.root, .int .i64 d0_0.taken, .string d0_0.troot]] w fun e w' => e = .returned (.bool true) ∧ Below w.heap.size w w' := by
 have HNA0_0 := Lib.hid hnA0_0
 have HSA0_0 := Lib.hid hsA0_0
 clear hnA0_0 hsA0_0
 have HNA0_1 := Lib.hid hnA0_1
 have HSA0_1 := Lib.hid hsA0_1
 clear hnA0_1 hsA0_1
 have HNA0_2 := Lib.hid hnA0_2
 have HSA0_2 := Lib.hid hsA0_2
 clear hnA0_2 hsA0_2
 have HNA0_3 := Lib.hid hnA0_3
 have HSA0_3 := Lib.hid hsA0_3
 clear hnA0_3 hsA0_3
 have HNA0_4 := Lib.hid hnA0_4
 have HSA0_4 := Lib.hid hsA0_4
 clear hnA0_4 hsA0_4
 have HRNAr0_0 := Lib.hid hrnAr0_0
 have HRLAr0_0 := Lib.hid hrlAr0_0
 clear hrnAr0_0 hrlAr0_0
 have HB0 : Hid (Below w.heap.size w w) := Below.refl _ _
 go_enter Tryz.func4, Tryz.ntmps4
 go_wp2_with fail
 refine (szBroker_c z0_0 z0_1 z0_2 d0_0 A0_0 A0_1 A0_2 A0_3 A0_4 c0_0 c0_1 c0_2 c0_3 c0_4 n0_0 n0_1 n0_2 n0_3 n0_4 l0_0 l0_1 l0_2 l0_3 l0_4 _ _ _ _ _ _ _ _ _ _ _ _ (hrA0_0.below (by ((repeat (first | refine Below.alloc ?_ (by first | omega | (simp; done) | (simp; omega)) _ | refine Below.drew ?_)); exact HB0.out))) HNA0_0.out hlA0_0 HSA0_0.out (hrA0_1.below (by ((repeat (first | refine Below.alloc ?_ (by first | omega | (simp; done) | (simp; omega)) _ | refine Below.drew ?_)); exact HB0.out))) HNA0_1.out hlA0_1 HSA0_1.out (hrA0_2.below (by ((repeat (first | refine Below.alloc ?_ (by first | omega | (simp; done) | (simp; omega)) _ | refine Below.drew ?_)); exact HB0.out))) HNA0_2.out hlA0_2 HSA0_2.out (hrA0_3.below (by ((repeat (first | refine Below.alloc ?_ (by first | omega | (simp; done) | (simp; omega)) _ | refine Below.drew ?_)); exact HB0.out))) HNA0_3.out hlA0_3 HSA0_3.out (hrA0_4.below (by ((repeat (first | refine Below.alloc ?_ (by first | omega | (simp; done) | (simp; omega)) _ | refine Below.drew ?_)); exact HB0.out))) HNA0_4.out hlA0_4 HSA0_4.out hfd0_0 (by omega) (by omega)).mono ?_
 rintro e w1 ⟨rfl, hb1⟩
 have hz1 : w.heap.size + 1 ≤ w1.heap.size := by have := hb1.size; first | omega | (simp at this; omega)
 have hzz1 : w.heap.size ≤ w1.heap.size := by omega
 have HB1 : Hid (Below w.heap.size w w1) := below_then (by ((repeat (first | refine Below.alloc ?_ (by first | omega | (simp; done) | (simp; omega)) _ | refine Below.drew ?_)); exact HB0.out)) hb1 (by first | omega | (simp; done) | (simp; omega))
 have HXaB : Hid (Box w1 (w.heap.size) [.int .i64 z0_0, .slice A0_0 n0_0 c0_0, .slice A0_1 n0_1 c0_1, .slice A0_2 n0_2 c0_2, .int .i64 z0_1, .slice A0_3 n0_3 c0_3, .int .i64 z0_2, .slice A0_4 n0_4 c0_4, .int .i64 d0_0.num, .int .i64 d0_0.size, .string d0_0.root, .int .i64 d0_0.taken, .string d0_0.troot]) := Box.below (Box.new0 _ _ _) hb1
 have hxaB := HXaB.out.2
 have hkaB := HXaB.out.1
 clear hb1
 go_wp2_with fail
 ·go_ret
  exact ⟨rfl, HB1.out⟩
 ·have hp1 : 0 ≤ szF 1048576 ((((n0_0 + sumBy Ent.bulk l0_0)) + (n0_1 + sumBy Rcp.bulk l0_1) + (n0_2 + sumBy Hd.bulk l0_2) + (((n0_3 + bulkS l0_3)) + ((n0_4 + bulkS l0_4)) + d0_0.bulk))) := by assumption
  have hg1 := (szF_le 1048576 ((((n0_0 + sumBy Ent.bulk l0_0)) + (n0_1 + sumBy Rcp.bulk l0_1) + (n0_2 + sumBy Hd.bulk l0_2) + (((n0_3 + bulkS l0_3)) + ((n0_4 + bulkS l0_4)) + d0_0.bulk))) (by omega)).2
  have hbk : (((n0_0 + sumBy Ent.bulk l0_0)) + (n0_1 + sumBy Rcp.bulk l0_1) + (n0_2 + sumBy Hd.bulk l0_2) + (((n0_3 + bulkS l0_3)) + ((n0_4 + bulkS l0_4)) + d0_0.bulk)) ≤ 1048576 := by have := (szF_pos hp1).1; omega
  have hmA0_0 : n0_0 ≤ 1048576 := by omega
  have hmA0_1 : n0_1 ≤ 1048576 := by omega
  have hmA0_2 : n0_2 ≤ 1048576 := by omega
  have hmA0_3 : n0_3 ≤ 1048576 := by omega
  have hmA0_4 : n0_4 ≤ 1048576 := by omega
  have hrlAr0_0 := HRLAr0_0.out hbk
  refine (toBroker_c z0_0 z0_1 z0_2 d0_0 A0_0 A0_1 A0_2 A0_3 A0_4 c0_0 c0_1 c0_2 c0_3 c0_4 n0_0 n0_1 n0_2 n0_3 n0_4 l0_0 l0_1 l0_2 l0_3 l0_4 _ _ _ _ _ _ _ _ _ _ _ (hrA0_0.below (by ((repeat (first | refine Below.alloc ?_ (by first | omega | (simp; done) | (simp; omega)) _ | refine Below.drew ?_)); exact HB1.out))) HNA0_0.out hmA0_0 (hrA0_1.below (by ((repeat (first | refine Below.alloc ?_ (by first | omega | (simp; done) | (simp; omega)) _ | refine Below.drew ?_)); exact HB1.out))) HNA0_1.out hmA0_1 (hrA0_2.below (by ((repeat (first | refine Below.alloc ?_ (by first | omega | (simp; done) | (simp; omega)) _ | refine Below.drew ?_)); exact HB1.out))) HNA0_2.out hmA0_2 (hrA0_3.below (by ((repeat (first | refine Below.alloc ?_ (by first | omega | (simp; done) | (simp; omega)) _ | refine Below.drew ?_)); exact HB1.out))) HNA0_3.out hmA0_3 (hrA0_4.below (by ((repeat (first | refine Below.alloc ?_ (by first | omega | (simp; done) | (simp; omega)) _ | refine Below.drew ?_)); exact HB1.out))) HNA0_4.out hmA0_4).mono ?_
  rintro e w2 ⟨TwA0_0, TwA0_1, TwA0_2, TwA0_3, TwA0_4, mm2_1, mm2_2, mm2_3, mm2_4, rfl, le2_0, le2_1, le2_2, le2_3, le2_4, ho0, ho1, ho2, ho3, ho4, hb2⟩
  have hz2 : w1.heap.size ≤ w2.heap.size := by have := hb2.size; first | omega | (simp at this; omega)
  have hzz2 : w.heap.size ≤ w2.heap.size := by omega
  have HB2 : Hid (Below w.heap.size w w2) := below_then (by ((repeat (first | refine Below.alloc ?_ (by first | omega | (simp; done) | (simp; omega)) _ | refine Below.drew ?_)); exact HB1.out)) hb2 (by first | omega | (simp; done) | (simp; omega))
  replace HXaB : Hid (Box w2 (w.heap.size) [.int .i64 z0_0, .slice A0_0 n0_0 c0_0, .slice A0_1 n0_1 c0_1, .slice A0_2 n0_2 c0_2, .int .i64 z0_1, .slice A0_3 n0_3 c0_3, .int .i64 z0_2, .slice A0_4 n0_4 c0_4, .int .i64 d0_0.num, .int .i64 d0_0.size, .string d0_0.root, .int .i64 d0_0.taken, .string d0_0.troot]) := Box.below HXaB.out hb2
  clear hxaB hkaB
  have hxaB := HXaB.out.2
  have hkaB := HXaB.out.1
  obtain ⟨qTwA0_0, hqTwA0_0, hqqTwA0_0, HOTwA0_0⟩ : ∃ q, w1.heap.size ≤ q ∧ mm2_1 ≤ w2.heap.size ∧ Hid (Own w2 q mm2_1 TwA0_0 (ents l0_0)) := ⟨_, by first | omega | (simp at *; done) | (simp at *; omega), by first | omega | (simp at *; done) | (simp at *; omega), ho0⟩
  obtain ⟨qTwA0_1, hqTwA0_1, hqqTwA0_1, HOTwA0_1⟩ : ∃ q, mm2_1 ≤ q ∧ mm2_2 ≤ w2.heap.size ∧ Hid (Own w2 q mm2_2 TwA0_1 (rcps l0_1)) := ⟨_, by first | omega | (simp at *; done) | (simp at *; omega), by first | omega | (simp at *; done) | (simp at *; omega), ho1⟩
  obtain ⟨qTwA0_2, hqTwA0_2, hqqTwA0_2, HOTwA0_2⟩ : ∃ q, mm2_2 ≤ q ∧ mm2_3 ≤ w2.heap.size ∧ Hid (Own w2 q mm2_3 TwA0_2 (hds l0_2)) := ⟨_, by first | omega | (simp at *; done) | (simp at *; omega), by first | omega | (simp at *; done) | (simp at *; omega), ho2⟩
  obtain ⟨qTwA0_3, hqTwA0_3, hqqTwA0_3, HOTwA0_3⟩ : ∃ q, mm2_3 ≤ q ∧ mm2_4 ≤ w2.heap.size ∧ Hid (Own w2 q mm2_4 TwA0_3 (strs l0_3)) := ⟨_, by first | omega | (simp at *; done) | (simp at *; omega), by first | omega | (simp at *; done) | (simp at *; omega), ho3⟩
  obtain ⟨qTwA0_4, hqTwA0_4, hqqTwA0_4, HOTwA0_4⟩ : ∃ q, mm2_4 ≤ q ∧ w2.heap.size ≤ w2.heap.size ∧ Hid (Own w2 q w2.heap.size TwA0_4 (strs l0_4)) := ⟨_, by first | omega | (simp at *; done) | (simp at *; omega), by first | omega | (simp at *; done) | (simp at *; omega), ho4⟩
  clear hb2 ho0 ho1 ho2 ho3 ho4
  go_wp2_with fail
  refine (HSP hbk _ _ _ _ _ _ _ _ _ _ _ _ _ _ _ _ _ _ _ _ _ (HOTwA0_0.out.rd) rfl (HOTwA0_1.out.rd) rfl (HOTwA0_2.out.rd) rfl (HOTwA0_3.out.rd) rfl (HOTwA0_4.out.rd) rfl).mono ?_
  rintro e w3 ⟨wAr0_0, wcr0_0, rfl, ho0, hb3⟩
  have hz3 : w2.heap.size ≤ w3.heap.size := by have := hb3.size; first | omega | (simp at this; omega)
  have hzz3 : w.heap.size ≤ w3.heap.size := by omega
  have HB3 : Hid (Below w.heap.size w w3) := below_then (by ((repeat (first | refine Below.alloc ?_ (by first | omega | (simp; done) | (simp; omega)) _ | refine Below.drew ?_)); exact HB2.out)) hb3 (by first | omega | (simp; done) | (simp; omega))
  replace HXaB : Hid (Box w3 (w.heap.size) [.int .i64 z0_0, .slice A0_0 n0_0 c0_0, .slice A0_1 n0_1 c0_1, .slice A0_2 n0_2 c0_2, .int .i64 z0_1, .slice A0_3 n0_3 c0_3, .int .i64 z0_2, .slice A0_4 n0_4 c0_4, .int .i64 d0_0.num, .int .i64 d0_0.size, .string d0_0.root, .int .i64 d0_0.taken, .string d0_0.troot]) := Box.below HXaB.out hb3
  clear hxaB hkaB
  have hxaB := HXaB.out.2
  have hkaB := HXaB.out.1
  replace HOTwA0_0 := Lib.hid (HOTwA0_0.out.below hb3)
  replace HOTwA0_1 := Lib.hid (HOTwA0_1.out.below hb3)
  replace HOTwA0_2 := Lib.hid (HOTwA0_2.out.below hb3)
  replace HOTwA0_3 := Lib.hid (HOTwA0_3.out.below hb3)
  replace HOTwA0_4 := Lib.hid (HOTwA0_4.out.below hb3)
  obtain ⟨qwAr0_0, hqwAr0_0, HOwAr0_0⟩ : ∃ q, w2.heap.size ≤ q ∧ Hid (Own w3 q w3.heap.size wAr0_0 (strs lr0_0)) := ⟨_, by first | omega | (simp at *; done) | (simp at *; omega), ho0⟩
  clear hb3 ho0
  go_wp2_with fail
  refine (toBroker_c z0_0 z0_1 z0_2 d0_0 A0_0 A0_1 A0_2 A0_3 A0_4 c0_0 c0_1 c0_2 c0_3 c0_4 n0_0 n0_1 n0_2 n0_3 n0_4 l0_0 l0_1 l0_2 l0_3 l0_4 _ _ _ _ _ _ _ _ _ _ _ (hrA0_0.below (by ((repeat (first | refine Below.alloc ?_ (by first | omega | (simp; done) | (simp; omega)) _ | refine Below.drew ?_)); exact HB3.out))) HNA0_0.out hmA0_0 (hrA0_1.below (by ((repeat (first | refine Below.alloc ?_ (by first | omega | (simp; done) | (simp; omega)) _ | refine Below.drew ?_)); exact HB3.out))) HNA0_1.out hmA0_1 (hrA0_2.below (by ((repeat (first | refine Below.alloc ?_ (by first | omega | (simp; done) | (simp; omega)) _ | refine Below.drew ?_)); exact HB3.out))) HNA0_2.out hmA0_2 (hrA0_3.below (by ((repeat (first | refine Below.alloc ?_ (by first | omega | (simp; done) | (simp; omega)) _ | refine Below.drew ?_)); exact HB3.out))) HNA0_3.out hmA0_3 (hrA0_4.below (by ((repeat (first | refine Below.alloc ?_ (by first | omega | (simp; done) | (simp; omega)) _ | refine Below.drew ?_)); exact HB3.out))) HNA0_4.out hmA0_4).mono ?_
  rintro e w4 ⟨Tx0A0_0, Tx0A0_1, Tx0A0_2, Tx0A0_3, Tx0A0_4, mm4_1, mm4_2, mm4_3, mm4_4, rfl, le4_0, le4_1, le4_2, le4_3, le4_4, ho0, ho1, ho2, ho3, ho4, hb4⟩
  have hz4 : w3.heap.size + 1 ≤ w4.heap.size := by have := hb4.size; first | omega | (simp at this; omega)
  have hzz4 : w.heap.size ≤ w4.heap.size := by omega
  have HB4 : Hid (Below w.heap.size w w4) := below_then (by ((repeat (first | refine Below.alloc ?_ (by first | omega | (simp; done) | (simp; omega)) _ | refine Below.drew ?_)); exact HB3.out)) hb4 (by first | omega | (simp; done) | (simp; omega))
  replace HXaB : Hid (Box w4 (w.heap.size) [.int .i64 z0_0, .slice A0_0 n0_0 c0_0, .slice A0_1 n0_1 c0_1, .slice A0_2 n0_2 c0_2, .int .i64 z0_1, .slice A0_3 n0_3 c0_3, .int .i64 z0_2, .slice A0_4 n0_4 c0_4, .int .i64 d0_0.num, .int .i64 d0_0.size, .string d0_0.root, .int .i64 d0_0.taken, .string d0_0.troot]) := Box.below (HXaB.out.alloc _) hb4
  clear hxaB hkaB
  have hxaB := HXaB.out.2
  have hkaB := HXaB.out.1
  have HXw0 : Hid (Box w4 (w3.heap.size) [.slice wAr0_0 nr0_0 wcr0_0]) := Box.below (Box.new0 _ _ _) hb4
  have hxw0 := HXw0.out.2
  have hkw0 := HXw0.out.1
  replace HOTwA0_0 := Lib.hid ((HOTwA0_0.out.alloc _).below hb4)
  replace HOTwA0_1 := Lib.hid ((HOTwA0_1.out.alloc _).below hb4)
  replace HOTwA0_2 := Lib.hid ((HOTwA0_2.out.alloc _).below hb4)
  replace HOTwA0_3 := Lib.hid ((HOTwA0_3.out.alloc _).below hb4)
  replace HOTwA0_4 := Lib.hid ((HOTwA0_4.out.alloc _).below hb4)
  replace HOwAr0_0 := Lib.hid ((HOwAr0_0.out.alloc _).below hb4)
  have hpm4 : w3.heap.size + 1 ≤ mm4_1 := by first | omega | (simp at le4_0; omega)
  obtain ⟨qTx0A0_0, hqTx0A0_0, hqqTx0A0_0, HOTx0A0_0⟩ : ∃ q, w3.heap.size + 1 ≤ q ∧ mm4_1 ≤ w4.heap.size ∧ Hid (Own w4 q mm4_1 Tx0A0_0 (ents l0_0)) := ⟨_, by first | omega | (simp at *; done) | (simp at *; omega), by first | omega | (simp at *; done) | (simp at *; omega), ho0⟩
  obtain ⟨qTx0A0_1, hqTx0A0_1, hqqTx0A0_1, HOTx0A0_1⟩ : ∃ q, mm4_1 ≤ q ∧ mm4_2 ≤ w4.heap.size ∧ Hid (Own w4 q mm4_2 Tx0A0_1 (rcps l0_1)) := ⟨_, by first | omega | (simp at *; done) | (simp at *; omega), by first | omega | (simp at *; done) | (simp at *; omega), ho1⟩
  obtain ⟨qTx0A0_2, hqTx0A0_2, hqqTx0A0_2, HOTx0A0_2⟩ : ∃ q, mm4_2 ≤ q ∧ mm4_3 ≤ w4.heap.size ∧ Hid (Own w4 q mm4_3 Tx0A0_2 (hds l0_2)) := ⟨_, by first | omega | (simp at *; done) | (simp at *; omega), by first | omega | (simp at *; done) | (simp at *; omega), ho2⟩
  obtain ⟨qTx0A0_3, hqTx0A0_3, hqqTx0A0_3, HOTx0A0_3⟩ : ∃ q, mm4_3 ≤ q ∧ mm4_4 ≤ w4.heap.size ∧ Hid (Own w4 q mm4_4 Tx0A0_3 (strs l0_3)) := ⟨_, by first | omega | (simp at *; done) | (simp at *; omega), by first | omega | (simp at *; done) | (simp at *; omega), ho3⟩
  obtain ⟨qTx0A0_4, hqTx0A0_4, hqqTx0A0_4, HOTx0A0_4⟩ : ∃ q, mm4_4 ≤ q ∧ w4.heap.size ≤ w4.heap.size ∧ Hid (Own w4 q w4.heap.size Tx0A0_4 (strs l0_4)) := ⟨_, by first | omega | (simp at *; done) | (simp at *; omega), by first | omega | (simp at *; done) | (simp at *; omega), ho4⟩
  clear hb4 ho0 ho1 ho2 ho3 ho4
  go_wp2_with fail
  refine (HIM hbk _ _ _ _ _ _ _ _ _ _ _ _ _ _ _ _ _ _ _ _ _ ((HOTx0A0_0.out.rd).alloc _) rfl ((HOTx0A0_1.out.rd).alloc _) rfl ((HOTx0A0_2.out.rd).alloc _) rfl ((HOTx0A0_3.out.rd).alloc _) rfl ((HOTx0A0_4.out.rd).alloc _) rfl).mono ?_
  rintro e w5 ⟨gAr0_0, gcr0_0, rfl, ho0, hb5⟩
  have hz5 : w4.heap.size + 1 ≤ w5.heap.size := by have := hb5.size; first | omega | (simp at this; omega)
  have hzz5 : w.heap.size ≤ w5.heap.size := by omega
  have HB5 : Hid (Below w.heap.size w w5) := below_then (by ((repeat (first | refine Below.alloc ?_ (by first | omega | (simp; done) | (simp; omega)) _ | refine Below.drew ?_)); exact HB4.out)) hb5 (by first | omega | (simp; done) | (simp; omega))
  replace HXaB : Hid (Box w5 (w.heap.size) [.int .i64 z0_0, .slice A0_0 n0_0 c0_0, .slice A0_1 n0_1 c0_1, .slice A0_2 n0_2 c0_2, .int .i64 z0_1, .slice A0_3 n0_3 c0_3, .int .i64 z0_2, .slice A0_4 n0_4 c0_4, .int .i64 d0_0.num, .int .i64 d0_0.size, .string d0_0.root, .int .i64 d0_0.taken, .string d0_0.troot]) := Box.below (HXaB.out.alloc _) hb5
  clear hxaB hkaB
  have hxaB := HXaB.out.2
  have hkaB := HXaB.out.1
  replace HXw0 : Hid (Box w5 (w3.heap.size) [.slice wAr0_0 nr0_0 wcr0_0]) := Box.below (HXw0.out.alloc _) hb5
  clear hxw0 hkw0
  have hxw0 := HXw0.out.2
  have hkw0 := HXw0.out.1
  have HXx0 : Hid (Box w5 (w4.heap.size) [.int .i64 z0_0, .slice Tx0A0_0 n0_0 n0_0, .slice Tx0A0_1 n0_1 n0_1, .slice Tx0A0_2 n0_2 n0_2, .int .i64 z0_1, .slice Tx0A0_3 n0_3 n0_3, .int .i64 z0_2, .slice Tx0A0_4 n0_4 n0_4, .int .i64 d0_0.num, .int .i64 d0_0.size, .string d0_0.root, .int .i64 d0_0.taken, .string d0_0.troot]) := Box.below (Box.new0 _ _ _) hb5
  have hxx0 := HXx0.out.2
  have hkx0 := HXx0.out.1
  replace HOTwA0_0 := Lib.hid ((HOTwA0_0.out.alloc _).below hb5)
  replace HOTwA0_1 := Lib.hid ((HOTwA0_1.out.alloc _).below hb5)
  replace HOTwA0_2 := Lib.hid ((HOTwA0_2.out.alloc _).below hb5)
  replace HOTwA0_3 := Lib.hid ((HOTwA0_3.out.alloc _).below hb5)
  replace HOTwA0_4 := Lib.hid ((HOTwA0_4.out.alloc _).below hb5)
  replace HOwAr0_0 := Lib.hid ((HOwAr0_0.out.alloc _).below hb5)
  replace HOTx0A0_0 := Lib.hid ((HOTx0A0_0.out.alloc _).below hb5)
  replace HOTx0A0_1 := Lib.hid ((HOTx0A0_1.out.alloc _).below hb5)
  replace HOTx0A0_2 := Lib.hid ((HOTx0A0_2.out.alloc _).below hb5)
  replace HOTx0A0_3 := Lib.hid ((HOTx0A0_3.out.alloc _).below hb5)
  replace HOTx0A0_4 := Lib.hid ((HOTx0A0_4.out.alloc _).below hb5)
  obtain ⟨qgAr0_0, hqgAr0_0, HOgAr0_0⟩ : ∃ q, w4.heap.size + 1 ≤ q ∧ Hid (Own w5 q w5.heap.size gAr0_0 (strs lr0_0)) := ⟨_, by first | omega | (simp at *; done) | (simp at *; omega), ho0⟩
  clear hb5 ho0
  go_wp2_with fail
  refine (eqDisk_c  gAr0_0 gcr0_0 nr0_0 lr0_0 wAr0_0 wcr0_0 _ _ _ _  _ ((HOgAr0_0.out.rd).alloc _) ((HOwAr0_0.out.rd).alloc _) HRNAr0_0.out (by unfold maxLen; omega)).mono ?_
  rintro e w6 ⟨rfl, hb6⟩
  have hz6 : w5.heap.size + 1 ≤ w6.heap.size := by have := hb6.size; first | omega | (simp at this; omega)
  have hzz6 : w.heap.size ≤ w6.heap.size := by omega
  have HB6 : Hid (Below w.heap.size w w6) := below_then (by ((repeat (first | refine Below.alloc ?_ (by first | omega | (simp; done) | (simp; omega)) _ | refine Below.drew ?_)); exact HB5.out)) hb6 (by first | omega | (simp; done) | (simp; omega))
  replace HXaB : Hid (Box w6 (w.heap.size) [.int .i64 z0_0, .slice A0_0 n0_0 c0_0, .slice A0_1 n0_1 c0_1, .slice A0_2 n0_2 c0_2, .int .i64 z0_1, .slice A0_3 n0_3 c0_3, .int .i64 z0_2, .slice A0_4 n0_4 c0_4, .int .i64 d0_0.num, .int .i64 d0_0.size, .string d0_0.root, .int .i64 d0_0.taken, .string d0_0.troot]) := Box.below (HXaB.out.alloc _) hb6
  clear hxaB hkaB
  have hxaB := HXaB.out.2
  have hkaB := HXaB.out.1
  replace HXw0 : Hid (Box w6 (w3.heap.size) [.slice wAr0_0 nr0_0 wcr0_0]) := Box.below (HXw0.out.alloc _) hb6
  clear hxw0 hkw0
  have hxw0 := HXw0.out.2
  have hkw0 := HXw0.out.1
  replace HXx0 : Hid (Box w6 (w4.heap.size) [.int .i64 z0_0, .slice Tx0A0_0 n0_0 n0_0, .slice Tx0A0_1 n0_1 n0_1, .slice Tx0A0_2 n0_2 n0_2, .int .i64 z0_1, .slice Tx0A0_3 n0_3 n0_3, .int .i64 z0_2, .slice Tx0A0_4 n0_4 n0_4, .int .i64 d0_0.num, .int .i64 d0_0.size, .string d0_0.root, .int .i64 d0_0.taken, .string d0_0.troot]) := Box.below (HXx0.out.alloc _) hb6
  clear hxx0 hkx0
  have hxx0 := HXx0.out.2
  have hkx0 := HXx0.out.1
  have HXg0 : Hid (Box w6 (w5.heap.size) [.slice gAr0_0 nr0_0 gcr0_0]) := Box.below (Box.new0 _ _ _) hb6
  have hxg0 := HXg0.out.2
  have hkg0 := HXg0.out.1
  replace HOTwA0_0 := Lib.hid ((HOTwA0_0.out.alloc _).below hb6)
  replace HOTwA0_1 := Lib.hid ((HOTwA0_1.out.alloc _).below hb6)
  replace HOTwA0_2 := Lib.hid ((HOTwA0_2.out.alloc _).below hb6)
  replace HOTwA0_3 := Lib.hid ((HOTwA0_3.out.alloc _).below hb6)
  replace HOTwA0_4 := Lib.hid ((HOTwA0_4.out.alloc _).below hb6)
  replace HOwAr0_0 := Lib.hid ((HOwAr0_0.out.alloc _).below hb6)
  replace HOTx0A0_0 := Lib.hid ((HOTx0A0_0.out.alloc _).below hb6)
  replace HOTx0A0_1 := Lib.hid ((HOTx0A0_1.out.alloc _).below hb6)
  replace HOTx0A0_2 := Lib.hid ((HOTx0A0_2.out.alloc _).below hb6)
  replace HOTx0A0_3 := Lib.hid ((HOTx0A0_3.out.alloc _).below hb6)
  replace HOTx0A0_4 := Lib.hid ((HOTx0A0_4.out.alloc _).below hb6)
  replace HOgAr0_0 := Lib.hid ((HOgAr0_0.out.alloc _).below hb6)
  clear hb6
  go_wp2_with fail
  go_region_held3 (fun w' => (∀ o, w'.cell? ⟨w4.heap.size, o, none⟩ = [.int .i64 z0_0, .slice Tx0A0_0 n0_0 n0_0, .slice Tx0A0_1 n0_1 n0_1, .slice Tx0A0_2 n0_2 n0_2, .int .i64 z0_1, .slice Tx0A0_3 n0_3 n0_3, .int .i64 z0_2, .slice Tx0A0_4 n0_4 n0_4, .int .i64 d0_0.num, .int .i64 d0_0.size, .string d0_0.root, .int .i64 d0_0.taken, .string d0_0.troot][o]?) ∧ (∀ o, w'.cell? ⟨w.heap.size, o, none⟩ = [.int .i64 z0_0, .slice A0_0 n0_0 c0_0, .slice A0_1 n0_1 c0_1, .slice A0_2 n0_2 c0_2, .int .i64 z0_1, .slice A0_3 n0_3 c0_3, .int .i64 z0_2, .slice A0_4 n0_4 c0_4, .int .i64 d0_0.num, .int .i64 d0_0.size, .string d0_0.root, .int .i64 d0_0.taken, .string d0_0.troot][o]?))
   (first | exact ⟨HXx0.out.2, HXaB.out.2⟩ | exact ⟨HPx0.out.2, HPaB.out.2⟩ | exact ⟨HQx0.out.2, HQaB.out.2⟩)
   (first
   | (go_at_call 13
      with_reducible refine (toBroker_c z0_0 z0_1 z0_2 d0_0 A0_0 A0_1 A0_2 A0_3 A0_4 c0_0 c0_1 c0_2 c0_3 c0_4 n0_0 n0_1 n0_2 n0_3 n0_4 l0_0 l0_1 l0_2 l0_3 l0_4 _ _ _ _ _ _ _ _ _ _ _ (hrA0_0.below (by ((repeat (first | refine Below.alloc ?_ (by first | omega | (simp; done) | (simp; omega)) _ | refine Below.drew ?_)); exact HB6.out))) HNA0_0.out hmA0_0 (hrA0_1.below (by ((repeat (first | refine Below.alloc ?_ (by first | omega | (simp; done) | (simp; omega)) _ | refine Below.drew ?_)); exact HB6.out))) HNA0_1.out hmA0_1 (hrA0_2.below (by ((repeat (first | refine Below.alloc ?_ (by first | omega | (simp; done) | (simp; omega)) _ | refine Below.drew ?_)); exact HB6.out))) HNA0_2.out hmA0_2 (hrA0_3.below (by ((repeat (first | refine Below.alloc ?_ (by first | omega | (simp; done) | (simp; omega)) _ | refine Below.drew ?_)); exact HB6.out))) HNA0_3.out hmA0_3 (hrA0_4.below (by ((repeat (first | refine Below.alloc ?_ (by first | omega | (simp; done) | (simp; omega)) _ | refine Below.drew ?_)); exact HB6.out))) HNA0_4.out hmA0_4).mono ?_
      rintro e w7 ⟨T7A0_0, T7A0_1, T7A0_2, T7A0_3, T7A0_4, mm7_1, mm7_2, mm7_3, mm7_4, rfl, le7_0, le7_1, le7_2, le7_3, le7_4, hod0, hod1, hod2, hod3, hod4, hb7⟩
      have HPx0 : Hid (Box w7 (w4.heap.size) [.int .i64 z0_0, .slice Tx0A0_0 n0_0 n0_0, .slice Tx0A0_1 n0_1 n0_1, .slice Tx0A0_2 n0_2 n0_2, .int .i64 z0_1, .slice Tx0A0_3 n0_3 n0_3, .int .i64 z0_2, .slice Tx0A0_4 n0_4 n0_4, .int .i64 d0_0.num, .int .i64 d0_0.size, .string d0_0.root, .int .i64 d0_0.taken, .string d0_0.troot]) := Box.below (HXx0.out.drew) hb7
      have HPaB : Hid (Box w7 (w.heap.size) [.int .i64 z0_0, .slice A0_0 n0_0 c0_0, .slice A0_1 n0_1 c0_1, .slice A0_2 n0_2 c0_2, .int .i64 z0_1, .slice A0_3 n0_3 c0_3, .int .i64 z0_2, .slice A0_4 n0_4 c0_4, .int .i64 d0_0.num, .int .i64 d0_0.size, .string d0_0.root, .int .i64 d0_0.taken, .string d0_0.troot]) := Box.below (HXaB.out.drew) hb7
      have HPOTwA0_0 : Hid (Own w7 qTwA0_0 mm2_1 TwA0_0 (ents l0_0)) := (HOTwA0_0.out.drew).below hb7
      have HPOTwA0_1 : Hid (Own w7 qTwA0_1 mm2_2 TwA0_1 (rcps l0_1)) := (HOTwA0_1.out.drew).below hb7
      have HPOTwA0_2 : Hid (Own w7 qTwA0_2 mm2_3 TwA0_2 (hds l0_2)) := (HOTwA0_2.out.drew).below hb7
      have HPOTwA0_3 : Hid (Own w7 qTwA0_3 mm2_4 TwA0_3 (strs l0_3)) := (HOTwA0_3.out.drew).below hb7
      have HPOTwA0_4 : Hid (Own w7 qTwA0_4 w2.heap.size TwA0_4 (strs l0_4)) := (HOTwA0_4.out.drew).below hb7
      have HPOwAr0_0 : Hid (Own w7 qwAr0_0 w3.heap.size wAr0_0 (strs lr0_0)) := (HOwAr0_0.out.drew).below hb7
      have HPOTx0A0_0 : Hid (Own w7 qTx0A0_0 mm4_1 Tx0A0_0 (ents l0_0)) := (HOTx0A0_0.out.drew).below hb7
      have HPOTx0A0_1 : Hid (Own w7 qTx0A0_1 mm4_2 Tx0A0_1 (rcps l0_1)) := (HOTx0A0_1.out.drew).below hb7
      have HPOTx0A0_2 : Hid (Own w7 qTx0A0_2 mm4_3 Tx0A0_2 (hds l0_2)) := (HOTx0A0_2.out.drew).below hb7
      have HPOTx0A0_3 : Hid (Own w7 qTx0A0_3 mm4_4 Tx0A0_3 (strs l0_3)) := (HOTx0A0_3.out.drew).below hb7
      have HPOTx0A0_4 : Hid (Own w7 qTx0A0_4 w4.heap.size Tx0A0_4 (strs l0_4)) := (HOTx0A0_4.out.drew).below hb7
      have HPOgAr0_0 : Hid (Own w7 qgAr0_0 w5.heap.size gAr0_0 (strs lr0_0)) := (HOgAr0_0.out.drew).below hb7
      have hz7 : w6.heap.size ≤ w7.heap.size := hb7.size
      have HB7 : Hid (Below w.heap.size w w7) := below_then HB6.out.drew hb7 (by first | omega | (simp; omega))
      have HBB7 := Lib.hid hb7
      clear hb7)
   | (go_at_call 17
      with_reducible refine (eqBroker_c z0_0 z0_1 z0_2 d0_0 Tx0A0_0 Tx0A0_1 Tx0A0_2 Tx0A0_3 Tx0A0_4 n0_0 n0_1 n0_2 n0_3 n0_4 n0_0 n0_1 n0_2 n0_3 n0_4 l0_0 l0_1 l0_2 l0_3 l0_4 T7A0_0 T7A0_1 T7A0_2 T7A0_3 T7A0_4 n0_0 n0_1 n0_2 n0_3 n0_4 _ _ _ _ _ _ _ _ _ _ _ _ _ _ _ _ _ _ _ _  _ (HPOTx0A0_0.out.rd) hod0.rd HNA0_0.out (by unfold maxLen; omega) (HPOTx0A0_1.out.rd) hod1.rd HNA0_1.out (by unfold maxLen; omega) (HPOTx0A0_2.out.rd) hod2.rd HNA0_2.out (by unfold maxLen; omega) (HPOTx0A0_3.out.rd) hod3.rd HNA0_3.out (by unfold maxLen; omega) (HPOTx0A0_4.out.rd) hod4.rd HNA0_4.out (by unfold maxLen; omega)).mono ?_
      rintro e w8 ⟨rfl, hb8⟩
      have HQx0 : Hid (Box w8 (w4.heap.size) [.int .i64 z0_0, .slice Tx0A0_0 n0_0 n0_0, .slice Tx0A0_1 n0_1 n0_1, .slice Tx0A0_2 n0_2 n0_2, .int .i64 z0_1, .slice Tx0A0_3 n0_3 n0_3, .int .i64 z0_2, .slice Tx0A0_4 n0_4 n0_4, .int .i64 d0_0.num, .int .i64 d0_0.size, .string d0_0.root, .int .i64 d0_0.taken, .string d0_0.troot]) := Box.below HPx0.out hb8
      have HQaB : Hid (Box w8 (w.heap.size) [.int .i64 z0_0, .slice A0_0 n0_0 c0_0, .slice A0_1 n0_1 c0_1, .slice A0_2 n0_2 c0_2, .int .i64 z0_1, .slice A0_3 n0_3 c0_3, .int .i64 z0_2, .slice A0_4 n0_4 c0_4, .int .i64 d0_0.num, .int .i64 d0_0.size, .string d0_0.root, .int .i64 d0_0.taken, .string d0_0.troot]) := Box.below HPaB.out hb8
      have HQOTwA0_0 := Lib.hid (HPOTwA0_0.out.below hb8)
      have HQOTwA0_1 := Lib.hid (HPOTwA0_1.out.below hb8)
      have HQOTwA0_2 := Lib.hid (HPOTwA0_2.out.below hb8)
      have HQOTwA0_3 := Lib.hid (HPOTwA0_3.out.below hb8)
      have HQOTwA0_4 := Lib.hid (HPOTwA0_4.out.below hb8)
      have HQOwAr0_0 := Lib.hid (HPOwAr0_0.out.below hb8)
      have HQOTx0A0_0 := Lib.hid (HPOTx0A0_0.out.below hb8)
      have HQOTx0A0_1 := Lib.hid (HPOTx0A0_1.out.below hb8)
      have HQOTx0A0_2 := Lib.hid (HPOTx0A0_2.out.below hb8)
      have HQOTx0A0_3 := Lib.hid (HPOTx0A0_3.out.below hb8)
      have HQOTx0A0_4 := Lib.hid (HPOTx0A0_4.out.below hb8)
      have HQOgAr0_0 := Lib.hid (HPOgAr0_0.out.below hb8)
      have HQw0 : Hid (Box w8 (w3.heap.size) [.slice wAr0_0 nr0_0 wcr0_0]) := Box.below (Box.below2 HXw0.out.drew HBB7.out) hb8
      have HQg0 : Hid (Box w8 (w5.heap.size) [.slice gAr0_0 nr0_0 gcr0_0]) := Box.below (Box.below2 HXg0.out.drew HBB7.out) hb8
      have hz8 : w7.heap.size ≤ w8.heap.size := hb8.size
      have HB8 : Hid (Below w.heap.size w w8) := below_then HB7.out hb8 (by first | omega | exact HB7.out.size)
      clear hb8))
  have hzz8 : w.heap.size ≤ w8.heap.size := by omega
  replace HOTwA0_0 := HQOTwA0_0
  clear HQOTwA0_0 HPOTwA0_0
  replace HOTwA0_1 := HQOTwA0_1
  clear HQOTwA0_1 HPOTwA0_1
  replace HOTwA0_2 := HQOTwA0_2
  clear HQOTwA0_2 HPOTwA0_2
  replace HOTwA0_3 := HQOTwA0_3
  clear HQOTwA0_3 HPOTwA0_3
  replace HOTwA0_4 := HQOTwA0_4
  clear HQOTwA0_4 HPOTwA0_4
  replace HOwAr0_0 := HQOwAr0_0
  clear HQOwAr0_0 HPOwAr0_0
  replace HOTx0A0_0 := HQOTx0A0_0
  clear HQOTx0A0_0 HPOTx0A0_0
  replace HOTx0A0_1 := HQOTx0A0_1
  clear HQOTx0A0_1 HPOTx0A0_1
  replace HOTx0A0_2 := HQOTx0A0_2
  clear HQOTx0A0_2 HPOTx0A0_2
  replace HOTx0A0_3 := HQOTx0A0_3
  clear HQOTx0A0_3 HPOTx0A0_3
  replace HOTx0A0_4 := HQOTx0A0_4
  clear HQOTx0A0_4 HPOTx0A0_4
  replace HOgAr0_0 := HQOgAr0_0
  clear HQOgAr0_0 HPOgAr0_0
  replace HXaB := HQaB
  clear HQaB HPaB hxaB hkaB
  have hxaB := HXaB.out.2
  have hkaB := HXaB.out.1
  replace HXw0 := HQw0
  clear HQw0 hxw0 hkw0
  have hxw0 := HXw0.out.2
  have hkw0 := HXw0.out.1
  replace HXx0 := HQx0
  clear HQx0 HPx0 hxx0 hkx0
  have hxx0 := HXx0.out.2
  have hkx0 := HXx0.out.1
  replace HXg0 := HQg0
  clear HQg0 hxg0 hkg0
  have hxg0 := HXg0.out.2
  have hkg0 := HXg0.out.1
  go_wp2_with fail
  refine (markBroker_c z0_0 z0_1 z0_2 d0_0 Tx0A0_0 Tx0A0_1 Tx0A0_2 Tx0A0_3 Tx0A0_4 n0_0 n0_1 n0_2 n0_3 n0_4 n0_0 n0_1 n0_2 n0_3 n0_4 qTx0A0_0 mm4_1 qTx0A0_1 mm4_2 qTx0A0_2 mm4_3 qTx0A0_3 mm4_4 qTx0A0_4 w4.heap.size (1) _ (ents l0_0) (rcps l0_1) (hds l0_2) (strs l0_3) (strs l0_4) _ (by omega) (HOTx0A0_0.out) (by rw [ents_len, HNA0_0.out]) (by omega) (HOTx0A0_1.out) (by rw [rcps_len, HNA0_1.out]) (by omega) (HOTx0A0_2.out) (by rw [hds_len, HNA0_2.out]) (by omega) (HOTx0A0_3.out) (by rw [strs_len]; exact HNA0_3.out) (by omega) (HOTx0A0_4.out) (by rw [strs_len]; exact HNA0_4.out) (by omega) (by omega) (by omega) (by omega) (by omega) (by omega) (by omega) (by omega) (by omega) (by omega) (by omega) (by omega)).mono ?_
  rintro e w9 ⟨v9_1, v9_2, v9_3, v9_4, rfl, ⟨hp9_0, hp9_1, hp9_2, hp9_3, hp9_4⟩, ho0, ho1, ho2, ho3, ho4⟩
  have hz9_0 : w8.heap.size ≤ v9_1.heap.size := by have := hp9_0.size; first | omega | (simp at this; omega)
  have hz9_1 : v9_1.heap.size ≤ v9_2.heap.size := by have := hp9_1.size; first | omega | (simp at this; omega)
  have hz9_2 : v9_2.heap.size ≤ v9_3.heap.size := by have := hp9_2.size; first | omega | (simp at this; omega)
  have hz9_3 : v9_3.heap.size ≤ v9_4.heap.size := by have := hp9_3.size; first | omega | (simp at this; omega)
  have hz9_4 : v9_4.heap.size ≤ w9.heap.size := by have := hp9_4.size; first | omega | (simp at this; omega)
  have hzz9 : w.heap.size ≤ w9.heap.size := by omega
  have HB9 : Hid (Below w.heap.size w w9) := (below_only (below_only (below_only (below_only (below_only (by ((repeat (first | refine Below.alloc ?_ (by first | omega | (simp; done) | (simp; omega)) _ | refine Below.drew ?_)); exact HB8.out)) hp9_0 (by omega) (by first | omega | (simp; omega))) hp9_1 (by omega) (by first | omega | (simp; omega))) hp9_2 (by omega) (by first | omega | (simp; omega))) hp9_3 (by omega) (by first | omega | (simp; omega))) hp9_4 (by omega) (by first | omega | (simp; omega)))
  replace HXaB : Hid (Box w9 (w.heap.size) [.int .i64 z0_0, .slice A0_0 n0_0 c0_0, .slice A0_1 n0_1 c0_1, .slice A0_2 n0_2 c0_2, .int .i64 z0_1, .slice A0_3 n0_3 c0_3, .int .i64 z0_2, .slice A0_4 n0_4 c0_4, .int .i64 d0_0.num, .int .i64 d0_0.size, .string d0_0.root, .int .i64 d0_0.taken, .string d0_0.troot]) := (Box.only (Box.only (Box.only (Box.only (Box.only HXaB.out hp9_0 (by first | omega | (simp; omega))) hp9_1 (by first | omega | (simp; omega))) hp9_2 (by first | omega | (simp; omega))) hp9_3 (by first | omega | (simp; omega))) hp9_4 (by first | omega | (simp; omega)))
  clear hxaB hkaB
  have hxaB := HXaB.out.2
  have hkaB := HXaB.out.1
  replace HXw0 : Hid (Box w9 (w3.heap.size) [.slice wAr0_0 nr0_0 wcr0_0]) := (Box.only (Box.only (Box.only (Box.only (Box.only HXw0.out hp9_0 (by first | omega | (simp; omega))) hp9_1 (by first | omega | (simp; omega))) hp9_2 (by first | omega | (simp; omega))) hp9_3 (by first | omega | (simp; omega))) hp9_4 (by first | omega | (simp; omega)))
  clear hxw0 hkw0
  have hxw0 := HXw0.out.2
  have hkw0 := HXw0.out.1
  replace HXx0 : Hid (Box w9 (w4.heap.size) [.int .i64 z0_0, .slice Tx0A0_0 n0_0 n0_0, .slice Tx0A0_1 n0_1 n0_1, .slice Tx0A0_2 n0_2 n0_2, .int .i64 z0_1, .slice Tx0A0_3 n0_3 n0_3, .int .i64 z0_2, .slice Tx0A0_4 n0_4 n0_4, .int .i64 d0_0.num, .int .i64 d0_0.size, .string d0_0.root, .int .i64 d0_0.taken, .string d0_0.troot]) := (Box.only (Box.only (Box.only (Box.only (Box.only HXx0.out hp9_0 (by first | omega | (simp; omega))) hp9_1 (by first | omega | (simp; omega))) hp9_2 (by first | omega | (simp; omega))) hp9_3 (by first | omega | (simp; omega))) hp9_4 (by first | omega | (simp; omega)))
  clear hxx0 hkx0
  have hxx0 := HXx0.out.2
  have hkx0 := HXx0.out.1
  replace HXg0 : Hid (Box w9 (w5.heap.size) [.slice gAr0_0 nr0_0 gcr0_0]) := (Box.only (Box.only (Box.only (Box.only (Box.only HXg0.out hp9_0 (by first | omega | (simp; omega))) hp9_1 (by first | omega | (simp; omega))) hp9_2 (by first | omega | (simp; omega))) hp9_3 (by first | omega | (simp; omega))) hp9_4 (by first | omega | (simp; omega)))
  clear hxg0 hkg0
  have hxg0 := HXg0.out.2
  have hkg0 := HXg0.out.1
  replace HOTwA0_0 : Hid (Own w9 qTwA0_0 mm2_1 TwA0_0 (ents l0_0)) := (((((HOTwA0_0.out.only hp9_0 (by first | omega | (simp; omega))).only hp9_1 (by first | omega | (simp; omega))).only hp9_2 (by first | omega | (simp; omega))).only hp9_3 (by first | omega | (simp; omega))).only hp9_4 (by first | omega | (simp; omega)))
  replace HOTwA0_1 : Hid (Own w9 qTwA0_1 mm2_2 TwA0_1 (rcps l0_1)) := (((((HOTwA0_1.out.only hp9_0 (by first | omega | (simp; omega))).only hp9_1 (by first | omega | (simp; omega))).only hp9_2 (by first | omega | (simp; omega))).only hp9_3 (by first | omega | (simp; omega))).only hp9_4 (by first | omega | (simp; omega)))
  replace HOTwA0_2 : Hid (Own w9 qTwA0_2 mm2_3 TwA0_2 (hds l0_2)) := (((((HOTwA0_2.out.only hp9_0 (by first | omega | (simp; omega))).only hp9_1 (by first | omega | (simp; omega))).only hp9_2 (by first | omega | (simp; omega))).only hp9_3 (by first | omega | (simp; omega))).only hp9_4 (by first | omega | (simp; omega)))
  replace HOTwA0_3 : Hid (Own w9 qTwA0_3 mm2_4 TwA0_3 (strs l0_3)) := (((((HOTwA0_3.out.only hp9_0 (by first | omega | (simp; omega))).only hp9_1 (by first | omega | (simp; omega))).only hp9_2 (by first | omega | (simp; omega))).only hp9_3 (by first | omega | (simp; omega))).only hp9_4 (by first | omega | (simp; omega)))
  replace HOTwA0_4 : Hid (Own w9 qTwA0_4 w2.heap.size TwA0_4 (strs l0_4)) := (((((HOTwA0_4.out.only hp9_0 (by first | omega | (simp; omega))).only hp9_1 (by first | omega | (simp; omega))).only hp9_2 (by first | omega | (simp; omega))).only hp9_3 (by first | omega | (simp; omega))).only hp9_4 (by first | omega | (simp; omega)))
  replace HOwAr0_0 : Hid (Own w9 qwAr0_0 w3.heap.size wAr0_0 (strs lr0_0)) := (((((HOwAr0_0.out.only hp9_0 (by first | omega | (simp; omega))).only hp9_1 (by first | omega | (simp; omega))).only hp9_2 (by first | omega | (simp; omega))).only hp9_3 (by first | omega | (simp; omega))).only hp9_4 (by first | omega | (simp; omega)))
  replace HOgAr0_0 : Hid (Own w9 qgAr0_0 w5.heap.size gAr0_0 (strs lr0_0)) := (((((HOgAr0_0.out.only hp9_0 (by first | omega | (simp; omega))).only hp9_1 (by first | omega | (simp; omega))).only hp9_2 (by first | omega | (simp; omega))).only hp9_3 (by first | omega | (simp; omega))).only hp9_4 (by first | omega | (simp; omega)))
  clear HOTx0A0_0
  clear HOTx0A0_1
  clear HOTx0A0_2
  clear HOTx0A0_3
  clear HOTx0A0_4
  clear hp9_0 hp9_1 hp9_2 hp9_3 hp9_4 ho0 ho1 ho2 ho3 ho4
  generalize hkk : ((1 + n0_0 * 5 + n0_1 * 3 + n0_2 * 5 + n0_3 + n0_4 : Nat) : Int) = kk9
  have hk0k9 : 0 ≤ kk9 := by omega
  have hkdk9 : decide (kk9 < 0) = false := by simp; omega
  have HKk9 := Lib.hid hkk
  clear hkk
  go_wp2_with fail
  refine (eqDisk_c  gAr0_0 gcr0_0 nr0_0 lr0_0 wAr0_0 wcr0_0 _ _ _ _  _ (HOgAr0_0.out.rd) (HOwAr0_0.out.rd) HRNAr0_0.out (by unfold maxLen; omega)).mono ?_
  rintro e w10 ⟨rfl, hb10⟩
  have hz10 : w9.heap.size ≤ w10.heap.size := by have := hb10.size; first | omega | (simp at this; omega)
  have hzz10 : w.heap.size ≤ w10.heap.size := by omega
  have HB10 : Hid (Below w.heap.size w w10) := below_then (by ((repeat (first | refine Below.alloc ?_ (by first | omega | (simp; done) | (simp; omega)) _ | refine Below.drew ?_)); exact HB9.out)) hb10 (by first | omega | (simp; done) | (simp; omega))
  replace HXaB : Hid (Box w10 (w.heap.size) [.int .i64 z0_0, .slice A0_0 n0_0 c0_0, .slice A0_1 n0_1 c0_1, .slice A0_2 n0_2 c0_2, .int .i64 z0_1, .slice A0_3 n0_3 c0_3, .int .i64 z0_2, .slice A0_4 n0_4 c0_4, .int .i64 d0_0.num, .int .i64 d0_0.size, .string d0_0.root, .int .i64 d0_0.taken, .string d0_0.troot]) := Box.below HXaB.out hb10
  clear hxaB hkaB
  have hxaB := HXaB.out.2
  have hkaB := HXaB.out.1
  replace HXw0 : Hid (Box w10 (w3.heap.size) [.slice wAr0_0 nr0_0 wcr0_0]) := Box.below HXw0.out hb10
  clear hxw0 hkw0
  have hxw0 := HXw0.out.2
  have hkw0 := HXw0.out.1
  replace HXx0 : Hid (Box w10 (w4.heap.size) [.int .i64 z0_0, .slice Tx0A0_0 n0_0 n0_0, .slice Tx0A0_1 n0_1 n0_1, .slice Tx0A0_2 n0_2 n0_2, .int .i64 z0_1, .slice Tx0A0_3 n0_3 n0_3, .int .i64 z0_2, .slice Tx0A0_4 n0_4 n0_4, .int .i64 d0_0.num, .int .i64 d0_0.size, .string d0_0.root, .int .i64 d0_0.taken, .string d0_0.troot]) := Box.below HXx0.out hb10
  clear hxx0 hkx0
  have hxx0 := HXx0.out.2
  have hkx0 := HXx0.out.1
  replace HXg0 : Hid (Box w10 (w5.heap.size) [.slice gAr0_0 nr0_0 gcr0_0]) := Box.below HXg0.out hb10
  clear hxg0 hkg0
  have hxg0 := HXg0.out.2
  have hkg0 := HXg0.out.1
  replace HOTwA0_0 := Lib.hid (HOTwA0_0.out.below hb10)
  replace HOTwA0_1 := Lib.hid (HOTwA0_1.out.below hb10)
  replace HOTwA0_2 := Lib.hid (HOTwA0_2.out.below hb10)
  replace HOTwA0_3 := Lib.hid (HOTwA0_3.out.below hb10)
  replace HOTwA0_4 := Lib.hid (HOTwA0_4.out.below hb10)
  replace HOwAr0_0 := Lib.hid (HOwAr0_0.out.below hb10)
  replace HOgAr0_0 := Lib.hid (HOgAr0_0.out.below hb10)
  clear hb10
  go_wp2_with fail
  refine (markDisk_c  gAr0_0 gcr0_0 nr0_0 qgAr0_0 w5.heap.size (1) _ (strs lr0_0) _ (by omega) (HOgAr0_0.out) (by rw [strs_len]; exact HRNAr0_0.out) (by omega)  (by omega)).mono ?_
  rintro e w11 ⟨rfl, hp11_0, ho0⟩
  have hz11_0 : w10.heap.size ≤ w11.heap.size := by have := hp11_0.size; first | omega | (simp at this; omega)
  have hzz11 : w.heap.size ≤ w11.heap.size := by omega
  have HB11 : Hid (Below w.heap.size w w11) := (below_only (by ((repeat (first | refine Below.alloc ?_ (by first | omega | (simp; done) | (simp; omega)) _ | refine Below.drew ?_)); exact HB10.out)) hp11_0 (by omega) (by first | omega | (simp; omega)))
  replace HXaB : Hid (Box w11 (w.heap.size) [.int .i64 z0_0, .slice A0_0 n0_0 c0_0, .slice A0_1 n0_1 c0_1, .slice A0_2 n0_2 c0_2, .int .i64 z0_1, .slice A0_3 n0_3 c0_3, .int .i64 z0_2, .slice A0_4 n0_4 c0_4, .int .i64 d0_0.num, .int .i64 d0_0.size, .string d0_0.root, .int .i64 d0_0.taken, .string d0_0.troot]) := (Box.only HXaB.out hp11_0 (by first | omega | (simp; omega)))
  clear hxaB hkaB
  have hxaB := HXaB.out.2
  have hkaB := HXaB.out.1
  replace HXw0 : Hid (Box w11 (w3.heap.size) [.slice wAr0_0 nr0_0 wcr0_0]) := (Box.only HXw0.out hp11_0 (by first | omega | (simp; omega)))
  clear hxw0 hkw0
  have hxw0 := HXw0.out.2
  have hkw0 := HXw0.out.1
  replace HXx0 : Hid (Box w11 (w4.heap.size) [.int .i64 z0_0, .slice Tx0A0_0 n0_0 n0_0, .slice Tx0A0_1 n0_1 n0_1, .slice Tx0A0_2 n0_2 n0_2, .int .i64 z0_1, .slice Tx0A0_3 n0_3 n0_3, .int .i64 z0_2, .slice Tx0A0_4 n0_4 n0_4, .int .i64 d0_0.num, .int .i64 d0_0.size, .string d0_0.root, .int .i64 d0_0.taken, .string d0_0.troot]) := (Box.only HXx0.out hp11_0 (by first | omega | (simp; omega)))
  clear hxx0 hkx0
  have hxx0 := HXx0.out.2
  have hkx0 := HXx0.out.1
  replace HXg0 : Hid (Box w11 (w5.heap.size) [.slice gAr0_0 nr0_0 gcr0_0]) := (Box.only HXg0.out hp11_0 (by first | omega | (simp; omega)))
  clear hxg0 hkg0
  have hxg0 := HXg0.out.2
  have hkg0 := HXg0.out.1
  replace HOTwA0_0 := Lib.hid ((HOTwA0_0.out.only hp11_0 (by first | omega | (simp; omega))))
  replace HOTwA0_1 := Lib.hid ((HOTwA0_1.out.only hp11_0 (by first | omega | (simp; omega))))
  replace HOTwA0_2 := Lib.hid ((HOTwA0_2.out.only hp11_0 (by first | omega | (simp; omega))))
  replace HOTwA0_3 := Lib.hid ((HOTwA0_3.out.only hp11_0 (by first | omega | (simp; omega))))
  replace HOTwA0_4 := Lib.hid ((HOTwA0_4.out.only hp11_0 (by first | omega | (simp; omega))))
  replace HOwAr0_0 := Lib.hid ((HOwAr0_0.out.only hp11_0 (by first | omega | (simp; omega))))
  replace HOgAr0_0 : Hid (Own w11 qgAr0_0 w5.heap.size gAr0_0 (strs (marks (1) nr0_0))) := ho0
  clear hp11_0 ho0
  generalize hkk : ((1 + nr0_0 : Nat) : Int) = km11
  have hk0m11 : 0 ≤ km11 := by omega
  have hkdm11 : decide (km11 < 0) = false := by simp; omega
  have HKm11 := Lib.hid hkk
  clear hkk
  go_wp2_with fail
  refine (heldDisk_c  gAr0_0 gcr0_0 nr0_0 _ _ (1) _ _ (by omega) (HOgAr0_0.out.rd) (by omega)).mono ?_
  rintro e w12 ⟨rfl, hb12⟩
  have hz12 : w11.heap.size ≤ w12.heap.size := by have := hb12.size; first | omega | (simp at this; omega)
  have hzz12 : w.heap.size ≤ w12.heap.size := by omega
  have HB12 : Hid (Below w.heap.size w w12) := below_then (by ((repeat (first | refine Below.alloc ?_ (by first | omega | (simp; done) | (simp; omega)) _ | refine Below.drew ?_)); exact HB11.out)) hb12 (by first | omega | (simp; done) | (simp; omega))
  replace HXaB : Hid (Box w12 (w.heap.size) [.int .i64 z0_0, .slice A0_0 n0_0 c0_0, .slice A0_1 n0_1 c0_1, .slice A0_2 n0_2 c0_2, .int .i64 z0_1, .slice A0_3 n0_3 c0_3, .int .i64 z0_2, .slice A0_4 n0_4 c0_4, .int .i64 d0_0.num, .int .i64 d0_0.size, .string d0_0.root, .int .i64 d0_0.taken, .string d0_0.troot]) := Box.below HXaB.out hb12
  clear hxaB hkaB
  have hxaB := HXaB.out.2
  have hkaB := HXaB.out.1
  replace HXw0 : Hid (Box w12 (w3.heap.size) [.slice wAr0_0 nr0_0 wcr0_0]) := Box.below HXw0.out hb12
  clear hxw0 hkw0
  have hxw0 := HXw0.out.2
  have hkw0 := HXw0.out.1
  replace HXx0 : Hid (Box w12 (w4.heap.size) [.int .i64 z0_0, .slice Tx0A0_0 n0_0 n0_0, .slice Tx0A0_1 n0_1 n0_1, .slice Tx0A0_2 n0_2 n0_2, .int .i64 z0_1, .slice Tx0A0_3 n0_3 n0_3, .int .i64 z0_2, .slice Tx0A0_4 n0_4 n0_4, .int .i64 d0_0.num, .int .i64 d0_0.size, .string d0_0.root, .int .i64 d0_0.taken, .string d0_0.troot]) := Box.below HXx0.out hb12
  clear hxx0 hkx0
  have hxx0 := HXx0.out.2
  have hkx0 := HXx0.out.1
  replace HXg0 : Hid (Box w12 (w5.heap.size) [.slice gAr0_0 nr0_0 gcr0_0]) := Box.below HXg0.out hb12
  clear hxg0 hkg0
  have hxg0 := HXg0.out.2
  have hkg0 := HXg0.out.1
  replace HOTwA0_0 := Lib.hid (HOTwA0_0.out.below hb12)
  replace HOTwA0_1 := Lib.hid (HOTwA0_1.out.below hb12)
  replace HOTwA0_2 := Lib.hid (HOTwA0_2.out.below hb12)
  replace HOTwA0_3 := Lib.hid (HOTwA0_3.out.below hb12)
  replace HOTwA0_4 := Lib.hid (HOTwA0_4.out.below hb12)
  replace HOwAr0_0 := Lib.hid (HOwAr0_0.out.below hb12)
  replace HOgAr0_0 := Lib.hid (HOgAr0_0.out.below hb12)
  clear hb12
  generalize hkk : ((1 + nr0_0 : Nat) : Int) = kq12
  have hk0q12 : 0 ≤ kq12 := by omega
  have hkdq12 : decide (kq12 < 0) = false := by simp; omega
  have HKq12 := Lib.hid hkk
  clear hkk
  obtain rfl : kq12 = km11 := HKq12.out.symm.trans HKm11.out
  go_wp2_with fail
  refine (toBroker_c z0_0 z0_1 z0_2 d0_0 A0_0 A0_1 A0_2 A0_3 A0_4 c0_0 c0_1 c0_2 c0_3 c0_4 n0_0 n0_1 n0_2 n0_3 n0_4 l0_0 l0_1 l0_2 l0_3 l0_4 _ _ _ _ _ _ _ _ _ _ _ (hrA0_0.below (by ((repeat (first | refine Below.alloc ?_ (by first | omega | (simp; done) | (simp; omega)) _ | refine Below.drew ?_)); exact HB12.out))) HNA0_0.out hmA0_0 (hrA0_1.below (by ((repeat (first | refine Below.alloc ?_ (by first | omega | (simp; done) | (simp; omega)) _ | refine Below.drew ?_)); exact HB12.out))) HNA0_1.out hmA0_1 (hrA0_2.below (by ((repeat (first | refine Below.alloc ?_ (by first | omega | (simp; done) | (simp; omega)) _ | refine Below.drew ?_)); exact HB12.out))) HNA0_2.out hmA0_2 (hrA0_3.below (by ((repeat (first | refine Below.alloc ?_ (by first | omega | (simp; done) | (simp; omega)) _ | refine Below.drew ?_)); exact HB12.out))) HNA0_3.out hmA0_3 (hrA0_4.below (by ((repeat (first | refine Below.alloc ?_ (by first | omega | (simp; done) | (simp; omega)) _ | refine Below.drew ?_)); exact HB12.out))) HNA0_4.out hmA0_4).mono ?_
  rintro e w13 ⟨ThA0_0, ThA0_1, ThA0_2, ThA0_3, ThA0_4, mm13_1, mm13_2, mm13_3, mm13_4, rfl, le13_0, le13_1, le13_2, le13_3, le13_4, ho0, ho1, ho2, ho3, ho4, hb13⟩
  have hz13 : w12.heap.size ≤ w13.heap.size := by have := hb13.size; first | omega | (simp at this; omega)
  have hzz13 : w.heap.size ≤ w13.heap.size := by omega
  have HB13 : Hid (Below w.heap.size w w13) := below_then (by ((repeat (first | refine Below.alloc ?_ (by first | omega | (simp; done) | (simp; omega)) _ | refine Below.drew ?_)); exact HB12.out)) hb13 (by first | omega | (simp; done) | (simp; omega))
  replace HXaB : Hid (Box w13 (w.heap.size) [.int .i64 z0_0, .slice A0_0 n0_0 c0_0, .slice A0_1 n0_1 c0_1, .slice A0_2 n0_2 c0_2, .int .i64 z0_1, .slice A0_3 n0_3 c0_3, .int .i64 z0_2, .slice A0_4 n0_4 c0_4, .int .i64 d0_0.num, .int .i64 d0_0.size, .string d0_0.root, .int .i64 d0_0.taken, .string d0_0.troot]) := Box.below HXaB.out hb13
  clear hxaB hkaB
  have hxaB := HXaB.out.2
  have hkaB := HXaB.out.1
  replace HXw0 : Hid (Box w13 (w3.heap.size) [.slice wAr0_0 nr0_0 wcr0_0]) := Box.below HXw0.out hb13
  clear hxw0 hkw0
  have hxw0 := HXw0.out.2
  have hkw0 := HXw0.out.1
  replace HXx0 : Hid (Box w13 (w4.heap.size) [.int .i64 z0_0, .slice Tx0A0_0 n0_0 n0_0, .slice Tx0A0_1 n0_1 n0_1, .slice Tx0A0_2 n0_2 n0_2, .int .i64 z0_1, .slice Tx0A0_3 n0_3 n0_3, .int .i64 z0_2, .slice Tx0A0_4 n0_4 n0_4, .int .i64 d0_0.num, .int .i64 d0_0.size, .string d0_0.root, .int .i64 d0_0.taken, .string d0_0.troot]) := Box.below HXx0.out hb13
  clear hxx0 hkx0
  have hxx0 := HXx0.out.2
  have hkx0 := HXx0.out.1
  replace HXg0 : Hid (Box w13 (w5.heap.size) [.slice gAr0_0 nr0_0 gcr0_0]) := Box.below HXg0.out hb13
  clear hxg0 hkg0
  have hxg0 := HXg0.out.2
  have hkg0 := HXg0.out.1
  replace HOTwA0_0 := Lib.hid (HOTwA0_0.out.below hb13)
  replace HOTwA0_1 := Lib.hid (HOTwA0_1.out.below hb13)
  replace HOTwA0_2 := Lib.hid (HOTwA0_2.out.below hb13)
  replace HOTwA0_3 := Lib.hid (HOTwA0_3.out.below hb13)
  replace HOTwA0_4 := Lib.hid (HOTwA0_4.out.below hb13)
  replace HOwAr0_0 := Lib.hid (HOwAr0_0.out.below hb13)
  replace HOgAr0_0 := Lib.hid (HOgAr0_0.out.below hb13)
  obtain ⟨qThA0_0, hqThA0_0, hqqThA0_0, HOThA0_0⟩ : ∃ q, w12.heap.size ≤ q ∧ mm13_1 ≤ w13.heap.size ∧ Hid (Own w13 q mm13_1 ThA0_0 (ents l0_0)) := ⟨_, by first | omega | (simp at *; done) | (simp at *; omega), by first | omega | (simp at *; done) | (simp at *; omega), ho0⟩
  obtain ⟨qThA0_1, hqThA0_1, hqqThA0_1, HOThA0_1⟩ : ∃ q, mm13_1 ≤ q ∧ mm13_2 ≤ w13.heap.size ∧ Hid (Own w13 q mm13_2 ThA0_1 (rcps l0_1)) := ⟨_, by first | omega | (simp at *; done) | (simp at *; omega), by first | omega | (simp at *; done) | (simp at *; omega), ho1⟩
  obtain ⟨qThA0_2, hqThA0_2, hqqThA0_2, HOThA0_2⟩ : ∃ q, mm13_2 ≤ q ∧ mm13_3 ≤ w13.heap.size ∧ Hid (Own w13 q mm13_3 ThA0_2 (hds l0_2)) := ⟨_, by first | omega | (simp at *; done) | (simp at *; omega), by first | omega | (simp at *; done) | (simp at *; omega), ho2⟩
  obtain ⟨qThA0_3, hqThA0_3, hqqThA0_3, HOThA0_3⟩ : ∃ q, mm13_3 ≤ q ∧ mm13_4 ≤ w13.heap.size ∧ Hid (Own w13 q mm13_4 ThA0_3 (strs l0_3)) := ⟨_, by first | omega | (simp at *; done) | (simp at *; omega), by first | omega | (simp at *; done) | (simp at *; omega), ho3⟩
  obtain ⟨qThA0_4, hqThA0_4, hqqThA0_4, HOThA0_4⟩ : ∃ q, mm13_4 ≤ q ∧ w13.heap.size ≤ w13.heap.size ∧ Hid (Own w13 q w13.heap.size ThA0_4 (strs l0_4)) := ⟨_, by first | omega | (simp at *; done) | (simp at *; omega), by first | omega | (simp at *; done) | (simp at *; omega), ho4⟩
  clear hb13 ho0 ho1 ho2 ho3 ho4
  go_wp2_with fail
  refine (HIM hbk _ _ _ _ _ _ _ _ _ _ _ _ _ _ _ _ _ _ _ _ _ (HOThA0_0.out.rd) rfl (HOThA0_1.out.rd) rfl (HOThA0_2.out.rd) rfl (HOThA0_3.out.rd) rfl (HOThA0_4.out.rd) rfl).mono ?_
  rintro e w14 ⟨hAr0_0, hcr0_0, rfl, ho0, hb14⟩
  have hz14 : w13.heap.size ≤ w14.heap.size := by have := hb14.size; first | omega | (simp at this; omega)
  have hzz14 : w.heap.size ≤ w14.heap.size := by omega
  have HB14 : Hid (Below w.heap.size w w14) := below_then (by ((repeat (first | refine Below.alloc ?_ (by first | omega | (simp; done) | (simp; omega)) _ | refine Below.drew ?_)); exact HB13.out)) hb14 (by first | omega | (simp; done) | (simp; omega))
  replace HXaB : Hid (Box w14 (w.heap.size) [.int .i64 z0_0, .slice A0_0 n0_0 c0_0, .slice A0_1 n0_1 c0_1, .slice A0_2 n0_2 c0_2, .int .i64 z0_1, .slice A0_3 n0_3 c0_3, .int .i64 z0_2, .slice A0_4 n0_4 c0_4, .int .i64 d0_0.num, .int .i64 d0_0.size, .string d0_0.root, .int .i64 d0_0.taken, .string d0_0.troot]) := Box.below HXaB.out hb14
  clear hxaB hkaB
  have hxaB := HXaB.out.2
  have hkaB := HXaB.out.1
  replace HXw0 : Hid (Box w14 (w3.heap.size) [.slice wAr0_0 nr0_0 wcr0_0]) := Box.below HXw0.out hb14
  clear hxw0 hkw0
  have hxw0 := HXw0.out.2
  have hkw0 := HXw0.out.1
  replace HXx0 : Hid (Box w14 (w4.heap.size) [.int .i64 z0_0, .slice Tx0A0_0 n0_0 n0_0, .slice Tx0A0_1 n0_1 n0_1, .slice Tx0A0_2 n0_2 n0_2, .int .i64 z0_1, .slice Tx0A0_3 n0_3 n0_3, .int .i64 z0_2, .slice Tx0A0_4 n0_4 n0_4, .int .i64 d0_0.num, .int .i64 d0_0.size, .string d0_0.root, .int .i64 d0_0.taken, .string d0_0.troot]) := Box.below HXx0.out hb14
  clear hxx0 hkx0
  have hxx0 := HXx0.out.2
  have hkx0 := HXx0.out.1
  replace HXg0 : Hid (Box w14 (w5.heap.size) [.slice gAr0_0 nr0_0 gcr0_0]) := Box.below HXg0.out hb14
  clear hxg0 hkg0
  have hxg0 := HXg0.out.2
  have hkg0 := HXg0.out.1
  replace HOTwA0_0 := Lib.hid (HOTwA0_0.out.below hb14)
  replace HOTwA0_1 := Lib.hid (HOTwA0_1.out.below hb14)
  replace HOTwA0_2 := Lib.hid (HOTwA0_2.out.below hb14)
  replace HOTwA0_3 := Lib.hid (HOTwA0_3.out.below hb14)
  replace HOTwA0_4 := Lib.hid (HOTwA0_4.out.below hb14)
  replace HOwAr0_0 := Lib.hid (HOwAr0_0.out.below hb14)
  replace HOgAr0_0 := Lib.hid (HOgAr0_0.out.below hb14)
  replace HOThA0_0 := Lib.hid (HOThA0_0.out.below hb14)
  replace HOThA0_1 := Lib.hid (HOThA0_1.out.below hb14)
  replace HOThA0_2 := Lib.hid (HOThA0_2.out.below hb14)
  replace HOThA0_3 := Lib.hid (HOThA0_3.out.below hb14)
  replace HOThA0_4 := Lib.hid (HOThA0_4.out.below hb14)
  obtain ⟨qhAr0_0, hqhAr0_0, HOhAr0_0⟩ : ∃ q, w13.heap.size ≤ q ∧ Hid (Own w14 q w14.heap.size hAr0_0 (strs lr0_0)) := ⟨_, by first | omega | (simp at *; done) | (simp at *; omega), ho0⟩
  clear hb14 ho0
  go_wp2_with fail
  refine (eqDisk_c  hAr0_0 hcr0_0 nr0_0 lr0_0 wAr0_0 wcr0_0 _ _ _ _  _ ((HOhAr0_0.out.rd).alloc _) ((HOwAr0_0.out.rd).alloc _) HRNAr0_0.out (by unfold maxLen; omega)).mono ?_
  rintro e w15 ⟨rfl, hb15⟩
  have hz15 : w14.heap.size + 1 ≤ w15.heap.size := by have := hb15.size; first | omega | (simp at this; omega)
  have hzz15 : w.heap.size ≤ w15.heap.size := by omega
  have HB15 : Hid (Below w.heap.size w w15) := below_then (by ((repeat (first | refine Below.alloc ?_ (by first | omega | (simp; done) | (simp; omega)) _ | refine Below.drew ?_)); exact HB14.out)) hb15 (by first | omega | (simp; done) | (simp; omega))
  replace HXaB : Hid (Box w15 (w.heap.size) [.int .i64 z0_0, .slice A0_0 n0_0 c0_0, .slice A0_1 n0_1 c0_1, .slice A0_2 n0_2 c0_2, .int .i64 z0_1, .slice A0_3 n0_3 c0_3, .int .i64 z0_2, .slice A0_4 n0_4 c0_4, .int .i64 d0_0.num, .int .i64 d0_0.size, .string d0_0.root, .int .i64 d0_0.taken, .string d0_0.troot]) := Box.below (HXaB.out.alloc _) hb15
  clear hxaB hkaB
  have hxaB := HXaB.out.2
  have hkaB := HXaB.out.1
  replace HXw0 : Hid (Box w15 (w3.heap.size) [.slice wAr0_0 nr0_0 wcr0_0]) := Box.below (HXw0.out.alloc _) hb15
  clear hxw0 hkw0
  have hxw0 := HXw0.out.2
  have hkw0 := HXw0.out.1
  replace HXx0 : Hid (Box w15 (w4.heap.size) [.int .i64 z0_0, .slice Tx0A0_0 n0_0 n0_0, .slice Tx0A0_1 n0_1 n0_1, .slice Tx0A0_2 n0_2 n0_2, .int .i64 z0_1, .slice Tx0A0_3 n0_3 n0_3, .int .i64 z0_2, .slice Tx0A0_4 n0_4 n0_4, .int .i64 d0_0.num, .int .i64 d0_0.size, .string d0_0.root, .int .i64 d0_0.taken, .string d0_0.troot]) := Box.below (HXx0.out.alloc _) hb15
  clear hxx0 hkx0
  have hxx0 := HXx0.out.2
  have hkx0 := HXx0.out.1
  replace HXg0 : Hid (Box w15 (w5.heap.size) [.slice gAr0_0 nr0_0 gcr0_0]) := Box.below (HXg0.out.alloc _) hb15
  clear hxg0 hkg0
  have hxg0 := HXg0.out.2
  have hkg0 := HXg0.out.1
  have HXh0 : Hid (Box w15 (w14.heap.size) [.slice hAr0_0 nr0_0 hcr0_0]) := Box.below (Box.new0 _ _ _) hb15
  have hxh0 := HXh0.out.2
  have hkh0 := HXh0.out.1
  replace HOTwA0_0 := Lib.hid ((HOTwA0_0.out.alloc _).below hb15)
  replace HOTwA0_1 := Lib.hid ((HOTwA0_1.out.alloc _).below hb15)
  replace HOTwA0_2 := Lib.hid ((HOTwA0_2.out.alloc _).below hb15)
  replace HOTwA0_3 := Lib.hid ((HOTwA0_3.out.alloc _).below hb15)
  replace HOTwA0_4 := Lib.hid ((HOTwA0_4.out.alloc _).below hb15)
  replace HOwAr0_0 := Lib.hid ((HOwAr0_0.out.alloc _).below hb15)
  replace HOgAr0_0 := Lib.hid ((HOgAr0_0.out.alloc _).below hb15)
  replace HOThA0_0 := Lib.hid ((HOThA0_0.out.alloc _).below hb15)
  replace HOThA0_1 := Lib.hid ((HOThA0_1.out.alloc _).below hb15)
  replace HOThA0_2 := Lib.hid ((HOThA0_2.out.alloc _).below hb15)
  replace HOThA0_3 := Lib.hid ((HOThA0_3.out.alloc _).below hb15)
  replace HOThA0_4 := Lib.hid ((HOThA0_4.out.alloc _).below hb15)
  replace HOhAr0_0 := Lib.hid ((HOhAr0_0.out.alloc _).below hb15)
  clear hb15
  go_wp2_with fail
  refine (heldDisk_c  gAr0_0 gcr0_0 nr0_0 _ _ (1) _ _ (by omega) (HOgAr0_0.out.rd) (by omega)).mono ?_
  rintro e w16 ⟨rfl, hb16⟩
  have hz16 : w15.heap.size ≤ w16.heap.size := by have := hb16.size; first | omega | (simp at this; omega)
  have hzz16 : w.heap.size ≤ w16.heap.size := by omega
  have HB16 : Hid (Below w.heap.size w w16) := below_then (by ((repeat (first | refine Below.alloc ?_ (by first | omega | (simp; done) | (simp; omega)) _ | refine Below.drew ?_)); exact HB15.out)) hb16 (by first | omega | (simp; done) | (simp; omega))
  replace HXaB : Hid (Box w16 (w.heap.size) [.int .i64 z0_0, .slice A0_0 n0_0 c0_0, .slice A0_1 n0_1 c0_1, .slice A0_2 n0_2 c0_2, .int .i64 z0_1, .slice A0_3 n0_3 c0_3, .int .i64 z0_2, .slice A0_4 n0_4 c0_4, .int .i64 d0_0.num, .int .i64 d0_0.size, .string d0_0.root, .int .i64 d0_0.taken, .string d0_0.troot]) := Box.below HXaB.out hb16
  clear hxaB hkaB
  have hxaB := HXaB.out.2
  have hkaB := HXaB.out.1
  replace HXw0 : Hid (Box w16 (w3.heap.size) [.slice wAr0_0 nr0_0 wcr0_0]) := Box.below HXw0.out hb16
  clear hxw0 hkw0
  have hxw0 := HXw0.out.2
  have hkw0 := HXw0.out.1
  replace HXx0 : Hid (Box w16 (w4.heap.size) [.int .i64 z0_0, .slice Tx0A0_0 n0_0 n0_0, .slice Tx0A0_1 n0_1 n0_1, .slice Tx0A0_2 n0_2 n0_2, .int .i64 z0_1, .slice Tx0A0_3 n0_3 n0_3, .int .i64 z0_2, .slice Tx0A0_4 n0_4 n0_4, .int .i64 d0_0.num, .int .i64 d0_0.size, .string d0_0.root, .int .i64 d0_0.taken, .string d0_0.troot]) := Box.below HXx0.out hb16
  clear hxx0 hkx0
  have hxx0 := HXx0.out.2
  have hkx0 := HXx0.out.1
  replace HXg0 : Hid (Box w16 (w5.heap.size) [.slice gAr0_0 nr0_0 gcr0_0]) := Box.below HXg0.out hb16
  clear hxg0 hkg0
  have hxg0 := HXg0.out.2
  have hkg0 := HXg0.out.1
  replace HXh0 : Hid (Box w16 (w14.heap.size) [.slice hAr0_0 nr0_0 hcr0_0]) := Box.below HXh0.out hb16
  clear hxh0 hkh0
  have hxh0 := HXh0.out.2
  have hkh0 := HXh0.out.1
  replace HOTwA0_0 := Lib.hid (HOTwA0_0.out.below hb16)
  replace HOTwA0_1 := Lib.hid (HOTwA0_1.out.below hb16)
  replace HOTwA0_2 := Lib.hid (HOTwA0_2.out.below hb16)
  replace HOTwA0_3 := Lib.hid (HOTwA0_3.out.below hb16)
  replace HOTwA0_4 := Lib.hid (HOTwA0_4.out.below hb16)
  replace HOwAr0_0 := Lib.hid (HOwAr0_0.out.below hb16)
  replace HOgAr0_0 := Lib.hid (HOgAr0_0.out.below hb16)
  replace HOThA0_0 := Lib.hid (HOThA0_0.out.below hb16)
  replace HOThA0_1 := Lib.hid (HOThA0_1.out.below hb16)
  replace HOThA0_2 := Lib.hid (HOThA0_2.out.below hb16)
  replace HOThA0_3 := Lib.hid (HOThA0_3.out.below hb16)
  replace HOThA0_4 := Lib.hid (HOThA0_4.out.below hb16)
  replace HOhAr0_0 := Lib.hid (HOhAr0_0.out.below hb16)
  clear hb16
  generalize hkk : ((1 + nr0_0 : Nat) : Int) = kq16
  have hk0q16 : 0 ≤ kq16 := by omega
  have hkdq16 : decide (kq16 < 0) = false := by simp; omega
  have HKq16 := Lib.hid hkk
  clear hkk
  obtain rfl : kq16 = kq12 := HKq16.out.symm.trans HKq12.out
  go_wp2
  go_ret
  exact ⟨rfl, HB16.out⟩

section
open Go.ChangeShapes Go.WideShapes Go.ChangeAt
open Go.ChangeMaps (open_string)
set_option maxRecDepth 100000 in
theorem lifted_DiskOf (f0 : Int → Int → Int → Hd → (List Ent) → (List Rcp) → (List Hd) → (List ByteArray) → (List ByteArray) → List ByteArray) (f1 : Int → Int → Int → Hd → (List Ent) → (List Rcp) → (List Hd) → (List ByteArray) → (List ByteArray) → Bool) (hsp : ∀ (z0_0 : Int) (z0_1 : Int) (z0_2 : Int) (d0_0 : Hd) (l0_0 : List Ent) (l0_1 : List Rcp) (l0_2 : List Hd) (l0_3 : List ByteArray) (l0_4 : List ByteArray), (I64 z0_0) → (I64 z0_1) → (I64 z0_2) → (d0_0.fits) → (∀ x ∈ l0_0, x.fits) → (∀ x ∈ l0_1, x.fits) → (∀ x ∈ l0_2, x.fits) → specDiskOf_does z0_0 z0_1 z0_2 d0_0 l0_0.length l0_1.length l0_2.length l0_3.length l0_4.length l0_0 l0_1 l0_2 l0_3 l0_4 (f0 z0_0 z0_1 z0_2 d0_0 l0_0 l0_1 l0_2 l0_3 l0_4).length (f0 z0_0 z0_1 z0_2 d0_0 l0_0 l0_1 l0_2 l0_3 l0_4) (f1 z0_0 z0_1 z0_2 d0_0 l0_0 l0_1 l0_2 l0_3 l0_4)) (him : ∀ (z0_0 : Int) (z0_1 : Int) (z0_2 : Int) (d0_0 : Hd) (l0_0 : List Ent) (l0_1 : List Rcp) (l0_2 : List Hd) (l0_3 : List ByteArray) (l0_4 : List ByteArray), (I64 z0_0) → (I64 z0_1) → (I64 z0_2) → (d0_0.fits) → (∀ x ∈ l0_0, x.fits) → (∀ x ∈ l0_1, x.fits) → (∀ x ∈ l0_2, x.fits) → implDiskOf_does z0_0 z0_1 z0_2 d0_0 l0_0.length l0_1.length l0_2.length l0_3.length l0_4.length l0_0 l0_1 l0_2 l0_3 l0_4 (f0 z0_0 z0_1 z0_2 d0_0 l0_0 l0_1 l0_2 l0_3 l0_4).length (f0 z0_0 z0_1 z0_2 d0_0 l0_0 l0_1 l0_2 l0_3 l0_4) (f1 z0_0 z0_1 z0_2 d0_0 l0_0 l0_1 l0_2 l0_3 l0_4)) (hlen0 : ∀ (z0_0 : Int) (z0_1 : Int) (z0_2 : Int) (d0_0 : Hd) (l0_0 : List Ent) (l0_1 : List Rcp) (l0_2 : List Hd) (l0_3 : List ByteArray) (l0_4 : List ByteArray), (I64 z0_0) → (I64 z0_1) → (I64 z0_2) → (d0_0.fits) → (∀ x ∈ l0_0, x.fits) → (∀ x ∈ l0_1, x.fits) → (∀ x ∈ l0_2, x.fits) → (((l0_0.length + sumBy Ent.bulk l0_0)) + (l0_1.length + sumBy Rcp.bulk l0_1) + (l0_2.length + sumBy Hd.bulk l0_2) + (((l0_3.length + bulkS l0_3)) + ((l0_4.length + bulkS l0_4)) + d0_0.bulk)) ≤ 1048576 → (f0 z0_0 z0_1 z0_2 d0_0 l0_0 l0_1 l0_2 l0_3 l0_4).length ≤ 2000000) (os : Os) (started : os.Started) (H : Type) (enc : TypeId × Value → H) :
  ReturnsInHanded {} Tryz.checked os 4 .any (Rows.fnExactDiskOfSpec.pre6 enc Tryz.prog Tryz.f4 Rows.fnExactDiskOfRow.domain false) (Rows.fnExactDiskOfSpec.post enc Tryz.prog Tryz.f4 false true false false) := by
 refine returnsInHanded_of_change (C := Tryz.checked) Tryz.own started (by kernel_rfl) Tryz.func4
  (ChangeSpec.witness6 (enc := enc) (C := Tryz.checked) false ⟨#[], #[.agg #[.int .i64 0, .slice none 0 0, .slice none 0 0, .slice none 0 0, .int .i64 0, .slice none 0 0, .int .i64 0, .slice none 0 0, .int .i64 0, .int .i64 0, .string ByteArray.empty, .int .i64 0, .string ByteArray.empty]], []⟩ 8 (by kernel_rfl) (by kernel_rfl) (by kernel_rfl) (by kernel_rfl)) ?_
 intro W base args ds gs before hval0 hW hcnd _
 have hval : ∀ (j : Nat) t v, Tryz.f4.params[j]? = some t → args[j]? = some v → Value.okWide Tryz.prog W .any base t v := hval0
 have hW' := hW
 obtain ⟨p, q, hA0, hV, rfl, hfz, hnd⟩ := hW
 have hA : DataW.TrodAll enc Tryz.prog W 0 (fun _ => true) true Tryz.f4.params.toList args.toList ds p := hA0
 rw [Tryz.params4] at hA hval
 obtain ⟨v0, vs0, d0, ds0, p0, q0, hargs, rfl, rfl, h0, r0⟩ := trodAll_cons hA
 obtain ⟨rfl, rfl, rfl⟩ := trodAll_nil r0
 obtain rfl : args = #[v0] := by cases args; simp_all
 obtain ⟨rfl, rfl⟩ := trodVars_none hV
 have lt0 : ∀ x ∈ p0, x.block < W.heap.size := by obtain ⟨m, hm⟩ := h0; exact DataW.trod_lt m _ _ _ hm
 have kk0 := h0
 obtain ⟨z0_0, z0_1, z0_2, d0_0, A0_0, A0_1, A0_2, A0_3, A0_4, n0_0, c0_0, n0_1, c0_1, n0_2, c0_2, n0_3, c0_3, n0_4, c0_4, l0_0, l0_1, l0_2, l0_3, l0_4, rfl, hiz0_0, hiz0_1, hiz0_2, hid0_0, o0_0, hil0_0, o0_1, hil0_1, o0_2, hil0_2, o0_3, hil0_3, o0_4, hil0_4⟩ := open_Broker (hval 0 _ v0 rfl rfl) h0
 obtain ⟨rfl, o0_0b, o0_0c, o0_0d⟩ := o0_0
 obtain ⟨rfl, o0_1b, o0_1c, o0_1d⟩ := o0_1
 obtain ⟨rfl, o0_2b, o0_2c, o0_2d⟩ := o0_2
 obtain ⟨rfl, o0_3b, o0_3c, o0_3d⟩ := o0_3
 obtain ⟨rfl, o0_4b, o0_4c, o0_4d⟩ := o0_4
 clear hA0 hval0
 refine (walk_DiskOf z0_0 z0_1 z0_2 d0_0 A0_0 A0_1 A0_2 A0_3 A0_4 c0_0 c0_1 c0_2 c0_3 c0_4 _ _ _ _ _ l0_0 l0_1 l0_2 l0_3 l0_4 _ _ _ W o0_0d rfl (Nat.le_trans o0_0b o0_0c) hil0_0 o0_1d rfl (Nat.le_trans o0_1b o0_1c) hil0_1 o0_2d rfl (Nat.le_trans o0_2b o0_2c) hil0_2 o0_3d rfl (Nat.le_trans o0_3b o0_3c) hil0_3 o0_4d rfl (Nat.le_trans o0_4b o0_4c) hil0_4 hid0_0 rfl (hlen0 z0_0 z0_1 z0_2 d0_0 l0_0 l0_1 l0_2 l0_3 l0_4 hiz0_0 hiz0_1 hiz0_2 hid0_0 hil0_0 hil0_1 hil0_2) (hsp z0_0 z0_1 z0_2 d0_0 l0_0 l0_1 l0_2 l0_3 l0_4 hiz0_0 hiz0_1 hiz0_2 hid0_0 hil0_0 hil0_1 hil0_2) (him z0_0 z0_1 z0_2 d0_0 l0_0 l0_1 l0_2 l0_3 l0_4 hiz0_0 hiz0_1 hiz0_2 hid0_0 hil0_0 hil0_1 hil0_2)).mono fun e W' ⟨he, bel⟩ => ?_
 subst he
 exact ⟨_, rfl, _, _, _, [], _, [], hW', trodAll_mk1 (shut_bool Tryz.underlying4 _), (trodAll_cons_mk (Below.trod Tryz.laidOut (by kernel_rfl) (of_decide_eq_true (by kernel_rfl)) kk0 bel lt0) trodAll_mk0), rfl, bel.frame _, fun h => by cases h⟩
theorem said_DiskOf (f0 : Int → Int → Int → Hd → (List Ent) → (List Rcp) → (List Hd) → (List ByteArray) → (List ByteArray) → List ByteArray) (f1 : Int → Int → Int → Hd → (List Ent) → (List Rcp) → (List Hd) → (List ByteArray) → (List ByteArray) → Bool) (hsp : ∀ (z0_0 : Int) (z0_1 : Int) (z0_2 : Int) (d0_0 : Hd) (l0_0 : List Ent) (l0_1 : List Rcp) (l0_2 : List Hd) (l0_3 : List ByteArray) (l0_4 : List ByteArray), (I64 z0_0) → (I64 z0_1) → (I64 z0_2) → (d0_0.fits) → (∀ x ∈ l0_0, x.fits) → (∀ x ∈ l0_1, x.fits) → (∀ x ∈ l0_2, x.fits) → specDiskOf_does z0_0 z0_1 z0_2 d0_0 l0_0.length l0_1.length l0_2.length l0_3.length l0_4.length l0_0 l0_1 l0_2 l0_3 l0_4 (f0 z0_0 z0_1 z0_2 d0_0 l0_0 l0_1 l0_2 l0_3 l0_4).length (f0 z0_0 z0_1 z0_2 d0_0 l0_0 l0_1 l0_2 l0_3 l0_4) (f1 z0_0 z0_1 z0_2 d0_0 l0_0 l0_1 l0_2 l0_3 l0_4)) (him : ∀ (z0_0 : Int) (z0_1 : Int) (z0_2 : Int) (d0_0 : Hd) (l0_0 : List Ent) (l0_1 : List Rcp) (l0_2 : List Hd) (l0_3 : List ByteArray) (l0_4 : List ByteArray), (I64 z0_0) → (I64 z0_1) → (I64 z0_2) → (d0_0.fits) → (∀ x ∈ l0_0, x.fits) → (∀ x ∈ l0_1, x.fits) → (∀ x ∈ l0_2, x.fits) → implDiskOf_does z0_0 z0_1 z0_2 d0_0 l0_0.length l0_1.length l0_2.length l0_3.length l0_4.length l0_0 l0_1 l0_2 l0_3 l0_4 (f0 z0_0 z0_1 z0_2 d0_0 l0_0 l0_1 l0_2 l0_3 l0_4).length (f0 z0_0 z0_1 z0_2 d0_0 l0_0 l0_1 l0_2 l0_3 l0_4) (f1 z0_0 z0_1 z0_2 d0_0 l0_0 l0_1 l0_2 l0_3 l0_4)) (hlen0 : ∀ (z0_0 : Int) (z0_1 : Int) (z0_2 : Int) (d0_0 : Hd) (l0_0 : List Ent) (l0_1 : List Rcp) (l0_2 : List Hd) (l0_3 : List ByteArray) (l0_4 : List ByteArray), (I64 z0_0) → (I64 z0_1) → (I64 z0_2) → (d0_0.fits) → (∀ x ∈ l0_0, x.fits) → (∀ x ∈ l0_1, x.fits) → (∀ x ∈ l0_2, x.fits) → (((l0_0.length + sumBy Ent.bulk l0_0)) + (l0_1.length + sumBy Rcp.bulk l0_1) + (l0_2.length + sumBy Hd.bulk l0_2) + (((l0_3.length + bulkS l0_3)) + ((l0_4.length + bulkS l0_4)) + d0_0.bulk)) ≤ 1048576 → (f0 z0_0 z0_1 z0_2 d0_0 l0_0 l0_1 l0_2 l0_3 l0_4).length ≤ 2000000) : Rows.FnExactDiskOfSaid :=
 OpenClaim.holds_of_wide 4 Tryz.f4 rfl rfl rfl rfl rfl rfl rfl ⟨rfl, rfl, rfl, rfl, rfl⟩ rfl rfl rfl rfl rfl (by kernel_rfl) Tryz.func4 (by show joinedFacts Tryz.prog 4 Tryz.f4 Rows.fnExactDiskOfSpec Rows.fnExactDiskOfRow = true; unfold joinedFacts; rw [seat_enter, seat_final, seat_make]; kernel_rfl)
  (of_decide_eq_true (by kernel_rfl)) (by unfold Func.isWrapper; first | (rw [if_pos (by decide +kernel)]; kernel_rfl) | (rw [if_neg (by decide +kernel)]; exact ⟨rfl, rfl⟩))
  (fun os started H enc _ => lifted_DiskOf f0 f1 hsp him hlen0 os started H enc)
end
end Go.Proofs.YtmmepogjocfefaaGreat
