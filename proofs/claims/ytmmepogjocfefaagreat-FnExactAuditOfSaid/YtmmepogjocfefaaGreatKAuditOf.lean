/- The walk of the law FnExactAuditOf; what spec.AuditOf and impl.AuditOf do comes in as hypotheses. Written by gen_law.py. -/
import Derived.Test.YtmmepogjocfefaaGreatData
import Derived.Test.YtmmepogjocfefaaGreatSReceipt
import Derived.Test.YtmmepogjocfefaaGreatStr
import Derived.Test.YtmmepogjocfefaaGreatWBroker
import Derived.Test.YtmmepogjocfefaaGreatOpen
import Derived.Test.YtmmepogjocfefaaGreatSeat
namespace Go.Proofs.YtmmepogjocfefaaGreat
set_option linter.unusedVariables false
set_option linter.unusedSimpArgs false
open Go.RowKit
attribute [local go_sem ↓] Go.wp_at_zero Go.wp_at_succ

def specAuditOf_does (z0_0 z0_1 z0_2 : Int) (d0_0 : Hd) (n0_0 n0_1 n0_2 n0_3 n0_4 : Nat) (l0_0 : List Ent) (l0_1 : List Rcp) (l0_2 : List Hd) (l0_3 : List ByteArray) (l0_4 : List ByteArray) (e1 : Rcp) (z2 : Int) (zr0 : Int) (nr1 : Nat) (lr1 : List ByteArray) (zr2 : Int) : Prop :=
    (((n0_0 + sumBy Ent.bulk l0_0)) + (n0_1 + sumBy Rcp.bulk l0_1) + (n0_2 + sumBy Hd.bulk l0_2) + (((n0_3 + bulkS l0_3)) + ((n0_4 + bulkS l0_4)) + d0_0.bulk)) + e1.bulk ≤ 1048576 → ∀ (B0_0 : Option Addr) (g0_0 aA0_0 bA0_0 : Nat) (B0_1 : Option Addr) (g0_1 aA0_1 bA0_1 : Nat) (B0_2 : Option Addr) (g0_2 aA0_2 bA0_2 : Nat) (B0_3 : Option Addr) (g0_3 aA0_3 bA0_3 : Nat) (B0_4 : Option Addr) (g0_4 aA0_4 bA0_4 : Nat) (W : World), Rd W aA0_0 bA0_0 B0_0 (ents l0_0) → g0_0 = n0_0 → Rd W aA0_1 bA0_1 B0_1 (rcps l0_1) → g0_1 = n0_1 → Rd W aA0_2 bA0_2 B0_2 (hds l0_2) → g0_2 = n0_2 → Rd W aA0_3 bA0_3 B0_3 (strs l0_3) → g0_3 = n0_3 → Rd W aA0_4 bA0_4 B0_4 (strs l0_4) → g0_4 = n0_4 → Calls Tryz.prog 12 #[.agg #[.int .i64 z0_0, .slice B0_0 n0_0 g0_0, .slice B0_1 n0_1 g0_1, .slice B0_2 n0_2 g0_2, .int .i64 z0_1, .slice B0_3 n0_3 g0_3, .int .i64 z0_2, .slice B0_4 n0_4 g0_4, .int .i64 d0_0.num, .int .i64 d0_0.size, .string d0_0.root, .int .i64 d0_0.taken, .string d0_0.troot], .agg #[.string e1.reader, .string e1.topic, .int .i64 e1.index], .int .i64 z2] W fun r W' => ∃ (Ar1 : Option Addr) (cr1 : Nat), r = .returned (.tuple #[.int .i64 zr0, .slice Ar1 nr1 cr1, .int .i64 zr2]) ∧ Own W' W.heap.size W'.heap.size Ar1 (strs lr1) ∧ Below W.heap.size W W'
def implAuditOf_does (z0_0 z0_1 z0_2 : Int) (d0_0 : Hd) (n0_0 n0_1 n0_2 n0_3 n0_4 : Nat) (l0_0 : List Ent) (l0_1 : List Rcp) (l0_2 : List Hd) (l0_3 : List ByteArray) (l0_4 : List ByteArray) (e1 : Rcp) (z2 : Int) (zr0 : Int) (nr1 : Nat) (lr1 : List ByteArray) (zr2 : Int) : Prop :=
    (((n0_0 + sumBy Ent.bulk l0_0)) + (n0_1 + sumBy Rcp.bulk l0_1) + (n0_2 + sumBy Hd.bulk l0_2) + (((n0_3 + bulkS l0_3)) + ((n0_4 + bulkS l0_4)) + d0_0.bulk)) + e1.bulk ≤ 1048576 → ∀ (B0_0 : Option Addr) (g0_0 aA0_0 bA0_0 : Nat) (B0_1 : Option Addr) (g0_1 aA0_1 bA0_1 : Nat) (B0_2 : Option Addr) (g0_2 aA0_2 bA0_2 : Nat) (B0_3 : Option Addr) (g0_3 aA0_3 bA0_3 : Nat) (B0_4 : Option Addr) (g0_4 aA0_4 bA0_4 : Nat) (W : World), Rd W aA0_0 bA0_0 B0_0 (ents l0_0) → g0_0 = n0_0 → Rd W aA0_1 bA0_1 B0_1 (rcps l0_1) → g0_1 = n0_1 → Rd W aA0_2 bA0_2 B0_2 (hds l0_2) → g0_2 = n0_2 → Rd W aA0_3 bA0_3 B0_3 (strs l0_3) → g0_3 = n0_3 → Rd W aA0_4 bA0_4 B0_4 (strs l0_4) → g0_4 = n0_4 → Calls Tryz.prog 15 #[.agg #[.int .i64 z0_0, .slice B0_0 n0_0 g0_0, .slice B0_1 n0_1 g0_1, .slice B0_2 n0_2 g0_2, .int .i64 z0_1, .slice B0_3 n0_3 g0_3, .int .i64 z0_2, .slice B0_4 n0_4 g0_4, .int .i64 d0_0.num, .int .i64 d0_0.size, .string d0_0.root, .int .i64 d0_0.taken, .string d0_0.troot], .agg #[.string e1.reader, .string e1.topic, .int .i64 e1.index], .int .i64 z2] W fun r W' => ∃ (Ar1 : Option Addr) (cr1 : Nat), r = .returned (.tuple #[.int .i64 zr0, .slice Ar1 nr1 cr1, .int .i64 zr2]) ∧ Own W' W.heap.size W'.heap.size Ar1 (strs lr1) ∧ Below W.heap.size W W'
set_option maxRecDepth 100000 in
set_option maxHeartbeats 4000000 in
theorem walk_AuditOf (z0_0 z0_1 z0_2 : Int) (d0_0 : Hd) (A0_0 A0_1 A0_2 A0_3 A0_4 : Option Addr) (c0_0 c0_1 c0_2 c0_3 c0_4 : Nat) (n0_0 n0_1 n0_2 n0_3 n0_4 : Nat) (l0_0 : List Ent) (l0_1 : List Rcp) (l0_2 : List Hd) (l0_3 : List ByteArray) (l0_4 : List ByteArray) (e1 : Rcp) (z2 : Int) (zr0 : Int) (nr1 : Nat) (lr1 : List ByteArray) (zr2 : Int) (w : World) (hrA0_0 : Rd w 0 w.heap.size A0_0 (ents l0_0)) (hnA0_0 : l0_0.length = n0_0) (hlA0_0 : n0_0 ≤ maxLen) (hsA0_0 : ∀ x ∈ l0_0, x.fits) (hrA0_1 : Rd w 0 w.heap.size A0_1 (rcps l0_1)) (hnA0_1 : l0_1.length = n0_1) (hlA0_1 : n0_1 ≤ maxLen) (hsA0_1 : ∀ x ∈ l0_1, x.fits) (hrA0_2 : Rd w 0 w.heap.size A0_2 (hds l0_2)) (hnA0_2 : l0_2.length = n0_2) (hlA0_2 : n0_2 ≤ maxLen) (hsA0_2 : ∀ x ∈ l0_2, x.fits) (hrA0_3 : Rd w 0 w.heap.size A0_3 (strs l0_3)) (hnA0_3 : l0_3.length = n0_3) (hlA0_3 : n0_3 ≤ maxLen) (hsA0_3 : ∀ x ∈ l0_3, x.size ≤ maxLen) (hrA0_4 : Rd w 0 w.heap.size A0_4 (strs l0_4)) (hnA0_4 : l0_4.length = n0_4) (hlA0_4 : n0_4 ≤ maxLen) (hsA0_4 : ∀ x ∈ l0_4, x.size ≤ maxLen) (hfd0_0 : d0_0.fits) (hfe1 : e1.fits) (hrnAr1 : lr1.length = nr1) (hrlAr1 : (((n0_0 + sumBy Ent.bulk l0_0)) + (n0_1 + sumBy Rcp.bulk l0_1) + (n0_2 + sumBy Hd.bulk l0_2) + (((n0_3 + bulkS l0_3)) + ((n0_4 + bulkS l0_4)) + d0_0.bulk)) + e1.bulk ≤ 1048576 → nr1 ≤ 2000000) (HSP : specAuditOf_does z0_0 z0_1 z0_2 d0_0 n0_0 n0_1 n0_2 n0_3 n0_4 l0_0 l0_1 l0_2 l0_3 l0_4 e1 z2 zr0 nr1 lr1 zr2) (HIM : implAuditOf_does z0_0 z0_1 z0_2 d0_0 n0_0 n0_1 n0_2 n0_3 n0_4 l0_0 l0_1 l0_2 l0_3 l0_4 e1 z2 zr0 nr1 lr1 zr2) :
  Calls Tryz.prog 3 #[.agg #[.int .i64 z0_0, .slice A0_0 n0_0 c0_0, .slice A0_1 n0_1 c0_1, .slice A0_2 n0_2 c0_2, .int .i64 z0_1, .slice A0_3 n0_3 c0_3, .int .i64 z0_2, .slice A0_4 n0_4 c0_4, .int .i64 d0_0.num, .int .i64 d0_0.size, .string d0_0.root, .int .i64 d0_0.taken, .string d0_0.troot], .agg #[.string e1.reader, .string e1.topic, .int .i64 e1.index], .int .i64 z2] w fun e w' => e = .returned (.bool true) ∧ Below w.heap.size w w' := by
 have HNA0_0 := Lib.hid hnA0_0
 have HSA0_0 := Lib.hid hsA0_0
 clear hnA0_0 hsA0_0
 have HNA0_1 := Lib.hid hnA0_1
 have HSA0_1 := Lib.hid hsA0_1
 clear hnA0_1 hsA0_1
 have HNA0_2 := Lib.hid hnA0_2
 have HSA0_2 := Lib.hid hsA0_2
 clear hnA0_2 hsA0_2
 have HNA0_3 := Lib.hid hnA0_3
 have HSA0_3 := Lib.hid hsA0_3
 clear hnA0_3 hsA0_3
 have HNA0_4 := Lib.hid hnA0_4
 have HSA0_4 := Lib.hid hsA0_4
 clear hnA0_4 hsA0_4
 have HRNAr1 := Lib.hid hrnAr1
 have HRLAr1 := Lib.hid hrlAr1
 clear hrnAr1 hrlAr1
 have HB0 : Hid (Below w.heap.size w w) := Below.refl _ _
 go_enter Tryz.func3, Tryz.ntmps3
 go_wp2_with fail
 refine (szBroker_c z0_0 z0_1 z0_2 d0_0 A0_0 A0_1 A0_2 A0_3 A0_4 c0_0 c0_1 c0_2 c0_3 c0_4 n0_0 n0_1 n0_2 n0_3 n0_4 l0_0 l0_1 l0_2 l0_3 l0_4 _ _ _ _ _ _ _ _ _ _ _ _ (hrA0_0.below (by ((repeat (first | refine Below.alloc ?_ (by first | omega | (simp; done) | (simp; omega)) _ | refine Below.drew ?_)); exact HB0.out))) HNA0_0.out hlA0_0 HSA0_0.out (hrA0_1.below (by ((repeat (first | refine Below.alloc ?_ (by first | omega | (simp; done) | (simp; omega)) _ | refine Below.drew ?_)); exact HB0.out))) HNA0_1.out hlA0_1 HSA0_1.out (hrA0_2.below (by ((repeat (first | refine Below.alloc ?_ (by first | omega | (simp; done) | (simp; omega)) _ | refine Below.drew ?_)); exact HB0.out))) HNA0_2.out hlA0_2 HSA0_2.out (hrA0_3.below (by ((repeat (first | refine Below.alloc ?_ (by first | omega | (simp; done) | (simp; omega)) _ | refine Below.drew ?_)); exact HB0.out))) HNA0_3.out hlA0_3 HSA0_3.out (hrA0_4.below (by ((repeat (first | refine Below.alloc ?_ (by first | omega | (simp; done) | (simp; omega)) _ | refine Below.drew ?_)); exact HB0.out))) HNA0_4.out hlA0_4 HSA0_4.out hfd0_0 (by omega) (by omega)).mono ?_
 rintro e w1 ⟨rfl, hb1⟩
 have hz1 : w.heap.size + 2 ≤ w1.heap.size := by have := hb1.size; first | omega | (simp at this; omega)
 have hzz1 : w.heap.size ≤ w1.heap.size := by omega
 have HB1 : Hid (Below w.heap.size w w1) := below_then (by ((repeat (first | refine Below.alloc ?_ (by first | omega | (simp; done) | (simp; omega)) _ | refine Below.drew ?_)); exact HB0.out)) hb1 (by first | omega | (simp; done) | (simp; omega))
 have HXaB : Hid (Box w1 (w.heap.size) [.int .i64 z0_0, .slice A0_0 n0_0 c0_0, .slice A0_1 n0_1 c0_1, .slice A0_2 n0_2 c0_2, .int .i64 z0_1, .slice A0_3 n0_3 c0_3, .int .i64 z0_2, .slice A0_4 n0_4 c0_4, .int .i64 d0_0.num, .int .i64 d0_0.size, .string d0_0.root, .int .i64 d0_0.taken, .string d0_0.troot]) := Box.below ((Box.new0 _ _ _).alloc _) hb1
 have hxaB := HXaB.out.2
 have hkaB := HXaB.out.1
 have HXaR : Hid (Box w1 (w.heap.size + 1) [.string e1.reader, .string e1.topic, .int .i64 e1.index]) := Box.below (Box.new1 _ _ _ _) hb1
 have hxaR := HXaR.out.2
 have hkaR := HXaR.out.1
 clear hb1
 go_wp2_with fail
 ·go_ret
  exact ⟨rfl, HB1.out⟩
 ·have hp1 : 0 ≤ szF 1048576 ((((n0_0 + sumBy Ent.bulk l0_0)) + (n0_1 + sumBy Rcp.bulk l0_1) + (n0_2 + sumBy Hd.bulk l0_2) + (((n0_3 + bulkS l0_3)) + ((n0_4 + bulkS l0_4)) + d0_0.bulk))) := by assumption
  have hg1 := (szF_le 1048576 ((((n0_0 + sumBy Ent.bulk l0_0)) + (n0_1 + sumBy Rcp.bulk l0_1) + (n0_2 + sumBy Hd.bulk l0_2) + (((n0_3 + bulkS l0_3)) + ((n0_4 + bulkS l0_4)) + d0_0.bulk))) (by omega)).2
  refine (szReceipt_c e1 _ _ hfe1 (by omega) (by omega)).mono ?_
  rintro e w2 ⟨rfl, hb2⟩
  have hz2 : w1.heap.size ≤ w2.heap.size := by have := hb2.size; first | omega | (simp at this; omega)
  have hzz2 : w.heap.size ≤ w2.heap.size := by omega
  have HB2 : Hid (Below w.heap.size w w2) := below_then (by ((repeat (first | refine Below.alloc ?_ (by first | omega | (simp; done) | (simp; omega)) _ | refine Below.drew ?_)); exact HB1.out)) hb2 (by first | omega | (simp; done) | (simp; omega))
  replace HXaB : Hid (Box w2 (w.heap.size) [.int .i64 z0_0, .slice A0_0 n0_0 c0_0, .slice A0_1 n0_1 c0_1, .slice A0_2 n0_2 c0_2, .int .i64 z0_1, .slice A0_3 n0_3 c0_3, .int .i64 z0_2, .slice A0_4 n0_4 c0_4, .int .i64 d0_0.num, .int .i64 d0_0.size, .string d0_0.root, .int .i64 d0_0.taken, .string d0_0.troot]) := Box.below HXaB.out hb2
  clear hxaB hkaB
  have hxaB := HXaB.out.2
  have hkaB := HXaB.out.1
  replace HXaR : Hid (Box w2 (w.heap.size + 1) [.string e1.reader, .string e1.topic, .int .i64 e1.index]) := Box.below HXaR.out hb2
  clear hxaR hkaR
  have hxaR := HXaR.out.2
  have hkaR := HXaR.out.1
  have HA2 : Hid (szF (szF 1048576 ((((n0_0 + sumBy Ent.bulk l0_0)) + (n0_1 + sumBy Rcp.bulk l0_1) + (n0_2 + sumBy Hd.bulk l0_2) + (((n0_3 + bulkS l0_3)) + ((n0_4 + bulkS l0_4)) + d0_0.bulk)))) e1.bulk = szF 1048576 ((((n0_0 + sumBy Ent.bulk l0_0)) + (n0_1 + sumBy Rcp.bulk l0_1) + (n0_2 + sumBy Hd.bulk l0_2) + (((n0_3 + bulkS l0_3)) + ((n0_4 + bulkS l0_4)) + d0_0.bulk)) + e1.bulk)) := szF_add (by assumption)
  rw [HA2.out]
  clear hb2
  go_wp2_with fail
  ·go_ret
   exact ⟨rfl, HB2.out⟩
  ·have hp2 : 0 ≤ szF 1048576 ((((n0_0 + sumBy Ent.bulk l0_0)) + (n0_1 + sumBy Rcp.bulk l0_1) + (n0_2 + sumBy Hd.bulk l0_2) + (((n0_3 + bulkS l0_3)) + ((n0_4 + bulkS l0_4)) + d0_0.bulk)) + e1.bulk) := by assumption
   have hg2 := (szF_le 1048576 ((((n0_0 + sumBy Ent.bulk l0_0)) + (n0_1 + sumBy Rcp.bulk l0_1) + (n0_2 + sumBy Hd.bulk l0_2) + (((n0_3 + bulkS l0_3)) + ((n0_4 + bulkS l0_4)) + d0_0.bulk)) + e1.bulk) (by omega)).2
   have hbk : (((n0_0 + sumBy Ent.bulk l0_0)) + (n0_1 + sumBy Rcp.bulk l0_1) + (n0_2 + sumBy Hd.bulk l0_2) + (((n0_3 + bulkS l0_3)) + ((n0_4 + bulkS l0_4)) + d0_0.bulk)) + e1.bulk ≤ 1048576 := by have := (szF_pos hp2).1; omega
   have hmA0_0 : n0_0 ≤ 1048576 := by omega
   have hmA0_1 : n0_1 ≤ 1048576 := by omega
   have hmA0_2 : n0_2 ≤ 1048576 := by omega
   have hmA0_3 : n0_3 ≤ 1048576 := by omega
   have hmA0_4 : n0_4 ≤ 1048576 := by omega
   have hrlAr1 := HRLAr1.out hbk
   go_region_held3 (fun w' => (∀ o, w'.cell? ⟨w.heap.size, o, none⟩ = [.int .i64 z0_0, .slice A0_0 n0_0 c0_0, .slice A0_1 n0_1 c0_1, .slice A0_2 n0_2 c0_2, .int .i64 z0_1, .slice A0_3 n0_3 c0_3, .int .i64 z0_2, .slice A0_4 n0_4 c0_4, .int .i64 d0_0.num, .int .i64 d0_0.size, .string d0_0.root, .int .i64 d0_0.taken, .string d0_0.troot][o]?) ∧ (∀ o, w'.cell? ⟨w.heap.size + 1, o, none⟩ = [.string e1.reader, .string e1.topic, .int .i64 e1.index][o]?))
    (first | exact ⟨(HXaB.out.drew).2, (HXaR.out.drew).2⟩ | exact ⟨HXaB.out.2, HXaR.out.2⟩)
    (first
    | (go_at_call 13
       with_reducible refine (toBroker_c z0_0 z0_1 z0_2 d0_0 A0_0 A0_1 A0_2 A0_3 A0_4 c0_0 c0_1 c0_2 c0_3 c0_4 n0_0 n0_1 n0_2 n0_3 n0_4 l0_0 l0_1 l0_2 l0_3 l0_4 _ _ _ _ _ _ _ _ _ _ _ (hrA0_0.below (by ((repeat (first | refine Below.alloc ?_ (by first | omega | (simp; done) | (simp; omega)) _ | refine Below.drew ?_)); exact HB2.out))) HNA0_0.out hmA0_0 (hrA0_1.below (by ((repeat (first | refine Below.alloc ?_ (by first | omega | (simp; done) | (simp; omega)) _ | refine Below.drew ?_)); exact HB2.out))) HNA0_1.out hmA0_1 (hrA0_2.below (by ((repeat (first | refine Below.alloc ?_ (by first | omega | (simp; done) | (simp; omega)) _ | refine Below.drew ?_)); exact HB2.out))) HNA0_2.out hmA0_2 (hrA0_3.below (by ((repeat (first | refine Below.alloc ?_ (by first | omega | (simp; done) | (simp; omega)) _ | refine Below.drew ?_)); exact HB2.out))) HNA0_3.out hmA0_3 (hrA0_4.below (by ((repeat (first | refine Below.alloc ?_ (by first | omega | (simp; done) | (simp; omega)) _ | refine Below.drew ?_)); exact HB2.out))) HNA0_4.out hmA0_4).mono ?_
       rintro e w3 ⟨TwA0_0, TwA0_1, TwA0_2, TwA0_3, TwA0_4, mm3_1, mm3_2, mm3_3, mm3_4, rfl, le3_0, le3_1, le3_2, le3_3, le3_4, ho0, ho1, ho2, ho3, ho4, hb3⟩
       have hz3 : w2.heap.size ≤ w3.heap.size := by have := hb3.size; first | omega | (simp at this; omega)
       have hzz3 : w.heap.size ≤ w3.heap.size := by omega
       have HB3 : Hid (Below w.heap.size w w3) := below_then (by ((repeat (first | refine Below.alloc ?_ (by first | omega | (simp; done) | (simp; omega)) _ | refine Below.drew ?_)); exact HB2.out)) hb3 (by first | omega | (simp; done) | (simp; omega))
       replace HXaB : Hid (Box w3 (w.heap.size) [.int .i64 z0_0, .slice A0_0 n0_0 c0_0, .slice A0_1 n0_1 c0_1, .slice A0_2 n0_2 c0_2, .int .i64 z0_1, .slice A0_3 n0_3 c0_3, .int .i64 z0_2, .slice A0_4 n0_4 c0_4, .int .i64 d0_0.num, .int .i64 d0_0.size, .string d0_0.root, .int .i64 d0_0.taken, .string d0_0.troot]) := Box.below (HXaB.out.drew) hb3
       clear hxaB hkaB
       have hxaB := HXaB.out.2
       have hkaB := HXaB.out.1
       replace HXaR : Hid (Box w3 (w.heap.size + 1) [.string e1.reader, .string e1.topic, .int .i64 e1.index]) := Box.below (HXaR.out.drew) hb3
       clear hxaR hkaR
       have hxaR := HXaR.out.2
       have hkaR := HXaR.out.1
       obtain ⟨qTwA0_0, hqTwA0_0, hqqTwA0_0, HOTwA0_0⟩ : ∃ q, w2.heap.size ≤ q ∧ mm3_1 ≤ w3.heap.size ∧ Hid (Own w3 q mm3_1 TwA0_0 (ents l0_0)) := ⟨_, by first | omega | (simp at *; done) | (simp at *; omega), by first | omega | (simp at *; done) | (simp at *; omega), ho0⟩
       obtain ⟨qTwA0_1, hqTwA0_1, hqqTwA0_1, HOTwA0_1⟩ : ∃ q, mm3_1 ≤ q ∧ mm3_2 ≤ w3.heap.size ∧ Hid (Own w3 q mm3_2 TwA0_1 (rcps l0_1)) := ⟨_, by first | omega | (simp at *; done) | (simp at *; omega), by first | omega | (simp at *; done) | (simp at *; omega), ho1⟩
       obtain ⟨qTwA0_2, hqTwA0_2, hqqTwA0_2, HOTwA0_2⟩ : ∃ q, mm3_2 ≤ q ∧ mm3_3 ≤ w3.heap.size ∧ Hid (Own w3 q mm3_3 TwA0_2 (hds l0_2)) := ⟨_, by first | omega | (simp at *; done) | (simp at *; omega), by first | omega | (simp at *; done) | (simp at *; omega), ho2⟩
       obtain ⟨qTwA0_3, hqTwA0_3, hqqTwA0_3, HOTwA0_3⟩ : ∃ q, mm3_3 ≤ q ∧ mm3_4 ≤ w3.heap.size ∧ Hid (Own w3 q mm3_4 TwA0_3 (strs l0_3)) := ⟨_, by first | omega | (simp at *; done) | (simp at *; omega), by first | omega | (simp at *; done) | (simp at *; omega), ho3⟩
       obtain ⟨qTwA0_4, hqTwA0_4, hqqTwA0_4, HOTwA0_4⟩ : ∃ q, mm3_4 ≤ q ∧ w3.heap.size ≤ w3.heap.size ∧ Hid (Own w3 q w3.heap.size TwA0_4 (strs l0_4)) := ⟨_, by first | omega | (simp at *; done) | (simp at *; omega), by first | omega | (simp at *; done) | (simp at *; omega), ho4⟩
       clear hb3 ho0 ho1 ho2 ho3 ho4)
    | (go_at_call 14
       with_reducible refine (toReceipt_c e1 _).mono ?_
       rintro e w4 ⟨rfl, hb4⟩
       have hz4 : w3.heap.size ≤ w4.heap.size := by have := hb4.size; first | omega | (simp at this; omega)
       have hzz4 : w.heap.size ≤ w4.heap.size := by omega
       have HB4 : Hid (Below w.heap.size w w4) := below_then (by ((repeat (first | refine Below.alloc ?_ (by first | omega | (simp; done) | (simp; omega)) _ | refine Below.drew ?_)); exact HB3.out)) hb4 (by first | omega | (simp; done) | (simp; omega))
       replace HXaB : Hid (Box w4 (w.heap.size) [.int .i64 z0_0, .slice A0_0 n0_0 c0_0, .slice A0_1 n0_1 c0_1, .slice A0_2 n0_2 c0_2, .int .i64 z0_1, .slice A0_3 n0_3 c0_3, .int .i64 z0_2, .slice A0_4 n0_4 c0_4, .int .i64 d0_0.num, .int .i64 d0_0.size, .string d0_0.root, .int .i64 d0_0.taken, .string d0_0.troot]) := Box.below HXaB.out hb4
       clear hxaB hkaB
       have hxaB := HXaB.out.2
       have hkaB := HXaB.out.1
       replace HXaR : Hid (Box w4 (w.heap.size + 1) [.string e1.reader, .string e1.topic, .int .i64 e1.index]) := Box.below HXaR.out hb4
       clear hxaR hkaR
       have hxaR := HXaR.out.2
       have hkaR := HXaR.out.1
       replace HOTwA0_0 := Lib.hid (HOTwA0_0.out.below hb4)
       replace HOTwA0_1 := Lib.hid (HOTwA0_1.out.below hb4)
       replace HOTwA0_2 := Lib.hid (HOTwA0_2.out.below hb4)
       replace HOTwA0_3 := Lib.hid (HOTwA0_3.out.below hb4)
       replace HOTwA0_4 := Lib.hid (HOTwA0_4.out.below hb4)
       clear hb4)
    | (go_at_call 12
       have hq9 := HSP hbk _ _ _ _ _ _ _ _ _ _ _ _ _ _ _ _ _ _ _ _ _ (HOTwA0_0.out.rd) rfl (HOTwA0_1.out.rd) rfl (HOTwA0_2.out.rd) rfl (HOTwA0_3.out.rd) rfl (HOTwA0_4.out.rd) rfl
       refine hq9.mono ?_
       clear hq9
       rintro e w5 ⟨wAr1, wcr1, rfl, ho0, hb5⟩
       have hz5 : w4.heap.size ≤ w5.heap.size := by have := hb5.size; first | omega | (simp at this; omega)
       have hzz5 : w.heap.size ≤ w5.heap.size := by omega
       have HB5 : Hid (Below w.heap.size w w5) := below_then (by ((repeat (first | refine Below.alloc ?_ (by first | omega | (simp; done) | (simp; omega)) _ | refine Below.drew ?_)); exact HB4.out)) hb5 (by first | omega | (simp; done) | (simp; omega))
       replace HXaB : Hid (Box w5 (w.heap.size) [.int .i64 z0_0, .slice A0_0 n0_0 c0_0, .slice A0_1 n0_1 c0_1, .slice A0_2 n0_2 c0_2, .int .i64 z0_1, .slice A0_3 n0_3 c0_3, .int .i64 z0_2, .slice A0_4 n0_4 c0_4, .int .i64 d0_0.num, .int .i64 d0_0.size, .string d0_0.root, .int .i64 d0_0.taken, .string d0_0.troot]) := Box.below HXaB.out hb5
       clear hxaB hkaB
       have hxaB := HXaB.out.2
       have hkaB := HXaB.out.1
       replace HXaR : Hid (Box w5 (w.heap.size + 1) [.string e1.reader, .string e1.topic, .int .i64 e1.index]) := Box.below HXaR.out hb5
       clear hxaR hkaR
       have hxaR := HXaR.out.2
       have hkaR := HXaR.out.1
       replace HOTwA0_0 := Lib.hid (HOTwA0_0.out.below hb5)
       replace HOTwA0_1 := Lib.hid (HOTwA0_1.out.below hb5)
       replace HOTwA0_2 := Lib.hid (HOTwA0_2.out.below hb5)
       replace HOTwA0_3 := Lib.hid (HOTwA0_3.out.below hb5)
       replace HOTwA0_4 := Lib.hid (HOTwA0_4.out.below hb5)
       obtain ⟨qwAr1, hqwAr1, HOwAr1⟩ : ∃ q, w4.heap.size ≤ q ∧ Hid (Own w5 q w5.heap.size wAr1 (strs lr1)) := ⟨_, by first | omega | (simp at *; done) | (simp at *; omega), ho0⟩
       clear hb5 ho0))
   go_wp2_with fail
   refine (toBroker_c z0_0 z0_1 z0_2 d0_0 A0_0 A0_1 A0_2 A0_3 A0_4 c0_0 c0_1 c0_2 c0_3 c0_4 n0_0 n0_1 n0_2 n0_3 n0_4 l0_0 l0_1 l0_2 l0_3 l0_4 _ _ _ _ _ _ _ _ _ _ _ (hrA0_0.below (by ((repeat (first | refine Below.alloc ?_ (by first | omega | (simp; done) | (simp; omega)) _ | refine Below.drew ?_)); exact HB5.out))) HNA0_0.out hmA0_0 (hrA0_1.below (by ((repeat (first | refine Below.alloc ?_ (by first | omega | (simp; done) | (simp; omega)) _ | refine Below.drew ?_)); exact HB5.out))) HNA0_1.out hmA0_1 (hrA0_2.below (by ((repeat (first | refine Below.alloc ?_ (by first | omega | (simp; done) | (simp; omega)) _ | refine Below.drew ?_)); exact HB5.out))) HNA0_2.out hmA0_2 (hrA0_3.below (by ((repeat (first | refine Below.alloc ?_ (by first | omega | (simp; done) | (simp; omega)) _ | refine Below.drew ?_)); exact HB5.out))) HNA0_3.out hmA0_3 (hrA0_4.below (by ((repeat (first | refine Below.alloc ?_ (by first | omega | (simp; done) | (simp; omega)) _ | refine Below.drew ?_)); exact HB5.out))) HNA0_4.out hmA0_4).mono ?_
   rintro e w6 ⟨Tx0A0_0, Tx0A0_1, Tx0A0_2, Tx0A0_3, Tx0A0_4, mm6_1, mm6_2, mm6_3, mm6_4, rfl, le6_0, le6_1, le6_2, le6_3, le6_4, ho0, ho1, ho2, ho3, ho4, hb6⟩
   have hz6 : w5.heap.size ≤ w6.heap.size := by have := hb6.size; first | omega | (simp at this; omega)
   have hzz6 : w.heap.size ≤ w6.heap.size := by omega
   have HB6 : Hid (Below w.heap.size w w6) := below_then (by ((repeat (first | refine Below.alloc ?_ (by first | omega | (simp; done) | (simp; omega)) _ | refine Below.drew ?_)); exact HB5.out)) hb6 (by first | omega | (simp; done) | (simp; omega))
   replace HXaB : Hid (Box w6 (w.heap.size) [.int .i64 z0_0, .slice A0_0 n0_0 c0_0, .slice A0_1 n0_1 c0_1, .slice A0_2 n0_2 c0_2, .int .i64 z0_1, .slice A0_3 n0_3 c0_3, .int .i64 z0_2, .slice A0_4 n0_4 c0_4, .int .i64 d0_0.num, .int .i64 d0_0.size, .string d0_0.root, .int .i64 d0_0.taken, .string d0_0.troot]) := Box.below HXaB.out hb6
   clear hxaB hkaB
   have hxaB := HXaB.out.2
   have hkaB := HXaB.out.1
   replace HXaR : Hid (Box w6 (w.heap.size + 1) [.string e1.reader, .string e1.topic, .int .i64 e1.index]) := Box.below HXaR.out hb6
   clear hxaR hkaR
   have hxaR := HXaR.out.2
   have hkaR := HXaR.out.1
   replace HOTwA0_0 := Lib.hid (HOTwA0_0.out.below hb6)
   replace HOTwA0_1 := Lib.hid (HOTwA0_1.out.below hb6)
   replace HOTwA0_2 := Lib.hid (HOTwA0_2.out.below hb6)
   replace HOTwA0_3 := Lib.hid (HOTwA0_3.out.below hb6)
   replace HOTwA0_4 := Lib.hid (HOTwA0_4.out.below hb6)
   replace HOwAr1 := Lib.hid (HOwAr1.out.below hb6)
   obtain ⟨qTx0A0_0, hqTx0A0_0, hqqTx0A0_0, HOTx0A0_0⟩ : ∃ q, w5.heap.size ≤ q ∧ mm6_1 ≤ w6.heap.size ∧ Hid (Own w6 q mm6_1 Tx0A0_0 (ents l0_0)) := ⟨_, by first | omega | (simp at *; done) | (simp at *; omega), by first | omega | (simp at *; done) | (simp at *; omega), ho0⟩
   obtain ⟨qTx0A0_1, hqTx0A0_1, hqqTx0A0_1, HOTx0A0_1⟩ : ∃ q, mm6_1 ≤ q ∧ mm6_2 ≤ w6.heap.size ∧ Hid (Own w6 q mm6_2 Tx0A0_1 (rcps l0_1)) := ⟨_, by first | omega | (simp at *; done) | (simp at *; omega), by first | omega | (simp at *; done) | (simp at *; omega), ho1⟩
   obtain ⟨qTx0A0_2, hqTx0A0_2, hqqTx0A0_2, HOTx0A0_2⟩ : ∃ q, mm6_2 ≤ q ∧ mm6_3 ≤ w6.heap.size ∧ Hid (Own w6 q mm6_3 Tx0A0_2 (hds l0_2)) := ⟨_, by first | omega | (simp at *; done) | (simp at *; omega), by first | omega | (simp at *; done) | (simp at *; omega), ho2⟩
   obtain ⟨qTx0A0_3, hqTx0A0_3, hqqTx0A0_3, HOTx0A0_3⟩ : ∃ q, mm6_3 ≤ q ∧ mm6_4 ≤ w6.heap.size ∧ Hid (Own w6 q mm6_4 Tx0A0_3 (strs l0_3)) := ⟨_, by first | omega | (simp at *; done) | (simp at *; omega), by first | omega | (simp at *; done) | (simp at *; omega), ho3⟩
   obtain ⟨qTx0A0_4, hqTx0A0_4, hqqTx0A0_4, HOTx0A0_4⟩ : ∃ q, mm6_4 ≤ q ∧ w6.heap.size ≤ w6.heap.size ∧ Hid (Own w6 q w6.heap.size Tx0A0_4 (strs l0_4)) := ⟨_, by first | omega | (simp at *; done) | (simp at *; omega), by first | omega | (simp at *; done) | (simp at *; omega), ho4⟩
   clear hb6 ho0 ho1 ho2 ho3 ho4
   go_wp2_with fail
   go_region_held3 (fun w' => (∀ o, w'.cell? ⟨w6.heap.size, o, none⟩ = [.int .i64 z0_0, .slice Tx0A0_0 n0_0 n0_0, .slice Tx0A0_1 n0_1 n0_1, .slice Tx0A0_2 n0_2 n0_2, .int .i64 z0_1, .slice Tx0A0_3 n0_3 n0_3, .int .i64 z0_2, .slice Tx0A0_4 n0_4 n0_4, .int .i64 d0_0.num, .int .i64 d0_0.size, .string d0_0.root, .int .i64 d0_0.taken, .string d0_0.troot][o]?) ∧ (∀ o, w'.cell? ⟨w.heap.size + 1, o, none⟩ = [.string e1.reader, .string e1.topic, .int .i64 e1.index][o]?))
    (first | exact ⟨((Box.new0 _ _ _).drew).2, ((HXaR.out.alloc _).drew).2⟩ | exact ⟨HXx0.out.2, HXaR.out.2⟩)
    (first
    | (go_at_call 14
       with_reducible refine (toReceipt_c e1 _).mono ?_
       rintro e w7 ⟨rfl, hb7⟩
       have hz7 : w6.heap.size + 1 ≤ w7.heap.size := by have := hb7.size; first | omega | (simp at this; omega)
       have hzz7 : w.heap.size ≤ w7.heap.size := by omega
       have HB7 : Hid (Below w.heap.size w w7) := below_then (by ((repeat (first | refine Below.alloc ?_ (by first | omega | (simp; done) | (simp; omega)) _ | refine Below.drew ?_)); exact HB6.out)) hb7 (by first | omega | (simp; done) | (simp; omega))
       replace HXaB : Hid (Box w7 (w.heap.size) [.int .i64 z0_0, .slice A0_0 n0_0 c0_0, .slice A0_1 n0_1 c0_1, .slice A0_2 n0_2 c0_2, .int .i64 z0_1, .slice A0_3 n0_3 c0_3, .int .i64 z0_2, .slice A0_4 n0_4 c0_4, .int .i64 d0_0.num, .int .i64 d0_0.size, .string d0_0.root, .int .i64 d0_0.taken, .string d0_0.troot]) := Box.below ((HXaB.out.alloc _).drew) hb7
       clear hxaB hkaB
       have hxaB := HXaB.out.2
       have hkaB := HXaB.out.1
       replace HXaR : Hid (Box w7 (w.heap.size + 1) [.string e1.reader, .string e1.topic, .int .i64 e1.index]) := Box.below ((HXaR.out.alloc _).drew) hb7
       clear hxaR hkaR
       have hxaR := HXaR.out.2
       have hkaR := HXaR.out.1
       have HXx0 : Hid (Box w7 (w6.heap.size) [.int .i64 z0_0, .slice Tx0A0_0 n0_0 n0_0, .slice Tx0A0_1 n0_1 n0_1, .slice Tx0A0_2 n0_2 n0_2, .int .i64 z0_1, .slice Tx0A0_3 n0_3 n0_3, .int .i64 z0_2, .slice Tx0A0_4 n0_4 n0_4, .int .i64 d0_0.num, .int .i64 d0_0.size, .string d0_0.root, .int .i64 d0_0.taken, .string d0_0.troot]) := Box.below ((Box.new0 _ _ _).drew) hb7
       have hxx0 := HXx0.out.2
       have hkx0 := HXx0.out.1
       replace HOTwA0_0 : Hid (Own w7 qTwA0_0 mm3_1 TwA0_0 (ents l0_0)) := ((HOTwA0_0.out.alloc _).drew).below hb7
       replace HOTwA0_1 : Hid (Own w7 qTwA0_1 mm3_2 TwA0_1 (rcps l0_1)) := ((HOTwA0_1.out.alloc _).drew).below hb7
       replace HOTwA0_2 : Hid (Own w7 qTwA0_2 mm3_3 TwA0_2 (hds l0_2)) := ((HOTwA0_2.out.alloc _).drew).below hb7
       replace HOTwA0_3 : Hid (Own w7 qTwA0_3 mm3_4 TwA0_3 (strs l0_3)) := ((HOTwA0_3.out.alloc _).drew).below hb7
       replace HOTwA0_4 : Hid (Own w7 qTwA0_4 w3.heap.size TwA0_4 (strs l0_4)) := ((HOTwA0_4.out.alloc _).drew).below hb7
       replace HOwAr1 : Hid (Own w7 qwAr1 w5.heap.size wAr1 (strs lr1)) := ((HOwAr1.out.alloc _).drew).below hb7
       replace HOTx0A0_0 : Hid (Own w7 qTx0A0_0 mm6_1 Tx0A0_0 (ents l0_0)) := ((HOTx0A0_0.out.alloc _).drew).below hb7
       replace HOTx0A0_1 : Hid (Own w7 qTx0A0_1 mm6_2 Tx0A0_1 (rcps l0_1)) := ((HOTx0A0_1.out.alloc _).drew).below hb7
       replace HOTx0A0_2 : Hid (Own w7 qTx0A0_2 mm6_3 Tx0A0_2 (hds l0_2)) := ((HOTx0A0_2.out.alloc _).drew).below hb7
       replace HOTx0A0_3 : Hid (Own w7 qTx0A0_3 mm6_4 Tx0A0_3 (strs l0_3)) := ((HOTx0A0_3.out.alloc _).drew).below hb7
       replace HOTx0A0_4 : Hid (Own w7 qTx0A0_4 w6.heap.size Tx0A0_4 (strs l0_4)) := ((HOTx0A0_4.out.alloc _).drew).below hb7
       clear hb7)
    | (go_at_call 15
       have hq9 := HIM hbk _ _ _ _ _ _ _ _ _ _ _ _ _ _ _ _ _ _ _ _ _ (HOTx0A0_0.out.rd) rfl (HOTx0A0_1.out.rd) rfl (HOTx0A0_2.out.rd) rfl (HOTx0A0_3.out.rd) rfl (HOTx0A0_4.out.rd) rfl
       refine hq9.mono ?_
       clear hq9
       rintro e w8 ⟨gAr1, gcr1, rfl, ho0, hb8⟩
       have hz8 : w7.heap.size ≤ w8.heap.size := by have := hb8.size; first | omega | (simp at this; omega)
       have hzz8 : w.heap.size ≤ w8.heap.size := by omega
       have HB8 : Hid (Below w.heap.size w w8) := below_then (by ((repeat (first | refine Below.alloc ?_ (by first | omega | (simp; done) | (simp; omega)) _ | refine Below.drew ?_)); exact HB7.out)) hb8 (by first | omega | (simp; done) | (simp; omega))
       replace HXaB : Hid (Box w8 (w.heap.size) [.int .i64 z0_0, .slice A0_0 n0_0 c0_0, .slice A0_1 n0_1 c0_1, .slice A0_2 n0_2 c0_2, .int .i64 z0_1, .slice A0_3 n0_3 c0_3, .int .i64 z0_2, .slice A0_4 n0_4 c0_4, .int .i64 d0_0.num, .int .i64 d0_0.size, .string d0_0.root, .int .i64 d0_0.taken, .string d0_0.troot]) := Box.below HXaB.out hb8
       clear hxaB hkaB
       have hxaB := HXaB.out.2
       have hkaB := HXaB.out.1
       replace HXaR : Hid (Box w8 (w.heap.size + 1) [.string e1.reader, .string e1.topic, .int .i64 e1.index]) := Box.below HXaR.out hb8
       clear hxaR hkaR
       have hxaR := HXaR.out.2
       have hkaR := HXaR.out.1
       replace HXx0 : Hid (Box w8 (w6.heap.size) [.int .i64 z0_0, .slice Tx0A0_0 n0_0 n0_0, .slice Tx0A0_1 n0_1 n0_1, .slice Tx0A0_2 n0_2 n0_2, .int .i64 z0_1, .slice Tx0A0_3 n0_3 n0_3, .int .i64 z0_2, .slice Tx0A0_4 n0_4 n0_4, .int .i64 d0_0.num, .int .i64 d0_0.size, .string d0_0.root, .int .i64 d0_0.taken, .string d0_0.troot]) := Box.below HXx0.out hb8
       clear hxx0 hkx0
       have hxx0 := HXx0.out.2
       have hkx0 := HXx0.out.1
       replace HOTwA0_0 := Lib.hid (HOTwA0_0.out.below hb8)
       replace HOTwA0_1 := Lib.hid (HOTwA0_1.out.below hb8)
       replace HOTwA0_2 := Lib.hid (HOTwA0_2.out.below hb8)
       replace HOTwA0_3 := Lib.hid (HOTwA0_3.out.below hb8)
       replace HOTwA0_4 := Lib.hid (HOTwA0_4.out.below hb8)
       replace HOwAr1 := Lib.hid (HOwAr1.out.below hb8)
       replace HOTx0A0_0 := Lib.hid (HOTx0A0_0.out.below hb8)
       replace HOTx0A0_1 := Lib.hid (HOTx0A0_1.out.below hb8)
       replace HOTx0A0_2 := Lib.hid (HOTx0A0_2.out.below hb8)
       replace HOTx0A0_3 := Lib.hid (HOTx0A0_3.out.below hb8)
       replace HOTx0A0_4 := Lib.hid (HOTx0A0_4.out.below hb8)
       obtain ⟨qgAr1, hqgAr1, HOgAr1⟩ : ∃ q, w7.heap.size ≤ q ∧ Hid (Own w8 q w8.heap.size gAr1 (strs lr1)) := ⟨_, by first | omega | (simp at *; done) | (simp at *; omega), ho0⟩
       clear hb8 ho0))
   go_wp2_with fail
   refine (eqStringS_c' gAr1 wAr1 _ _ _ _ _ _ nr1 nr1 lr1 _ (HOgAr1.out.rd) (HOwAr1.out.rd) HRNAr1.out HRNAr1.out (by unfold maxLen; omega)).mono ?_
   rintro e w9 ⟨rfl, hb9⟩
   have hz9 : w8.heap.size ≤ w9.heap.size := by have := hb9.size; first | omega | (simp at this; omega)
   have hzz9 : w.heap.size ≤ w9.heap.size := by omega
   have HB9 : Hid (Below w.heap.size w w9) := below_then (by ((repeat (first | refine Below.alloc ?_ (by first | omega | (simp; done) | (simp; omega)) _ | refine Below.drew ?_)); exact HB8.out)) hb9 (by first | omega | (simp; done) | (simp; omega))
   replace HXaB : Hid (Box w9 (w.heap.size) [.int .i64 z0_0, .slice A0_0 n0_0 c0_0, .slice A0_1 n0_1 c0_1, .slice A0_2 n0_2 c0_2, .int .i64 z0_1, .slice A0_3 n0_3 c0_3, .int .i64 z0_2, .slice A0_4 n0_4 c0_4, .int .i64 d0_0.num, .int .i64 d0_0.size, .string d0_0.root, .int .i64 d0_0.taken, .string d0_0.troot]) := Box.below HXaB.out hb9
   clear hxaB hkaB
   have hxaB := HXaB.out.2
   have hkaB := HXaB.out.1
   replace HXaR : Hid (Box w9 (w.heap.size + 1) [.string e1.reader, .string e1.topic, .int .i64 e1.index]) := Box.below HXaR.out hb9
   clear hxaR hkaR
   have hxaR := HXaR.out.2
   have hkaR := HXaR.out.1
   replace HXx0 : Hid (Box w9 (w6.heap.size) [.int .i64 z0_0, .slice Tx0A0_0 n0_0 n0_0, .slice Tx0A0_1 n0_1 n0_1, .slice Tx0A0_2 n0_2 n0_2, .int .i64 z0_1, .slice Tx0A0_3 n0_3 n0_3, .int .i64 z0_2, .slice Tx0A0_4 n0_4 n0_4, .int .i64 d0_0.num, .int .i64 d0_0.size, .string d0_0.root, .int .i64 d0_0.taken, .string d0_0.troot]) := Box.below HXx0.out hb9
   clear hxx0 hkx0
   have hxx0 := HXx0.out.2
   have hkx0 := HXx0.out.1
   replace HOTwA0_0 := Lib.hid (HOTwA0_0.out.below hb9)
   replace HOTwA0_1 := Lib.hid (HOTwA0_1.out.below hb9)
   replace HOTwA0_2 := Lib.hid (HOTwA0_2.out.below hb9)
   replace HOTwA0_3 := Lib.hid (HOTwA0_3.out.below hb9)
   replace HOTwA0_4 := Lib.hid (HOTwA0_4.out.below hb9)
   replace HOwAr1 := Lib.hid (HOwAr1.out.below hb9)
   replace HOTx0A0_0 := Lib.hid (HOTx0A0_0.out.below hb9)
   replace HOTx0A0_1 := Lib.hid (HOTx0A0_1.out.below hb9)
   replace HOTx0A0_2 := Lib.hid (HOTx0A0_2.out.below hb9)
   replace HOTx0A0_3 := Lib.hid (HOTx0A0_3.out.below hb9)
   replace HOTx0A0_4 := Lib.hid (HOTx0A0_4.out.below hb9)
   replace HOgAr1 := Lib.hid (HOgAr1.out.below hb9)
   clear hb9
   go_wp2_with fail
   go_region_held3 (fun w' => (∀ o, w'.cell? ⟨w6.heap.size, o, none⟩ = [.int .i64 z0_0, .slice Tx0A0_0 n0_0 n0_0, .slice Tx0A0_1 n0_1 n0_1, .slice Tx0A0_2 n0_2 n0_2, .int .i64 z0_1, .slice Tx0A0_3 n0_3 n0_3, .int .i64 z0_2, .slice Tx0A0_4 n0_4 n0_4, .int .i64 d0_0.num, .int .i64 d0_0.size, .string d0_0.root, .int .i64 d0_0.taken, .string d0_0.troot][o]?) ∧ (∀ o, w'.cell? ⟨w.heap.size, o, none⟩ = [.int .i64 z0_0, .slice A0_0 n0_0 c0_0, .slice A0_1 n0_1 c0_1, .slice A0_2 n0_2 c0_2, .int .i64 z0_1, .slice A0_3 n0_3 c0_3, .int .i64 z0_2, .slice A0_4 n0_4 c0_4, .int .i64 d0_0.num, .int .i64 d0_0.size, .string d0_0.root, .int .i64 d0_0.taken, .string d0_0.troot][o]?))
    (first | exact ⟨HXx0.out.2, HXaB.out.2⟩ | exact ⟨HPx0.out.2, HPaB.out.2⟩ | exact ⟨HQx0.out.2, HQaB.out.2⟩)
    (first
    | (go_at_call 13
       with_reducible refine (toBroker_c z0_0 z0_1 z0_2 d0_0 A0_0 A0_1 A0_2 A0_3 A0_4 c0_0 c0_1 c0_2 c0_3 c0_4 n0_0 n0_1 n0_2 n0_3 n0_4 l0_0 l0_1 l0_2 l0_3 l0_4 _ _ _ _ _ _ _ _ _ _ _ (hrA0_0.below (by ((repeat (first | refine Below.alloc ?_ (by first | omega | (simp; done) | (simp; omega)) _ | refine Below.drew ?_)); exact HB9.out))) HNA0_0.out hmA0_0 (hrA0_1.below (by ((repeat (first | refine Below.alloc ?_ (by first | omega | (simp; done) | (simp; omega)) _ | refine Below.drew ?_)); exact HB9.out))) HNA0_1.out hmA0_1 (hrA0_2.below (by ((repeat (first | refine Below.alloc ?_ (by first | omega | (simp; done) | (simp; omega)) _ | refine Below.drew ?_)); exact HB9.out))) HNA0_2.out hmA0_2 (hrA0_3.below (by ((repeat (first | refine Below.alloc ?_ (by first | omega | (simp; done) | (simp; omega)) _ | refine Below.drew ?_)); exact HB9.out))) HNA0_3.out hmA0_3 (hrA0_4.below (by ((repeat (first | refine Below.alloc ?_ (by first | omega | (simp; done) | (simp; omega)) _ | refine Below.drew ?_)); exact HB9.out))) HNA0_4.out hmA0_4).mono ?_
       rintro e w10 ⟨T10A0_0, T10A0_1, T10A0_2, T10A0_3, T10A0_4, mm10_1, mm10_2, mm10_3, mm10_4, rfl, le10_0, le10_1, le10_2, le10_3, le10_4, hod0, hod1, hod2, hod3, hod4, hb10⟩
       have HPx0 : Hid (Box w10 (w6.heap.size) [.int .i64 z0_0, .slice Tx0A0_0 n0_0 n0_0, .slice Tx0A0_1 n0_1 n0_1, .slice Tx0A0_2 n0_2 n0_2, .int .i64 z0_1, .slice Tx0A0_3 n0_3 n0_3, .int .i64 z0_2, .slice Tx0A0_4 n0_4 n0_4, .int .i64 d0_0.num, .int .i64 d0_0.size, .string d0_0.root, .int .i64 d0_0.taken, .string d0_0.troot]) := Box.below (HXx0.out.drew) hb10
       have HPaB : Hid (Box w10 (w.heap.size) [.int .i64 z0_0, .slice A0_0 n0_0 c0_0, .slice A0_1 n0_1 c0_1, .slice A0_2 n0_2 c0_2, .int .i64 z0_1, .slice A0_3 n0_3 c0_3, .int .i64 z0_2, .slice A0_4 n0_4 c0_4, .int .i64 d0_0.num, .int .i64 d0_0.size, .string d0_0.root, .int .i64 d0_0.taken, .string d0_0.troot]) := Box.below (HXaB.out.drew) hb10
       have HPOTwA0_0 : Hid (Own w10 qTwA0_0 mm3_1 TwA0_0 (ents l0_0)) := (HOTwA0_0.out.drew).below hb10
       have HPOTwA0_1 : Hid (Own w10 qTwA0_1 mm3_2 TwA0_1 (rcps l0_1)) := (HOTwA0_1.out.drew).below hb10
       have HPOTwA0_2 : Hid (Own w10 qTwA0_2 mm3_3 TwA0_2 (hds l0_2)) := (HOTwA0_2.out.drew).below hb10
       have HPOTwA0_3 : Hid (Own w10 qTwA0_3 mm3_4 TwA0_3 (strs l0_3)) := (HOTwA0_3.out.drew).below hb10
       have HPOTwA0_4 : Hid (Own w10 qTwA0_4 w3.heap.size TwA0_4 (strs l0_4)) := (HOTwA0_4.out.drew).below hb10
       have HPOwAr1 : Hid (Own w10 qwAr1 w5.heap.size wAr1 (strs lr1)) := (HOwAr1.out.drew).below hb10
       have HPOTx0A0_0 : Hid (Own w10 qTx0A0_0 mm6_1 Tx0A0_0 (ents l0_0)) := (HOTx0A0_0.out.drew).below hb10
       have HPOTx0A0_1 : Hid (Own w10 qTx0A0_1 mm6_2 Tx0A0_1 (rcps l0_1)) := (HOTx0A0_1.out.drew).below hb10
       have HPOTx0A0_2 : Hid (Own w10 qTx0A0_2 mm6_3 Tx0A0_2 (hds l0_2)) := (HOTx0A0_2.out.drew).below hb10
       have HPOTx0A0_3 : Hid (Own w10 qTx0A0_3 mm6_4 Tx0A0_3 (strs l0_3)) := (HOTx0A0_3.out.drew).below hb10
       have HPOTx0A0_4 : Hid (Own w10 qTx0A0_4 w6.heap.size Tx0A0_4 (strs l0_4)) := (HOTx0A0_4.out.drew).below hb10
       have HPOgAr1 : Hid (Own w10 qgAr1 w8.heap.size gAr1 (strs lr1)) := (HOgAr1.out.drew).below hb10
       have hz10 : w9.heap.size ≤ w10.heap.size := hb10.size
       have HB10 : Hid (Below w.heap.size w w10) := below_then HB9.out.drew hb10 (by first | omega | (simp; omega))
       have HBB10 := Lib.hid hb10
       clear hb10)
    | (go_at_call 17
       with_reducible refine (eqBroker_c z0_0 z0_1 z0_2 d0_0 Tx0A0_0 Tx0A0_1 Tx0A0_2 Tx0A0_3 Tx0A0_4 n0_0 n0_1 n0_2 n0_3 n0_4 n0_0 n0_1 n0_2 n0_3 n0_4 l0_0 l0_1 l0_2 l0_3 l0_4 T10A0_0 T10A0_1 T10A0_2 T10A0_3 T10A0_4 n0_0 n0_1 n0_2 n0_3 n0_4 _ _ _ _ _ _ _ _ _ _ _ _ _ _ _ _ _ _ _ _  _ (HPOTx0A0_0.out.rd) hod0.rd HNA0_0.out (by unfold maxLen; omega) (HPOTx0A0_1.out.rd) hod1.rd HNA0_1.out (by unfold maxLen; omega) (HPOTx0A0_2.out.rd) hod2.rd HNA0_2.out (by unfold maxLen; omega) (HPOTx0A0_3.out.rd) hod3.rd HNA0_3.out (by unfold maxLen; omega) (HPOTx0A0_4.out.rd) hod4.rd HNA0_4.out (by unfold maxLen; omega)).mono ?_
       rintro e w11 ⟨rfl, hb11⟩
       have HQx0 : Hid (Box w11 (w6.heap.size) [.int .i64 z0_0, .slice Tx0A0_0 n0_0 n0_0, .slice Tx0A0_1 n0_1 n0_1, .slice Tx0A0_2 n0_2 n0_2, .int .i64 z0_1, .slice Tx0A0_3 n0_3 n0_3, .int .i64 z0_2, .slice Tx0A0_4 n0_4 n0_4, .int .i64 d0_0.num, .int .i64 d0_0.size, .string d0_0.root, .int .i64 d0_0.taken, .string d0_0.troot]) := Box.below HPx0.out hb11
       have HQaB : Hid (Box w11 (w.heap.size) [.int .i64 z0_0, .slice A0_0 n0_0 c0_0, .slice A0_1 n0_1 c0_1, .slice A0_2 n0_2 c0_2, .int .i64 z0_1, .slice A0_3 n0_3 c0_3, .int .i64 z0_2, .slice A0_4 n0_4 c0_4, .int .i64 d0_0.num, .int .i64 d0_0.size, .string d0_0.root, .int .i64 d0_0.taken, .string d0_0.troot]) := Box.below HPaB.out hb11
       have HQOTwA0_0 := Lib.hid (HPOTwA0_0.out.below hb11)
       have HQOTwA0_1 := Lib.hid (HPOTwA0_1.out.below hb11)
       have HQOTwA0_2 := Lib.hid (HPOTwA0_2.out.below hb11)
       have HQOTwA0_3 := Lib.hid (HPOTwA0_3.out.below hb11)
       have HQOTwA0_4 := Lib.hid (HPOTwA0_4.out.below hb11)
       have HQOwAr1 := Lib.hid (HPOwAr1.out.below hb11)
       have HQOTx0A0_0 := Lib.hid (HPOTx0A0_0.out.below hb11)
       have HQOTx0A0_1 := Lib.hid (HPOTx0A0_1.out.below hb11)
       have HQOTx0A0_2 := Lib.hid (HPOTx0A0_2.out.below hb11)
       have HQOTx0A0_3 := Lib.hid (HPOTx0A0_3.out.below hb11)
       have HQOTx0A0_4 := Lib.hid (HPOTx0A0_4.out.below hb11)
       have HQOgAr1 := Lib.hid (HPOgAr1.out.below hb11)
       have HQaR : Hid (Box w11 (w.heap.size + 1) [.string e1.reader, .string e1.topic, .int .i64 e1.index]) := Box.below (Box.below2 HXaR.out.drew HBB10.out) hb11
       have hz11 : w10.heap.size ≤ w11.heap.size := hb11.size
       have HB11 : Hid (Below w.heap.size w w11) := below_then HB10.out hb11 (by first | omega | exact HB10.out.size)
       clear hb11))
   have hzz11 : w.heap.size ≤ w11.heap.size := by omega
   replace HOTwA0_0 := HQOTwA0_0
   clear HQOTwA0_0 HPOTwA0_0
   replace HOTwA0_1 := HQOTwA0_1
   clear HQOTwA0_1 HPOTwA0_1
   replace HOTwA0_2 := HQOTwA0_2
   clear HQOTwA0_2 HPOTwA0_2
   replace HOTwA0_3 := HQOTwA0_3
   clear HQOTwA0_3 HPOTwA0_3
   replace HOTwA0_4 := HQOTwA0_4
   clear HQOTwA0_4 HPOTwA0_4
   replace HOwAr1 := HQOwAr1
   clear HQOwAr1 HPOwAr1
   replace HOTx0A0_0 := HQOTx0A0_0
   clear HQOTx0A0_0 HPOTx0A0_0
   replace HOTx0A0_1 := HQOTx0A0_1
   clear HQOTx0A0_1 HPOTx0A0_1
   replace HOTx0A0_2 := HQOTx0A0_2
   clear HQOTx0A0_2 HPOTx0A0_2
   replace HOTx0A0_3 := HQOTx0A0_3
   clear HQOTx0A0_3 HPOTx0A0_3
   replace HOTx0A0_4 := HQOTx0A0_4
   clear HQOTx0A0_4 HPOTx0A0_4
   replace HOgAr1 := HQOgAr1
   clear HQOgAr1 HPOgAr1
   replace HXaB := HQaB
   clear HQaB HPaB hxaB hkaB
   have hxaB := HXaB.out.2
   have hkaB := HXaB.out.1
   replace HXaR := HQaR
   clear HQaR hxaR hkaR
   have hxaR := HXaR.out.2
   have hkaR := HXaR.out.1
   replace HXx0 := HQx0
   clear HQx0 HPx0 hxx0 hkx0
   have hxx0 := HXx0.out.2
   have hkx0 := HXx0.out.1
   go_wp2_with fail
   refine (markBroker_c z0_0 z0_1 z0_2 d0_0 Tx0A0_0 Tx0A0_1 Tx0A0_2 Tx0A0_3 Tx0A0_4 n0_0 n0_1 n0_2 n0_3 n0_4 n0_0 n0_1 n0_2 n0_3 n0_4 qTx0A0_0 mm6_1 qTx0A0_1 mm6_2 qTx0A0_2 mm6_3 qTx0A0_3 mm6_4 qTx0A0_4 w6.heap.size (1) _ (ents l0_0) (rcps l0_1) (hds l0_2) (strs l0_3) (strs l0_4) _ (by omega) (HOTx0A0_0.out) (by rw [ents_len, HNA0_0.out]) (by omega) (HOTx0A0_1.out) (by rw [rcps_len, HNA0_1.out]) (by omega) (HOTx0A0_2.out) (by rw [hds_len, HNA0_2.out]) (by omega) (HOTx0A0_3.out) (by rw [strs_len]; exact HNA0_3.out) (by omega) (HOTx0A0_4.out) (by rw [strs_len]; exact HNA0_4.out) (by omega) (by omega) (by omega) (by omega) (by omega) (by omega) (by omega) (by omega) (by omega) (by omega) (by omega) (by omega)).mono ?_
   rintro e w12 ⟨v12_1, v12_2, v12_3, v12_4, rfl, ⟨hp12_0, hp12_1, hp12_2, hp12_3, hp12_4⟩, ho0, ho1, ho2, ho3, ho4⟩
   have hz12_0 : w11.heap.size ≤ v12_1.heap.size := by have := hp12_0.size; first | omega | (simp at this; omega)
   have hz12_1 : v12_1.heap.size ≤ v12_2.heap.size := by have := hp12_1.size; first | omega | (simp at this; omega)
   have hz12_2 : v12_2.heap.size ≤ v12_3.heap.size := by have := hp12_2.size; first | omega | (simp at this; omega)
   have hz12_3 : v12_3.heap.size ≤ v12_4.heap.size := by have := hp12_3.size; first | omega | (simp at this; omega)
   have hz12_4 : v12_4.heap.size ≤ w12.heap.size := by have := hp12_4.size; first | omega | (simp at this; omega)
   have hzz12 : w.heap.size ≤ w12.heap.size := by omega
   have HB12 : Hid (Below w.heap.size w w12) := (below_only (below_only (below_only (below_only (below_only (by ((repeat (first | refine Below.alloc ?_ (by first | omega | (simp; done) | (simp; omega)) _ | refine Below.drew ?_)); exact HB11.out)) hp12_0 (by omega) (by first | omega | (simp; omega))) hp12_1 (by omega) (by first | omega | (simp; omega))) hp12_2 (by omega) (by first | omega | (simp; omega))) hp12_3 (by omega) (by first | omega | (simp; omega))) hp12_4 (by omega) (by first | omega | (simp; omega)))
   replace HXaB : Hid (Box w12 (w.heap.size) [.int .i64 z0_0, .slice A0_0 n0_0 c0_0, .slice A0_1 n0_1 c0_1, .slice A0_2 n0_2 c0_2, .int .i64 z0_1, .slice A0_3 n0_3 c0_3, .int .i64 z0_2, .slice A0_4 n0_4 c0_4, .int .i64 d0_0.num, .int .i64 d0_0.size, .string d0_0.root, .int .i64 d0_0.taken, .string d0_0.troot]) := (Box.only (Box.only (Box.only (Box.only (Box.only HXaB.out hp12_0 (by first | omega | (simp; omega))) hp12_1 (by first | omega | (simp; omega))) hp12_2 (by first | omega | (simp; omega))) hp12_3 (by first | omega | (simp; omega))) hp12_4 (by first | omega | (simp; omega)))
   clear hxaB hkaB
   have hxaB := HXaB.out.2
   have hkaB := HXaB.out.1
   replace HXaR : Hid (Box w12 (w.heap.size + 1) [.string e1.reader, .string e1.topic, .int .i64 e1.index]) := (Box.only (Box.only (Box.only (Box.only (Box.only HXaR.out hp12_0 (by first | omega | (simp; omega))) hp12_1 (by first | omega | (simp; omega))) hp12_2 (by first | omega | (simp; omega))) hp12_3 (by first | omega | (simp; omega))) hp12_4 (by first | omega | (simp; omega)))
   clear hxaR hkaR
   have hxaR := HXaR.out.2
   have hkaR := HXaR.out.1
   replace HXx0 : Hid (Box w12 (w6.heap.size) [.int .i64 z0_0, .slice Tx0A0_0 n0_0 n0_0, .slice Tx0A0_1 n0_1 n0_1, .slice Tx0A0_2 n0_2 n0_2, .int .i64 z0_1, .slice Tx0A0_3 n0_3 n0_3, .int .i64 z0_2, .slice Tx0A0_4 n0_4 n0_4, .int .i64 d0_0.num, .int .i64 d0_0.size, .string d0_0.root, .int .i64 d0_0.taken, .string d0_0.troot]) := (Box.only (Box.only (Box.only (Box.only (Box.only HXx0.out hp12_0 (by first | omega | (simp; omega))) hp12_1 (by first | omega | (simp; omega))) hp12_2 (by first | omega | (simp; omega))) hp12_3 (by first | omega | (simp; omega))) hp12_4 (by first | omega | (simp; omega)))
   clear hxx0 hkx0
   have hxx0 := HXx0.out.2
   have hkx0 := HXx0.out.1
   replace HOTwA0_0 : Hid (Own w12 qTwA0_0 mm3_1 TwA0_0 (ents l0_0)) := (((((HOTwA0_0.out.only hp12_0 (by first | omega | (simp; omega))).only hp12_1 (by first | omega | (simp; omega))).only hp12_2 (by first | omega | (simp; omega))).only hp12_3 (by first | omega | (simp; omega))).only hp12_4 (by first | omega | (simp; omega)))
   replace HOTwA0_1 : Hid (Own w12 qTwA0_1 mm3_2 TwA0_1 (rcps l0_1)) := (((((HOTwA0_1.out.only hp12_0 (by first | omega | (simp; omega))).only hp12_1 (by first | omega | (simp; omega))).only hp12_2 (by first | omega | (simp; omega))).only hp12_3 (by first | omega | (simp; omega))).only hp12_4 (by first | omega | (simp; omega)))
   replace HOTwA0_2 : Hid (Own w12 qTwA0_2 mm3_3 TwA0_2 (hds l0_2)) := (((((HOTwA0_2.out.only hp12_0 (by first | omega | (simp; omega))).only hp12_1 (by first | omega | (simp; omega))).only hp12_2 (by first | omega | (simp; omega))).only hp12_3 (by first | omega | (simp; omega))).only hp12_4 (by first | omega | (simp; omega)))
   replace HOTwA0_3 : Hid (Own w12 qTwA0_3 mm3_4 TwA0_3 (strs l0_3)) := (((((HOTwA0_3.out.only hp12_0 (by first | omega | (simp; omega))).only hp12_1 (by first | omega | (simp; omega))).only hp12_2 (by first | omega | (simp; omega))).only hp12_3 (by first | omega | (simp; omega))).only hp12_4 (by first | omega | (simp; omega)))
   replace HOTwA0_4 : Hid (Own w12 qTwA0_4 w3.heap.size TwA0_4 (strs l0_4)) := (((((HOTwA0_4.out.only hp12_0 (by first | omega | (simp; omega))).only hp12_1 (by first | omega | (simp; omega))).only hp12_2 (by first | omega | (simp; omega))).only hp12_3 (by first | omega | (simp; omega))).only hp12_4 (by first | omega | (simp; omega)))
   replace HOwAr1 : Hid (Own w12 qwAr1 w5.heap.size wAr1 (strs lr1)) := (((((HOwAr1.out.only hp12_0 (by first | omega | (simp; omega))).only hp12_1 (by first | omega | (simp; omega))).only hp12_2 (by first | omega | (simp; omega))).only hp12_3 (by first | omega | (simp; omega))).only hp12_4 (by first | omega | (simp; omega)))
   replace HOgAr1 : Hid (Own w12 qgAr1 w8.heap.size gAr1 (strs lr1)) := (((((HOgAr1.out.only hp12_0 (by first | omega | (simp; omega))).only hp12_1 (by first | omega | (simp; omega))).only hp12_2 (by first | omega | (simp; omega))).only hp12_3 (by first | omega | (simp; omega))).only hp12_4 (by first | omega | (simp; omega)))
   clear HOTx0A0_0
   clear HOTx0A0_1
   clear HOTx0A0_2
   clear HOTx0A0_3
   clear HOTx0A0_4
   clear hp12_0 hp12_1 hp12_2 hp12_3 hp12_4 ho0 ho1 ho2 ho3 ho4
   generalize hkk : ((1 + n0_0 * 5 + n0_1 * 3 + n0_2 * 5 + n0_3 + n0_4 : Nat) : Int) = kk12
   have hk0k12 : 0 ≤ kk12 := by omega
   have hkdk12 : decide (kk12 < 0) = false := by simp; omega
   have HKk12 := Lib.hid hkk
   clear hkk
   go_wp2_with fail
   refine (eqStringS_c' gAr1 wAr1 _ _ _ _ _ _ nr1 nr1 lr1 _ (HOgAr1.out.rd) (HOwAr1.out.rd) HRNAr1.out HRNAr1.out (by unfold maxLen; omega)).mono ?_
   rintro e w13 ⟨rfl, hb13⟩
   have hz13 : w12.heap.size ≤ w13.heap.size := by have := hb13.size; first | omega | (simp at this; omega)
   have hzz13 : w.heap.size ≤ w13.heap.size := by omega
   have HB13 : Hid (Below w.heap.size w w13) := below_then (by ((repeat (first | refine Below.alloc ?_ (by first | omega | (simp; done) | (simp; omega)) _ | refine Below.drew ?_)); exact HB12.out)) hb13 (by first | omega | (simp; done) | (simp; omega))
   replace HXaB : Hid (Box w13 (w.heap.size) [.int .i64 z0_0, .slice A0_0 n0_0 c0_0, .slice A0_1 n0_1 c0_1, .slice A0_2 n0_2 c0_2, .int .i64 z0_1, .slice A0_3 n0_3 c0_3, .int .i64 z0_2, .slice A0_4 n0_4 c0_4, .int .i64 d0_0.num, .int .i64 d0_0.size, .string d0_0.root, .int .i64 d0_0.taken, .string d0_0.troot]) := Box.below HXaB.out hb13
   clear hxaB hkaB
   have hxaB := HXaB.out.2
   have hkaB := HXaB.out.1
   replace HXaR : Hid (Box w13 (w.heap.size + 1) [.string e1.reader, .string e1.topic, .int .i64 e1.index]) := Box.below HXaR.out hb13
   clear hxaR hkaR
   have hxaR := HXaR.out.2
   have hkaR := HXaR.out.1
   replace HXx0 : Hid (Box w13 (w6.heap.size) [.int .i64 z0_0, .slice Tx0A0_0 n0_0 n0_0, .slice Tx0A0_1 n0_1 n0_1, .slice Tx0A0_2 n0_2 n0_2, .int .i64 z0_1, .slice Tx0A0_3 n0_3 n0_3, .int .i64 z0_2, .slice Tx0A0_4 n0_4 n0_4, .int .i64 d0_0.num, .int .i64 d0_0.size, .string d0_0.root, .int .i64 d0_0.taken, .string d0_0.troot]) := Box.below HXx0.out hb13
   clear hxx0 hkx0
   have hxx0 := HXx0.out.2
   have hkx0 := HXx0.out.1
   replace HOTwA0_0 := Lib.hid (HOTwA0_0.out.below hb13)
   replace HOTwA0_1 := Lib.hid (HOTwA0_1.out.below hb13)
   replace HOTwA0_2 := Lib.hid (HOTwA0_2.out.below hb13)
   replace HOTwA0_3 := Lib.hid (HOTwA0_3.out.below hb13)
   replace HOTwA0_4 := Lib.hid (HOTwA0_4.out.below hb13)
   replace HOwAr1 := Lib.hid (HOwAr1.out.below hb13)
   replace HOgAr1 := Lib.hid (HOgAr1.out.below hb13)
   clear hb13
   go_wp2_with fail
   refine (markStringS_c gAr1 _ qgAr1 w8.heap.size (1) nr1 _ (strs lr1) _ (by omega) (HOgAr1.out) (by rw [strs_len]; exact HRNAr1.out) (by omega)).mono ?_
   rintro e w14 ⟨rfl, hp14_0, ho0⟩
   have hz14_0 : w13.heap.size ≤ w14.heap.size := by have := hp14_0.size; first | omega | (simp at this; omega)
   have hzz14 : w.heap.size ≤ w14.heap.size := by omega
   have HB14 : Hid (Below w.heap.size w w14) := (below_only (by ((repeat (first | refine Below.alloc ?_ (by first | omega | (simp; done) | (simp; omega)) _ | refine Below.drew ?_)); exact HB13.out)) hp14_0 (by omega) (by first | omega | (simp; omega)))
   replace HXaB : Hid (Box w14 (w.heap.size) [.int .i64 z0_0, .slice A0_0 n0_0 c0_0, .slice A0_1 n0_1 c0_1, .slice A0_2 n0_2 c0_2, .int .i64 z0_1, .slice A0_3 n0_3 c0_3, .int .i64 z0_2, .slice A0_4 n0_4 c0_4, .int .i64 d0_0.num, .int .i64 d0_0.size, .string d0_0.root, .int .i64 d0_0.taken, .string d0_0.troot]) := (Box.only HXaB.out hp14_0 (by first | omega | (simp; omega)))
   clear hxaB hkaB
   have hxaB := HXaB.out.2
   have hkaB := HXaB.out.1
   replace HXaR : Hid (Box w14 (w.heap.size + 1) [.string e1.reader, .string e1.topic, .int .i64 e1.index]) := (Box.only HXaR.out hp14_0 (by first | omega | (simp; omega)))
   clear hxaR hkaR
   have hxaR := HXaR.out.2
   have hkaR := HXaR.out.1
   replace HXx0 : Hid (Box w14 (w6.heap.size) [.int .i64 z0_0, .slice Tx0A0_0 n0_0 n0_0, .slice Tx0A0_1 n0_1 n0_1, .slice Tx0A0_2 n0_2 n0_2, .int .i64 z0_1, .slice Tx0A0_3 n0_3 n0_3, .int .i64 z0_2, .slice Tx0A0_4 n0_4 n0_4, .int .i64 d0_0.num, .int .i64 d0_0.size, .string d0_0.root, .int .i64 d0_0.taken, .string d0_0.troot]) := (Box.only HXx0.out hp14_0 (by first | omega | (simp; omega)))
   clear hxx0 hkx0
   have hxx0 := HXx0.out.2
   have hkx0 := HXx0.out.1
   replace HOTwA0_0 := Lib.hid ((HOTwA0_0.out.only hp14_0 (by first | omega | (simp; omega))))
   replace HOTwA0_1 := Lib.hid ((HOTwA0_1.out.only hp14_0 (by first | omega | (simp; omega))))
   replace HOTwA0_2 := Lib.hid ((HOTwA0_2.out.only hp14_0 (by first | omega | (simp; omega))))
   replace HOTwA0_3 := Lib.hid ((HOTwA0_3.out.only hp14_0 (by first | omega | (simp; omega))))
   replace HOTwA0_4 := Lib.hid ((HOTwA0_4.out.only hp14_0 (by first | omega | (simp; omega))))
   replace HOwAr1 := Lib.hid ((HOwAr1.out.only hp14_0 (by first | omega | (simp; omega))))
   replace HOgAr1 : Hid (Own w14 qgAr1 w8.heap.size gAr1 (strs (marks (1) nr1))) := ho0
   clear hp14_0 ho0
   generalize hkk : ((1 + nr1 : Nat) : Int) = km14
   have hk0m14 : 0 ≤ km14 := by omega
   have hkdm14 : decide (km14 < 0) = false := by simp; omega
   have HKm14 := Lib.hid hkk
   clear hkk
   go_wp2_with fail
   refine (heldStringS_c gAr1 _ _ _ (1) nr1 _ _ (by omega) (HOgAr1.out.rd) (by omega)).mono ?_
   rintro e w15 ⟨rfl, hb15⟩
   have hz15 : w14.heap.size ≤ w15.heap.size := by have := hb15.size; first | omega | (simp at this; omega)
   have hzz15 : w.heap.size ≤ w15.heap.size := by omega
   have HB15 : Hid (Below w.heap.size w w15) := below_then (by ((repeat (first | refine Below.alloc ?_ (by first | omega | (simp; done) | (simp; omega)) _ | refine Below.drew ?_)); exact HB14.out)) hb15 (by first | omega | (simp; done) | (simp; omega))
   replace HXaB : Hid (Box w15 (w.heap.size) [.int .i64 z0_0, .slice A0_0 n0_0 c0_0, .slice A0_1 n0_1 c0_1, .slice A0_2 n0_2 c0_2, .int .i64 z0_1, .slice A0_3 n0_3 c0_3, .int .i64 z0_2, .slice A0_4 n0_4 c0_4, .int .i64 d0_0.num, .int .i64 d0_0.size, .string d0_0.root, .int .i64 d0_0.taken, .string d0_0.troot]) := Box.below HXaB.out hb15
   clear hxaB hkaB
   have hxaB := HXaB.out.2
   have hkaB := HXaB.out.1
   replace HXaR : Hid (Box w15 (w.heap.size + 1) [.string e1.reader, .string e1.topic, .int .i64 e1.index]) := Box.below HXaR.out hb15
   clear hxaR hkaR
   have hxaR := HXaR.out.2
   have hkaR := HXaR.out.1
   replace HXx0 : Hid (Box w15 (w6.heap.size) [.int .i64 z0_0, .slice Tx0A0_0 n0_0 n0_0, .slice Tx0A0_1 n0_1 n0_1, .slice Tx0A0_2 n0_2 n0_2, .int .i64 z0_1, .slice Tx0A0_3 n0_3 n0_3, .int .i64 z0_2, .slice Tx0A0_4 n0_4 n0_4, .int .i64 d0_0.num, .int .i64 d0_0.size, .string d0_0.root, .int .i64 d0_0.taken, .string d0_0.troot]) := Box.below HXx0.out hb15
   clear hxx0 hkx0
   have hxx0 := HXx0.out.2
   have hkx0 := HXx0.out.1
   replace HOTwA0_0 := Lib.hid (HOTwA0_0.out.below hb15)
   replace HOTwA0_1 := Lib.hid (HOTwA0_1.out.below hb15)
   replace HOTwA0_2 := Lib.hid (HOTwA0_2.out.below hb15)
   replace HOTwA0_3 := Lib.hid (HOTwA0_3.out.below hb15)
   replace HOTwA0_4 := Lib.hid (HOTwA0_4.out.below hb15)
   replace HOwAr1 := Lib.hid (HOwAr1.out.below hb15)
   replace HOgAr1 := Lib.hid (HOgAr1.out.below hb15)
   clear hb15
   generalize hkk : ((1 + nr1 : Nat) : Int) = kq15
   have hk0q15 : 0 ≤ kq15 := by omega
   have hkdq15 : decide (kq15 < 0) = false := by simp; omega
   have HKq15 := Lib.hid hkk
   clear hkk
   obtain rfl : kq15 = km14 := HKq15.out.symm.trans HKm14.out
   go_wp2_with fail
   go_region_held3 (fun w' => (∀ o, w'.cell? ⟨w.heap.size, o, none⟩ = [.int .i64 z0_0, .slice A0_0 n0_0 c0_0, .slice A0_1 n0_1 c0_1, .slice A0_2 n0_2 c0_2, .int .i64 z0_1, .slice A0_3 n0_3 c0_3, .int .i64 z0_2, .slice A0_4 n0_4 c0_4, .int .i64 d0_0.num, .int .i64 d0_0.size, .string d0_0.root, .int .i64 d0_0.taken, .string d0_0.troot][o]?) ∧ (∀ o, w'.cell? ⟨w.heap.size + 1, o, none⟩ = [.string e1.reader, .string e1.topic, .int .i64 e1.index][o]?))
    (first | exact ⟨(HXaB.out.drew).2, (HXaR.out.drew).2⟩ | exact ⟨HXaB.out.2, HXaR.out.2⟩)
    (first
    | (go_at_call 13
       with_reducible refine (toBroker_c z0_0 z0_1 z0_2 d0_0 A0_0 A0_1 A0_2 A0_3 A0_4 c0_0 c0_1 c0_2 c0_3 c0_4 n0_0 n0_1 n0_2 n0_3 n0_4 l0_0 l0_1 l0_2 l0_3 l0_4 _ _ _ _ _ _ _ _ _ _ _ (hrA0_0.below (by ((repeat (first | refine Below.alloc ?_ (by first | omega | (simp; done) | (simp; omega)) _ | refine Below.drew ?_)); exact HB15.out))) HNA0_0.out hmA0_0 (hrA0_1.below (by ((repeat (first | refine Below.alloc ?_ (by first | omega | (simp; done) | (simp; omega)) _ | refine Below.drew ?_)); exact HB15.out))) HNA0_1.out hmA0_1 (hrA0_2.below (by ((repeat (first | refine Below.alloc ?_ (by first | omega | (simp; done) | (simp; omega)) _ | refine Below.drew ?_)); exact HB15.out))) HNA0_2.out hmA0_2 (hrA0_3.below (by ((repeat (first | refine Below.alloc ?_ (by first | omega | (simp; done) | (simp; omega)) _ | refine Below.drew ?_)); exact HB15.out))) HNA0_3.out hmA0_3 (hrA0_4.below (by ((repeat (first | refine Below.alloc ?_ (by first | omega | (simp; done) | (simp; omega)) _ | refine Below.drew ?_)); exact HB15.out))) HNA0_4.out hmA0_4).mono ?_
       rintro e w16 ⟨ThA0_0, ThA0_1, ThA0_2, ThA0_3, ThA0_4, mm16_1, mm16_2, mm16_3, mm16_4, rfl, le16_0, le16_1, le16_2, le16_3, le16_4, ho0, ho1, ho2, ho3, ho4, hb16⟩
       have hz16 : w15.heap.size ≤ w16.heap.size := by have := hb16.size; first | omega | (simp at this; omega)
       have hzz16 : w.heap.size ≤ w16.heap.size := by omega
       have HB16 : Hid (Below w.heap.size w w16) := below_then (by ((repeat (first | refine Below.alloc ?_ (by first | omega | (simp; done) | (simp; omega)) _ | refine Below.drew ?_)); exact HB15.out)) hb16 (by first | omega | (simp; done) | (simp; omega))
       replace HXaB : Hid (Box w16 (w.heap.size) [.int .i64 z0_0, .slice A0_0 n0_0 c0_0, .slice A0_1 n0_1 c0_1, .slice A0_2 n0_2 c0_2, .int .i64 z0_1, .slice A0_3 n0_3 c0_3, .int .i64 z0_2, .slice A0_4 n0_4 c0_4, .int .i64 d0_0.num, .int .i64 d0_0.size, .string d0_0.root, .int .i64 d0_0.taken, .string d0_0.troot]) := Box.below (HXaB.out.drew) hb16
       clear hxaB hkaB
       have hxaB := HXaB.out.2
       have hkaB := HXaB.out.1
       replace HXaR : Hid (Box w16 (w.heap.size + 1) [.string e1.reader, .string e1.topic, .int .i64 e1.index]) := Box.below (HXaR.out.drew) hb16
       clear hxaR hkaR
       have hxaR := HXaR.out.2
       have hkaR := HXaR.out.1
       replace HXx0 : Hid (Box w16 (w6.heap.size) [.int .i64 z0_0, .slice Tx0A0_0 n0_0 n0_0, .slice Tx0A0_1 n0_1 n0_1, .slice Tx0A0_2 n0_2 n0_2, .int .i64 z0_1, .slice Tx0A0_3 n0_3 n0_3, .int .i64 z0_2, .slice Tx0A0_4 n0_4 n0_4, .int .i64 d0_0.num, .int .i64 d0_0.size, .string d0_0.root, .int .i64 d0_0.taken, .string d0_0.troot]) := Box.below (HXx0.out.drew) hb16
       clear hxx0 hkx0
       have hxx0 := HXx0.out.2
       have hkx0 := HXx0.out.1
       replace HOTwA0_0 : Hid (Own w16 qTwA0_0 mm3_1 TwA0_0 (ents l0_0)) := (HOTwA0_0.out.drew).below hb16
       replace HOTwA0_1 : Hid (Own w16 qTwA0_1 mm3_2 TwA0_1 (rcps l0_1)) := (HOTwA0_1.out.drew).below hb16
       replace HOTwA0_2 : Hid (Own w16 qTwA0_2 mm3_3 TwA0_2 (hds l0_2)) := (HOTwA0_2.out.drew).below hb16
       replace HOTwA0_3 : Hid (Own w16 qTwA0_3 mm3_4 TwA0_3 (strs l0_3)) := (HOTwA0_3.out.drew).below hb16
       replace HOTwA0_4 : Hid (Own w16 qTwA0_4 w3.heap.size TwA0_4 (strs l0_4)) := (HOTwA0_4.out.drew).below hb16
       replace HOwAr1 : Hid (Own w16 qwAr1 w5.heap.size wAr1 (strs lr1)) := (HOwAr1.out.drew).below hb16
       replace HOgAr1 : Hid (Own w16 qgAr1 w8.heap.size gAr1 (strs (marks (1) nr1))) := (HOgAr1.out.drew).below hb16
       obtain ⟨qThA0_0, hqThA0_0, hqqThA0_0, HOThA0_0⟩ : ∃ q, w15.heap.size ≤ q ∧ mm16_1 ≤ w16.heap.size ∧ Hid (Own w16 q mm16_1 ThA0_0 (ents l0_0)) := ⟨_, by first | omega | (simp at *; done) | (simp at *; omega), by first | omega | (simp at *; done) | (simp at *; omega), ho0⟩
       obtain ⟨qThA0_1, hqThA0_1, hqqThA0_1, HOThA0_1⟩ : ∃ q, mm16_1 ≤ q ∧ mm16_2 ≤ w16.heap.size ∧ Hid (Own w16 q mm16_2 ThA0_1 (rcps l0_1)) := ⟨_, by first | omega | (simp at *; done) | (simp at *; omega), by first | omega | (simp at *; done) | (simp at *; omega), ho1⟩
       obtain ⟨qThA0_2, hqThA0_2, hqqThA0_2, HOThA0_2⟩ : ∃ q, mm16_2 ≤ q ∧ mm16_3 ≤ w16.heap.size ∧ Hid (Own w16 q mm16_3 ThA0_2 (hds l0_2)) := ⟨_, by first | omega | (simp at *; done) | (simp at *; omega), by first | omega | (simp at *; done) | (simp at *; omega), ho2⟩
       obtain ⟨qThA0_3, hqThA0_3, hqqThA0_3, HOThA0_3⟩ : ∃ q, mm16_3 ≤ q ∧ mm16_4 ≤ w16.heap.size ∧ Hid (Own w16 q mm16_4 ThA0_3 (strs l0_3)) := ⟨_, by first | omega | (simp at *; done) | (simp at *; omega), by first | omega | (simp at *; done) | (simp at *; omega), ho3⟩
       obtain ⟨qThA0_4, hqThA0_4, hqqThA0_4, HOThA0_4⟩ : ∃ q, mm16_4 ≤ q ∧ w16.heap.size ≤ w16.heap.size ∧ Hid (Own w16 q w16.heap.size ThA0_4 (strs l0_4)) := ⟨_, by first | omega | (simp at *; done) | (simp at *; omega), by first | omega | (simp at *; done) | (simp at *; omega), ho4⟩
       clear hb16 ho0 ho1 ho2 ho3 ho4)
    | (go_at_call 14
       with_reducible refine (toReceipt_c e1 _).mono ?_
       rintro e w17 ⟨rfl, hb17⟩
       have hz17 : w16.heap.size ≤ w17.heap.size := by have := hb17.size; first | omega | (simp at this; omega)
       have hzz17 : w.heap.size ≤ w17.heap.size := by omega
       have HB17 : Hid (Below w.heap.size w w17) := below_then (by ((repeat (first | refine Below.alloc ?_ (by first | omega | (simp; done) | (simp; omega)) _ | refine Below.drew ?_)); exact HB16.out)) hb17 (by first | omega | (simp; done) | (simp; omega))
       replace HXaB : Hid (Box w17 (w.heap.size) [.int .i64 z0_0, .slice A0_0 n0_0 c0_0, .slice A0_1 n0_1 c0_1, .slice A0_2 n0_2 c0_2, .int .i64 z0_1, .slice A0_3 n0_3 c0_3, .int .i64 z0_2, .slice A0_4 n0_4 c0_4, .int .i64 d0_0.num, .int .i64 d0_0.size, .string d0_0.root, .int .i64 d0_0.taken, .string d0_0.troot]) := Box.below HXaB.out hb17
       clear hxaB hkaB
       have hxaB := HXaB.out.2
       have hkaB := HXaB.out.1
       replace HXaR : Hid (Box w17 (w.heap.size + 1) [.string e1.reader, .string e1.topic, .int .i64 e1.index]) := Box.below HXaR.out hb17
       clear hxaR hkaR
       have hxaR := HXaR.out.2
       have hkaR := HXaR.out.1
       replace HXx0 : Hid (Box w17 (w6.heap.size) [.int .i64 z0_0, .slice Tx0A0_0 n0_0 n0_0, .slice Tx0A0_1 n0_1 n0_1, .slice Tx0A0_2 n0_2 n0_2, .int .i64 z0_1, .slice Tx0A0_3 n0_3 n0_3, .int .i64 z0_2, .slice Tx0A0_4 n0_4 n0_4, .int .i64 d0_0.num, .int .i64 d0_0.size, .string d0_0.root, .int .i64 d0_0.taken, .string d0_0.troot]) := Box.below HXx0.out hb17
       clear hxx0 hkx0
       have hxx0 := HXx0.out.2
       have hkx0 := HXx0.out.1
       replace HOTwA0_0 := Lib.hid (HOTwA0_0.out.below hb17)
       replace HOTwA0_1 := Lib.hid (HOTwA0_1.out.below hb17)
       replace HOTwA0_2 := Lib.hid (HOTwA0_2.out.below hb17)
       replace HOTwA0_3 := Lib.hid (HOTwA0_3.out.below hb17)
       replace HOTwA0_4 := Lib.hid (HOTwA0_4.out.below hb17)
       replace HOwAr1 := Lib.hid (HOwAr1.out.below hb17)
       replace HOgAr1 := Lib.hid (HOgAr1.out.below hb17)
       replace HOThA0_0 := Lib.hid (HOThA0_0.out.below hb17)
       replace HOThA0_1 := Lib.hid (HOThA0_1.out.below hb17)
       replace HOThA0_2 := Lib.hid (HOThA0_2.out.below hb17)
       replace HOThA0_3 := Lib.hid (HOThA0_3.out.below hb17)
       replace HOThA0_4 := Lib.hid (HOThA0_4.out.below hb17)
       clear hb17)
    | (go_at_call 15
       have hq9 := HIM hbk _ _ _ _ _ _ _ _ _ _ _ _ _ _ _ _ _ _ _ _ _ (HOThA0_0.out.rd) rfl (HOThA0_1.out.rd) rfl (HOThA0_2.out.rd) rfl (HOThA0_3.out.rd) rfl (HOThA0_4.out.rd) rfl
       refine hq9.mono ?_
       clear hq9
       rintro e w18 ⟨hAr1, hcr1, rfl, ho0, hb18⟩
       have hz18 : w17.heap.size ≤ w18.heap.size := by have := hb18.size; first | omega | (simp at this; omega)
       have hzz18 : w.heap.size ≤ w18.heap.size := by omega
       have HB18 : Hid (Below w.heap.size w w18) := below_then (by ((repeat (first | refine Below.alloc ?_ (by first | omega | (simp; done) | (simp; omega)) _ | refine Below.drew ?_)); exact HB17.out)) hb18 (by first | omega | (simp; done) | (simp; omega))
       replace HXaB : Hid (Box w18 (w.heap.size) [.int .i64 z0_0, .slice A0_0 n0_0 c0_0, .slice A0_1 n0_1 c0_1, .slice A0_2 n0_2 c0_2, .int .i64 z0_1, .slice A0_3 n0_3 c0_3, .int .i64 z0_2, .slice A0_4 n0_4 c0_4, .int .i64 d0_0.num, .int .i64 d0_0.size, .string d0_0.root, .int .i64 d0_0.taken, .string d0_0.troot]) := Box.below HXaB.out hb18
       clear hxaB hkaB
       have hxaB := HXaB.out.2
       have hkaB := HXaB.out.1
       replace HXaR : Hid (Box w18 (w.heap.size + 1) [.string e1.reader, .string e1.topic, .int .i64 e1.index]) := Box.below HXaR.out hb18
       clear hxaR hkaR
       have hxaR := HXaR.out.2
       have hkaR := HXaR.out.1
       replace HXx0 : Hid (Box w18 (w6.heap.size) [.int .i64 z0_0, .slice Tx0A0_0 n0_0 n0_0, .slice Tx0A0_1 n0_1 n0_1, .slice Tx0A0_2 n0_2 n0_2, .int .i64 z0_1, .slice Tx0A0_3 n0_3 n0_3, .int .i64 z0_2, .slice Tx0A0_4 n0_4 n0_4, .int .i64 d0_0.num, .int .i64 d0_0.size, .string d0_0.root, .int .i64 d0_0.taken, .string d0_0.troot]) := Box.below HXx0.out hb18
       clear hxx0 hkx0
       have hxx0 := HXx0.out.2
       have hkx0 := HXx0.out.1
       replace HOTwA0_0 := Lib.hid (HOTwA0_0.out.below hb18)
       replace HOTwA0_1 := Lib.hid (HOTwA0_1.out.below hb18)
       replace HOTwA0_2 := Lib.hid (HOTwA0_2.out.below hb18)
       replace HOTwA0_3 := Lib.hid (HOTwA0_3.out.below hb18)
       replace HOTwA0_4 := Lib.hid (HOTwA0_4.out.below hb18)
       replace HOwAr1 := Lib.hid (HOwAr1.out.below hb18)
       replace HOgAr1 := Lib.hid (HOgAr1.out.below hb18)
       replace HOThA0_0 := Lib.hid (HOThA0_0.out.below hb18)
       replace HOThA0_1 := Lib.hid (HOThA0_1.out.below hb18)
       replace HOThA0_2 := Lib.hid (HOThA0_2.out.below hb18)
       replace HOThA0_3 := Lib.hid (HOThA0_3.out.below hb18)
       replace HOThA0_4 := Lib.hid (HOThA0_4.out.below hb18)
       obtain ⟨qhAr1, hqhAr1, HOhAr1⟩ : ∃ q, w17.heap.size ≤ q ∧ Hid (Own w18 q w18.heap.size hAr1 (strs lr1)) := ⟨_, by first | omega | (simp at *; done) | (simp at *; omega), ho0⟩
       clear hb18 ho0))
   go_wp2_with fail
   refine (eqStringS_c' hAr1 wAr1 _ _ _ _ _ _ nr1 nr1 lr1 _ (HOhAr1.out.rd) (HOwAr1.out.rd) HRNAr1.out HRNAr1.out (by unfold maxLen; omega)).mono ?_
   rintro e w19 ⟨rfl, hb19⟩
   have hz19 : w18.heap.size ≤ w19.heap.size := by have := hb19.size; first | omega | (simp at this; omega)
   have hzz19 : w.heap.size ≤ w19.heap.size := by omega
   have HB19 : Hid (Below w.heap.size w w19) := below_then (by ((repeat (first | refine Below.alloc ?_ (by first | omega | (simp; done) | (simp; omega)) _ | refine Below.drew ?_)); exact HB18.out)) hb19 (by first | omega | (simp; done) | (simp; omega))
   replace HXaB : Hid (Box w19 (w.heap.size) [.int .i64 z0_0, .slice A0_0 n0_0 c0_0, .slice A0_1 n0_1 c0_1, .slice A0_2 n0_2 c0_2, .int .i64 z0_1, .slice A0_3 n0_3 c0_3, .int .i64 z0_2, .slice A0_4 n0_4 c0_4, .int .i64 d0_0.num, .int .i64 d0_0.size, .string d0_0.root, .int .i64 d0_0.taken, .string d0_0.troot]) := Box.below HXaB.out hb19
   clear hxaB hkaB
   have hxaB := HXaB.out.2
   have hkaB := HXaB.out.1
   replace HXaR : Hid (Box w19 (w.heap.size + 1) [.string e1.reader, .string e1.topic, .int .i64 e1.index]) := Box.below HXaR.out hb19
   clear hxaR hkaR
   have hxaR := HXaR.out.2
   have hkaR := HXaR.out.1
   replace HXx0 : Hid (Box w19 (w6.heap.size) [.int .i64 z0_0, .slice Tx0A0_0 n0_0 n0_0, .slice Tx0A0_1 n0_1 n0_1, .slice Tx0A0_2 n0_2 n0_2, .int .i64 z0_1, .slice Tx0A0_3 n0_3 n0_3, .int .i64 z0_2, .slice Tx0A0_4 n0_4 n0_4, .int .i64 d0_0.num, .int .i64 d0_0.size, .string d0_0.root, .int .i64 d0_0.taken, .string d0_0.troot]) := Box.below HXx0.out hb19
   clear hxx0 hkx0
   have hxx0 := HXx0.out.2
   have hkx0 := HXx0.out.1
   replace HOTwA0_0 := Lib.hid (HOTwA0_0.out.below hb19)
   replace HOTwA0_1 := Lib.hid (HOTwA0_1.out.below hb19)
   replace HOTwA0_2 := Lib.hid (HOTwA0_2.out.below hb19)
   replace HOTwA0_3 := Lib.hid (HOTwA0_3.out.below hb19)
   replace HOTwA0_4 := Lib.hid (HOTwA0_4.out.below hb19)
   replace HOwAr1 := Lib.hid (HOwAr1.out.below hb19)
   replace HOgAr1 := Lib.hid (HOgAr1.out.below hb19)
   replace HOThA0_0 := Lib.hid (HOThA0_0.out.below hb19)
   replace HOThA0_1 := Lib.hid (HOThA0_1.out.below hb19)
   replace HOThA0_2 := Lib.hid (HOThA0_2.out.below hb19)
   replace HOThA0_3 := Lib.hid (HOThA0_3.out.below hb19)
   replace HOThA0_4 := Lib.hid (HOThA0_4.out.below hb19)
   replace HOhAr1 := Lib.hid (HOhAr1.out.below hb19)
   clear hb19
   go_wp2_with fail
   refine (heldStringS_c gAr1 _ _ _ (1) nr1 _ _ (by omega) (HOgAr1.out.rd) (by omega)).mono ?_
   rintro e w20 ⟨rfl, hb20⟩
   have hz20 : w19.heap.size ≤ w20.heap.size := by have := hb20.size; first | omega | (simp at this; omega)
   have hzz20 : w.heap.size ≤ w20.heap.size := by omega
   have HB20 : Hid (Below w.heap.size w w20) := below_then (by ((repeat (first | refine Below.alloc ?_ (by first | omega | (simp; done) | (simp; omega)) _ | refine Below.drew ?_)); exact HB19.out)) hb20 (by first | omega | (simp; done) | (simp; omega))
   replace HXaB : Hid (Box w20 (w.heap.size) [.int .i64 z0_0, .slice A0_0 n0_0 c0_0, .slice A0_1 n0_1 c0_1, .slice A0_2 n0_2 c0_2, .int .i64 z0_1, .slice A0_3 n0_3 c0_3, .int .i64 z0_2, .slice A0_4 n0_4 c0_4, .int .i64 d0_0.num, .int .i64 d0_0.size, .string d0_0.root, .int .i64 d0_0.taken, .string d0_0.troot]) := Box.below HXaB.out hb20
   clear hxaB hkaB
   have hxaB := HXaB.out.2
   have hkaB := HXaB.out.1
   replace HXaR : Hid (Box w20 (w.heap.size + 1) [.string e1.reader, .string e1.topic, .int .i64 e1.index]) := Box.below HXaR.out hb20
   clear hxaR hkaR
   have hxaR := HXaR.out.2
   have hkaR := HXaR.out.1
   replace HXx0 : Hid (Box w20 (w6.heap.size) [.int .i64 z0_0, .slice Tx0A0_0 n0_0 n0_0, .slice Tx0A0_1 n0_1 n0_1, .slice Tx0A0_2 n0_2 n0_2, .int .i64 z0_1, .slice Tx0A0_3 n0_3 n0_3, .int .i64 z0_2, .slice Tx0A0_4 n0_4 n0_4, .int .i64 d0_0.num, .int .i64 d0_0.size, .string d0_0.root, .int .i64 d0_0.taken, .string d0_0.troot]) := Box.below HXx0.out hb20
   clear hxx0 hkx0
   have hxx0 := HXx0.out.2
   have hkx0 := HXx0.out.1
   replace HOTwA0_0 := Lib.hid (HOTwA0_0.out.below hb20)
   replace HOTwA0_1 := Lib.hid (HOTwA0_1.out.below hb20)
   replace HOTwA0_2 := Lib.hid (HOTwA0_2.out.below hb20)
   replace HOTwA0_3 := Lib.hid (HOTwA0_3.out.below hb20)
   replace HOTwA0_4 := Lib.hid (HOTwA0_4.out.below hb20)
   replace HOwAr1 := Lib.hid (HOwAr1.out.below hb20)
   replace HOgAr1 := Lib.hid (HOgAr1.out.below hb20)
   replace HOThA0_0 := Lib.hid (HOThA0_0.out.below hb20)
   replace HOThA0_1 := Lib.hid (HOThA0_1.out.below hb20)
   replace HOThA0_2 := Lib.hid (HOThA0_2.out.below hb20)
   replace HOThA0_3 := Lib.hid (HOThA0_3.out.below hb20)
   replace HOThA0_4 := Lib.hid (HOThA0_4.out.below hb20)
   replace HOhAr1 := Lib.hid (HOhAr1.out.below hb20)
   clear hb20
   generalize hkk : ((1 + nr1 : Nat) : Int) = kq20
   have hk0q20 : 0 ≤ kq20 := by omega
   have hkdq20 : decide (kq20 < 0) = false := by simp; omega
   have HKq20 := Lib.hid hkk
   clear hkk
   obtain rfl : kq20 = kq15 := HKq20.out.symm.trans HKq15.out
   go_wp2
   go_ret
   exact ⟨rfl, HB20.out⟩

section
open Go.ChangeShapes Go.WideShapes Go.ChangeAt
open Go.ChangeMaps (open_string)
set_option maxRecDepth 100000 in
theorem lifted_AuditOf (f0 : Int → Int → Int → Hd → (List Ent) → (List Rcp) → (List Hd) → (List ByteArray) → (List ByteArray) → Rcp → Int → Int) (f1 : Int → Int → Int → Hd → (List Ent) → (List Rcp) → (List Hd) → (List ByteArray) → (List ByteArray) → Rcp → Int → List ByteArray) (f2 : Int → Int → Int → Hd → (List Ent) → (List Rcp) → (List Hd) → (List ByteArray) → (List ByteArray) → Rcp → Int → Int) (hsp : ∀ (z0_0 : Int) (z0_1 : Int) (z0_2 : Int) (d0_0 : Hd) (l0_0 : List Ent) (l0_1 : List Rcp) (l0_2 : List Hd) (l0_3 : List ByteArray) (l0_4 : List ByteArray) (e1 : Rcp) (z2 : Int), (I64 z0_0) → (I64 z0_1) → (I64 z0_2) → (d0_0.fits) → (∀ x ∈ l0_0, x.fits) → (∀ x ∈ l0_1, x.fits) → (∀ x ∈ l0_2, x.fits) → (e1.fits) → (I64 z2) → specAuditOf_does z0_0 z0_1 z0_2 d0_0 l0_0.length l0_1.length l0_2.length l0_3.length l0_4.length l0_0 l0_1 l0_2 l0_3 l0_4 e1 z2 (f0 z0_0 z0_1 z0_2 d0_0 l0_0 l0_1 l0_2 l0_3 l0_4 e1 z2) (f1 z0_0 z0_1 z0_2 d0_0 l0_0 l0_1 l0_2 l0_3 l0_4 e1 z2).length (f1 z0_0 z0_1 z0_2 d0_0 l0_0 l0_1 l0_2 l0_3 l0_4 e1 z2) (f2 z0_0 z0_1 z0_2 d0_0 l0_0 l0_1 l0_2 l0_3 l0_4 e1 z2)) (him : ∀ (z0_0 : Int) (z0_1 : Int) (z0_2 : Int) (d0_0 : Hd) (l0_0 : List Ent) (l0_1 : List Rcp) (l0_2 : List Hd) (l0_3 : List ByteArray) (l0_4 : List ByteArray) (e1 : Rcp) (z2 : Int), (I64 z0_0) → (I64 z0_1) → (I64 z0_2) → (d0_0.fits) → (∀ x ∈ l0_0, x.fits) → (∀ x ∈ l0_1, x.fits) → (∀ x ∈ l0_2, x.fits) → (e1.fits) → (I64 z2) → implAuditOf_does z0_0 z0_1 z0_2 d0_0 l0_0.length l0_1.length l0_2.length l0_3.length l0_4.length l0_0 l0_1 l0_2 l0_3 l0_4 e1 z2 (f0 z0_0 z0_1 z0_2 d0_0 l0_0 l0_1 l0_2 l0_3 l0_4 e1 z2) (f1 z0_0 z0_1 z0_2 d0_0 l0_0 l0_1 l0_2 l0_3 l0_4 e1 z2).length (f1 z0_0 z0_1 z0_2 d0_0 l0_0 l0_1 l0_2 l0_3 l0_4 e1 z2) (f2 z0_0 z0_1 z0_2 d0_0 l0_0 l0_1 l0_2 l0_3 l0_4 e1 z2)) (hlen0 : ∀ (z0_0 : Int) (z0_1 : Int) (z0_2 : Int) (d0_0 : Hd) (l0_0 : List Ent) (l0_1 : List Rcp) (l0_2 : List Hd) (l0_3 : List ByteArray) (l0_4 : List ByteArray) (e1 : Rcp) (z2 : Int), (I64 z0_0) → (I64 z0_1) → (I64 z0_2) → (d0_0.fits) → (∀ x ∈ l0_0, x.fits) → (∀ x ∈ l0_1, x.fits) → (∀ x ∈ l0_2, x.fits) → (e1.fits) → (I64 z2) → (((l0_0.length + sumBy Ent.bulk l0_0)) + (l0_1.length + sumBy Rcp.bulk l0_1) + (l0_2.length + sumBy Hd.bulk l0_2) + (((l0_3.length + bulkS l0_3)) + ((l0_4.length + bulkS l0_4)) + d0_0.bulk)) + e1.bulk ≤ 1048576 → (f1 z0_0 z0_1 z0_2 d0_0 l0_0 l0_1 l0_2 l0_3 l0_4 e1 z2).length ≤ 2000000) (os : Os) (started : os.Started) (H : Type) (enc : TypeId × Value → H) :
  ReturnsInHanded {} Tryz.checked os 3 .any (Rows.fnExactAuditOfSpec.pre6 enc Tryz.prog Tryz.f3 Rows.fnExactAuditOfRow.domain false) (Rows.fnExactAuditOfSpec.post enc Tryz.prog Tryz.f3 false true false false) := by
 refine returnsInHanded_of_change (C := Tryz.checked) Tryz.own started (by kernel_rfl) Tryz.func3
  (ChangeSpec.witness6 (enc := enc) (C := Tryz.checked) false ⟨#[], #[.agg #[.int .i64 0, .slice none 0 0, .slice none 0 0, .slice none 0 0, .int .i64 0, .slice none 0 0, .int .i64 0, .slice none 0 0, .int .i64 0, .int .i64 0, .string ByteArray.empty, .int .i64 0, .string ByteArray.empty], .agg #[.string ByteArray.empty, .string ByteArray.empty, .int .i64 0], .int .i64 0], []⟩ 8 (by kernel_rfl) (by kernel_rfl) (by kernel_rfl) (by kernel_rfl)) ?_
 intro W base args ds gs before hval0 hW hcnd _
 have hval : ∀ (j : Nat) t v, Tryz.f3.params[j]? = some t → args[j]? = some v → Value.okWide Tryz.prog W .any base t v := hval0
 have hW' := hW
 obtain ⟨p, q, hA0, hV, rfl, hfz, hnd⟩ := hW
 have hA : DataW.TrodAll enc Tryz.prog W 0 (fun _ => true) true Tryz.f3.params.toList args.toList ds p := hA0
 rw [Tryz.params3] at hA hval
 obtain ⟨v0, vs0, d0, ds0, p0, q0, hargs, rfl, rfl, h0, r0⟩ := trodAll_cons hA
 obtain ⟨v1, vs1, d1, ds1, p1, q1, rfl, rfl, rfl, h1, r1⟩ := trodAll_cons r0
 obtain ⟨v2, vs2, d2, ds2, p2, q2, rfl, rfl, rfl, h2, r2⟩ := trodAll_cons r1
 obtain ⟨rfl, rfl, rfl⟩ := trodAll_nil r2
 obtain rfl : args = #[v0, v1, v2] := by cases args; simp_all
 obtain ⟨rfl, rfl⟩ := trodVars_none hV
 have lt0 : ∀ x ∈ p0, x.block < W.heap.size := by obtain ⟨m, hm⟩ := h0; exact DataW.trod_lt m _ _ _ hm
 have kk0 := h0
 have lt1 : ∀ x ∈ p1, x.block < W.heap.size := by obtain ⟨m, hm⟩ := h1; exact DataW.trod_lt m _ _ _ hm
 have kk1 := h1
 have lt2 : ∀ x ∈ p2, x.block < W.heap.size := by obtain ⟨m, hm⟩ := h2; exact DataW.trod_lt m _ _ _ hm
 have kk2 := h2
 obtain ⟨z0_0, z0_1, z0_2, d0_0, A0_0, A0_1, A0_2, A0_3, A0_4, n0_0, c0_0, n0_1, c0_1, n0_2, c0_2, n0_3, c0_3, n0_4, c0_4, l0_0, l0_1, l0_2, l0_3, l0_4, rfl, hiz0_0, hiz0_1, hiz0_2, hid0_0, o0_0, hil0_0, o0_1, hil0_1, o0_2, hil0_2, o0_3, hil0_3, o0_4, hil0_4⟩ := open_Broker (hval 0 _ v0 rfl rfl) h0
 obtain ⟨rfl, o0_0b, o0_0c, o0_0d⟩ := o0_0
 obtain ⟨rfl, o0_1b, o0_1c, o0_1d⟩ := o0_1
 obtain ⟨rfl, o0_2b, o0_2c, o0_2d⟩ := o0_2
 obtain ⟨rfl, o0_3b, o0_3c, o0_3d⟩ := o0_3
 obtain ⟨rfl, o0_4b, o0_4c, o0_4d⟩ := o0_4
 obtain ⟨e1, rfl, hie1⟩ := open_Receipt (hval 1 _ v1 rfl rfl) h1
 obtain ⟨z2, rfl, rfl, rfl, wi2⟩ := open_int Tryz.underlying3 (hval 2 _ v2 rfl rfl) h2
 have hiz2 : I64 z2 := i64_of_wf wi2
 clear hA0 hval0
 refine (walk_AuditOf z0_0 z0_1 z0_2 d0_0 A0_0 A0_1 A0_2 A0_3 A0_4 c0_0 c0_1 c0_2 c0_3 c0_4 _ _ _ _ _ l0_0 l0_1 l0_2 l0_3 l0_4 e1 z2 _ _ _ _ W o0_0d rfl (Nat.le_trans o0_0b o0_0c) hil0_0 o0_1d rfl (Nat.le_trans o0_1b o0_1c) hil0_1 o0_2d rfl (Nat.le_trans o0_2b o0_2c) hil0_2 o0_3d rfl (Nat.le_trans o0_3b o0_3c) hil0_3 o0_4d rfl (Nat.le_trans o0_4b o0_4c) hil0_4 hid0_0 hie1 rfl (hlen0 z0_0 z0_1 z0_2 d0_0 l0_0 l0_1 l0_2 l0_3 l0_4 e1 z2 hiz0_0 hiz0_1 hiz0_2 hid0_0 hil0_0 hil0_1 hil0_2 hie1 hiz2) (hsp z0_0 z0_1 z0_2 d0_0 l0_0 l0_1 l0_2 l0_3 l0_4 e1 z2 hiz0_0 hiz0_1 hiz0_2 hid0_0 hil0_0 hil0_1 hil0_2 hie1 hiz2) (him z0_0 z0_1 z0_2 d0_0 l0_0 l0_1 l0_2 l0_3 l0_4 e1 z2 hiz0_0 hiz0_1 hiz0_2 hid0_0 hil0_0 hil0_1 hil0_2 hie1 hiz2)).mono fun e W' ⟨he, bel⟩ => ?_
 subst he
 exact ⟨_, rfl, _, _, _, [], _, [], hW', trodAll_mk1 (shut_bool Tryz.underlying4 _), (trodAll_cons_mk (Below.trod Tryz.laidOut (by kernel_rfl) (of_decide_eq_true (by kernel_rfl)) kk0 bel lt0) (trodAll_cons_mk (Below.trod Tryz.laidOut (by kernel_rfl) (of_decide_eq_true (by kernel_rfl)) kk1 bel lt1) (trodAll_cons_mk (Below.trod Tryz.laidOut (by kernel_rfl) (of_decide_eq_true (by kernel_rfl)) kk2 bel lt2) trodAll_mk0))), rfl, bel.frame _, fun h => by cases h⟩
theorem said_AuditOf (f0 : Int → Int → Int → Hd → (List Ent) → (List Rcp) → (List Hd) → (List ByteArray) → (List ByteArray) → Rcp → Int → Int) (f1 : Int → Int → Int → Hd → (List Ent) → (List Rcp) → (List Hd) → (List ByteArray) → (List ByteArray) → Rcp → Int → List ByteArray) (f2 : Int → Int → Int → Hd → (List Ent) → (List Rcp) → (List Hd) → (List ByteArray) → (List ByteArray) → Rcp → Int → Int) (hsp : ∀ (z0_0 : Int) (z0_1 : Int) (z0_2 : Int) (d0_0 : Hd) (l0_0 : List Ent) (l0_1 : List Rcp) (l0_2 : List Hd) (l0_3 : List ByteArray) (l0_4 : List ByteArray) (e1 : Rcp) (z2 : Int), (I64 z0_0) → (I64 z0_1) → (I64 z0_2) → (d0_0.fits) → (∀ x ∈ l0_0, x.fits) → (∀ x ∈ l0_1, x.fits) → (∀ x ∈ l0_2, x.fits) → (e1.fits) → (I64 z2) → specAuditOf_does z0_0 z0_1 z0_2 d0_0 l0_0.length l0_1.length l0_2.length l0_3.length l0_4.length l0_0 l0_1 l0_2 l0_3 l0_4 e1 z2 (f0 z0_0 z0_1 z0_2 d0_0 l0_0 l0_1 l0_2 l0_3 l0_4 e1 z2) (f1 z0_0 z0_1 z0_2 d0_0 l0_0 l0_1 l0_2 l0_3 l0_4 e1 z2).length (f1 z0_0 z0_1 z0_2 d0_0 l0_0 l0_1 l0_2 l0_3 l0_4 e1 z2) (f2 z0_0 z0_1 z0_2 d0_0 l0_0 l0_1 l0_2 l0_3 l0_4 e1 z2)) (him : ∀ (z0_0 : Int) (z0_1 : Int) (z0_2 : Int) (d0_0 : Hd) (l0_0 : List Ent) (l0_1 : List Rcp) (l0_2 : List Hd) (l0_3 : List ByteArray) (l0_4 : List ByteArray) (e1 : Rcp) (z2 : Int), (I64 z0_0) → (I64 z0_1) → (I64 z0_2) → (d0_0.fits) → (∀ x ∈ l0_0, x.fits) → (∀ x ∈ l0_1, x.fits) → (∀ x ∈ l0_2, x.fits) → (e1.fits) → (I64 z2) → implAuditOf_does z0_0 z0_1 z0_2 d0_0 l0_0.length l0_1.length l0_2.length l0_3.length l0_4.length l0_0 l0_1 l0_2 l0_3 l0_4 e1 z2 (f0 z0_0 z0_1 z0_2 d0_0 l0_0 l0_1 l0_2 l0_3 l0_4 e1 z2) (f1 z0_0 z0_1 z0_2 d0_0 l0_0 l0_1 l0_2 l0_3 l0_4 e1 z2).length (f1 z0_0 z0_1 z0_2 d0_0 l0_0 l0_1 l0_2 l0_3 l0_4 e1 z2) (f2 z0_0 z0_1 z0_2 d0_0 l0_0 l0_1 l0_2 l0_3 l0_4 e1 z2)) (hlen0 : ∀ (z0_0 : Int) (z0_1 : Int) (z0_2 : Int) (d0_0 : Hd) (l0_0 : List Ent) (l0_1 : List Rcp) (l0_2 : List Hd) (l0_3 : List ByteArray) (l0_4 : List ByteArray) (e1 : Rcp) (z2 : Int), (I64 z0_0) → (I64 z0_1) → (I64 z0_2) → (d0_0.fits) → (∀ x ∈ l0_0, x.fits) → (∀ x ∈ l0_1, x.fits) → (∀ x ∈ l0_2, x.fits) → (e1.fits) → (I64 z2) → (((l0_0.length + sumBy Ent.bulk l0_0)) + (l0_1.length + sumBy Rcp.bulk l0_1) + (l0_2.length + sumBy Hd.bulk l0_2) + (((l0_3.length + bulkS l0_3)) + ((l0_4.length + bulkS l0_4)) + d0_0.bulk)) + e1.bulk ≤ 1048576 → (f1 z0_0 z0_1 z0_2 d0_0 l0_0 l0_1 l0_2 l0_3 l0_4 e1 z2).length ≤ 2000000) : Rows.FnExactAuditOfSaid :=
 OpenClaim.holds_of_wide 3 Tryz.f3 rfl rfl rfl rfl rfl rfl rfl ⟨rfl, rfl, rfl, rfl, rfl⟩ rfl rfl rfl rfl rfl (by kernel_rfl) Tryz.func3 (by show joinedFacts Tryz.prog 3 Tryz.f3 Rows.fnExactAuditOfSpec Rows.fnExactAuditOfRow = true; unfold joinedFacts; rw [seat_enter, seat_final, seat_make]; kernel_rfl)
  (of_decide_eq_true (by kernel_rfl)) (by unfold Func.isWrapper; first | (rw [if_pos (by decide +kernel)]; kernel_rfl) | (rw [if_neg (by decide +kernel)]; exact ⟨rfl, rfl⟩))
  (fun os started H enc _ => lifted_AuditOf f0 f1 f2 hsp him hlen0 os started H enc)
end
end Go.Proofs.YtmmepogjocfefaaGreat
