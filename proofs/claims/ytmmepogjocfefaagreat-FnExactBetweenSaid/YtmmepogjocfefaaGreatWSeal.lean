/- What the laws' helpers do to a Seal. Written by gen_wrap.py. -/
import Derived.Test.YtmmepogjocfefaaGreatWRange
import Derived.Test.YtmmepogjocfefaaGreatSHead
import Derived.Test.YtmmepogjocfefaaGreatData
namespace Go.Proofs.YtmmepogjocfefaaGreat
set_option linter.unusedVariables false
set_option linter.unusedSimpArgs false
open Go.RowKit

set_option maxRecDepth 100000 in
set_option maxHeartbeats 400000 in
theorem szSeal_c (z0 z1 : Int) (d0 : Hd) (A0 A1 : Option Addr) (c0 c1 : Nat) (n0 n1 : Nat) (l0 : List ByteArray) (l1 : List ByteArray) (lo0 hi0 lo1 hi1 : Nat) (left : Int) (w : World) (hr0 : Rd w lo0 hi0 A0 (strs l0)) (hn0 : l0.length = n0) (hl0 : n0 ≤ maxLen) (hs0 : ∀ x ∈ l0, x.size ≤ maxLen) (hr1 : Rd w lo1 hi1 A1 (strs l1)) (hn1 : l1.length = n1) (hl1 : n1 ≤ maxLen) (hs1 : ∀ x ∈ l1, x.size ≤ maxLen) (hfd0 : d0.fits) (h0 : 0 ≤ left) (h1 : left ≤ 1048576) :
  Calls Tryz.prog 41 #[.agg #[.int .i64 z0, .slice A0 n0 c0, .int .i64 z1, .slice A1 n1 c1, .int .i64 d0.num, .int .i64 d0.size, .string d0.root, .int .i64 d0.taken, .string d0.troot], .int .i64 left] w fun r w' => r = .returned (.int .i64 (szF left (((n0 + bulkS l0)) + ((n1 + bulkS l1)) + d0.bulk))) ∧ Below w.heap.size w w' := by
 have HN0 := Lib.hid hn0
 have HS0 := Lib.hid hs0
 clear hn0 hs0
 have HN1 := Lib.hid hn1
 have HS1 := Lib.hid hs1
 clear hn1 hs1
 have HB0 : Hid (Below w.heap.size w (w.alloc _)) := (Below.refl _ _).alloc (Nat.le_refl _) (.cells #[.int .i64 z0, .slice A0 n0 c0, .int .i64 z1, .slice A1 n1 c1, .int .i64 d0.num, .int .i64 d0.size, .string d0.root, .int .i64 d0.taken, .string d0.troot] 33)
 go_enter Tryz.func41, Tryz.ntmps41
 go_wp2_with fail
 refine (szRange_c z0 A0 c0 n0 l0 _ _ _ _ (hr0.below HB0.out) HN0.out hl0 HS0.out (by omega) (by omega)).mono ?_
 rintro e w1 ⟨rfl, hb1⟩
 obtain ⟨hc1, _⟩ := bcell hb1
 have hq1 : w.heap.size < w1.heap.size := by have := hb1.size; first | omega | (simp at this; omega)
 have HB1 : Hid (Below w.heap.size w w1) := below_then HB0.out hb1 (by first | omega | (simp; done) | (simp; omega))
 have HA1 : Hid (szF left ((n0 + bulkS l0)) = szF left (((n0 + bulkS l0)))) := rfl
 clear hb1
 go_wp2_with fail
 ·go_ret
  exact ⟨ret_int (szF_neg_more (b := (((n0 + bulkS l0)) + ((n1 + bulkS l1)) + d0.bulk)) (by omega) (by assumption) (by omega)), HB1.out⟩
 ·have hp1 : 0 ≤ szF left (((n0 + bulkS l0))) := by assumption
  have hg1 := (szF_le left (((n0 + bulkS l0))) (by omega)).2
  go_wp2_with fail
  refine (szRange_c z1 A1 c1 n1 l1 _ _ _ _ (hr1.below HB1.out) HN1.out hl1 HS1.out (by omega) (by omega)).mono ?_
  rintro e w2 ⟨rfl, hb2⟩
  obtain ⟨hc2, _⟩ := bcell hb2
  have hq2 : w.heap.size < w2.heap.size := by have := hb2.size; first | omega | (simp at this; omega)
  have HB2 : Hid (Below w.heap.size w w2) := below_then HB1.out hb2 (by first | omega | (simp; done) | (simp; omega))
  have HA2 : Hid (szF (szF left (((n0 + bulkS l0)))) ((n1 + bulkS l1)) = szF left (((n0 + bulkS l0)) + ((n1 + bulkS l1)))) := szF_add (by assumption)
  clear hb2
  rw [HA2.out]
  go_wp2_with fail
  ·go_ret
   exact ⟨ret_int (szF_neg_more (b := (((n0 + bulkS l0)) + ((n1 + bulkS l1)) + d0.bulk)) (by omega) (by assumption) (by omega)), HB2.out⟩
  ·have hp2 : 0 ≤ szF left (((n0 + bulkS l0)) + ((n1 + bulkS l1))) := by assumption
   have hg2 := (szF_le left (((n0 + bulkS l0)) + ((n1 + bulkS l1))) (by omega)).2
   go_wp2_with fail
   refine (szHead_c d0 _ _ hfd0 (by omega) (by omega)).mono ?_
   rintro e w3 ⟨rfl, hb3⟩
   obtain ⟨hc3, _⟩ := bcell hb3
   have hq3 : w.heap.size < w3.heap.size := by have := hb3.size; first | omega | (simp at this; omega)
   have HB3 : Hid (Below w.heap.size w w3) := below_then HB2.out hb3 (by first | omega | (simp; done) | (simp; omega))
   have HA3 : Hid (szF (szF left (((n0 + bulkS l0)) + ((n1 + bulkS l1)))) d0.bulk = szF left (((n0 + bulkS l0)) + ((n1 + bulkS l1)) + d0.bulk)) := szF_add (by assumption)
   clear hb3
   rw [HA3.out]
   go_wp2_with fail
   ·go_ret
    exact ⟨ret_int (szF_neg_more (b := (((n0 + bulkS l0)) + ((n1 + bulkS l1)) + d0.bulk)) (by omega) (by assumption) (by omega)), HB3.out⟩
   ·go_ret
    exact ⟨rfl, HB3.out⟩

set_option maxRecDepth 100000 in
set_option maxHeartbeats 400000 in
theorem toSeal_c (z0 z1 : Int) (d0 : Hd) (A0 A1 : Option Addr) (c0 c1 : Nat) (n0 n1 : Nat) (l0 : List ByteArray) (l1 : List ByteArray) (lo0 hi0 lo1 hi1 : Nat) (w : World) (hr0 : Rd w lo0 hi0 A0 (strs l0)) (hn0 : l0.length = n0) (hl0 : n0 ≤ 1048576) (hr1 : Rd w lo1 hi1 A1 (strs l1)) (hn1 : l1.length = n1) (hl1 : n1 ≤ 1048576) :
  Calls Tryz.prog 46 #[.agg #[.int .i64 z0, .slice A0 n0 c0, .int .i64 z1, .slice A1 n1 c1, .int .i64 d0.num, .int .i64 d0.size, .string d0.root, .int .i64 d0.taken, .string d0.troot]] w fun r w' => ∃ A0' A1' m1, r = .returned (.agg #[.int .i64 z0, .slice A0' n0 n0, .int .i64 z1, .slice A1' n1 n1, .int .i64 d0.num, .int .i64 d0.size, .string d0.root, .int .i64 d0.taken, .string d0.troot]) ∧ w.heap.size ≤ m1 ∧ m1 ≤ w'.heap.size ∧ Own w' w.heap.size m1 A0' (strs l0) ∧ Own w' m1 w'.heap.size A1' (strs l1) ∧ Below w.heap.size w w' := by
 have HN0 := Lib.hid hn0
 clear hn0
 have HN1 := Lib.hid hn1
 clear hn1
 go_enter Tryz.func46, Tryz.ntmps46
 go_wp2_with fail
 refine (toRange_c z0 A0 c0 n0 l0 _ _ _ (hr0.below (by ((repeat (first | refine Below.setCell ?_ (by first | omega | (simp; done) | (simp; omega)) _ | refine Below.alloc ?_ (by first | omega | (simp; done) | (simp; omega)) _)); exact Below.refl _ _))) HN0.out hl0).mono ?_
 rintro e w1 ⟨A0', rfl, le1_0, ho0, hb1⟩
 obtain ⟨hc1, hf1⟩ := bcell hb1
 have hq1 : w.heap.size + 2 < w1.heap.size := by have := hb1.size; simp [World.setCell] at this; omega
 have hqa1 : w.heap.size < w1.heap.size := by omega
 have hqb1 : w.heap.size + 1 < w1.heap.size := by omega
 have hqc1 : w.heap.size + 1 + 1 < w1.heap.size := by omega
 have hz1 := hb1.size
 simp [World.setCell] at hz1
 have HB1 : Hid (Below w.heap.size w w1) := below_then (by ((repeat (first | refine Below.setCell ?_ (by first | omega | (simp; done) | (simp; omega)) _ | refine Below.alloc ?_ (by first | omega | (simp; done) | (simp; omega)) _)); exact Below.refl _ _)) hb1 (by first | omega | (simp [World.setCell]; done) | (simp [World.setCell]; omega))
 obtain ⟨q0, hw0, hm0, HO0⟩ : ∃ q, w.heap.size + 2 < q ∧ w.heap.size ≤ q ∧ Hid (Own w1 q w1.heap.size A0' (strs l0)) := ⟨_, by first | omega | (simp [World.setCell] at *; done) | (simp [World.setCell] at *; omega), by first | omega | (simp [World.setCell] at *; done) | (simp [World.setCell] at *; omega), ho0⟩
 clear hb1 ho0
 go_wp2_with fail
 refine (toRange_c z1 A1 c1 n1 l1 _ _ _ (hr1.below (by ((repeat (first | refine Below.setCell ?_ (by first | omega | (simp; done) | (simp; omega)) _ | refine Below.alloc ?_ (by first | omega | (simp; done) | (simp; omega)) _)); exact HB1.out))) HN1.out hl1).mono ?_
 rintro e w2 ⟨A1', rfl, le2_0, ho1, hb2⟩
 obtain ⟨hc2, hf2⟩ := bcell hb2
 have hq2 : w.heap.size + 2 < w2.heap.size := by have := hb2.size; simp [World.setCell] at this; omega
 have hqa2 : w.heap.size < w2.heap.size := by omega
 have hqb2 : w.heap.size + 1 < w2.heap.size := by omega
 have hqc2 : w.heap.size + 1 + 1 < w2.heap.size := by omega
 have hz2 := hb2.size
 simp [World.setCell] at hz2
 have HB2 : Hid (Below w.heap.size w w2) := below_then (by ((repeat (first | refine Below.setCell ?_ (by first | omega | (simp; done) | (simp; omega)) _ | refine Below.alloc ?_ (by first | omega | (simp; done) | (simp; omega)) _)); exact HB1.out)) hb2 (by first | omega | (simp [World.setCell]; done) | (simp [World.setCell]; omega))
 have HO0 : Hid (Own w2 q0 w1.heap.size A0' (strs l0)) := Own.below (by (repeat (refine Own.setCell ?_ (Or.inl (by simp; omega)) _)); exact HO0.out) hb2
 obtain ⟨q1, hw1, hm1, HO1⟩ : ∃ q, w.heap.size + 2 < q ∧ w1.heap.size ≤ q ∧ Hid (Own w2 q w2.heap.size A1' (strs l1)) := ⟨_, by first | omega | (simp [World.setCell] at *; done) | (simp [World.setCell] at *; omega), by first | omega | (simp [World.setCell] at *; done) | (simp [World.setCell] at *; omega), ho1⟩
 clear hb2 ho1
 go_wp2_with fail
 refine (toHead_c d0 _).mono ?_
 rintro e w3 ⟨rfl, hb3⟩
 obtain ⟨hc3, hf3⟩ := bcell hb3
 have hq3 : w.heap.size + 2 < w3.heap.size := by have := hb3.size; simp [World.setCell] at this; omega
 have hqa3 : w.heap.size < w3.heap.size := by omega
 have hqb3 : w.heap.size + 1 < w3.heap.size := by omega
 have hqc3 : w.heap.size + 1 + 1 < w3.heap.size := by omega
 have hz3 := hb3.size
 simp [World.setCell] at hz3
 have HB3 : Hid (Below w.heap.size w w3) := below_then (by ((repeat (first | refine Below.setCell ?_ (by first | omega | (simp; done) | (simp; omega)) _ | refine Below.alloc ?_ (by first | omega | (simp; done) | (simp; omega)) _)); exact HB2.out)) hb3 (by first | omega | (simp [World.setCell]; done) | (simp [World.setCell]; omega))
 have HO0 : Hid (Own w3 q0 w1.heap.size A0' (strs l0)) := Own.below (by (repeat (refine Own.setCell ?_ (Or.inl (by simp; omega)) _)); exact HO0.out) hb3
 have HO1 : Hid (Own w3 q1 w2.heap.size A1' (strs l1)) := Own.below (by (repeat (refine Own.setCell ?_ (Or.inl (by simp; omega)) _)); exact HO1.out) hb3
 clear hb3 
 go_wp2
 refine bodyPost_ret (v := .agg #[.int .i64 z0, .slice A0' n0 n0, .int .i64 z1, .slice A1' n1 n1, .int .i64 d0.num, .int .i64 d0.size, .string d0.root, .int .i64 d0.taken, .string d0.troot]) (by simp [results, Tryz.results46, go_sem, hc1, hqa1, hqb1, hqc1, hc2, hqa2, hqb2, hqc2, hc3, hqa3, hqb3, hqc3]) rfl ?_
 refine ⟨A0', A1', w1.heap.size, rfl, ?_, ?_, ?_, ?_, ?_⟩
 ·first | omega | (simp [World.setCell] at *; done) | (simp [World.setCell] at *; omega)
 ·first | omega | (simp [World.setCell] at *; done) | (simp [World.setCell] at *; omega)
 ·refine Own.mono (lo := q0) (hi := w1.heap.size) (by (repeat (refine Own.setCell ?_ (Or.inl (by simp; omega)) _)); exact HO0.out) (by first | omega | (simp [World.setCell] at *; done) | (simp [World.setCell] at *; omega)) (by first | omega | (simp [World.setCell] at *; done) | (simp [World.setCell] at *; omega)) (by first | omega | (simp [World.setCell] at *; done) | (simp [World.setCell] at *; omega))
 ·refine Own.mono (lo := q1) (hi := w2.heap.size) (by (repeat (refine Own.setCell ?_ (Or.inl (by simp; omega)) _)); exact HO1.out) (by first | omega | (simp [World.setCell] at *; done) | (simp [World.setCell] at *; omega)) (by first | omega | (simp [World.setCell] at *; done) | (simp [World.setCell] at *; omega)) (by first | omega | (simp [World.setCell] at *; done) | (simp [World.setCell] at *; omega))
 ·((repeat (first | refine Below.setCell ?_ (by first | omega | (simp; done) | (simp; omega)) _ | refine Below.alloc ?_ (by first | omega | (simp; done) | (simp; omega)) _)); exact HB3.out)

set_option maxRecDepth 100000 in
set_option maxHeartbeats 400000 in
theorem eqSeal_c (z0 z1 : Int) (d0 : Hd) (A0 A1 : Option Addr) (c0 c1 : Nat) (n0 n1 : Nat) (l0 : List ByteArray) (l1 : List ByteArray) (A0' A1' : Option Addr) (c0' c1' : Nat) (lo0 hi0 lo1 hi1 : Nat) (lo0' hi0' lo1' hi1' : Nat) (w : World) (hr0 : Rd w lo0 hi0 A0 (strs l0)) (hr0' : Rd w lo0' hi0' A0' (strs l0)) (hn0 : l0.length = n0) (hl0 : n0 ≤ maxLen) (hr1 : Rd w lo1 hi1 A1 (strs l1)) (hr1' : Rd w lo1' hi1' A1' (strs l1)) (hn1 : l1.length = n1) (hl1 : n1 ≤ maxLen) :
  Calls Tryz.prog 51 #[.agg #[.int .i64 z0, .slice A0 n0 c0, .int .i64 z1, .slice A1 n1 c1, .int .i64 d0.num, .int .i64 d0.size, .string d0.root, .int .i64 d0.taken, .string d0.troot], .agg #[.int .i64 z0, .slice A0' n0 c0', .int .i64 z1, .slice A1' n1 c1', .int .i64 d0.num, .int .i64 d0.size, .string d0.root, .int .i64 d0.taken, .string d0.troot]] w fun r w' => r = .returned (.bool true) ∧ Below w.heap.size w w' := by
 have HN0 := Lib.hid hn0
 clear hn0
 have HN1 := Lib.hid hn1
 clear hn1
 go_enter Tryz.func51, Tryz.ntmps51
 go_wp2_with fail
 refine (eqRange_c z0 A0 c0 n0 l0 A0' c0' _ _ _ _ _ (hr0.below (by ((repeat (first | refine Below.setCell ?_ (by first | omega | (simp; done) | (simp; omega)) _ | refine Below.alloc ?_ (by first | omega | (simp; done) | (simp; omega)) _)); exact Below.refl _ _))) (hr0'.below (by ((repeat (first | refine Below.setCell ?_ (by first | omega | (simp; done) | (simp; omega)) _ | refine Below.alloc ?_ (by first | omega | (simp; done) | (simp; omega)) _)); exact Below.refl _ _))) HN0.out hl0).mono ?_
 rintro e w1 ⟨rfl, hb1⟩
 obtain ⟨hc1, _⟩ := bcell hb1
 have hq1 : w.heap.size + 1 < w1.heap.size := by have := hb1.size; first | omega | (simp at this; omega)
 have hp1 : w.heap.size < w1.heap.size := by omega
 have HB1 : Hid (Below w.heap.size w w1) := below_then (by ((repeat (first | refine Below.setCell ?_ (by first | omega | (simp; done) | (simp; omega)) _ | refine Below.alloc ?_ (by first | omega | (simp; done) | (simp; omega)) _)); exact Below.refl _ _)) hb1 (by first | omega | (simp; done) | (simp; omega))
 clear hb1
 go_wp2_with fail
 refine (eqRange_c z1 A1 c1 n1 l1 A1' c1' _ _ _ _ _ (hr1.below (by ((repeat (first | refine Below.setCell ?_ (by first | omega | (simp; done) | (simp; omega)) _ | refine Below.alloc ?_ (by first | omega | (simp; done) | (simp; omega)) _)); exact HB1.out))) (hr1'.below (by ((repeat (first | refine Below.setCell ?_ (by first | omega | (simp; done) | (simp; omega)) _ | refine Below.alloc ?_ (by first | omega | (simp; done) | (simp; omega)) _)); exact HB1.out))) HN1.out hl1).mono ?_
 rintro e w2 ⟨rfl, hb2⟩
 obtain ⟨hc2, _⟩ := bcell hb2
 have hq2 : w.heap.size + 1 < w2.heap.size := by have := hb2.size; first | omega | (simp at this; omega)
 have hp2 : w.heap.size < w2.heap.size := by omega
 have HB2 : Hid (Below w.heap.size w w2) := below_then (by ((repeat (first | refine Below.setCell ?_ (by first | omega | (simp; done) | (simp; omega)) _ | refine Below.alloc ?_ (by first | omega | (simp; done) | (simp; omega)) _)); exact HB1.out)) hb2 (by first | omega | (simp; done) | (simp; omega))
 clear hb2
 go_wp2_with fail
 refine (eqHead_c d0 _).mono ?_
 rintro e w3 ⟨rfl, hb3⟩
 obtain ⟨hc3, _⟩ := bcell hb3
 have hq3 : w.heap.size + 1 < w3.heap.size := by have := hb3.size; first | omega | (simp at this; omega)
 have hp3 : w.heap.size < w3.heap.size := by omega
 have HB3 : Hid (Below w.heap.size w w3) := below_then (by ((repeat (first | refine Below.setCell ?_ (by first | omega | (simp; done) | (simp; omega)) _ | refine Below.alloc ?_ (by first | omega | (simp; done) | (simp; omega)) _)); exact HB2.out)) hb3 (by first | omega | (simp; done) | (simp; omega))
 clear hb3
 go_wp2
 go_ret
 exact ⟨rfl, HB3.out⟩

set_option maxRecDepth 100000 in
set_option maxHeartbeats 400000 in
theorem markSeal_c (z0 z1 : Int) (d0 : Hd) (A0 A1 : Option Addr) (c0 c1 : Nat) (n0 n1 : Nat) (lo0 hi0 lo1 hi1 : Nat) (k0 : Nat) (x : Int) (xs0 xs1 : List Value) (w : World) (hx : x = (k0 : Int)) (hr0 : Own w lo0 hi0 A0 xs0) (hn0 : xs0.length = n0) (hH0 : hi0 ≤ w.heap.size) (hr1 : Own w lo1 hi1 A1 xs1) (hn1 : xs1.length = n1) (hH1 : hi1 ≤ w.heap.size) (hd0_1 : hi0 ≤ lo1 ∨ hi1 ≤ lo0) (hk : k0 + n0 + n1 ≤ 100000000) :
  Calls Tryz.prog 55 #[.agg #[.int .i64 z0, .slice A0 n0 c0, .int .i64 z1, .slice A1 n1 c1, .int .i64 d0.num, .int .i64 d0.size, .string d0.root, .int .i64 d0.taken, .string d0.troot], .int .i64 x] w fun r w' => ∃ v1 : World, r = .returned (.int .i64 (k0 + n0 + n1 : Nat)) ∧ (Only lo0 hi0 w v1 ∧ Only lo1 hi1 v1 w') ∧ Own w' lo0 hi0 A0 (strs (marks (k0) n0)) ∧ Own w' lo1 hi1 A1 (strs (marks (k0 + n0) n1)) := by
 subst hx
 have HN0 := Lib.hid hn0
 clear hn0
 have HN1 := Lib.hid hn1
 clear hn1
 have HZ : Hid (∀ lo hi : Nat, Only lo hi w (w.alloc _)) := fun lo hi => (Only.refl lo hi w).alloc (.cells #[.int .i64 z0, .slice A0 n0 c0, .int .i64 z1, .slice A1 n1 c1, .int .i64 d0.num, .int .i64 d0.size, .string d0.root, .int .i64 d0.taken, .string d0.troot] 50)
 have HO0 := Lib.hid (hr0.alloc (.cells #[.int .i64 z0, .slice A0 n0 c0, .int .i64 z1, .slice A1 n1 c1, .int .i64 d0.num, .int .i64 d0.size, .string d0.root, .int .i64 d0.taken, .string d0.troot] 50))
 have HO1 := Lib.hid (hr1.alloc (.cells #[.int .i64 z0, .slice A0 n0 c0, .int .i64 z1, .slice A1 n1 c1, .int .i64 d0.num, .int .i64 d0.size, .string d0.root, .int .i64 d0.taken, .string d0.troot] 50))
 clear hr0 hr1
 go_enter Tryz.func55, Tryz.ntmps55
 go_wp2_with fail
 refine (markRange_c z0 A0 c0 n0 lo0 hi0 (k0) _ xs0 _ (by omega) HO0.out HN0.out (by first | omega | (simp; omega))  (by omega)).mono ?_
 rintro e w1 ⟨rfl, hp1_0, ho0⟩
 have HO1 := Lib.hid (HO1.out.only hp1_0 (by omega))
 have HO0 := Lib.hid ho0
 have hc1_0 := only_at hp1_0 (b := w.heap.size) (by first | omega | (simp; done) | (simp; omega)) (.inr (by omega))
 have hq1_0 : w.heap.size < w1.heap.size := by have := hp1_0.size; first | omega | (simp at this; omega)
 have HP0 := Lib.hid ((HZ.out _ _).trans hp1_0)
 clear hp1_0 ho0
 go_wp2_with fail
 refine (markRange_c z1 A1 c1 n1 lo1 hi1 (k0 + n0) _ xs1 _ (by omega) HO1.out HN1.out (by first | omega | (simp; omega))  (by omega)).mono ?_
 rintro e w2 ⟨rfl, hp2_1, ho1⟩
 have HO0 := Lib.hid (HO0.out.only hp2_1 (by omega))
 have HO1 := Lib.hid ho1
 have hc2_0 := only_at hp2_1 (b := w.heap.size) (by first | omega | (simp; done) | (simp; omega)) (.inr (by omega))
 have hq2_0 : w.heap.size < w2.heap.size := by have := hp2_1.size; first | omega | (simp at this; omega)
 have HP1 := Lib.hid hp2_1
 clear hp2_1 ho1
 go_wp2
 go_ret
 exact ⟨w1, by first | rfl | (congr 2; push_cast; omega), ⟨HP0.out, HP1.out⟩, HO0.out, HO1.out⟩


end Go.Proofs.YtmmepogjocfefaaGreat
