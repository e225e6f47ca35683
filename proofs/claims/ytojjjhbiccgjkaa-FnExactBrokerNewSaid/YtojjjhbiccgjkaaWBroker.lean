/- What the laws' helpers do to a Broker. Written by gen_wrap.py. -/
import Derived.Test.YtojjjhbiccgjkaaWLog
import Derived.Test.YtojjjhbiccgjkaaWSeal
import Derived.Test.YtojjjhbiccgjkaaSHead
import Derived.Test.YtojjjhbiccgjkaaSReceipt
import Derived.Test.YtojjjhbiccgjkaaData
namespace Go.Proofs.Ytojjjhbiccgjkaa
set_option linter.unusedVariables false
set_option linter.unusedSimpArgs false
open Go.RowKit



set_option maxRecDepth 100000 in
set_option maxHeartbeats 400000 in
theorem eqBroker_c (z0 z1 z2 : Int) (d0 : Hd) (A0 A1 A2 A3 A4 : Option Addr) (c0 c1 c2 c3 c4 : Nat) (n0 n1 n2 n3 n4 : Nat) (l0 : List Ent) (l1 : List Rcp) (l2 : List Hd) (l3 : List ByteArray) (l4 : List ByteArray) (A0' A1' A2' A3' A4' : Option Addr) (c0' c1' c2' c3' c4' : Nat) (lo0 hi0 lo1 hi1 lo2 hi2 lo3 hi3 lo4 hi4 : Nat) (lo0' hi0' lo1' hi1' lo2' hi2' lo3' hi3' lo4' hi4' : Nat) (w : World) (hr0 : Rd w lo0 hi0 A0 (ents l0)) (hr0' : Rd w lo0' hi0' A0' (ents l0)) (hn0 : l0.length = n0) (hl0 : n0 ≤ maxLen) (hr1 : Rd w lo1 hi1 A1 (rcps l1)) (hr1' : Rd w lo1' hi1' A1' (rcps l1)) (hn1 : l1.length = n1) (hl1 : n1 ≤ maxLen) (hr2 : Rd w lo2 hi2 A2 (hds l2)) (hr2' : Rd w lo2' hi2' A2' (hds l2)) (hn2 : l2.length = n2) (hl2 : n2 ≤ maxLen) (hr3 : Rd w lo3 hi3 A3 (strs l3)) (hr3' : Rd w lo3' hi3' A3' (strs l3)) (hn3 : l3.length = n3) (hl3 : n3 ≤ maxLen) (hr4 : Rd w lo4 hi4 A4 (strs l4)) (hr4' : Rd w lo4' hi4' A4' (strs l4)) (hn4 : l4.length = n4) (hl4 : n4 ≤ maxLen) :
    Calls Try.prog 95 #[.agg #[.int .i64 z0, .slice A0 n0 c0, .slice A1 n1 c1, .slice A2 n2 c2, .int .i64 z1, .slice A3 n3 c3, .int .i64 z2, .slice A4 n4 c4, .int .i64 d0.num, .int .i64 d0.size, .string d0.root, .int .i64 d0.taken, .string d0.troot], .agg #[.int .i64 z0, .slice A0' n0 c0', .slice A1' n1 c1', .slice A2' n2 c2', .int .i64 z1, .slice A3' n3 c3', .int .i64 z2, .slice A4' n4 c4', .int .i64 d0.num, .int .i64 d0.size, .string d0.root, .int .i64 d0.taken, .string d0.troot]] w fun r w' => r = .returned (.bool true) ∧ Below w.heap.size w w' := by
  have HN0 := Lib.hid hn0
  clear hn0
  have HN1 := Lib.hid hn1
  clear hn1
  have HN2 := Lib.hid hn2
  clear hn2
  have HN3 := Lib.hid hn3
  clear hn3
  have HN4 := Lib.hid hn4
  clear hn4
  go_enter Try.func95, Try.ntmps95
  go_wp2_with fail
  refine (eqLog_c A0 c0 n0 l0 A0' c0' _ _ _ _ _ (hr0.below (by ((repeat (first | refine Below.setCell ?_ (by first | omega | (simp; done) | (simp; omega)) _ | refine Below.alloc ?_ (by first | omega | (simp; done) | (simp; omega)) _)); exact Below.refl _ _))) (hr0'.below (by ((repeat (first | refine Below.setCell ?_ (by first | omega | (simp; done) | (simp; omega)) _ | refine Below.alloc ?_ (by first | omega | (simp; done) | (simp; omega)) _)); exact Below.refl _ _))) HN0.out hl0).mono ?_
  rintro e w1 ⟨rfl, hb1⟩
  obtain ⟨hc1, _⟩ := bcell hb1
  have hq1 : w.heap.size + 1 < w1.heap.size := by have := hb1.size; first | omega | (simp at this; omega)
  have hp1 : w.heap.size < w1.heap.size := by omega
  have HB1 : Hid (Below w.heap.size w w1) := below_then (by ((repeat (first | refine Below.setCell ?_ (by first | omega | (simp; done) | (simp; omega)) _ | refine Below.alloc ?_ (by first | omega | (simp; done) | (simp; omega)) _)); exact Below.refl _ _)) hb1 (by first | omega | (simp; done) | (simp; omega))
  clear hb1
  go_wp2_with fail
  refine (eqReceiptS_c A1 A1' _ _ _ _ _ _ n1 n1 l1 _ (hr1.below (by ((repeat (first | refine Below.setCell ?_ (by first | omega | (simp; done) | (simp; omega)) _ | refine Below.alloc ?_ (by first | omega | (simp; done) | (simp; omega)) _)); exact HB1.out))) (hr1'.below (by ((repeat (first | refine Below.setCell ?_ (by first | omega | (simp; done) | (simp; omega)) _ | refine Below.alloc ?_ (by first | omega | (simp; done) | (simp; omega)) _)); exact HB1.out))) HN1.out HN1.out hl1).mono ?_
  rintro e w2 ⟨rfl, hb2⟩
  obtain ⟨hc2, _⟩ := bcell hb2
  have hq2 : w.heap.size + 1 < w2.heap.size := by have := hb2.size; first | omega | (simp at this; omega)
  have hp2 : w.heap.size < w2.heap.size := by omega
  have HB2 : Hid (Below w.heap.size w w2) := below_then (by ((repeat (first | refine Below.setCell ?_ (by first | omega | (simp; done) | (simp; omega)) _ | refine Below.alloc ?_ (by first | omega | (simp; done) | (simp; omega)) _)); exact HB1.out)) hb2 (by first | omega | (simp; done) | (simp; omega))
  clear hb2
  go_wp2_with fail
  refine (eqHeadS_c A2 A2' _ _ _ _ _ _ n2 n2 l2 _ (hr2.below (by ((repeat (first | refine Below.setCell ?_ (by first | omega | (simp; done) | (simp; omega)) _ | refine Below.alloc ?_ (by first | omega | (simp; done) | (simp; omega)) _)); exact HB2.out))) (hr2'.below (by ((repeat (first | refine Below.setCell ?_ (by first | omega | (simp; done) | (simp; omega)) _ | refine Below.alloc ?_ (by first | omega | (simp; done) | (simp; omega)) _)); exact HB2.out))) HN2.out HN2.out hl2).mono ?_
  rintro e w3 ⟨rfl, hb3⟩
  obtain ⟨hc3, _⟩ := bcell hb3
  have hq3 : w.heap.size + 1 < w3.heap.size := by have := hb3.size; first | omega | (simp at this; omega)
  have hp3 : w.heap.size < w3.heap.size := by omega
  have HB3 : Hid (Below w.heap.size w w3) := below_then (by ((repeat (first | refine Below.setCell ?_ (by first | omega | (simp; done) | (simp; omega)) _ | refine Below.alloc ?_ (by first | omega | (simp; done) | (simp; omega)) _)); exact HB2.out)) hb3 (by first | omega | (simp; done) | (simp; omega))
  clear hb3
  go_wp2_with fail
  refine (eqSeal_c z1 z2 d0 A3 A4 c3 c4 n3 n4 l3 l4 A3' A4' c3' c4' _ _ _ _ _ _ _ _ _ (hr3.below (by ((repeat (first | refine Below.setCell ?_ (by first | omega | (simp; done) | (simp; omega)) _ | refine Below.alloc ?_ (by first | omega | (simp; done) | (simp; omega)) _)); exact HB3.out))) (hr3'.below (by ((repeat (first | refine Below.setCell ?_ (by first | omega | (simp; done) | (simp; omega)) _ | refine Below.alloc ?_ (by first | omega | (simp; done) | (simp; omega)) _)); exact HB3.out))) HN3.out hl3 (hr4.below (by ((repeat (first | refine Below.setCell ?_ (by first | omega | (simp; done) | (simp; omega)) _ | refine Below.alloc ?_ (by first | omega | (simp; done) | (simp; omega)) _)); exact HB3.out))) (hr4'.below (by ((repeat (first | refine Below.setCell ?_ (by first | omega | (simp; done) | (simp; omega)) _ | refine Below.alloc ?_ (by first | omega | (simp; done) | (simp; omega)) _)); exact HB3.out))) HN4.out hl4).mono ?_
  rintro e w4 ⟨rfl, hb4⟩
  obtain ⟨hc4, _⟩ := bcell hb4
  have hq4 : w.heap.size + 1 < w4.heap.size := by have := hb4.size; first | omega | (simp at this; omega)
  have hp4 : w.heap.size < w4.heap.size := by omega
  have HB4 : Hid (Below w.heap.size w w4) := below_then (by ((repeat (first | refine Below.setCell ?_ (by first | omega | (simp; done) | (simp; omega)) _ | refine Below.alloc ?_ (by first | omega | (simp; done) | (simp; omega)) _)); exact HB3.out)) hb4 (by first | omega | (simp; done) | (simp; omega))
  clear hb4
  go_wp2
  go_ret
  exact ⟨rfl, HB4.out⟩

set_option maxRecDepth 100000 in
set_option maxHeartbeats 400000 in
theorem markBroker_c (z0 z1 z2 : Int) (d0 : Hd) (A0 A1 A2 A3 A4 : Option Addr) (c0 c1 c2 c3 c4 : Nat) (n0 n1 n2 n3 n4 : Nat) (lo0 hi0 lo1 hi1 lo2 hi2 lo3 hi3 lo4 hi4 : Nat) (k0 : Nat) (x : Int) (xs0 xs1 xs2 xs3 xs4 : List Value) (w : World) (hx : x = (k0 : Int)) (hr0 : Own w lo0 hi0 A0 xs0) (hn0 : xs0.length = n0 * 5) (hH0 : hi0 ≤ w.heap.size) (hr1 : Own w lo1 hi1 A1 xs1) (hn1 : xs1.length = n1 * 3) (hH1 : hi1 ≤ w.heap.size) (hr2 : Own w lo2 hi2 A2 xs2) (hn2 : xs2.length = n2 * 5) (hH2 : hi2 ≤ w.heap.size) (hr3 : Own w lo3 hi3 A3 xs3) (hn3 : xs3.length = n3) (hH3 : hi3 ≤ w.heap.size) (hr4 : Own w lo4 hi4 A4 xs4) (hn4 : xs4.length = n4) (hH4 : hi4 ≤ w.heap.size) (hd0_1 : hi0 ≤ lo1 ∨ hi1 ≤ lo0) (hd0_2 : hi0 ≤ lo2 ∨ hi2 ≤ lo0) (hd0_3 : hi0 ≤ lo3 ∨ hi3 ≤ lo0) (hd0_4 : hi0 ≤ lo4 ∨ hi4 ≤ lo0) (hd1_2 : hi1 ≤ lo2 ∨ hi2 ≤ lo1) (hd1_3 : hi1 ≤ lo3 ∨ hi3 ≤ lo1) (hd1_4 : hi1 ≤ lo4 ∨ hi4 ≤ lo1) (hd2_3 : hi2 ≤ lo3 ∨ hi3 ≤ lo2) (hd2_4 : hi2 ≤ lo4 ∨ hi4 ≤ lo2) (hd3_4 : hi3 ≤ lo4 ∨ hi4 ≤ lo3) (hk : k0 + n0 * 5 + n1 * 3 + n2 * 5 + n3 + n4 ≤ 100000000) :
    Calls Try.prog 96 #[.agg #[.int .i64 z0, .slice A0 n0 c0, .slice A1 n1 c1, .slice A2 n2 c2, .int .i64 z1, .slice A3 n3 c3, .int .i64 z2, .slice A4 n4 c4, .int .i64 d0.num, .int .i64 d0.size, .string d0.root, .int .i64 d0.taken, .string d0.troot], .int .i64 x] w fun r w' => ∃ v1 v2 v3 v4 : World, r = .returned (.int .i64 (k0 + n0 * 5 + n1 * 3 + n2 * 5 + n3 + n4 : Nat)) ∧ (Only lo0 hi0 w v1 ∧ Only lo1 hi1 v1 v2 ∧ Only lo2 hi2 v2 v3 ∧ Only lo3 hi3 v3 v4 ∧ Only lo4 hi4 v4 w') ∧ Own w' lo0 hi0 A0 (ents (mksEntry (k0) n0)) ∧ Own w' lo1 hi1 A1 (rcps (mksReceipt (k0 + n0 * 5) n1)) ∧ Own w' lo2 hi2 A2 (hds (mksHead (k0 + n0 * 5 + n1 * 3) n2)) ∧ Own w' lo3 hi3 A3 (strs (marks (k0 + n0 * 5 + n1 * 3 + n2 * 5) n3)) ∧ Own w' lo4 hi4 A4 (strs (marks (k0 + n0 * 5 + n1 * 3 + n2 * 5 + n3) n4)) := by
  subst hx
  have HN0 := Lib.hid hn0
  clear hn0
  have HN1 := Lib.hid hn1
  clear hn1
  have HN2 := Lib.hid hn2
  clear hn2
  have HN3 := Lib.hid hn3
  clear hn3
  have HN4 := Lib.hid hn4
  clear hn4
  have HZ : Hid (∀ lo hi : Nat, Only lo hi w (w.alloc _)) := fun lo hi => (Only.refl lo hi w).alloc (.cells #[.int .i64 z0, .slice A0 n0 c0, .slice A1 n1 c1, .slice A2 n2 c2, .int .i64 z1, .slice A3 n3 c3, .int .i64 z2, .slice A4 n4 c4, .int .i64 d0.num, .int .i64 d0.size, .string d0.root, .int .i64 d0.taken, .string d0.troot] 105)
  have HO0 := Lib.hid (hr0.alloc (.cells #[.int .i64 z0, .slice A0 n0 c0, .slice A1 n1 c1, .slice A2 n2 c2, .int .i64 z1, .slice A3 n3 c3, .int .i64 z2, .slice A4 n4 c4, .int .i64 d0.num, .int .i64 d0.size, .string d0.root, .int .i64 d0.taken, .string d0.troot] 105))
  have HO1 := Lib.hid (hr1.alloc (.cells #[.int .i64 z0, .slice A0 n0 c0, .slice A1 n1 c1, .slice A2 n2 c2, .int .i64 z1, .slice A3 n3 c3, .int .i64 z2, .slice A4 n4 c4, .int .i64 d0.num, .int .i64 d0.size, .string d0.root, .int .i64 d0.taken, .string d0.troot] 105))
  have HO2 := Lib.hid (hr2.alloc (.cells #[.int .i64 z0, .slice A0 n0 c0, .slice A1 n1 c1, .slice A2 n2 c2, .int .i64 z1, .slice A3 n3 c3, .int .i64 z2, .slice A4 n4 c4, .int .i64 d0.num, .int .i64 d0.size, .string d0.root, .int .i64 d0.taken, .string d0.troot] 105))
  have HO3 := Lib.hid (hr3.alloc (.cells #[.int .i64 z0, .slice A0 n0 c0, .slice A1 n1 c1, .slice A2 n2 c2, .int .i64 z1, .slice A3 n3 c3, .int .i64 z2, .slice A4 n4 c4, .int .i64 d0.num, .int .i64 d0.size, .string d0.root, .int .i64 d0.taken, .string d0.troot] 105))
  have HO4 := Lib.hid (hr4.alloc (.cells #[.int .i64 z0, .slice A0 n0 c0, .slice A1 n1 c1, .slice A2 n2 c2, .int .i64 z1, .slice A3 n3 c3, .int .i64 z2, .slice A4 n4 c4, .int .i64 d0.num, .int .i64 d0.size, .string d0.root, .int .i64 d0.taken, .string d0.troot] 105))
  clear hr0 hr1 hr2 hr3 hr4
  go_enter Try.func96, Try.ntmps96
  go_wp2_with fail
  refine (markLog_c A0 c0 n0 lo0 hi0 (k0) _ xs0 _ (by omega) HO0.out HN0.out (by first | omega | (simp; omega))  (by omega)).mono ?_
  rintro e w1 ⟨rfl, hp1_0, ho0⟩
  have HO1 := Lib.hid (HO1.out.only hp1_0 (by omega))
  have HO2 := Lib.hid (HO2.out.only hp1_0 (by omega))
  have HO3 := Lib.hid (HO3.out.only hp1_0 (by omega))
  have HO4 := Lib.hid (HO4.out.only hp1_0 (by omega))
  have HO0 := Lib.hid ho0
  have hc1_0 := only_at hp1_0 (b := w.heap.size) (by first | omega | (simp; done) | (simp; omega)) (.inr (by omega))
  have hq1_0 : w.heap.size < w1.heap.size := by have := hp1_0.size; first | omega | (simp at this; omega)
  have HP0 := Lib.hid ((HZ.out _ _).trans hp1_0)
  clear hp1_0 ho0
  go_wp2_with fail
  refine (markReceiptS_c A1 _ lo1 hi1 (k0 + n0 * 5) n1 _ xs1 _ (by omega) HO1.out HN1.out (by omega)).mono ?_
  rintro e w2 ⟨rfl, hp2_1, ho1⟩
  have HO0 := Lib.hid (HO0.out.only hp2_1 (by omega))
  have HO2 := Lib.hid (HO2.out.only hp2_1 (by omega))
  have HO3 := Lib.hid (HO3.out.only hp2_1 (by omega))
  have HO4 := Lib.hid (HO4.out.only hp2_1 (by omega))
  have HO1 := Lib.hid ho1
  have hc2_0 := only_at hp2_1 (b := w.heap.size) (by first | omega | (simp; done) | (simp; omega)) (.inr (by omega))
  have hq2_0 : w.heap.size < w2.heap.size := by have := hp2_1.size; first | omega | (simp at this; omega)
  have HP1 := Lib.hid hp2_1
  clear hp2_1 ho1
  go_wp2_with fail
  refine (markHeadS_c A2 _ lo2 hi2 (k0 + n0 * 5 + n1 * 3) n2 _ xs2 _ (by omega) HO2.out HN2.out (by omega)).mono ?_
  rintro e w3 ⟨rfl, hp3_2, ho2⟩
  have HO0 := Lib.hid (HO0.out.only hp3_2 (by omega))
  have HO1 := Lib.hid (HO1.out.only hp3_2 (by omega))
  have HO3 := Lib.hid (HO3.out.only hp3_2 (by omega))
  have HO4 := Lib.hid (HO4.out.only hp3_2 (by omega))
  have HO2 := Lib.hid ho2
  have hc3_0 := only_at hp3_2 (b := w.heap.size) (by first | omega | (simp; done) | (simp; omega)) (.inr (by omega))
  have hq3_0 : w.heap.size < w3.heap.size := by have := hp3_2.size; first | omega | (simp at this; omega)
  have HP2 := Lib.hid hp3_2
  clear hp3_2 ho2
  go_wp2_with fail
  refine (markSeal_c z1 z2 d0 A3 A4 c3 c4 n3 n4 lo3 hi3 lo4 hi4 (k0 + n0 * 5 + n1 * 3 + n2 * 5) _ xs3 xs4 _ (by omega) HO3.out HN3.out (by first | omega | (simp; omega)) HO4.out HN4.out (by first | omega | (simp; omega)) hd3_4 (by omega)).mono ?_
  rintro e w4 ⟨v4_1, rfl, ⟨hp4_3, hp4_4⟩, ho3, ho4⟩
  have HO0 := Lib.hid ((HO0.out.only hp4_3 (by omega)).only hp4_4 (by omega))
  have HO1 := Lib.hid ((HO1.out.only hp4_3 (by omega)).only hp4_4 (by omega))
  have HO2 := Lib.hid ((HO2.out.only hp4_3 (by omega)).only hp4_4 (by omega))
  have HO3 := Lib.hid ho3
  have HO4 := Lib.hid ho4
  have hc4_0 := only_at hp4_3 (b := w.heap.size) (by first | omega | (simp; done) | (simp; omega)) (.inr (by omega))
  have hq4_0 : w.heap.size < v4_1.heap.size := by have := hp4_3.size; first | omega | (simp at this; omega)
  have HP3 := Lib.hid hp4_3
  have hc4_1 := only_at hp4_4 (b := w.heap.size) (by first | omega | (simp; done) | (simp; omega)) (.inr (by omega))
  have hq4_1 : w.heap.size < w4.heap.size := by have := hp4_4.size; first | omega | (simp at this; omega)
  have HP4 := Lib.hid hp4_4
  clear hp4_3 hp4_4 ho3 ho4
  go_wp2
  go_ret
  exact ⟨w1, w2, w3, v4_1, by first | rfl | (congr 2; push_cast; omega), ⟨HP0.out, HP1.out, HP2.out, HP3.out, HP4.out⟩, HO0.out, HO1.out, HO2.out, HO3.out, HO4.out⟩

set_option maxRecDepth 100000 in
set_option maxHeartbeats 400000 in
theorem heldBroker_c (z0 z1 z2 : Int) (d0 : Hd) (A0 A1 A2 A3 A4 : Option Addr) (c0 c1 c2 c3 c4 : Nat) (n0 n1 n2 n3 n4 : Nat) (lo0 hi0 lo1 hi1 lo2 hi2 lo3 hi3 lo4 hi4 : Nat) (k0 : Nat) (x : Int) (w : World) (hx : x = (k0 : Int)) (hr0 : Rd w lo0 hi0 A0 (ents (mksEntry (k0) n0))) (hr1 : Rd w lo1 hi1 A1 (rcps (mksReceipt (k0 + n0 * 5) n1))) (hr2 : Rd w lo2 hi2 A2 (hds (mksHead (k0 + n0 * 5 + n1 * 3) n2))) (hr3 : Rd w lo3 hi3 A3 (strs (marks (k0 + n0 * 5 + n1 * 3 + n2 * 5) n3))) (hr4 : Rd w lo4 hi4 A4 (strs (marks (k0 + n0 * 5 + n1 * 3 + n2 * 5 + n3) n4))) (hk : k0 + n0 * 5 + n1 * 3 + n2 * 5 + n3 + n4 ≤ 100000000) :
    Calls Try.prog 97 #[.agg #[.int .i64 z0, .slice A0 n0 c0, .slice A1 n1 c1, .slice A2 n2 c2, .int .i64 z1, .slice A3 n3 c3, .int .i64 z2, .slice A4 n4 c4, .int .i64 d0.num, .int .i64 d0.size, .string d0.root, .int .i64 d0.taken, .string d0.troot], .int .i64 x] w fun r w' => r = .returned (.int .i64 (k0 + n0 * 5 + n1 * 3 + n2 * 5 + n3 + n4 : Nat)) ∧ Below w.heap.size w w' := by
  subst hx
  go_enter Try.func97, Try.ntmps97
  go_wp2_with fail
  refine (heldLog_c A0 c0 n0 _ _ (k0) _ _ (by omega) (hr0.below (by ((repeat (first | refine Below.setCell ?_ (by first | omega | (simp; done) | (simp; omega)) _ | refine Below.alloc ?_ (by first | omega | (simp; done) | (simp; omega)) _)); exact Below.refl _ _))) (by omega)).mono ?_
  rintro e w1 ⟨rfl, hb1⟩
  obtain ⟨hc1, _⟩ := bcell hb1
  have hq1 : w.heap.size < w1.heap.size := by have := hb1.size; first | omega | (simp at this; omega)
  have HB1 : Hid (Below w.heap.size w w1) := below_then (by ((repeat (first | refine Below.setCell ?_ (by first | omega | (simp; done) | (simp; omega)) _ | refine Below.alloc ?_ (by first | omega | (simp; done) | (simp; omega)) _)); exact Below.refl _ _)) hb1 (by first | omega | (simp; done) | (simp; omega))
  clear hb1
  go_wp2_with fail
  refine (heldReceiptS_c A1 _ _ _ (k0 + n0 * 5) n1 _ _ (by omega) (hr1.below (by ((repeat (first | refine Below.setCell ?_ (by first | omega | (simp; done) | (simp; omega)) _ | refine Below.alloc ?_ (by first | omega | (simp; done) | (simp; omega)) _)); exact HB1.out))) (by omega)).mono ?_
  rintro e w2 ⟨rfl, hb2⟩
  obtain ⟨hc2, _⟩ := bcell hb2
  have hq2 : w.heap.size < w2.heap.size := by have := hb2.size; first | omega | (simp at this; omega)
  have HB2 : Hid (Below w.heap.size w w2) := below_then (by ((repeat (first | refine Below.setCell ?_ (by first | omega | (simp; done) | (simp; omega)) _ | refine Below.alloc ?_ (by first | omega | (simp; done) | (simp; omega)) _)); exact HB1.out)) hb2 (by first | omega | (simp; done) | (simp; omega))
  clear hb2
  go_wp2_with fail
  refine (heldHeadS_c A2 _ _ _ (k0 + n0 * 5 + n1 * 3) n2 _ _ (by omega) (hr2.below (by ((repeat (first | refine Below.setCell ?_ (by first | omega | (simp; done) | (simp; omega)) _ | refine Below.alloc ?_ (by first | omega | (simp; done) | (simp; omega)) _)); exact HB2.out))) (by omega)).mono ?_
  rintro e w3 ⟨rfl, hb3⟩
  obtain ⟨hc3, _⟩ := bcell hb3
  have hq3 : w.heap.size < w3.heap.size := by have := hb3.size; first | omega | (simp at this; omega)
  have HB3 : Hid (Below w.heap.size w w3) := below_then (by ((repeat (first | refine Below.setCell ?_ (by first | omega | (simp; done) | (simp; omega)) _ | refine Below.alloc ?_ (by first | omega | (simp; done) | (simp; omega)) _)); exact HB2.out)) hb3 (by first | omega | (simp; done) | (simp; omega))
  clear hb3
  go_wp2_with fail
  refine (heldSeal_c z1 z2 d0 A3 A4 c3 c4 n3 n4 _ _ _ _ (k0 + n0 * 5 + n1 * 3 + n2 * 5) _ _ (by omega) (hr3.below (by ((repeat (first | refine Below.setCell ?_ (by first | omega | (simp; done) | (simp; omega)) _ | refine Below.alloc ?_ (by first | omega | (simp; done) | (simp; omega)) _)); exact HB3.out))) (hr4.below (by ((repeat (first | refine Below.setCell ?_ (by first | omega | (simp; done) | (simp; omega)) _ | refine Below.alloc ?_ (by first | omega | (simp; done) | (simp; omega)) _)); exact HB3.out))) (by omega)).mono ?_
  rintro e w4 ⟨rfl, hb4⟩
  obtain ⟨hc4, _⟩ := bcell hb4
  have hq4 : w.heap.size < w4.heap.size := by have := hb4.size; first | omega | (simp at this; omega)
  have HB4 : Hid (Below w.heap.size w w4) := below_then (by ((repeat (first | refine Below.setCell ?_ (by first | omega | (simp; done) | (simp; omega)) _ | refine Below.alloc ?_ (by first | omega | (simp; done) | (simp; omega)) _)); exact HB3.out)) hb4 (by first | omega | (simp; done) | (simp; omega))
  clear hb4
  go_wp2
  go_ret
  exact ⟨by first | rfl | (congr 2; push_cast; omega), HB4.out⟩

end Go.Proofs.Ytojjjhbiccgjkaa
