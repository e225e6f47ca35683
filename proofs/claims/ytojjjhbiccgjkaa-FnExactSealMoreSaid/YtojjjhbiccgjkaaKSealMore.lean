/- The walk of the law FnExactSealMore; what spec.SealMore and impl.SealMore do comes in as hypotheses. Written by gen_law.py. -/
import Derived.Test.YtojjjhbiccgjkaaData
import Derived.Test.YtojjjhbiccgjkaaReg
import Derived.Test.YtojjjhbiccgjkaaStr
import Derived.Test.YtojjjhbiccgjkaaWSeal
import Derived.Test.YtojjjhbiccgjkaaOpen
import Derived.Test.YtojjjhbiccgjkaaSeat
namespace Go.Proofs.Ytojjjhbiccgjkaa
set_option linter.unusedVariables false
set_option linter.unusedSimpArgs false
open Go.RowKit
attribute [local go_sem ↓] Go.wp_at_zero Go.wp_at_succ

def specSealMore_does (z0 : Int) (z1_0 z1_1 : Int) (d1_0 : Hd) (n1_0 n1_1 : Nat) (l1_0 : List ByteArray) (l1_1 : List ByteArray) (n2 : Nat) (l2 : List ByteArray) (n3 : Nat) (l3 : List ByteArray) (zr0_0 zr0_1 : Int) (dr0_0 : Hd) (nr0_0 nr0_1 : Nat) (lr0_0 : List ByteArray) (lr0_1 : List ByteArray) (zr1 : Int) (zr2 : Int) : Prop :=
    (((n1_0 + bulkS l1_0)) + ((n1_1 + bulkS l1_1)) + d1_0.bulk) + (n2 + bulkS l2) + (n3 + bulkS l3) ≤ 1048576 → ∀ (B1_0 : Option Addr) (g1_0 aA1_0 bA1_0 : Nat) (B1_1 : Option Addr) (g1_1 aA1_1 bA1_1 : Nat) (B2 : Option Addr) (g2 aA2 bA2 : Nat) (B3 : Option Addr) (g3 aA3 bA3 : Nat) (W : World), Rd W aA1_0 bA1_0 B1_0 (strs l1_0) → g1_0 = n1_0 → Rd W aA1_1 bA1_1 B1_1 (strs l1_1) → g1_1 = n1_1 → Rd W aA2 bA2 B2 (strs l2) → g2 = n2 → Rd W aA3 bA3 B3 (strs l3) → g3 = n3 → Calls Try.prog 98 #[.int .i64 z0, .agg #[.int .i64 z1_0, .slice B1_0 n1_0 g1_0, .int .i64 z1_1, .slice B1_1 n1_1 g1_1, .int .i64 d1_0.num, .int .i64 d1_0.size, .string d1_0.root, .int .i64 d1_0.taken, .string d1_0.troot], .slice B2 n2 g2, .slice B3 n3 g3] W fun r W' => ∃ (Ar0_0 : Option Addr) (cr0_0 loAr0_0 hiAr0_0 : Nat) (Ar0_1 : Option Addr) (cr0_1 loAr0_1 hiAr0_1 : Nat), r = .returned (.tuple #[.agg #[.int .i64 zr0_0, .slice Ar0_0 nr0_0 cr0_0, .int .i64 zr0_1, .slice Ar0_1 nr0_1 cr0_1, .int .i64 dr0_0.num, .int .i64 dr0_0.size, .string dr0_0.root, .int .i64 dr0_0.taken, .string dr0_0.troot], .int .i64 zr1, .int .i64 zr2]) ∧ (W.heap.size ≤ loAr0_0 ∧ hiAr0_0 ≤ W'.heap.size ∧ Own W' loAr0_0 hiAr0_0 Ar0_0 (strs lr0_0)) ∧ (W.heap.size ≤ loAr0_1 ∧ hiAr0_1 ≤ W'.heap.size ∧ Own W' loAr0_1 hiAr0_1 Ar0_1 (strs lr0_1)) ∧ (hiAr0_0 ≤ loAr0_1 ∨ hiAr0_1 ≤ loAr0_0) ∧ Below W.heap.size W W'
def implSealMore_does (z0 : Int) (z1_0 z1_1 : Int) (d1_0 : Hd) (n1_0 n1_1 : Nat) (l1_0 : List ByteArray) (l1_1 : List ByteArray) (n2 : Nat) (l2 : List ByteArray) (n3 : Nat) (l3 : List ByteArray) (zr0_0 zr0_1 : Int) (dr0_0 : Hd) (nr0_0 nr0_1 : Nat) (lr0_0 : List ByteArray) (lr0_1 : List ByteArray) (zr1 : Int) (zr2 : Int) : Prop :=
    (((n1_0 + bulkS l1_0)) + ((n1_1 + bulkS l1_1)) + d1_0.bulk) + (n2 + bulkS l2) + (n3 + bulkS l3) ≤ 1048576 → ∀ (B1_0 : Option Addr) (g1_0 aA1_0 bA1_0 : Nat) (B1_1 : Option Addr) (g1_1 aA1_1 bA1_1 : Nat) (B2 : Option Addr) (g2 aA2 bA2 : Nat) (B3 : Option Addr) (g3 aA3 bA3 : Nat) (W : World), Rd W aA1_0 bA1_0 B1_0 (strs l1_0) → g1_0 = n1_0 → Rd W aA1_1 bA1_1 B1_1 (strs l1_1) → g1_1 = n1_1 → Rd W aA2 bA2 B2 (strs l2) → g2 = n2 → Rd W aA3 bA3 B3 (strs l3) → g3 = n3 → Calls Try.prog 99 #[.int .i64 z0, .agg #[.int .i64 z1_0, .slice B1_0 n1_0 g1_0, .int .i64 z1_1, .slice B1_1 n1_1 g1_1, .int .i64 d1_0.num, .int .i64 d1_0.size, .string d1_0.root, .int .i64 d1_0.taken, .string d1_0.troot], .slice B2 n2 g2, .slice B3 n3 g3] W fun r W' => ∃ (Ar0_0 : Option Addr) (cr0_0 loAr0_0 hiAr0_0 : Nat) (Ar0_1 : Option Addr) (cr0_1 loAr0_1 hiAr0_1 : Nat), r = .returned (.tuple #[.agg #[.int .i64 zr0_0, .slice Ar0_0 nr0_0 cr0_0, .int .i64 zr0_1, .slice Ar0_1 nr0_1 cr0_1, .int .i64 dr0_0.num, .int .i64 dr0_0.size, .string dr0_0.root, .int .i64 dr0_0.taken, .string dr0_0.troot], .int .i64 zr1, .int .i64 zr2]) ∧ (W.heap.size ≤ loAr0_0 ∧ hiAr0_0 ≤ W'.heap.size ∧ Own W' loAr0_0 hiAr0_0 Ar0_0 (strs lr0_0)) ∧ (W.heap.size ≤ loAr0_1 ∧ hiAr0_1 ≤ W'.heap.size ∧ Own W' loAr0_1 hiAr0_1 Ar0_1 (strs lr0_1)) ∧ (hiAr0_0 ≤ loAr0_1 ∨ hiAr0_1 ≤ loAr0_0) ∧ Below W.heap.size W W'
set_option maxRecDepth 100000 in
set_option maxHeartbeats 4000000 in
theorem walk_SealMore (z0 : Int) (z1_0 z1_1 : Int) (d1_0 : Hd) (A1_0 A1_1 : Option Addr) (c1_0 c1_1 : Nat) (n1_0 n1_1 : Nat) (l1_0 : List ByteArray) (l1_1 : List ByteArray) (A2 : Option Addr) (c2 : Nat) (n2 : Nat) (l2 : List ByteArray) (A3 : Option Addr) (c3 : Nat) (n3 : Nat) (l3 : List ByteArray) (zr0_0 zr0_1 : Int) (dr0_0 : Hd) (nr0_0 nr0_1 : Nat) (lr0_0 : List ByteArray) (lr0_1 : List ByteArray) (zr1 : Int) (zr2 : Int) (w : World) (hrA1_0 : Rd w 0 w.heap.size A1_0 (strs l1_0)) (hnA1_0 : l1_0.length = n1_0) (hlA1_0 : n1_0 ≤ maxLen) (hsA1_0 : ∀ x ∈ l1_0, x.size ≤ maxLen) (hrA1_1 : Rd w 0 w.heap.size A1_1 (strs l1_1)) (hnA1_1 : l1_1.length = n1_1) (hlA1_1 : n1_1 ≤ maxLen) (hsA1_1 : ∀ x ∈ l1_1, x.size ≤ maxLen) (hfd1_0 : d1_0.fits) (hrA2 : Rd w 0 w.heap.size A2 (strs l2)) (hnA2 : l2.length = n2) (hlA2 : n2 ≤ maxLen) (hsA2 : ∀ x ∈ l2, x.size ≤ maxLen) (hrA3 : Rd w 0 w.heap.size A3 (strs l3)) (hnA3 : l3.length = n3) (hlA3 : n3 ≤ maxLen) (hsA3 : ∀ x ∈ l3, x.size ≤ maxLen) (hrnAr0_0 : lr0_0.length = nr0_0) (hrlAr0_0 : (((n1_0 + bulkS l1_0)) + ((n1_1 + bulkS l1_1)) + d1_0.bulk) + (n2 + bulkS l2) + (n3 + bulkS l3) ≤ 1048576 → nr0_0 ≤ 2000000) (hrnAr0_1 : lr0_1.length = nr0_1) (hrlAr0_1 : (((n1_0 + bulkS l1_0)) + ((n1_1 + bulkS l1_1)) + d1_0.bulk) + (n2 + bulkS l2) + (n3 + bulkS l3) ≤ 1048576 → nr0_1 ≤ 2000000) (HSP : specSealMore_does z0 z1_0 z1_1 d1_0 n1_0 n1_1 l1_0 l1_1 n2 l2 n3 l3 zr0_0 zr0_1 dr0_0 nr0_0 nr0_1 lr0_0 lr0_1 zr1 zr2) (HIM : implSealMore_does z0 z1_0 z1_1 d1_0 n1_0 n1_1 l1_0 l1_1 n2 l2 n3 l3 zr0_0 zr0_1 dr0_0 nr0_0 nr0_1 lr0_0 lr0_1 zr1 zr2) :
    Calls Try.prog 25 #[.int .i64 z0, .agg #[.int .i64 z1_0, .slice A1_0 n1_0 c1_0, .int .i64 z1_1, .slice A1_1 n1_1 c1_1, .int .i64 d1_0.num, .int .i64 d1_0.size, .string d1_0.root, .int .i64 d1_0.taken, .string d1_0.troot], .slice A2 n2 c2, .slice A3 n3 c3] w fun e w' => e = .returned (.bool true) ∧ Below w.heap.size w w' := by
  have HNA1_0 := Lib.hid hnA1_0
  have HSA1_0 := Lib.hid hsA1_0
  clear hnA1_0 hsA1_0
  have HNA1_1 := Lib.hid hnA1_1
  have HSA1_1 := Lib.hid hsA1_1
  clear hnA1_1 hsA1_1
  have HNA2 := Lib.hid hnA2
  have HSA2 := Lib.hid hsA2
  clear hnA2 hsA2
  have HNA3 := Lib.hid hnA3
  have HSA3 := Lib.hid hsA3
  clear hnA3 hsA3
  have HRNAr0_0 := Lib.hid hrnAr0_0
  have HRLAr0_0 := Lib.hid hrlAr0_0
  clear hrnAr0_0 hrlAr0_0
  have HRNAr0_1 := Lib.hid hrnAr0_1
  have HRLAr0_1 := Lib.hid hrlAr0_1
  clear hrnAr0_1 hrlAr0_1
  have HB0 : Hid (Below w.heap.size w w) := Below.refl _ _
  go_enter Try.func25, Try.ntmps25
  go_wp2_with fail
  refine (szSeal_c z1_0 z1_1 d1_0 A1_0 A1_1 c1_0 c1_1 n1_0 n1_1 l1_0 l1_1 _ _ _ _ _ _ (hrA1_0.below (by ((repeat (first | refine Below.alloc ?_ (by first | omega | (simp; done) | (simp; omega)) _ | refine Below.drew ?_)); exact HB0.out))) HNA1_0.out hlA1_0 HSA1_0.out (hrA1_1.below (by ((repeat (first | refine Below.alloc ?_ (by first | omega | (simp; done) | (simp; omega)) _ | refine Below.drew ?_)); exact HB0.out))) HNA1_1.out hlA1_1 HSA1_1.out hfd1_0 (by omega) (by omega)).mono ?_
  rintro e w1 ⟨rfl, hb1⟩
  have hz1 : w.heap.size + 1 ≤ w1.heap.size := by have := hb1.size; first | omega | (simp at this; omega)
  have hzz1 : w.heap.size ≤ w1.heap.size := by omega
  have HB1 : Hid (Below w.heap.size w w1) := below_then (by ((repeat (first | refine Below.alloc ?_ (by first | omega | (simp; done) | (simp; omega)) _ | refine Below.drew ?_)); exact HB0.out)) hb1 (by first | omega | (simp; done) | (simp; omega))
  have HXaS : Hid (Box w1 (w.heap.size) [.int .i64 z1_0, .slice A1_0 n1_0 c1_0, .int .i64 z1_1, .slice A1_1 n1_1 c1_1, .int .i64 d1_0.num, .int .i64 d1_0.size, .string d1_0.root, .int .i64 d1_0.taken, .string d1_0.troot]) := Box.below (Box.new0 _ _ _) hb1
  have hxaS := HXaS.out.2
  have hkaS := HXaS.out.1
  clear hb1
  go_wp2_with fail
  · go_ret
    exact ⟨rfl, HB1.out⟩
  · have hp1 : 0 ≤ szF 1048576 ((((n1_0 + bulkS l1_0)) + ((n1_1 + bulkS l1_1)) + d1_0.bulk)) := by assumption
    have hg1 := (szF_le 1048576 ((((n1_0 + bulkS l1_0)) + ((n1_1 + bulkS l1_1)) + d1_0.bulk)) (by omega)).2
    refine (szStringS_c' A2 _ _ _ n2 l2 _ _ (hrA2.below (by ((repeat (first | refine Below.alloc ?_ (by first | omega | (simp; done) | (simp; omega)) _ | refine Below.drew ?_)); exact HB1.out))) HNA2.out hlA2 HSA2.out (by omega) (by omega)).mono ?_
    rintro e w2 ⟨rfl, hb2⟩
    have hz2 : w1.heap.size ≤ w2.heap.size := by have := hb2.size; first | omega | (simp at this; omega)
    have hzz2 : w.heap.size ≤ w2.heap.size := by omega
    have HB2 : Hid (Below w.heap.size w w2) := below_then (by ((repeat (first | refine Below.alloc ?_ (by first | omega | (simp; done) | (simp; omega)) _ | refine Below.drew ?_)); exact HB1.out)) hb2 (by first | omega | (simp; done) | (simp; omega))
    replace HXaS : Hid (Box w2 (w.heap.size) [.int .i64 z1_0, .slice A1_0 n1_0 c1_0, .int .i64 z1_1, .slice A1_1 n1_1 c1_1, .int .i64 d1_0.num, .int .i64 d1_0.size, .string d1_0.root, .int .i64 d1_0.taken, .string d1_0.troot]) := Box.below HXaS.out hb2
    clear hxaS hkaS
    have hxaS := HXaS.out.2
    have hkaS := HXaS.out.1
    have HA2 : Hid (szF (szF 1048576 ((((n1_0 + bulkS l1_0)) + ((n1_1 + bulkS l1_1)) + d1_0.bulk))) (n2 + bulkS l2) = szF 1048576 ((((n1_0 + bulkS l1_0)) + ((n1_1 + bulkS l1_1)) + d1_0.bulk) + (n2 + bulkS l2))) := szF_add (by assumption)
    rw [HA2.out]
    clear hb2
    go_wp2_with fail
    · go_ret
      exact ⟨rfl, HB2.out⟩
    · have hp2 : 0 ≤ szF 1048576 ((((n1_0 + bulkS l1_0)) + ((n1_1 + bulkS l1_1)) + d1_0.bulk) + (n2 + bulkS l2)) := by assumption
      have hg2 := (szF_le 1048576 ((((n1_0 + bulkS l1_0)) + ((n1_1 + bulkS l1_1)) + d1_0.bulk) + (n2 + bulkS l2)) (by omega)).2
      refine (szStringS_c' A3 _ _ _ n3 l3 _ _ (hrA3.below (by ((repeat (first | refine Below.alloc ?_ (by first | omega | (simp; done) | (simp; omega)) _ | refine Below.drew ?_)); exact HB2.out))) HNA3.out hlA3 HSA3.out (by omega) (by omega)).mono ?_
      rintro e w3 ⟨rfl, hb3⟩
      have hz3 : w2.heap.size ≤ w3.heap.size := by have := hb3.size; first | omega | (simp at this; omega)
      have hzz3 : w.heap.size ≤ w3.heap.size := by omega
      have HB3 : Hid (Below w.heap.size w w3) := below_then (by ((repeat (first | refine Below.alloc ?_ (by first | omega | (simp; done) | (simp; omega)) _ | refine Below.drew ?_)); exact HB2.out)) hb3 (by first | omega | (simp; done) | (simp; omega))
      replace HXaS : Hid (Box w3 (w.heap.size) [.int .i64 z1_0, .slice A1_0 n1_0 c1_0, .int .i64 z1_1, .slice A1_1 n1_1 c1_1, .int .i64 d1_0.num, .int .i64 d1_0.size, .string d1_0.root, .int .i64 d1_0.taken, .string d1_0.troot]) := Box.below HXaS.out hb3
      clear hxaS hkaS
      have hxaS := HXaS.out.2
      have hkaS := HXaS.out.1
      have HA3 : Hid (szF (szF 1048576 ((((n1_0 + bulkS l1_0)) + ((n1_1 + bulkS l1_1)) + d1_0.bulk) + (n2 + bulkS l2))) (n3 + bulkS l3) = szF 1048576 ((((n1_0 + bulkS l1_0)) + ((n1_1 + bulkS l1_1)) + d1_0.bulk) + (n2 + bulkS l2) + (n3 + bulkS l3))) := szF_add (by assumption)
      rw [HA3.out]
      clear hb3
      go_wp2_with fail
      · go_ret
        exact ⟨rfl, HB3.out⟩
      · have hp3 : 0 ≤ szF 1048576 ((((n1_0 + bulkS l1_0)) + ((n1_1 + bulkS l1_1)) + d1_0.bulk) + (n2 + bulkS l2) + (n3 + bulkS l3)) := by assumption
        have hg3 := (szF_le 1048576 ((((n1_0 + bulkS l1_0)) + ((n1_1 + bulkS l1_1)) + d1_0.bulk) + (n2 + bulkS l2) + (n3 + bulkS l3)) (by omega)).2
        have hbk : (((n1_0 + bulkS l1_0)) + ((n1_1 + bulkS l1_1)) + d1_0.bulk) + (n2 + bulkS l2) + (n3 + bulkS l3) ≤ 1048576 := by have := (szF_pos hp3).1; omega
        have hmA1_0 : n1_0 ≤ 1048576 := by omega
        have hmA1_1 : n1_1 ≤ 1048576 := by omega
        have hmA2 : n2 ≤ 1048576 := by omega
        have hmA3 : n3 ≤ 1048576 := by omega
        have hrlAr0_0 := HRLAr0_0.out hbk
        have hrlAr0_1 := HRLAr0_1.out hbk
        refine (toSeal_c z1_0 z1_1 d1_0 A1_0 A1_1 c1_0 c1_1 n1_0 n1_1 l1_0 l1_1 _ _ _ _ _ (hrA1_0.below (by ((repeat (first | refine Below.alloc ?_ (by first | omega | (simp; done) | (simp; omega)) _ | refine Below.drew ?_)); exact HB3.out))) HNA1_0.out hmA1_0 (hrA1_1.below (by ((repeat (first | refine Below.alloc ?_ (by first | omega | (simp; done) | (simp; omega)) _ | refine Below.drew ?_)); exact HB3.out))) HNA1_1.out hmA1_1).mono ?_
        rintro e w4 ⟨TwA1_0, TwA1_1, mm4_1, rfl, le4_0, le4_1, ho0, ho1, hb4⟩
        have hz4 : w3.heap.size ≤ w4.heap.size := by have := hb4.size; first | omega | (simp at this; omega)
        have hzz4 : w.heap.size ≤ w4.heap.size := by omega
        have HB4 : Hid (Below w.heap.size w w4) := below_then (by ((repeat (first | refine Below.alloc ?_ (by first | omega | (simp; done) | (simp; omega)) _ | refine Below.drew ?_)); exact HB3.out)) hb4 (by first | omega | (simp; done) | (simp; omega))
        replace HXaS : Hid (Box w4 (w.heap.size) [.int .i64 z1_0, .slice A1_0 n1_0 c1_0, .int .i64 z1_1, .slice A1_1 n1_1 c1_1, .int .i64 d1_0.num, .int .i64 d1_0.size, .string d1_0.root, .int .i64 d1_0.taken, .string d1_0.troot]) := Box.below HXaS.out hb4
        clear hxaS hkaS
        have hxaS := HXaS.out.2
        have hkaS := HXaS.out.1
        obtain ⟨qTwA1_0, hqTwA1_0, hqqTwA1_0, HOTwA1_0⟩ : ∃ q, w3.heap.size ≤ q ∧ mm4_1 ≤ w4.heap.size ∧ Hid (Own w4 q mm4_1 TwA1_0 (strs l1_0)) := ⟨_, by first | omega | (simp at *; done) | (simp at *; omega), by first | omega | (simp at *; done) | (simp at *; omega), ho0⟩
        obtain ⟨qTwA1_1, hqTwA1_1, hqqTwA1_1, HOTwA1_1⟩ : ∃ q, mm4_1 ≤ q ∧ w4.heap.size ≤ w4.heap.size ∧ Hid (Own w4 q w4.heap.size TwA1_1 (strs l1_1)) := ⟨_, by first | omega | (simp at *; done) | (simp at *; omega), by first | omega | (simp at *; done) | (simp at *; omega), ho1⟩
        clear hb4 ho0 ho1
        go_wp2_with fail
        refine (toStringS_c' A2 _ _ _ n2 l2 _ (hrA2.below (by ((repeat (first | refine Below.alloc ?_ (by first | omega | (simp; done) | (simp; omega)) _ | refine Below.drew ?_)); exact HB4.out))) HNA2.out hmA2).mono ?_
        rintro e w5 ⟨TwA2, rfl, ho, hb5⟩
        have hz5 : w4.heap.size ≤ w5.heap.size := by have := hb5.size; first | omega | (simp at this; omega)
        have hzz5 : w.heap.size ≤ w5.heap.size := by omega
        have HB5 : Hid (Below w.heap.size w w5) := below_then (by ((repeat (first | refine Below.alloc ?_ (by first | omega | (simp; done) | (simp; omega)) _ | refine Below.drew ?_)); exact HB4.out)) hb5 (by first | omega | (simp; done) | (simp; omega))
        replace HXaS : Hid (Box w5 (w.heap.size) [.int .i64 z1_0, .slice A1_0 n1_0 c1_0, .int .i64 z1_1, .slice A1_1 n1_1 c1_1, .int .i64 d1_0.num, .int .i64 d1_0.size, .string d1_0.root, .int .i64 d1_0.taken, .string d1_0.troot]) := Box.below HXaS.out hb5
        clear hxaS hkaS
        have hxaS := HXaS.out.2
        have hkaS := HXaS.out.1
        replace HOTwA1_0 : Hid (Own w5 qTwA1_0 mm4_1 TwA1_0 (strs l1_0)) := HOTwA1_0.out.below hb5
        replace HOTwA1_1 : Hid (Own w5 qTwA1_1 w4.heap.size TwA1_1 (strs l1_1)) := HOTwA1_1.out.below hb5
        obtain ⟨qTwA2, hqTwA2, hqqTwA2, HOTwA2⟩ : ∃ q, w4.heap.size ≤ q ∧ w5.heap.size ≤ w5.heap.size ∧ Hid (Own w5 q w5.heap.size TwA2 (strs l2)) := ⟨_, by first | omega | (simp at *; done) | (simp at *; omega), by first | omega | (simp at *; done) | (simp at *; omega), ho⟩
        clear hb5 ho
        go_wp2_with fail
        refine (toStringS_c' A3 _ _ _ n3 l3 _ (hrA3.below (by ((repeat (first | refine Below.alloc ?_ (by first | omega | (simp; done) | (simp; omega)) _ | refine Below.drew ?_)); exact HB5.out))) HNA3.out hmA3).mono ?_
        rintro e w6 ⟨TwA3, rfl, ho, hb6⟩
        have hz6 : w5.heap.size ≤ w6.heap.size := by have := hb6.size; first | omega | (simp at this; omega)
        have hzz6 : w.heap.size ≤ w6.heap.size := by omega
        have HB6 : Hid (Below w.heap.size w w6) := below_then (by ((repeat (first | refine Below.alloc ?_ (by first | omega | (simp; done) | (simp; omega)) _ | refine Below.drew ?_)); exact HB5.out)) hb6 (by first | omega | (simp; done) | (simp; omega))
        replace HXaS : Hid (Box w6 (w.heap.size) [.int .i64 z1_0, .slice A1_0 n1_0 c1_0, .int .i64 z1_1, .slice A1_1 n1_1 c1_1, .int .i64 d1_0.num, .int .i64 d1_0.size, .string d1_0.root, .int .i64 d1_0.taken, .string d1_0.troot]) := Box.below HXaS.out hb6
        clear hxaS hkaS
        have hxaS := HXaS.out.2
        have hkaS := HXaS.out.1
        replace HOTwA1_0 : Hid (Own w6 qTwA1_0 mm4_1 TwA1_0 (strs l1_0)) := HOTwA1_0.out.below hb6
        replace HOTwA1_1 : Hid (Own w6 qTwA1_1 w4.heap.size TwA1_1 (strs l1_1)) := HOTwA1_1.out.below hb6
        replace HOTwA2 : Hid (Own w6 qTwA2 w5.heap.size TwA2 (strs l2)) := HOTwA2.out.below hb6
        obtain ⟨qTwA3, hqTwA3, hqqTwA3, HOTwA3⟩ : ∃ q, w5.heap.size ≤ q ∧ w6.heap.size ≤ w6.heap.size ∧ Hid (Own w6 q w6.heap.size TwA3 (strs l3)) := ⟨_, by first | omega | (simp at *; done) | (simp at *; omega), by first | omega | (simp at *; done) | (simp at *; omega), ho⟩
        clear hb6 ho
        go_wp2_with fail
        refine (HSP hbk _ _ _ _ _ _ _ _ _ _ _ _ _ _ _ _ _ (HOTwA1_0.out.rd) rfl (HOTwA1_1.out.rd) rfl (HOTwA2.out.rd) rfl (HOTwA3.out.rd) rfl).mono ?_
        rintro e w7 ⟨wAr0_0, wcr0_0, lowAr0_0, hiwAr0_0, wAr0_1, wcr0_1, lowAr0_1, hiwAr0_1, rfl, ⟨hawAr0_0, hcwAr0_0, ho0⟩, ⟨hawAr0_1, hcwAr0_1, ho1⟩, hdwAr0_0_wAr0_1, hb7⟩
        have hz7 : w6.heap.size ≤ w7.heap.size := by have := hb7.size; first | omega | (simp at this; omega)
        have hzz7 : w.heap.size ≤ w7.heap.size := by omega
        have HB7 : Hid (Below w.heap.size w w7) := below_then (by ((repeat (first | refine Below.alloc ?_ (by first | omega | (simp; done) | (simp; omega)) _ | refine Below.drew ?_)); exact HB6.out)) hb7 (by first | omega | (simp; done) | (simp; omega))
        replace HXaS : Hid (Box w7 (w.heap.size) [.int .i64 z1_0, .slice A1_0 n1_0 c1_0, .int .i64 z1_1, .slice A1_1 n1_1 c1_1, .int .i64 d1_0.num, .int .i64 d1_0.size, .string d1_0.root, .int .i64 d1_0.taken, .string d1_0.troot]) := Box.below HXaS.out hb7
        clear hxaS hkaS
        have hxaS := HXaS.out.2
        have hkaS := HXaS.out.1
        replace HOTwA1_0 : Hid (Own w7 qTwA1_0 mm4_1 TwA1_0 (strs l1_0)) := HOTwA1_0.out.below hb7
        replace HOTwA1_1 : Hid (Own w7 qTwA1_1 w4.heap.size TwA1_1 (strs l1_1)) := HOTwA1_1.out.below hb7
        replace HOTwA2 : Hid (Own w7 qTwA2 w5.heap.size TwA2 (strs l2)) := HOTwA2.out.below hb7
        replace HOTwA3 : Hid (Own w7 qTwA3 w6.heap.size TwA3 (strs l3)) := HOTwA3.out.below hb7
        have hqwAr0_0 : w6.heap.size ≤ lowAr0_0 := by first | omega | (simp at *; omega)
        have HOwAr0_0 := Lib.hid ho0
        have hqwAr0_1 : w6.heap.size ≤ lowAr0_1 := by first | omega | (simp at *; omega)
        have HOwAr0_1 := Lib.hid ho1
        clear hb7 ho0 ho1
        go_wp2_with fail
        refine (toSeal_c z1_0 z1_1 d1_0 A1_0 A1_1 c1_0 c1_1 n1_0 n1_1 l1_0 l1_1 _ _ _ _ _ (hrA1_0.below (by ((repeat (first | refine Below.alloc ?_ (by first | omega | (simp; done) | (simp; omega)) _ | refine Below.drew ?_)); exact HB7.out))) HNA1_0.out hmA1_0 (hrA1_1.below (by ((repeat (first | refine Below.alloc ?_ (by first | omega | (simp; done) | (simp; omega)) _ | refine Below.drew ?_)); exact HB7.out))) HNA1_1.out hmA1_1).mono ?_
        rintro e w8 ⟨Tx1A1_0, Tx1A1_1, mm8_1, rfl, le8_0, le8_1, ho0, ho1, hb8⟩
        have hz8 : w7.heap.size + 1 ≤ w8.heap.size := by have := hb8.size; first | omega | (simp at this; omega)
        have hzz8 : w.heap.size ≤ w8.heap.size := by omega
        have HB8 : Hid (Below w.heap.size w w8) := below_then (by ((repeat (first | refine Below.alloc ?_ (by first | omega | (simp; done) | (simp; omega)) _ | refine Below.drew ?_)); exact HB7.out)) hb8 (by first | omega | (simp; done) | (simp; omega))
        replace HXaS : Hid (Box w8 (w.heap.size) [.int .i64 z1_0, .slice A1_0 n1_0 c1_0, .int .i64 z1_1, .slice A1_1 n1_1 c1_1, .int .i64 d1_0.num, .int .i64 d1_0.size, .string d1_0.root, .int .i64 d1_0.taken, .string d1_0.troot]) := Box.below (HXaS.out.alloc _) hb8
        clear hxaS hkaS
        have hxaS := HXaS.out.2
        have hkaS := HXaS.out.1
        have HXw0 : Hid (Box w8 (w7.heap.size) [.int .i64 zr0_0, .slice wAr0_0 nr0_0 wcr0_0, .int .i64 zr0_1, .slice wAr0_1 nr0_1 wcr0_1, .int .i64 dr0_0.num, .int .i64 dr0_0.size, .string dr0_0.root, .int .i64 dr0_0.taken, .string dr0_0.troot]) := Box.below (Box.new0 _ _ _) hb8
        have hxw0 := HXw0.out.2
        have hkw0 := HXw0.out.1
        replace HOTwA1_0 : Hid (Own w8 qTwA1_0 mm4_1 TwA1_0 (strs l1_0)) := (HOTwA1_0.out.alloc _).below hb8
        replace HOTwA1_1 : Hid (Own w8 qTwA1_1 w4.heap.size TwA1_1 (strs l1_1)) := (HOTwA1_1.out.alloc _).below hb8
        replace HOTwA2 : Hid (Own w8 qTwA2 w5.heap.size TwA2 (strs l2)) := (HOTwA2.out.alloc _).below hb8
        replace HOTwA3 : Hid (Own w8 qTwA3 w6.heap.size TwA3 (strs l3)) := (HOTwA3.out.alloc _).below hb8
        replace HOwAr0_0 : Hid (Own w8 lowAr0_0 hiwAr0_0 wAr0_0 (strs lr0_0)) := (HOwAr0_0.out.alloc _).below hb8
        replace HOwAr0_1 : Hid (Own w8 lowAr0_1 hiwAr0_1 wAr0_1 (strs lr0_1)) := (HOwAr0_1.out.alloc _).below hb8
        have hpm8 : w7.heap.size + 1 ≤ mm8_1 := by first | omega | (simp at le8_0; omega)
        obtain ⟨qTx1A1_0, hqTx1A1_0, hqqTx1A1_0, HOTx1A1_0⟩ : ∃ q, w7.heap.size + 1 ≤ q ∧ mm8_1 ≤ w8.heap.size ∧ Hid (Own w8 q mm8_1 Tx1A1_0 (strs l1_0)) := ⟨_, by first | omega | (simp at *; done) | (simp at *; omega), by first | omega | (simp at *; done) | (simp at *; omega), ho0⟩
        obtain ⟨qTx1A1_1, hqTx1A1_1, hqqTx1A1_1, HOTx1A1_1⟩ : ∃ q, mm8_1 ≤ q ∧ w8.heap.size ≤ w8.heap.size ∧ Hid (Own w8 q w8.heap.size Tx1A1_1 (strs l1_1)) := ⟨_, by first | omega | (simp at *; done) | (simp at *; omega), by first | omega | (simp at *; done) | (simp at *; omega), ho1⟩
        clear hb8 ho0 ho1
        go_wp2_with fail
        refine (toStringS_c' A2 _ _ _ n2 l2 _ (hrA2.below (by ((repeat (first | refine Below.alloc ?_ (by first | omega | (simp; done) | (simp; omega)) _ | refine Below.drew ?_)); exact HB8.out))) HNA2.out hmA2).mono ?_
        rintro e w9 ⟨Tx2A2, rfl, ho, hb9⟩
        have hz9 : w8.heap.size + 1 ≤ w9.heap.size := by have := hb9.size; first | omega | (simp at this; omega)
        have hzz9 : w.heap.size ≤ w9.heap.size := by omega
        have HB9 : Hid (Below w.heap.size w w9) := below_then (by ((repeat (first | refine Below.alloc ?_ (by first | omega | (simp; done) | (simp; omega)) _ | refine Below.drew ?_)); exact HB8.out)) hb9 (by first | omega | (simp; done) | (simp; omega))
        replace HXaS : Hid (Box w9 (w.heap.size) [.int .i64 z1_0, .slice A1_0 n1_0 c1_0, .int .i64 z1_1, .slice A1_1 n1_1 c1_1, .int .i64 d1_0.num, .int .i64 d1_0.size, .string d1_0.root, .int .i64 d1_0.taken, .string d1_0.troot]) := Box.below (HXaS.out.alloc _) hb9
        clear hxaS hkaS
        have hxaS := HXaS.out.2
        have hkaS := HXaS.out.1
        replace HXw0 : Hid (Box w9 (w7.heap.size) [.int .i64 zr0_0, .slice wAr0_0 nr0_0 wcr0_0, .int .i64 zr0_1, .slice wAr0_1 nr0_1 wcr0_1, .int .i64 dr0_0.num, .int .i64 dr0_0.size, .string dr0_0.root, .int .i64 dr0_0.taken, .string dr0_0.troot]) := Box.below (HXw0.out.alloc _) hb9
        clear hxw0 hkw0
        have hxw0 := HXw0.out.2
        have hkw0 := HXw0.out.1
        have HXx1 : Hid (Box w9 (w8.heap.size) [.int .i64 z1_0, .slice Tx1A1_0 n1_0 n1_0, .int .i64 z1_1, .slice Tx1A1_1 n1_1 n1_1, .int .i64 d1_0.num, .int .i64 d1_0.size, .string d1_0.root, .int .i64 d1_0.taken, .string d1_0.troot]) := Box.below (Box.new0 _ _ _) hb9
        have hxx1 := HXx1.out.2
        have hkx1 := HXx1.out.1
        replace HOTwA1_0 : Hid (Own w9 qTwA1_0 mm4_1 TwA1_0 (strs l1_0)) := (HOTwA1_0.out.alloc _).below hb9
        replace HOTwA1_1 : Hid (Own w9 qTwA1_1 w4.heap.size TwA1_1 (strs l1_1)) := (HOTwA1_1.out.alloc _).below hb9
        replace HOTwA2 : Hid (Own w9 qTwA2 w5.heap.size TwA2 (strs l2)) := (HOTwA2.out.alloc _).below hb9
        replace HOTwA3 : Hid (Own w9 qTwA3 w6.heap.size TwA3 (strs l3)) := (HOTwA3.out.alloc _).below hb9
        replace HOwAr0_0 : Hid (Own w9 lowAr0_0 hiwAr0_0 wAr0_0 (strs lr0_0)) := (HOwAr0_0.out.alloc _).below hb9
        replace HOwAr0_1 : Hid (Own w9 lowAr0_1 hiwAr0_1 wAr0_1 (strs lr0_1)) := (HOwAr0_1.out.alloc _).below hb9
        replace HOTx1A1_0 : Hid (Own w9 qTx1A1_0 mm8_1 Tx1A1_0 (strs l1_0)) := (HOTx1A1_0.out.alloc _).below hb9
        replace HOTx1A1_1 : Hid (Own w9 qTx1A1_1 w8.heap.size Tx1A1_1 (strs l1_1)) := (HOTx1A1_1.out.alloc _).below hb9
        obtain ⟨qTx2A2, hqTx2A2, hqqTx2A2, HOTx2A2⟩ : ∃ q, w8.heap.size + 1 ≤ q ∧ w9.heap.size ≤ w9.heap.size ∧ Hid (Own w9 q w9.heap.size Tx2A2 (strs l2)) := ⟨_, by first | omega | (simp at *; done) | (simp at *; omega), by first | omega | (simp at *; done) | (simp at *; omega), ho⟩
        clear hb9 ho
        go_wp2_with fail
        refine (toStringS_c' A3 _ _ _ n3 l3 _ (hrA3.below (by ((repeat (first | refine Below.alloc ?_ (by first | omega | (simp; done) | (simp; omega)) _ | refine Below.drew ?_)); exact HB9.out))) HNA3.out hmA3).mono ?_
        rintro e w10 ⟨Tx3A3, rfl, ho, hb10⟩
        have hz10 : w9.heap.size ≤ w10.heap.size := by have := hb10.size; first | omega | (simp at this; omega)
        have hzz10 : w.heap.size ≤ w10.heap.size := by omega
        have HB10 : Hid (Below w.heap.size w w10) := below_then (by ((repeat (first | refine Below.alloc ?_ (by first | omega | (simp; done) | (simp; omega)) _ | refine Below.drew ?_)); exact HB9.out)) hb10 (by first | omega | (simp; done) | (simp; omega))
        replace HXaS : Hid (Box w10 (w.heap.size) [.int .i64 z1_0, .slice A1_0 n1_0 c1_0, .int .i64 z1_1, .slice A1_1 n1_1 c1_1, .int .i64 d1_0.num, .int .i64 d1_0.size, .string d1_0.root, .int .i64 d1_0.taken, .string d1_0.troot]) := Box.below HXaS.out hb10
        clear hxaS hkaS
        have hxaS := HXaS.out.2
        have hkaS := HXaS.out.1
        replace HXw0 : Hid (Box w10 (w7.heap.size) [.int .i64 zr0_0, .slice wAr0_0 nr0_0 wcr0_0, .int .i64 zr0_1, .slice wAr0_1 nr0_1 wcr0_1, .int .i64 dr0_0.num, .int .i64 dr0_0.size, .string dr0_0.root, .int .i64 dr0_0.taken, .string dr0_0.troot]) := Box.below HXw0.out hb10
        clear hxw0 hkw0
        have hxw0 := HXw0.out.2
        have hkw0 := HXw0.out.1
        replace HXx1 : Hid (Box w10 (w8.heap.size) [.int .i64 z1_0, .slice Tx1A1_0 n1_0 n1_0, .int .i64 z1_1, .slice Tx1A1_1 n1_1 n1_1, .int .i64 d1_0.num, .int .i64 d1_0.size, .string d1_0.root, .int .i64 d1_0.taken, .string d1_0.troot]) := Box.below HXx1.out hb10
        clear hxx1 hkx1
        have hxx1 := HXx1.out.2
        have hkx1 := HXx1.out.1
        replace HOTwA1_0 : Hid (Own w10 qTwA1_0 mm4_1 TwA1_0 (strs l1_0)) := HOTwA1_0.out.below hb10
        replace HOTwA1_1 : Hid (Own w10 qTwA1_1 w4.heap.size TwA1_1 (strs l1_1)) := HOTwA1_1.out.below hb10
        replace HOTwA2 : Hid (Own w10 qTwA2 w5.heap.size TwA2 (strs l2)) := HOTwA2.out.below hb10
        replace HOTwA3 : Hid (Own w10 qTwA3 w6.heap.size TwA3 (strs l3)) := HOTwA3.out.below hb10
        replace HOwAr0_0 : Hid (Own w10 lowAr0_0 hiwAr0_0 wAr0_0 (strs lr0_0)) := HOwAr0_0.out.below hb10
        replace HOwAr0_1 : Hid (Own w10 lowAr0_1 hiwAr0_1 wAr0_1 (strs lr0_1)) := HOwAr0_1.out.below hb10
        replace HOTx1A1_0 : Hid (Own w10 qTx1A1_0 mm8_1 Tx1A1_0 (strs l1_0)) := HOTx1A1_0.out.below hb10
        replace HOTx1A1_1 : Hid (Own w10 qTx1A1_1 w8.heap.size Tx1A1_1 (strs l1_1)) := HOTx1A1_1.out.below hb10
        replace HOTx2A2 : Hid (Own w10 qTx2A2 w9.heap.size Tx2A2 (strs l2)) := HOTx2A2.out.below hb10
        obtain ⟨qTx3A3, hqTx3A3, hqqTx3A3, HOTx3A3⟩ : ∃ q, w9.heap.size ≤ q ∧ w10.heap.size ≤ w10.heap.size ∧ Hid (Own w10 q w10.heap.size Tx3A3 (strs l3)) := ⟨_, by first | omega | (simp at *; done) | (simp at *; omega), by first | omega | (simp at *; done) | (simp at *; omega), ho⟩
        clear hb10 ho
        go_wp2_with fail
        refine (HIM hbk _ _ _ _ _ _ _ _ _ _ _ _ _ _ _ _ _ (HOTx1A1_0.out.rd) rfl (HOTx1A1_1.out.rd) rfl (HOTx2A2.out.rd) rfl (HOTx3A3.out.rd) rfl).mono ?_
        rintro e w11 ⟨gAr0_0, gcr0_0, logAr0_0, higAr0_0, gAr0_1, gcr0_1, logAr0_1, higAr0_1, rfl, ⟨hagAr0_0, hcgAr0_0, ho0⟩, ⟨hagAr0_1, hcgAr0_1, ho1⟩, hdgAr0_0_gAr0_1, hb11⟩
        have hz11 : w10.heap.size ≤ w11.heap.size := by have := hb11.size; first | omega | (simp at this; omega)
        have hzz11 : w.heap.size ≤ w11.heap.size := by omega
        have HB11 : Hid (Below w.heap.size w w11) := below_then (by ((repeat (first | refine Below.alloc ?_ (by first | omega | (simp; done) | (simp; omega)) _ | refine Below.drew ?_)); exact HB10.out)) hb11 (by first | omega | (simp; done) | (simp; omega))
        replace HXaS : Hid (Box w11 (w.heap.size) [.int .i64 z1_0, .slice A1_0 n1_0 c1_0, .int .i64 z1_1, .slice A1_1 n1_1 c1_1, .int .i64 d1_0.num, .int .i64 d1_0.size, .string d1_0.root, .int .i64 d1_0.taken, .string d1_0.troot]) := Box.below HXaS.out hb11
        clear hxaS hkaS
        have hxaS := HXaS.out.2
        have hkaS := HXaS.out.1
        replace HXw0 : Hid (Box w11 (w7.heap.size) [.int .i64 zr0_0, .slice wAr0_0 nr0_0 wcr0_0, .int .i64 zr0_1, .slice wAr0_1 nr0_1 wcr0_1, .int .i64 dr0_0.num, .int .i64 dr0_0.size, .string dr0_0.root, .int .i64 dr0_0.taken, .string dr0_0.troot]) := Box.below HXw0.out hb11
        clear hxw0 hkw0
        have hxw0 := HXw0.out.2
        have hkw0 := HXw0.out.1
        replace HXx1 : Hid (Box w11 (w8.heap.size) [.int .i64 z1_0, .slice Tx1A1_0 n1_0 n1_0, .int .i64 z1_1, .slice Tx1A1_1 n1_1 n1_1, .int .i64 d1_0.num, .int .i64 d1_0.size, .string d1_0.root, .int .i64 d1_0.taken, .string d1_0.troot]) := Box.below HXx1.out hb11
        clear hxx1 hkx1
        have hxx1 := HXx1.out.2
        have hkx1 := HXx1.out.1
        replace HOTwA1_0 : Hid (Own w11 qTwA1_0 mm4_1 TwA1_0 (strs l1_0)) := HOTwA1_0.out.below hb11
        replace HOTwA1_1 : Hid (Own w11 qTwA1_1 w4.heap.size TwA1_1 (strs l1_1)) := HOTwA1_1.out.below hb11
        replace HOTwA2 : Hid (Own w11 qTwA2 w5.heap.size TwA2 (strs l2)) := HOTwA2.out.below hb11
        replace HOTwA3 : Hid (Own w11 qTwA3 w6.heap.size TwA3 (strs l3)) := HOTwA3.out.below hb11
        replace HOwAr0_0 : Hid (Own w11 lowAr0_0 hiwAr0_0 wAr0_0 (strs lr0_0)) := HOwAr0_0.out.below hb11
        replace HOwAr0_1 : Hid (Own w11 lowAr0_1 hiwAr0_1 wAr0_1 (strs lr0_1)) := HOwAr0_1.out.below hb11
        replace HOTx1A1_0 : Hid (Own w11 qTx1A1_0 mm8_1 Tx1A1_0 (strs l1_0)) := HOTx1A1_0.out.below hb11
        replace HOTx1A1_1 : Hid (Own w11 qTx1A1_1 w8.heap.size Tx1A1_1 (strs l1_1)) := HOTx1A1_1.out.below hb11
        replace HOTx2A2 : Hid (Own w11 qTx2A2 w9.heap.size Tx2A2 (strs l2)) := HOTx2A2.out.below hb11
        replace HOTx3A3 : Hid (Own w11 qTx3A3 w10.heap.size Tx3A3 (strs l3)) := HOTx3A3.out.below hb11
        have hqgAr0_0 : w10.heap.size ≤ logAr0_0 := by first | omega | (simp at *; omega)
        have HOgAr0_0 := Lib.hid ho0
        have hqgAr0_1 : w10.heap.size ≤ logAr0_1 := by first | omega | (simp at *; omega)
        have HOgAr0_1 := Lib.hid ho1
        clear hb11 ho0 ho1
        go_wp2_with fail
        refine (eqSeal_c zr0_0 zr0_1 dr0_0 gAr0_0 gAr0_1 gcr0_0 gcr0_1 nr0_0 nr0_1 lr0_0 lr0_1 wAr0_0 wAr0_1 wcr0_0 wcr0_1 _ _ _ _ _ _ _ _  _ ((HOgAr0_0.out.rd).alloc _) ((HOwAr0_0.out.rd).alloc _) HRNAr0_0.out (by unfold maxLen; omega) ((HOgAr0_1.out.rd).alloc _) ((HOwAr0_1.out.rd).alloc _) HRNAr0_1.out (by unfold maxLen; omega)).mono ?_
        rintro e w12 ⟨rfl, hb12⟩
        have hz12 : w11.heap.size + 1 ≤ w12.heap.size := by have := hb12.size; first | omega | (simp at this; omega)
        have hzz12 : w.heap.size ≤ w12.heap.size := by omega
        have HB12 : Hid (Below w.heap.size w w12) := below_then (by ((repeat (first | refine Below.alloc ?_ (by first | omega | (simp; done) | (simp; omega)) _ | refine Below.drew ?_)); exact HB11.out)) hb12 (by first | omega | (simp; done) | (simp; omega))
        replace HXaS : Hid (Box w12 (w.heap.size) [.int .i64 z1_0, .slice A1_0 n1_0 c1_0, .int .i64 z1_1, .slice A1_1 n1_1 c1_1, .int .i64 d1_0.num, .int .i64 d1_0.size, .string d1_0.root, .int .i64 d1_0.taken, .string d1_0.troot]) := Box.below (HXaS.out.alloc _) hb12
        clear hxaS hkaS
        have hxaS := HXaS.out.2
        have hkaS := HXaS.out.1
        replace HXw0 : Hid (Box w12 (w7.heap.size) [.int .i64 zr0_0, .slice wAr0_0 nr0_0 wcr0_0, .int .i64 zr0_1, .slice wAr0_1 nr0_1 wcr0_1, .int .i64 dr0_0.num, .int .i64 dr0_0.size, .string dr0_0.root, .int .i64 dr0_0.taken, .string dr0_0.troot]) := Box.below (HXw0.out.alloc _) hb12
        clear hxw0 hkw0
        have hxw0 := HXw0.out.2
        have hkw0 := HXw0.out.1
        replace HXx1 : Hid (Box w12 (w8.heap.size) [.int .i64 z1_0, .slice Tx1A1_0 n1_0 n1_0, .int .i64 z1_1, .slice Tx1A1_1 n1_1 n1_1, .int .i64 d1_0.num, .int .i64 d1_0.size, .string d1_0.root, .int .i64 d1_0.taken, .string d1_0.troot]) := Box.below (HXx1.out.alloc _) hb12
        clear hxx1 hkx1
        have hxx1 := HXx1.out.2
        have hkx1 := HXx1.out.1
        have HXg0 : Hid (Box w12 (w11.heap.size) [.int .i64 zr0_0, .slice gAr0_0 nr0_0 gcr0_0, .int .i64 zr0_1, .slice gAr0_1 nr0_1 gcr0_1, .int .i64 dr0_0.num, .int .i64 dr0_0.size, .string dr0_0.root, .int .i64 dr0_0.taken, .string dr0_0.troot]) := Box.below (Box.new0 _ _ _) hb12
        have hxg0 := HXg0.out.2
        have hkg0 := HXg0.out.1
        replace HOTwA1_0 : Hid (Own w12 qTwA1_0 mm4_1 TwA1_0 (strs l1_0)) := (HOTwA1_0.out.alloc _).below hb12
        replace HOTwA1_1 : Hid (Own w12 qTwA1_1 w4.heap.size TwA1_1 (strs l1_1)) := (HOTwA1_1.out.alloc _).below hb12
        replace HOTwA2 : Hid (Own w12 qTwA2 w5.heap.size TwA2 (strs l2)) := (HOTwA2.out.alloc _).below hb12
        replace HOTwA3 : Hid (Own w12 qTwA3 w6.heap.size TwA3 (strs l3)) := (HOTwA3.out.alloc _).below hb12
        replace HOwAr0_0 : Hid (Own w12 lowAr0_0 hiwAr0_0 wAr0_0 (strs lr0_0)) := (HOwAr0_0.out.alloc _).below hb12
        replace HOwAr0_1 : Hid (Own w12 lowAr0_1 hiwAr0_1 wAr0_1 (strs lr0_1)) := (HOwAr0_1.out.alloc _).below hb12
        replace HOTx1A1_0 : Hid (Own w12 qTx1A1_0 mm8_1 Tx1A1_0 (strs l1_0)) := (HOTx1A1_0.out.alloc _).below hb12
        replace HOTx1A1_1 : Hid (Own w12 qTx1A1_1 w8.heap.size Tx1A1_1 (strs l1_1)) := (HOTx1A1_1.out.alloc _).below hb12
        replace HOTx2A2 : Hid (Own w12 qTx2A2 w9.heap.size Tx2A2 (strs l2)) := (HOTx2A2.out.alloc _).below hb12
        replace HOTx3A3 : Hid (Own w12 qTx3A3 w10.heap.size Tx3A3 (strs l3)) := (HOTx3A3.out.alloc _).below hb12
        replace HOgAr0_0 : Hid (Own w12 logAr0_0 higAr0_0 gAr0_0 (strs lr0_0)) := (HOgAr0_0.out.alloc _).below hb12
        replace HOgAr0_1 : Hid (Own w12 logAr0_1 higAr0_1 gAr0_1 (strs lr0_1)) := (HOgAr0_1.out.alloc _).below hb12
        clear hb12
        go_wp2_with fail
        go_region_held3 (fun w' => (∀ o, w'.cell? ⟨w8.heap.size, o, none⟩ = [.int .i64 z1_0, .slice Tx1A1_0 n1_0 n1_0, .int .i64 z1_1, .slice Tx1A1_1 n1_1 n1_1, .int .i64 d1_0.num, .int .i64 d1_0.size, .string d1_0.root, .int .i64 d1_0.taken, .string d1_0.troot][o]?) ∧ (∀ o, w'.cell? ⟨w.heap.size, o, none⟩ = [.int .i64 z1_0, .slice A1_0 n1_0 c1_0, .int .i64 z1_1, .slice A1_1 n1_1 c1_1, .int .i64 d1_0.num, .int .i64 d1_0.size, .string d1_0.root, .int .i64 d1_0.taken, .string d1_0.troot][o]?))
          (first | exact ⟨HXx1.out.2, HXaS.out.2⟩ | exact ⟨HPx1.out.2, HPaS.out.2⟩ | exact ⟨HQx1.out.2, HQaS.out.2⟩)
          (first
          | (go_at_call 83
             with_reducible refine (toSeal_c z1_0 z1_1 d1_0 A1_0 A1_1 c1_0 c1_1 n1_0 n1_1 l1_0 l1_1 _ _ _ _ _ (hrA1_0.below (by ((repeat (first | refine Below.alloc ?_ (by first | omega | (simp; done) | (simp; omega)) _ | refine Below.drew ?_)); exact HB12.out))) HNA1_0.out hmA1_0 (hrA1_1.below (by ((repeat (first | refine Below.alloc ?_ (by first | omega | (simp; done) | (simp; omega)) _ | refine Below.drew ?_)); exact HB12.out))) HNA1_1.out hmA1_1).mono ?_
             rintro e w13 ⟨T13A1_0, T13A1_1, mm13_1, rfl, le13_0, le13_1, hod0, hod1, hb13⟩
             have HPx1 : Hid (Box w13 (w8.heap.size) [.int .i64 z1_0, .slice Tx1A1_0 n1_0 n1_0, .int .i64 z1_1, .slice Tx1A1_1 n1_1 n1_1, .int .i64 d1_0.num, .int .i64 d1_0.size, .string d1_0.root, .int .i64 d1_0.taken, .string d1_0.troot]) := Box.below (HXx1.out.drew) hb13
             have HPaS : Hid (Box w13 (w.heap.size) [.int .i64 z1_0, .slice A1_0 n1_0 c1_0, .int .i64 z1_1, .slice A1_1 n1_1 c1_1, .int .i64 d1_0.num, .int .i64 d1_0.size, .string d1_0.root, .int .i64 d1_0.taken, .string d1_0.troot]) := Box.below (HXaS.out.drew) hb13
             have HPOTwA1_0 : Hid (Own w13 qTwA1_0 mm4_1 TwA1_0 (strs l1_0)) := (HOTwA1_0.out.drew).below hb13
             have HPOTwA1_1 : Hid (Own w13 qTwA1_1 w4.heap.size TwA1_1 (strs l1_1)) := (HOTwA1_1.out.drew).below hb13
             have HPOTwA2 : Hid (Own w13 qTwA2 w5.heap.size TwA2 (strs l2)) := (HOTwA2.out.drew).below hb13
             have HPOTwA3 : Hid (Own w13 qTwA3 w6.heap.size TwA3 (strs l3)) := (HOTwA3.out.drew).below hb13
             have HPOwAr0_0 : Hid (Own w13 lowAr0_0 hiwAr0_0 wAr0_0 (strs lr0_0)) := (HOwAr0_0.out.drew).below hb13
             have HPOwAr0_1 : Hid (Own w13 lowAr0_1 hiwAr0_1 wAr0_1 (strs lr0_1)) := (HOwAr0_1.out.drew).below hb13
             have HPOTx1A1_0 : Hid (Own w13 qTx1A1_0 mm8_1 Tx1A1_0 (strs l1_0)) := (HOTx1A1_0.out.drew).below hb13
             have HPOTx1A1_1 : Hid (Own w13 qTx1A1_1 w8.heap.size Tx1A1_1 (strs l1_1)) := (HOTx1A1_1.out.drew).below hb13
             have HPOTx2A2 : Hid (Own w13 qTx2A2 w9.heap.size Tx2A2 (strs l2)) := (HOTx2A2.out.drew).below hb13
             have HPOTx3A3 : Hid (Own w13 qTx3A3 w10.heap.size Tx3A3 (strs l3)) := (HOTx3A3.out.drew).below hb13
             have HPOgAr0_0 : Hid (Own w13 logAr0_0 higAr0_0 gAr0_0 (strs lr0_0)) := (HOgAr0_0.out.drew).below hb13
             have HPOgAr0_1 : Hid (Own w13 logAr0_1 higAr0_1 gAr0_1 (strs lr0_1)) := (HOgAr0_1.out.drew).below hb13
             have hz13 : w12.heap.size ≤ w13.heap.size := hb13.size
             have HB13 : Hid (Below w.heap.size w w13) := below_then HB12.out.drew hb13 (by first | omega | (simp; omega))
             have HBB13 := Lib.hid hb13
             clear hb13)
          | (go_at_call 55
             with_reducible refine (eqSeal_c z1_0 z1_1 d1_0 Tx1A1_0 Tx1A1_1 n1_0 n1_1 n1_0 n1_1 l1_0 l1_1 T13A1_0 T13A1_1 n1_0 n1_1 _ _ _ _ _ _ _ _  _ (HPOTx1A1_0.out.rd) hod0.rd HNA1_0.out (by unfold maxLen; omega) (HPOTx1A1_1.out.rd) hod1.rd HNA1_1.out (by unfold maxLen; omega)).mono ?_
             rintro e w14 ⟨rfl, hb14⟩
             have HQx1 : Hid (Box w14 (w8.heap.size) [.int .i64 z1_0, .slice Tx1A1_0 n1_0 n1_0, .int .i64 z1_1, .slice Tx1A1_1 n1_1 n1_1, .int .i64 d1_0.num, .int .i64 d1_0.size, .string d1_0.root, .int .i64 d1_0.taken, .string d1_0.troot]) := Box.below HPx1.out hb14
             have HQaS : Hid (Box w14 (w.heap.size) [.int .i64 z1_0, .slice A1_0 n1_0 c1_0, .int .i64 z1_1, .slice A1_1 n1_1 c1_1, .int .i64 d1_0.num, .int .i64 d1_0.size, .string d1_0.root, .int .i64 d1_0.taken, .string d1_0.troot]) := Box.below HPaS.out hb14
             have HQOTwA1_0 : Hid (Own w14 qTwA1_0 mm4_1 TwA1_0 (strs l1_0)) := HPOTwA1_0.out.below hb14
             have HQOTwA1_1 : Hid (Own w14 qTwA1_1 w4.heap.size TwA1_1 (strs l1_1)) := HPOTwA1_1.out.below hb14
             have HQOTwA2 : Hid (Own w14 qTwA2 w5.heap.size TwA2 (strs l2)) := HPOTwA2.out.below hb14
             have HQOTwA3 : Hid (Own w14 qTwA3 w6.heap.size TwA3 (strs l3)) := HPOTwA3.out.below hb14
             have HQOwAr0_0 : Hid (Own w14 lowAr0_0 hiwAr0_0 wAr0_0 (strs lr0_0)) := HPOwAr0_0.out.below hb14
             have HQOwAr0_1 : Hid (Own w14 lowAr0_1 hiwAr0_1 wAr0_1 (strs lr0_1)) := HPOwAr0_1.out.below hb14
             have HQOTx1A1_0 : Hid (Own w14 qTx1A1_0 mm8_1 Tx1A1_0 (strs l1_0)) := HPOTx1A1_0.out.below hb14
             have HQOTx1A1_1 : Hid (Own w14 qTx1A1_1 w8.heap.size Tx1A1_1 (strs l1_1)) := HPOTx1A1_1.out.below hb14
             have HQOTx2A2 : Hid (Own w14 qTx2A2 w9.heap.size Tx2A2 (strs l2)) := HPOTx2A2.out.below hb14
             have HQOTx3A3 : Hid (Own w14 qTx3A3 w10.heap.size Tx3A3 (strs l3)) := HPOTx3A3.out.below hb14
             have HQOgAr0_0 : Hid (Own w14 logAr0_0 higAr0_0 gAr0_0 (strs lr0_0)) := HPOgAr0_0.out.below hb14
             have HQOgAr0_1 : Hid (Own w14 logAr0_1 higAr0_1 gAr0_1 (strs lr0_1)) := HPOgAr0_1.out.below hb14
             have HQw0 : Hid (Box w14 (w7.heap.size) [.int .i64 zr0_0, .slice wAr0_0 nr0_0 wcr0_0, .int .i64 zr0_1, .slice wAr0_1 nr0_1 wcr0_1, .int .i64 dr0_0.num, .int .i64 dr0_0.size, .string dr0_0.root, .int .i64 dr0_0.taken, .string dr0_0.troot]) := Box.below (Box.below2 HXw0.out.drew HBB13.out) hb14
             have HQg0 : Hid (Box w14 (w11.heap.size) [.int .i64 zr0_0, .slice gAr0_0 nr0_0 gcr0_0, .int .i64 zr0_1, .slice gAr0_1 nr0_1 gcr0_1, .int .i64 dr0_0.num, .int .i64 dr0_0.size, .string dr0_0.root, .int .i64 dr0_0.taken, .string dr0_0.troot]) := Box.below (Box.below2 HXg0.out.drew HBB13.out) hb14
             have hz14 : w13.heap.size ≤ w14.heap.size := hb14.size
             have HB14 : Hid (Below w.heap.size w w14) := below_then HB13.out hb14 (by first | omega | exact HB13.out.size)
             clear hb14))
        have hzz14 : w.heap.size ≤ w14.heap.size := by omega
        replace HOTwA1_0 := HQOTwA1_0
        clear HQOTwA1_0 HPOTwA1_0
        replace HOTwA1_1 := HQOTwA1_1
        clear HQOTwA1_1 HPOTwA1_1
        replace HOTwA2 := HQOTwA2
        clear HQOTwA2 HPOTwA2
        replace HOTwA3 := HQOTwA3
        clear HQOTwA3 HPOTwA3
        replace HOwAr0_0 := HQOwAr0_0
        clear HQOwAr0_0 HPOwAr0_0
        replace HOwAr0_1 := HQOwAr0_1
        clear HQOwAr0_1 HPOwAr0_1
        replace HOTx1A1_0 := HQOTx1A1_0
        clear HQOTx1A1_0 HPOTx1A1_0
        replace HOTx1A1_1 := HQOTx1A1_1
        clear HQOTx1A1_1 HPOTx1A1_1
        replace HOTx2A2 := HQOTx2A2
        clear HQOTx2A2 HPOTx2A2
        replace HOTx3A3 := HQOTx3A3
        clear HQOTx3A3 HPOTx3A3
        replace HOgAr0_0 := HQOgAr0_0
        clear HQOgAr0_0 HPOgAr0_0
        replace HOgAr0_1 := HQOgAr0_1
        clear HQOgAr0_1 HPOgAr0_1
        replace HXaS := HQaS
        clear HQaS HPaS hxaS hkaS
        have hxaS := HXaS.out.2
        have hkaS := HXaS.out.1
        replace HXw0 := HQw0
        clear HQw0 hxw0 hkw0
        have hxw0 := HXw0.out.2
        have hkw0 := HXw0.out.1
        replace HXx1 := HQx1
        clear HQx1 HPx1 hxx1 hkx1
        have hxx1 := HXx1.out.2
        have hkx1 := HXx1.out.1
        replace HXg0 := HQg0
        clear HQg0 hxg0 hkg0
        have hxg0 := HXg0.out.2
        have hkg0 := HXg0.out.1
        go_wp2_with fail
        refine (toStringS_c' A2 _ _ _ n2 l2 _ (hrA2.below (by ((repeat (first | refine Below.alloc ?_ (by first | omega | (simp; done) | (simp; omega)) _ | refine Below.drew ?_)); exact HB14.out))) HNA2.out hmA2).mono ?_
        rintro e w15 ⟨TE14A2, rfl, ho, hb15⟩
        have hz15 : w14.heap.size ≤ w15.heap.size := by have := hb15.size; first | omega | (simp at this; omega)
        have hzz15 : w.heap.size ≤ w15.heap.size := by omega
        have HB15 : Hid (Below w.heap.size w w15) := below_then (by ((repeat (first | refine Below.alloc ?_ (by first | omega | (simp; done) | (simp; omega)) _ | refine Below.drew ?_)); exact HB14.out)) hb15 (by first | omega | (simp; done) | (simp; omega))
        replace HXaS : Hid (Box w15 (w.heap.size) [.int .i64 z1_0, .slice A1_0 n1_0 c1_0, .int .i64 z1_1, .slice A1_1 n1_1 c1_1, .int .i64 d1_0.num, .int .i64 d1_0.size, .string d1_0.root, .int .i64 d1_0.taken, .string d1_0.troot]) := Box.below HXaS.out hb15
        clear hxaS hkaS
        have hxaS := HXaS.out.2
        have hkaS := HXaS.out.1
        replace HXw0 : Hid (Box w15 (w7.heap.size) [.int .i64 zr0_0, .slice wAr0_0 nr0_0 wcr0_0, .int .i64 zr0_1, .slice wAr0_1 nr0_1 wcr0_1, .int .i64 dr0_0.num, .int .i64 dr0_0.size, .string dr0_0.root, .int .i64 dr0_0.taken, .string dr0_0.troot]) := Box.below HXw0.out hb15
        clear hxw0 hkw0
        have hxw0 := HXw0.out.2
        have hkw0 := HXw0.out.1
        replace HXx1 : Hid (Box w15 (w8.heap.size) [.int .i64 z1_0, .slice Tx1A1_0 n1_0 n1_0, .int .i64 z1_1, .slice Tx1A1_1 n1_1 n1_1, .int .i64 d1_0.num, .int .i64 d1_0.size, .string d1_0.root, .int .i64 d1_0.taken, .string d1_0.troot]) := Box.below HXx1.out hb15
        clear hxx1 hkx1
        have hxx1 := HXx1.out.2
        have hkx1 := HXx1.out.1
        replace HXg0 : Hid (Box w15 (w11.heap.size) [.int .i64 zr0_0, .slice gAr0_0 nr0_0 gcr0_0, .int .i64 zr0_1, .slice gAr0_1 nr0_1 gcr0_1, .int .i64 dr0_0.num, .int .i64 dr0_0.size, .string dr0_0.root, .int .i64 dr0_0.taken, .string dr0_0.troot]) := Box.below HXg0.out hb15
        clear hxg0 hkg0
        have hxg0 := HXg0.out.2
        have hkg0 := HXg0.out.1
        replace HOTwA1_0 : Hid (Own w15 qTwA1_0 mm4_1 TwA1_0 (strs l1_0)) := HOTwA1_0.out.below hb15
        replace HOTwA1_1 : Hid (Own w15 qTwA1_1 w4.heap.size TwA1_1 (strs l1_1)) := HOTwA1_1.out.below hb15
        replace HOTwA2 : Hid (Own w15 qTwA2 w5.heap.size TwA2 (strs l2)) := HOTwA2.out.below hb15
        replace HOTwA3 : Hid (Own w15 qTwA3 w6.heap.size TwA3 (strs l3)) := HOTwA3.out.below hb15
        replace HOwAr0_0 : Hid (Own w15 lowAr0_0 hiwAr0_0 wAr0_0 (strs lr0_0)) := HOwAr0_0.out.below hb15
        replace HOwAr0_1 : Hid (Own w15 lowAr0_1 hiwAr0_1 wAr0_1 (strs lr0_1)) := HOwAr0_1.out.below hb15
        replace HOTx1A1_0 : Hid (Own w15 qTx1A1_0 mm8_1 Tx1A1_0 (strs l1_0)) := HOTx1A1_0.out.below hb15
        replace HOTx1A1_1 : Hid (Own w15 qTx1A1_1 w8.heap.size Tx1A1_1 (strs l1_1)) := HOTx1A1_1.out.below hb15
        replace HOTx2A2 : Hid (Own w15 qTx2A2 w9.heap.size Tx2A2 (strs l2)) := HOTx2A2.out.below hb15
        replace HOTx3A3 : Hid (Own w15 qTx3A3 w10.heap.size Tx3A3 (strs l3)) := HOTx3A3.out.below hb15
        replace HOgAr0_0 : Hid (Own w15 logAr0_0 higAr0_0 gAr0_0 (strs lr0_0)) := HOgAr0_0.out.below hb15
        replace HOgAr0_1 : Hid (Own w15 logAr0_1 higAr0_1 gAr0_1 (strs lr0_1)) := HOgAr0_1.out.below hb15
        obtain ⟨qTE14A2, hqTE14A2, hqqTE14A2, HOTE14A2⟩ : ∃ q, w14.heap.size ≤ q ∧ w15.heap.size ≤ w15.heap.size ∧ Hid (Own w15 q w15.heap.size TE14A2 (strs l2)) := ⟨_, by first | omega | (simp at *; done) | (simp at *; omega), by first | omega | (simp at *; done) | (simp at *; omega), ho⟩
        clear hb15 ho
        go_wp2_with fail
        refine (eqStringS_c' Tx2A2 TE14A2 _ _ _ _ _ _ n2 n2 l2 _ (HOTx2A2.out.rd) (HOTE14A2.out.rd) HNA2.out HNA2.out (by unfold maxLen; omega)).mono ?_
        rintro e w16 ⟨rfl, hb16⟩
        have hz16 : w15.heap.size ≤ w16.heap.size := by have := hb16.size; first | omega | (simp at this; omega)
        have hzz16 : w.heap.size ≤ w16.heap.size := by omega
        have HB16 : Hid (Below w.heap.size w w16) := below_then (by ((repeat (first | refine Below.alloc ?_ (by first | omega | (simp; done) | (simp; omega)) _ | refine Below.drew ?_)); exact HB15.out)) hb16 (by first | omega | (simp; done) | (simp; omega))
        replace HXaS : Hid (Box w16 (w.heap.size) [.int .i64 z1_0, .slice A1_0 n1_0 c1_0, .int .i64 z1_1, .slice A1_1 n1_1 c1_1, .int .i64 d1_0.num, .int .i64 d1_0.size, .string d1_0.root, .int .i64 d1_0.taken, .string d1_0.troot]) := Box.below HXaS.out hb16
        clear hxaS hkaS
        have hxaS := HXaS.out.2
        have hkaS := HXaS.out.1
        replace HXw0 : Hid (Box w16 (w7.heap.size) [.int .i64 zr0_0, .slice wAr0_0 nr0_0 wcr0_0, .int .i64 zr0_1, .slice wAr0_1 nr0_1 wcr0_1, .int .i64 dr0_0.num, .int .i64 dr0_0.size, .string dr0_0.root, .int .i64 dr0_0.taken, .string dr0_0.troot]) := Box.below HXw0.out hb16
        clear hxw0 hkw0
        have hxw0 := HXw0.out.2
        have hkw0 := HXw0.out.1
        replace HXx1 : Hid (Box w16 (w8.heap.size) [.int .i64 z1_0, .slice Tx1A1_0 n1_0 n1_0, .int .i64 z1_1, .slice Tx1A1_1 n1_1 n1_1, .int .i64 d1_0.num, .int .i64 d1_0.size, .string d1_0.root, .int .i64 d1_0.taken, .string d1_0.troot]) := Box.below HXx1.out hb16
        clear hxx1 hkx1
        have hxx1 := HXx1.out.2
        have hkx1 := HXx1.out.1
        replace HXg0 : Hid (Box w16 (w11.heap.size) [.int .i64 zr0_0, .slice gAr0_0 nr0_0 gcr0_0, .int .i64 zr0_1, .slice gAr0_1 nr0_1 gcr0_1, .int .i64 dr0_0.num, .int .i64 dr0_0.size, .string dr0_0.root, .int .i64 dr0_0.taken, .string dr0_0.troot]) := Box.below HXg0.out hb16
        clear hxg0 hkg0
        have hxg0 := HXg0.out.2
        have hkg0 := HXg0.out.1
        replace HOTwA1_0 : Hid (Own w16 qTwA1_0 mm4_1 TwA1_0 (strs l1_0)) := HOTwA1_0.out.below hb16
        replace HOTwA1_1 : Hid (Own w16 qTwA1_1 w4.heap.size TwA1_1 (strs l1_1)) := HOTwA1_1.out.below hb16
        replace HOTwA2 : Hid (Own w16 qTwA2 w5.heap.size TwA2 (strs l2)) := HOTwA2.out.below hb16
        replace HOTwA3 : Hid (Own w16 qTwA3 w6.heap.size TwA3 (strs l3)) := HOTwA3.out.below hb16
        replace HOwAr0_0 : Hid (Own w16 lowAr0_0 hiwAr0_0 wAr0_0 (strs lr0_0)) := HOwAr0_0.out.below hb16
        replace HOwAr0_1 : Hid (Own w16 lowAr0_1 hiwAr0_1 wAr0_1 (strs lr0_1)) := HOwAr0_1.out.below hb16
        replace HOTx1A1_0 : Hid (Own w16 qTx1A1_0 mm8_1 Tx1A1_0 (strs l1_0)) := HOTx1A1_0.out.below hb16
        replace HOTx1A1_1 : Hid (Own w16 qTx1A1_1 w8.heap.size Tx1A1_1 (strs l1_1)) := HOTx1A1_1.out.below hb16
        replace HOTx2A2 : Hid (Own w16 qTx2A2 w9.heap.size Tx2A2 (strs l2)) := HOTx2A2.out.below hb16
        replace HOTx3A3 : Hid (Own w16 qTx3A3 w10.heap.size Tx3A3 (strs l3)) := HOTx3A3.out.below hb16
        replace HOgAr0_0 : Hid (Own w16 logAr0_0 higAr0_0 gAr0_0 (strs lr0_0)) := HOgAr0_0.out.below hb16
        replace HOgAr0_1 : Hid (Own w16 logAr0_1 higAr0_1 gAr0_1 (strs lr0_1)) := HOgAr0_1.out.below hb16
        replace HOTE14A2 : Hid (Own w16 qTE14A2 w15.heap.size TE14A2 (strs l2)) := HOTE14A2.out.below hb16
        clear hb16
        clear HOTE14A2
        go_wp2_with fail
        refine (toStringS_c' A3 _ _ _ n3 l3 _ (hrA3.below (by ((repeat (first | refine Below.alloc ?_ (by first | omega | (simp; done) | (simp; omega)) _ | refine Below.drew ?_)); exact HB16.out))) HNA3.out hmA3).mono ?_
        rintro e w17 ⟨TE16A3, rfl, ho, hb17⟩
        have hz17 : w16.heap.size ≤ w17.heap.size := by have := hb17.size; first | omega | (simp at this; omega)
        have hzz17 : w.heap.size ≤ w17.heap.size := by omega
        have HB17 : Hid (Below w.heap.size w w17) := below_then (by ((repeat (first | refine Below.alloc ?_ (by first | omega | (simp; done) | (simp; omega)) _ | refine Below.drew ?_)); exact HB16.out)) hb17 (by first | omega | (simp; done) | (simp; omega))
        replace HXaS : Hid (Box w17 (w.heap.size) [.int .i64 z1_0, .slice A1_0 n1_0 c1_0, .int .i64 z1_1, .slice A1_1 n1_1 c1_1, .int .i64 d1_0.num, .int .i64 d1_0.size, .string d1_0.root, .int .i64 d1_0.taken, .string d1_0.troot]) := Box.below HXaS.out hb17
        clear hxaS hkaS
        have hxaS := HXaS.out.2
        have hkaS := HXaS.out.1
        replace HXw0 : Hid (Box w17 (w7.heap.size) [.int .i64 zr0_0, .slice wAr0_0 nr0_0 wcr0_0, .int .i64 zr0_1, .slice wAr0_1 nr0_1 wcr0_1, .int .i64 dr0_0.num, .int .i64 dr0_0.size, .string dr0_0.root, .int .i64 dr0_0.taken, .string dr0_0.troot]) := Box.below HXw0.out hb17
        clear hxw0 hkw0
        have hxw0 := HXw0.out.2
        have hkw0 := HXw0.out.1
        replace HXx1 : Hid (Box w17 (w8.heap.size) [.int .i64 z1_0, .slice Tx1A1_0 n1_0 n1_0, .int .i64 z1_1, .slice Tx1A1_1 n1_1 n1_1, .int .i64 d1_0.num, .int .i64 d1_0.size, .string d1_0.root, .int .i64 d1_0.taken, .string d1_0.troot]) := Box.below HXx1.out hb17
        clear hxx1 hkx1
        have hxx1 := HXx1.out.2
        have hkx1 := HXx1.out.1
        replace HXg0 : Hid (Box w17 (w11.heap.size) [.int .i64 zr0_0, .slice gAr0_0 nr0_0 gcr0_0, .int .i64 zr0_1, .slice gAr0_1 nr0_1 gcr0_1, .int .i64 dr0_0.num, .int .i64 dr0_0.size, .string dr0_0.root, .int .i64 dr0_0.taken, .string dr0_0.troot]) := Box.below HXg0.out hb17
        clear hxg0 hkg0
        have hxg0 := HXg0.out.2
        have hkg0 := HXg0.out.1
        replace HOTwA1_0 : Hid (Own w17 qTwA1_0 mm4_1 TwA1_0 (strs l1_0)) := HOTwA1_0.out.below hb17
        replace HOTwA1_1 : Hid (Own w17 qTwA1_1 w4.heap.size TwA1_1 (strs l1_1)) := HOTwA1_1.out.below hb17
        replace HOTwA2 : Hid (Own w17 qTwA2 w5.heap.size TwA2 (strs l2)) := HOTwA2.out.below hb17
        replace HOTwA3 : Hid (Own w17 qTwA3 w6.heap.size TwA3 (strs l3)) := HOTwA3.out.below hb17
        replace HOwAr0_0 : Hid (Own w17 lowAr0_0 hiwAr0_0 wAr0_0 (strs lr0_0)) := HOwAr0_0.out.below hb17
        replace HOwAr0_1 : Hid (Own w17 lowAr0_1 hiwAr0_1 wAr0_1 (strs lr0_1)) := HOwAr0_1.out.below hb17
        replace HOTx1A1_0 : Hid (Own w17 qTx1A1_0 mm8_1 Tx1A1_0 (strs l1_0)) := HOTx1A1_0.out.below hb17
        replace HOTx1A1_1 : Hid (Own w17 qTx1A1_1 w8.heap.size Tx1A1_1 (strs l1_1)) := HOTx1A1_1.out.below hb17
        replace HOTx2A2 : Hid (Own w17 qTx2A2 w9.heap.size Tx2A2 (strs l2)) := HOTx2A2.out.below hb17
        replace HOTx3A3 : Hid (Own w17 qTx3A3 w10.heap.size Tx3A3 (strs l3)) := HOTx3A3.out.below hb17
        replace HOgAr0_0 : Hid (Own w17 logAr0_0 higAr0_0 gAr0_0 (strs lr0_0)) := HOgAr0_0.out.below hb17
        replace HOgAr0_1 : Hid (Own w17 logAr0_1 higAr0_1 gAr0_1 (strs lr0_1)) := HOgAr0_1.out.below hb17
        obtain ⟨qTE16A3, hqTE16A3, hqqTE16A3, HOTE16A3⟩ : ∃ q, w16.heap.size ≤ q ∧ w17.heap.size ≤ w17.heap.size ∧ Hid (Own w17 q w17.heap.size TE16A3 (strs l3)) := ⟨_, by first | omega | (simp at *; done) | (simp at *; omega), by first | omega | (simp at *; done) | (simp at *; omega), ho⟩
        clear hb17 ho
        go_wp2_with fail
        refine (eqStringS_c' Tx3A3 TE16A3 _ _ _ _ _ _ n3 n3 l3 _ (HOTx3A3.out.rd) (HOTE16A3.out.rd) HNA3.out HNA3.out (by unfold maxLen; omega)).mono ?_
        rintro e w18 ⟨rfl, hb18⟩
        have hz18 : w17.heap.size ≤ w18.heap.size := by have := hb18.size; first | omega | (simp at this; omega)
        have hzz18 : w.heap.size ≤ w18.heap.size := by omega
        have HB18 : Hid (Below w.heap.size w w18) := below_then (by ((repeat (first | refine Below.alloc ?_ (by first | omega | (simp; done) | (simp; omega)) _ | refine Below.drew ?_)); exact HB17.out)) hb18 (by first | omega | (simp; done) | (simp; omega))
        replace HXaS : Hid (Box w18 (w.heap.size) [.int .i64 z1_0, .slice A1_0 n1_0 c1_0, .int .i64 z1_1, .slice A1_1 n1_1 c1_1, .int .i64 d1_0.num, .int .i64 d1_0.size, .string d1_0.root, .int .i64 d1_0.taken, .string d1_0.troot]) := Box.below HXaS.out hb18
        clear hxaS hkaS
        have hxaS := HXaS.out.2
        have hkaS := HXaS.out.1
        replace HXw0 : Hid (Box w18 (w7.heap.size) [.int .i64 zr0_0, .slice wAr0_0 nr0_0 wcr0_0, .int .i64 zr0_1, .slice wAr0_1 nr0_1 wcr0_1, .int .i64 dr0_0.num, .int .i64 dr0_0.size, .string dr0_0.root, .int .i64 dr0_0.taken, .string dr0_0.troot]) := Box.below HXw0.out hb18
        clear hxw0 hkw0
        have hxw0 := HXw0.out.2
        have hkw0 := HXw0.out.1
        replace HXx1 : Hid (Box w18 (w8.heap.size) [.int .i64 z1_0, .slice Tx1A1_0 n1_0 n1_0, .int .i64 z1_1, .slice Tx1A1_1 n1_1 n1_1, .int .i64 d1_0.num, .int .i64 d1_0.size, .string d1_0.root, .int .i64 d1_0.taken, .string d1_0.troot]) := Box.below HXx1.out hb18
        clear hxx1 hkx1
        have hxx1 := HXx1.out.2
        have hkx1 := HXx1.out.1
        replace HXg0 : Hid (Box w18 (w11.heap.size) [.int .i64 zr0_0, .slice gAr0_0 nr0_0 gcr0_0, .int .i64 zr0_1, .slice gAr0_1 nr0_1 gcr0_1, .int .i64 dr0_0.num, .int .i64 dr0_0.size, .string dr0_0.root, .int .i64 dr0_0.taken, .string dr0_0.troot]) := Box.below HXg0.out hb18
        clear hxg0 hkg0
        have hxg0 := HXg0.out.2
        have hkg0 := HXg0.out.1
        replace HOTwA1_0 : Hid (Own w18 qTwA1_0 mm4_1 TwA1_0 (strs l1_0)) := HOTwA1_0.out.below hb18
        replace HOTwA1_1 : Hid (Own w18 qTwA1_1 w4.heap.size TwA1_1 (strs l1_1)) := HOTwA1_1.out.below hb18
        replace HOTwA2 : Hid (Own w18 qTwA2 w5.heap.size TwA2 (strs l2)) := HOTwA2.out.below hb18
        replace HOTwA3 : Hid (Own w18 qTwA3 w6.heap.size TwA3 (strs l3)) := HOTwA3.out.below hb18
        replace HOwAr0_0 : Hid (Own w18 lowAr0_0 hiwAr0_0 wAr0_0 (strs lr0_0)) := HOwAr0_0.out.below hb18
        replace HOwAr0_1 : Hid (Own w18 lowAr0_1 hiwAr0_1 wAr0_1 (strs lr0_1)) := HOwAr0_1.out.below hb18
        replace HOTx1A1_0 : Hid (Own w18 qTx1A1_0 mm8_1 Tx1A1_0 (strs l1_0)) := HOTx1A1_0.out.below hb18
        replace HOTx1A1_1 : Hid (Own w18 qTx1A1_1 w8.heap.size Tx1A1_1 (strs l1_1)) := HOTx1A1_1.out.below hb18
        replace HOTx2A2 : Hid (Own w18 qTx2A2 w9.heap.size Tx2A2 (strs l2)) := HOTx2A2.out.below hb18
        replace HOTx3A3 : Hid (Own w18 qTx3A3 w10.heap.size Tx3A3 (strs l3)) := HOTx3A3.out.below hb18
        replace HOgAr0_0 : Hid (Own w18 logAr0_0 higAr0_0 gAr0_0 (strs lr0_0)) := HOgAr0_0.out.below hb18
        replace HOgAr0_1 : Hid (Own w18 logAr0_1 higAr0_1 gAr0_1 (strs lr0_1)) := HOgAr0_1.out.below hb18
        replace HOTE16A3 : Hid (Own w18 qTE16A3 w17.heap.size TE16A3 (strs l3)) := HOTE16A3.out.below hb18
        clear hb18
        clear HOTE16A3
        go_wp2_with fail
        refine (markSeal_c z1_0 z1_1 d1_0 Tx1A1_0 Tx1A1_1 n1_0 n1_1 n1_0 n1_1 qTx1A1_0 mm8_1 qTx1A1_1 w8.heap.size (1) _ (strs l1_0) (strs l1_1) _ (by omega) (HOTx1A1_0.out) (by rw [strs_len]; exact HNA1_0.out) (by omega) (HOTx1A1_1.out) (by rw [strs_len]; exact HNA1_1.out) (by omega) (by omega) (by omega)).mono ?_
        rintro e w19 ⟨v19_1, rfl, ⟨hp19_0, hp19_1⟩, ho0, ho1⟩
        have hz19_0 : w18.heap.size ≤ v19_1.heap.size := by have := hp19_0.size; first | omega | (simp at this; omega)
        have hz19_1 : v19_1.heap.size ≤ w19.heap.size := by have := hp19_1.size; first | omega | (simp at this; omega)
        have hzz19 : w.heap.size ≤ w19.heap.size := by omega
        have HB19 : Hid (Below w.heap.size w w19) := (below_only (below_only (by ((repeat (first | refine Below.alloc ?_ (by first | omega | (simp; done) | (simp; omega)) _ | refine Below.drew ?_)); exact HB18.out)) hp19_0 (by omega) (by first | omega | (simp; omega))) hp19_1 (by omega) (by first | omega | (simp; omega)))
        replace HXaS : Hid (Box w19 (w.heap.size) [.int .i64 z1_0, .slice A1_0 n1_0 c1_0, .int .i64 z1_1, .slice A1_1 n1_1 c1_1, .int .i64 d1_0.num, .int .i64 d1_0.size, .string d1_0.root, .int .i64 d1_0.taken, .string d1_0.troot]) := (Box.only (Box.only HXaS.out hp19_0 (by first | omega | (simp; omega))) hp19_1 (by first | omega | (simp; omega)))
        clear hxaS hkaS
        have hxaS := HXaS.out.2
        have hkaS := HXaS.out.1
        replace HXw0 : Hid (Box w19 (w7.heap.size) [.int .i64 zr0_0, .slice wAr0_0 nr0_0 wcr0_0, .int .i64 zr0_1, .slice wAr0_1 nr0_1 wcr0_1, .int .i64 dr0_0.num, .int .i64 dr0_0.size, .string dr0_0.root, .int .i64 dr0_0.taken, .string dr0_0.troot]) := (Box.only (Box.only HXw0.out hp19_0 (by first | omega | (simp; omega))) hp19_1 (by first | omega | (simp; omega)))
        clear hxw0 hkw0
        have hxw0 := HXw0.out.2
        have hkw0 := HXw0.out.1
        replace HXx1 : Hid (Box w19 (w8.heap.size) [.int .i64 z1_0, .slice Tx1A1_0 n1_0 n1_0, .int .i64 z1_1, .slice Tx1A1_1 n1_1 n1_1, .int .i64 d1_0.num, .int .i64 d1_0.size, .string d1_0.root, .int .i64 d1_0.taken, .string d1_0.troot]) := (Box.only (Box.only HXx1.out hp19_0 (by first | omega | (simp; omega))) hp19_1 (by first | omega | (simp; omega)))
        clear hxx1 hkx1
        have hxx1 := HXx1.out.2
        have hkx1 := HXx1.out.1
        replace HXg0 : Hid (Box w19 (w11.heap.size) [.int .i64 zr0_0, .slice gAr0_0 nr0_0 gcr0_0, .int .i64 zr0_1, .slice gAr0_1 nr0_1 gcr0_1, .int .i64 dr0_0.num, .int .i64 dr0_0.size, .string dr0_0.root, .int .i64 dr0_0.taken, .string dr0_0.troot]) := (Box.only (Box.only HXg0.out hp19_0 (by first | omega | (simp; omega))) hp19_1 (by first | omega | (simp; omega)))
        clear hxg0 hkg0
        have hxg0 := HXg0.out.2
        have hkg0 := HXg0.out.1
        replace HOTwA1_0 : Hid (Own w19 qTwA1_0 mm4_1 TwA1_0 (strs l1_0)) := ((HOTwA1_0.out.only hp19_0 (by first | omega | (simp; omega))).only hp19_1 (by first | omega | (simp; omega)))
        replace HOTwA1_1 : Hid (Own w19 qTwA1_1 w4.heap.size TwA1_1 (strs l1_1)) := ((HOTwA1_1.out.only hp19_0 (by first | omega | (simp; omega))).only hp19_1 (by first | omega | (simp; omega)))
        replace HOTwA2 : Hid (Own w19 qTwA2 w5.heap.size TwA2 (strs l2)) := ((HOTwA2.out.only hp19_0 (by first | omega | (simp; omega))).only hp19_1 (by first | omega | (simp; omega)))
        replace HOTwA3 : Hid (Own w19 qTwA3 w6.heap.size TwA3 (strs l3)) := ((HOTwA3.out.only hp19_0 (by first | omega | (simp; omega))).only hp19_1 (by first | omega | (simp; omega)))
        replace HOwAr0_0 : Hid (Own w19 lowAr0_0 hiwAr0_0 wAr0_0 (strs lr0_0)) := ((HOwAr0_0.out.only hp19_0 (by first | omega | (simp; omega))).only hp19_1 (by first | omega | (simp; omega)))
        replace HOwAr0_1 : Hid (Own w19 lowAr0_1 hiwAr0_1 wAr0_1 (strs lr0_1)) := ((HOwAr0_1.out.only hp19_0 (by first | omega | (simp; omega))).only hp19_1 (by first | omega | (simp; omega)))
        replace HOTx2A2 : Hid (Own w19 qTx2A2 w9.heap.size Tx2A2 (strs l2)) := ((HOTx2A2.out.only hp19_0 (by first | omega | (simp; omega))).only hp19_1 (by first | omega | (simp; omega)))
        replace HOTx3A3 : Hid (Own w19 qTx3A3 w10.heap.size Tx3A3 (strs l3)) := ((HOTx3A3.out.only hp19_0 (by first | omega | (simp; omega))).only hp19_1 (by first | omega | (simp; omega)))
        replace HOgAr0_0 : Hid (Own w19 logAr0_0 higAr0_0 gAr0_0 (strs lr0_0)) := ((HOgAr0_0.out.only hp19_0 (by first | omega | (simp; omega))).only hp19_1 (by first | omega | (simp; omega)))
        replace HOgAr0_1 : Hid (Own w19 logAr0_1 higAr0_1 gAr0_1 (strs lr0_1)) := ((HOgAr0_1.out.only hp19_0 (by first | omega | (simp; omega))).only hp19_1 (by first | omega | (simp; omega)))
        clear HOTx1A1_0
        clear HOTx1A1_1
        clear hp19_0 hp19_1 ho0 ho1
        generalize hkk : ((1 + n1_0 + n1_1 : Nat) : Int) = kk19
        have hk0k19 : 0 ≤ kk19 := by omega
        have hkdk19 : decide (kk19 < 0) = false := by simp; omega
        have HKk19 := Lib.hid hkk
        clear hkk
        go_wp2_with fail
        refine (markStringS_c Tx2A2 _ qTx2A2 w9.heap.size (1 + n1_0 + n1_1) n2 _ (strs l2) _ HKk19.out.symm (HOTx2A2.out) (by rw [strs_len]; exact HNA2.out) (by omega)).mono ?_
        rintro e w20 ⟨rfl, hp20_0, ho0⟩
        have hz20_0 : w19.heap.size ≤ w20.heap.size := by have := hp20_0.size; first | omega | (simp at this; omega)
        have hzz20 : w.heap.size ≤ w20.heap.size := by omega
        have HB20 : Hid (Below w.heap.size w w20) := (below_only (by ((repeat (first | refine Below.alloc ?_ (by first | omega | (simp; done) | (simp; omega)) _ | refine Below.drew ?_)); exact HB19.out)) hp20_0 (by omega) (by first | omega | (simp; omega)))
        replace HXaS : Hid (Box w20 (w.heap.size) [.int .i64 z1_0, .slice A1_0 n1_0 c1_0, .int .i64 z1_1, .slice A1_1 n1_1 c1_1, .int .i64 d1_0.num, .int .i64 d1_0.size, .string d1_0.root, .int .i64 d1_0.taken, .string d1_0.troot]) := (Box.only HXaS.out hp20_0 (by first | omega | (simp; omega)))
        clear hxaS hkaS
        have hxaS := HXaS.out.2
        have hkaS := HXaS.out.1
        replace HXw0 : Hid (Box w20 (w7.heap.size) [.int .i64 zr0_0, .slice wAr0_0 nr0_0 wcr0_0, .int .i64 zr0_1, .slice wAr0_1 nr0_1 wcr0_1, .int .i64 dr0_0.num, .int .i64 dr0_0.size, .string dr0_0.root, .int .i64 dr0_0.taken, .string dr0_0.troot]) := (Box.only HXw0.out hp20_0 (by first | omega | (simp; omega)))
        clear hxw0 hkw0
        have hxw0 := HXw0.out.2
        have hkw0 := HXw0.out.1
        replace HXx1 : Hid (Box w20 (w8.heap.size) [.int .i64 z1_0, .slice Tx1A1_0 n1_0 n1_0, .int .i64 z1_1, .slice Tx1A1_1 n1_1 n1_1, .int .i64 d1_0.num, .int .i64 d1_0.size, .string d1_0.root, .int .i64 d1_0.taken, .string d1_0.troot]) := (Box.only HXx1.out hp20_0 (by first | omega | (simp; omega)))
        clear hxx1 hkx1
        have hxx1 := HXx1.out.2
        have hkx1 := HXx1.out.1
        replace HXg0 : Hid (Box w20 (w11.heap.size) [.int .i64 zr0_0, .slice gAr0_0 nr0_0 gcr0_0, .int .i64 zr0_1, .slice gAr0_1 nr0_1 gcr0_1, .int .i64 dr0_0.num, .int .i64 dr0_0.size, .string dr0_0.root, .int .i64 dr0_0.taken, .string dr0_0.troot]) := (Box.only HXg0.out hp20_0 (by first | omega | (simp; omega)))
        clear hxg0 hkg0
        have hxg0 := HXg0.out.2
        have hkg0 := HXg0.out.1
        replace HOTwA1_0 : Hid (Own w20 qTwA1_0 mm4_1 TwA1_0 (strs l1_0)) := (HOTwA1_0.out.only hp20_0 (by first | omega | (simp; omega)))
        replace HOTwA1_1 : Hid (Own w20 qTwA1_1 w4.heap.size TwA1_1 (strs l1_1)) := (HOTwA1_1.out.only hp20_0 (by first | omega | (simp; omega)))
        replace HOTwA2 : Hid (Own w20 qTwA2 w5.heap.size TwA2 (strs l2)) := (HOTwA2.out.only hp20_0 (by first | omega | (simp; omega)))
        replace HOTwA3 : Hid (Own w20 qTwA3 w6.heap.size TwA3 (strs l3)) := (HOTwA3.out.only hp20_0 (by first | omega | (simp; omega)))
        replace HOwAr0_0 : Hid (Own w20 lowAr0_0 hiwAr0_0 wAr0_0 (strs lr0_0)) := (HOwAr0_0.out.only hp20_0 (by first | omega | (simp; omega)))
        replace HOwAr0_1 : Hid (Own w20 lowAr0_1 hiwAr0_1 wAr0_1 (strs lr0_1)) := (HOwAr0_1.out.only hp20_0 (by first | omega | (simp; omega)))
        replace HOTx3A3 : Hid (Own w20 qTx3A3 w10.heap.size Tx3A3 (strs l3)) := (HOTx3A3.out.only hp20_0 (by first | omega | (simp; omega)))
        replace HOgAr0_0 : Hid (Own w20 logAr0_0 higAr0_0 gAr0_0 (strs lr0_0)) := (HOgAr0_0.out.only hp20_0 (by first | omega | (simp; omega)))
        replace HOgAr0_1 : Hid (Own w20 logAr0_1 higAr0_1 gAr0_1 (strs lr0_1)) := (HOgAr0_1.out.only hp20_0 (by first | omega | (simp; omega)))
        clear HOTx2A2
        clear hp20_0 ho0
        generalize hkk : ((1 + n1_0 + n1_1 + n2 : Nat) : Int) = kk20
        have hk0k20 : 0 ≤ kk20 := by omega
        have hkdk20 : decide (kk20 < 0) = false := by simp; omega
        have HKk20 := Lib.hid hkk
        clear hkk
        go_wp2_with fail
        refine (markStringS_c Tx3A3 _ qTx3A3 w10.heap.size (1 + n1_0 + n1_1 + n2) n3 _ (strs l3) _ HKk20.out.symm (HOTx3A3.out) (by rw [strs_len]; exact HNA3.out) (by omega)).mono ?_
        rintro e w21 ⟨rfl, hp21_0, ho0⟩
        have hz21_0 : w20.heap.size ≤ w21.heap.size := by have := hp21_0.size; first | omega | (simp at this; omega)
        have hzz21 : w.heap.size ≤ w21.heap.size := by omega
        have HB21 : Hid (Below w.heap.size w w21) := (below_only (by ((repeat (first | refine Below.alloc ?_ (by first | omega | (simp; done) | (simp; omega)) _ | refine Below.drew ?_)); exact HB20.out)) hp21_0 (by omega) (by first | omega | (simp; omega)))
        replace HXaS : Hid (Box w21 (w.heap.size) [.int .i64 z1_0, .slice A1_0 n1_0 c1_0, .int .i64 z1_1, .slice A1_1 n1_1 c1_1, .int .i64 d1_0.num, .int .i64 d1_0.size, .string d1_0.root, .int .i64 d1_0.taken, .string d1_0.troot]) := (Box.only HXaS.out hp21_0 (by first | omega | (simp; omega)))
        clear hxaS hkaS
        have hxaS := HXaS.out.2
        have hkaS := HXaS.out.1
        replace HXw0 : Hid (Box w21 (w7.heap.size) [.int .i64 zr0_0, .slice wAr0_0 nr0_0 wcr0_0, .int .i64 zr0_1, .slice wAr0_1 nr0_1 wcr0_1, .int .i64 dr0_0.num, .int .i64 dr0_0.size, .string dr0_0.root, .int .i64 dr0_0.taken, .string dr0_0.troot]) := (Box.only HXw0.out hp21_0 (by first | omega | (simp; omega)))
        clear hxw0 hkw0
        have hxw0 := HXw0.out.2
        have hkw0 := HXw0.out.1
        replace HXx1 : Hid (Box w21 (w8.heap.size) [.int .i64 z1_0, .slice Tx1A1_0 n1_0 n1_0, .int .i64 z1_1, .slice Tx1A1_1 n1_1 n1_1, .int .i64 d1_0.num, .int .i64 d1_0.size, .string d1_0.root, .int .i64 d1_0.taken, .string d1_0.troot]) := (Box.only HXx1.out hp21_0 (by first | omega | (simp; omega)))
        clear hxx1 hkx1
        have hxx1 := HXx1.out.2
        have hkx1 := HXx1.out.1
        replace HXg0 : Hid (Box w21 (w11.heap.size) [.int .i64 zr0_0, .slice gAr0_0 nr0_0 gcr0_0, .int .i64 zr0_1, .slice gAr0_1 nr0_1 gcr0_1, .int .i64 dr0_0.num, .int .i64 dr0_0.size, .string dr0_0.root, .int .i64 dr0_0.taken, .string dr0_0.troot]) := (Box.only HXg0.out hp21_0 (by first | omega | (simp; omega)))
        clear hxg0 hkg0
        have hxg0 := HXg0.out.2
        have hkg0 := HXg0.out.1
        replace HOTwA1_0 : Hid (Own w21 qTwA1_0 mm4_1 TwA1_0 (strs l1_0)) := (HOTwA1_0.out.only hp21_0 (by first | omega | (simp; omega)))
        replace HOTwA1_1 : Hid (Own w21 qTwA1_1 w4.heap.size TwA1_1 (strs l1_1)) := (HOTwA1_1.out.only hp21_0 (by first | omega | (simp; omega)))
        replace HOTwA2 : Hid (Own w21 qTwA2 w5.heap.size TwA2 (strs l2)) := (HOTwA2.out.only hp21_0 (by first | omega | (simp; omega)))
        replace HOTwA3 : Hid (Own w21 qTwA3 w6.heap.size TwA3 (strs l3)) := (HOTwA3.out.only hp21_0 (by first | omega | (simp; omega)))
        replace HOwAr0_0 : Hid (Own w21 lowAr0_0 hiwAr0_0 wAr0_0 (strs lr0_0)) := (HOwAr0_0.out.only hp21_0 (by first | omega | (simp; omega)))
        replace HOwAr0_1 : Hid (Own w21 lowAr0_1 hiwAr0_1 wAr0_1 (strs lr0_1)) := (HOwAr0_1.out.only hp21_0 (by first | omega | (simp; omega)))
        replace HOgAr0_0 : Hid (Own w21 logAr0_0 higAr0_0 gAr0_0 (strs lr0_0)) := (HOgAr0_0.out.only hp21_0 (by first | omega | (simp; omega)))
        replace HOgAr0_1 : Hid (Own w21 logAr0_1 higAr0_1 gAr0_1 (strs lr0_1)) := (HOgAr0_1.out.only hp21_0 (by first | omega | (simp; omega)))
        clear HOTx3A3
        clear hp21_0 ho0
        generalize hkk : ((1 + n1_0 + n1_1 + n2 + n3 : Nat) : Int) = kk21
        have hk0k21 : 0 ≤ kk21 := by omega
        have hkdk21 : decide (kk21 < 0) = false := by simp; omega
        have HKk21 := Lib.hid hkk
        clear hkk
        go_wp2_with fail
        refine (eqSeal_c zr0_0 zr0_1 dr0_0 gAr0_0 gAr0_1 gcr0_0 gcr0_1 nr0_0 nr0_1 lr0_0 lr0_1 wAr0_0 wAr0_1 wcr0_0 wcr0_1 _ _ _ _ _ _ _ _  _ (HOgAr0_0.out.rd) (HOwAr0_0.out.rd) HRNAr0_0.out (by unfold maxLen; omega) (HOgAr0_1.out.rd) (HOwAr0_1.out.rd) HRNAr0_1.out (by unfold maxLen; omega)).mono ?_
        rintro e w22 ⟨rfl, hb22⟩
        have hz22 : w21.heap.size ≤ w22.heap.size := by have := hb22.size; first | omega | (simp at this; omega)
        have hzz22 : w.heap.size ≤ w22.heap.size := by omega
        have HB22 : Hid (Below w.heap.size w w22) := below_then (by ((repeat (first | refine Below.alloc ?_ (by first | omega | (simp; done) | (simp; omega)) _ | refine Below.drew ?_)); exact HB21.out)) hb22 (by first | omega | (simp; done) | (simp; omega))
        replace HXaS : Hid (Box w22 (w.heap.size) [.int .i64 z1_0, .slice A1_0 n1_0 c1_0, .int .i64 z1_1, .slice A1_1 n1_1 c1_1, .int .i64 d1_0.num, .int .i64 d1_0.size, .string d1_0.root, .int .i64 d1_0.taken, .string d1_0.troot]) := Box.below HXaS.out hb22
        clear hxaS hkaS
        have hxaS := HXaS.out.2
        have hkaS := HXaS.out.1
        replace HXw0 : Hid (Box w22 (w7.heap.size) [.int .i64 zr0_0, .slice wAr0_0 nr0_0 wcr0_0, .int .i64 zr0_1, .slice wAr0_1 nr0_1 wcr0_1, .int .i64 dr0_0.num, .int .i64 dr0_0.size, .string dr0_0.root, .int .i64 dr0_0.taken, .string dr0_0.troot]) := Box.below HXw0.out hb22
        clear hxw0 hkw0
        have hxw0 := HXw0.out.2
        have hkw0 := HXw0.out.1
        replace HXx1 : Hid (Box w22 (w8.heap.size) [.int .i64 z1_0, .slice Tx1A1_0 n1_0 n1_0, .int .i64 z1_1, .slice Tx1A1_1 n1_1 n1_1, .int .i64 d1_0.num, .int .i64 d1_0.size, .string d1_0.root, .int .i64 d1_0.taken, .string d1_0.troot]) := Box.below HXx1.out hb22
        clear hxx1 hkx1
        have hxx1 := HXx1.out.2
        have hkx1 := HXx1.out.1
        replace HXg0 : Hid (Box w22 (w11.heap.size) [.int .i64 zr0_0, .slice gAr0_0 nr0_0 gcr0_0, .int .i64 zr0_1, .slice gAr0_1 nr0_1 gcr0_1, .int .i64 dr0_0.num, .int .i64 dr0_0.size, .string dr0_0.root, .int .i64 dr0_0.taken, .string dr0_0.troot]) := Box.below HXg0.out hb22
        clear hxg0 hkg0
        have hxg0 := HXg0.out.2
        have hkg0 := HXg0.out.1
        replace HOTwA1_0 : Hid (Own w22 qTwA1_0 mm4_1 TwA1_0 (strs l1_0)) := HOTwA1_0.out.below hb22
        replace HOTwA1_1 : Hid (Own w22 qTwA1_1 w4.heap.size TwA1_1 (strs l1_1)) := HOTwA1_1.out.below hb22
        replace HOTwA2 : Hid (Own w22 qTwA2 w5.heap.size TwA2 (strs l2)) := HOTwA2.out.below hb22
        replace HOTwA3 : Hid (Own w22 qTwA3 w6.heap.size TwA3 (strs l3)) := HOTwA3.out.below hb22
        replace HOwAr0_0 : Hid (Own w22 lowAr0_0 hiwAr0_0 wAr0_0 (strs lr0_0)) := HOwAr0_0.out.below hb22
        replace HOwAr0_1 : Hid (Own w22 lowAr0_1 hiwAr0_1 wAr0_1 (strs lr0_1)) := HOwAr0_1.out.below hb22
        replace HOgAr0_0 : Hid (Own w22 logAr0_0 higAr0_0 gAr0_0 (strs lr0_0)) := HOgAr0_0.out.below hb22
        replace HOgAr0_1 : Hid (Own w22 logAr0_1 higAr0_1 gAr0_1 (strs lr0_1)) := HOgAr0_1.out.below hb22
        clear hb22
        go_wp2_with fail
        refine (markSeal_c zr0_0 zr0_1 dr0_0 gAr0_0 gAr0_1 gcr0_0 gcr0_1 nr0_0 nr0_1 logAr0_0 higAr0_0 logAr0_1 higAr0_1 (1) _ (strs lr0_0) (strs lr0_1) _ (by omega) (HOgAr0_0.out) (by rw [strs_len]; exact HRNAr0_0.out) (by omega) (HOgAr0_1.out) (by rw [strs_len]; exact HRNAr0_1.out) (by omega) (by omega) (by omega)).mono ?_
        rintro e w23 ⟨v23_1, rfl, ⟨hp23_0, hp23_1⟩, ho0, ho1⟩
        have hz23_0 : w22.heap.size ≤ v23_1.heap.size := by have := hp23_0.size; first | omega | (simp at this; omega)
        have hz23_1 : v23_1.heap.size ≤ w23.heap.size := by have := hp23_1.size; first | omega | (simp at this; omega)
        have hzz23 : w.heap.size ≤ w23.heap.size := by omega
        have HB23 : Hid (Below w.heap.size w w23) := (below_only (below_only (by ((repeat (first | refine Below.alloc ?_ (by first | omega | (simp; done) | (simp; omega)) _ | refine Below.drew ?_)); exact HB22.out)) hp23_0 (by omega) (by first | omega | (simp; omega))) hp23_1 (by omega) (by first | omega | (simp; omega)))
        replace HXaS : Hid (Box w23 (w.heap.size) [.int .i64 z1_0, .slice A1_0 n1_0 c1_0, .int .i64 z1_1, .slice A1_1 n1_1 c1_1, .int .i64 d1_0.num, .int .i64 d1_0.size, .string d1_0.root, .int .i64 d1_0.taken, .string d1_0.troot]) := (Box.only (Box.only HXaS.out hp23_0 (by first | omega | (simp; omega))) hp23_1 (by first | omega | (simp; omega)))
        clear hxaS hkaS
        have hxaS := HXaS.out.2
        have hkaS := HXaS.out.1
        replace HXw0 : Hid (Box w23 (w7.heap.size) [.int .i64 zr0_0, .slice wAr0_0 nr0_0 wcr0_0, .int .i64 zr0_1, .slice wAr0_1 nr0_1 wcr0_1, .int .i64 dr0_0.num, .int .i64 dr0_0.size, .string dr0_0.root, .int .i64 dr0_0.taken, .string dr0_0.troot]) := (Box.only (Box.only HXw0.out hp23_0 (by first | omega | (simp; omega))) hp23_1 (by first | omega | (simp; omega)))
        clear hxw0 hkw0
        have hxw0 := HXw0.out.2
        have hkw0 := HXw0.out.1
        replace HXx1 : Hid (Box w23 (w8.heap.size) [.int .i64 z1_0, .slice Tx1A1_0 n1_0 n1_0, .int .i64 z1_1, .slice Tx1A1_1 n1_1 n1_1, .int .i64 d1_0.num, .int .i64 d1_0.size, .string d1_0.root, .int .i64 d1_0.taken, .string d1_0.troot]) := (Box.only (Box.only HXx1.out hp23_0 (by first | omega | (simp; omega))) hp23_1 (by first | omega | (simp; omega)))
        clear hxx1 hkx1
        have hxx1 := HXx1.out.2
        have hkx1 := HXx1.out.1
        replace HXg0 : Hid (Box w23 (w11.heap.size) [.int .i64 zr0_0, .slice gAr0_0 nr0_0 gcr0_0, .int .i64 zr0_1, .slice gAr0_1 nr0_1 gcr0_1, .int .i64 dr0_0.num, .int .i64 dr0_0.size, .string dr0_0.root, .int .i64 dr0_0.taken, .string dr0_0.troot]) := (Box.only (Box.only HXg0.out hp23_0 (by first | omega | (simp; omega))) hp23_1 (by first | omega | (simp; omega)))
        clear hxg0 hkg0
        have hxg0 := HXg0.out.2
        have hkg0 := HXg0.out.1
        replace HOTwA1_0 : Hid (Own w23 qTwA1_0 mm4_1 TwA1_0 (strs l1_0)) := ((HOTwA1_0.out.only hp23_0 (by first | omega | (simp; omega))).only hp23_1 (by first | omega | (simp; omega)))
        replace HOTwA1_1 : Hid (Own w23 qTwA1_1 w4.heap.size TwA1_1 (strs l1_1)) := ((HOTwA1_1.out.only hp23_0 (by first | omega | (simp; omega))).only hp23_1 (by first | omega | (simp; omega)))
        replace HOTwA2 : Hid (Own w23 qTwA2 w5.heap.size TwA2 (strs l2)) := ((HOTwA2.out.only hp23_0 (by first | omega | (simp; omega))).only hp23_1 (by first | omega | (simp; omega)))
        replace HOTwA3 : Hid (Own w23 qTwA3 w6.heap.size TwA3 (strs l3)) := ((HOTwA3.out.only hp23_0 (by first | omega | (simp; omega))).only hp23_1 (by first | omega | (simp; omega)))
        replace HOwAr0_0 : Hid (Own w23 lowAr0_0 hiwAr0_0 wAr0_0 (strs lr0_0)) := ((HOwAr0_0.out.only hp23_0 (by first | omega | (simp; omega))).only hp23_1 (by first | omega | (simp; omega)))
        replace HOwAr0_1 : Hid (Own w23 lowAr0_1 hiwAr0_1 wAr0_1 (strs lr0_1)) := ((HOwAr0_1.out.only hp23_0 (by first | omega | (simp; omega))).only hp23_1 (by first | omega | (simp; omega)))
        replace HOgAr0_0 : Hid (Own w23 logAr0_0 higAr0_0 gAr0_0 (strs (marks (1) nr0_0))) := ho0
        replace HOgAr0_1 : Hid (Own w23 logAr0_1 higAr0_1 gAr0_1 (strs (marks (1 + nr0_0) nr0_1))) := ho1
        clear hp23_0 hp23_1 ho0 ho1
        generalize hkk : ((1 + nr0_0 + nr0_1 : Nat) : Int) = km23
        have hk0m23 : 0 ≤ km23 := by omega
        have hkdm23 : decide (km23 < 0) = false := by simp; omega
        have HKm23 := Lib.hid hkk
        clear hkk
        go_wp2_with fail
        refine (heldSeal_c zr0_0 zr0_1 dr0_0 gAr0_0 gAr0_1 gcr0_0 gcr0_1 nr0_0 nr0_1 _ _ _ _ (1) _ _ (by omega) (HOgAr0_0.out.rd) (HOgAr0_1.out.rd) (by omega)).mono ?_
        rintro e w24 ⟨rfl, hb24⟩
        have hz24 : w23.heap.size ≤ w24.heap.size := by have := hb24.size; first | omega | (simp at this; omega)
        have hzz24 : w.heap.size ≤ w24.heap.size := by omega
        have HB24 : Hid (Below w.heap.size w w24) := below_then (by ((repeat (first | refine Below.alloc ?_ (by first | omega | (simp; done) | (simp; omega)) _ | refine Below.drew ?_)); exact HB23.out)) hb24 (by first | omega | (simp; done) | (simp; omega))
        replace HXaS : Hid (Box w24 (w.heap.size) [.int .i64 z1_0, .slice A1_0 n1_0 c1_0, .int .i64 z1_1, .slice A1_1 n1_1 c1_1, .int .i64 d1_0.num, .int .i64 d1_0.size, .string d1_0.root, .int .i64 d1_0.taken, .string d1_0.troot]) := Box.below HXaS.out hb24
        clear hxaS hkaS
        have hxaS := HXaS.out.2
        have hkaS := HXaS.out.1
        replace HXw0 : Hid (Box w24 (w7.heap.size) [.int .i64 zr0_0, .slice wAr0_0 nr0_0 wcr0_0, .int .i64 zr0_1, .slice wAr0_1 nr0_1 wcr0_1, .int .i64 dr0_0.num, .int .i64 dr0_0.size, .string dr0_0.root, .int .i64 dr0_0.taken, .string dr0_0.troot]) := Box.below HXw0.out hb24
        clear hxw0 hkw0
        have hxw0 := HXw0.out.2
        have hkw0 := HXw0.out.1
        replace HXx1 : Hid (Box w24 (w8.heap.size) [.int .i64 z1_0, .slice Tx1A1_0 n1_0 n1_0, .int .i64 z1_1, .slice Tx1A1_1 n1_1 n1_1, .int .i64 d1_0.num, .int .i64 d1_0.size, .string d1_0.root, .int .i64 d1_0.taken, .string d1_0.troot]) := Box.below HXx1.out hb24
        clear hxx1 hkx1
        have hxx1 := HXx1.out.2
        have hkx1 := HXx1.out.1
        replace HXg0 : Hid (Box w24 (w11.heap.size) [.int .i64 zr0_0, .slice gAr0_0 nr0_0 gcr0_0, .int .i64 zr0_1, .slice gAr0_1 nr0_1 gcr0_1, .int .i64 dr0_0.num, .int .i64 dr0_0.size, .string dr0_0.root, .int .i64 dr0_0.taken, .string dr0_0.troot]) := Box.below HXg0.out hb24
        clear hxg0 hkg0
        have hxg0 := HXg0.out.2
        have hkg0 := HXg0.out.1
        replace HOTwA1_0 : Hid (Own w24 qTwA1_0 mm4_1 TwA1_0 (strs l1_0)) := HOTwA1_0.out.below hb24
        replace HOTwA1_1 : Hid (Own w24 qTwA1_1 w4.heap.size TwA1_1 (strs l1_1)) := HOTwA1_1.out.below hb24
        replace HOTwA2 : Hid (Own w24 qTwA2 w5.heap.size TwA2 (strs l2)) := HOTwA2.out.below hb24
        replace HOTwA3 : Hid (Own w24 qTwA3 w6.heap.size TwA3 (strs l3)) := HOTwA3.out.below hb24
        replace HOwAr0_0 : Hid (Own w24 lowAr0_0 hiwAr0_0 wAr0_0 (strs lr0_0)) := HOwAr0_0.out.below hb24
        replace HOwAr0_1 : Hid (Own w24 lowAr0_1 hiwAr0_1 wAr0_1 (strs lr0_1)) := HOwAr0_1.out.below hb24
        replace HOgAr0_0 : Hid (Own w24 logAr0_0 higAr0_0 gAr0_0 (strs (marks (1) nr0_0))) := HOgAr0_0.out.below hb24
        replace HOgAr0_1 : Hid (Own w24 logAr0_1 higAr0_1 gAr0_1 (strs (marks (1 + nr0_0) nr0_1))) := HOgAr0_1.out.below hb24
        clear hb24
        generalize hkk : ((1 + nr0_0 + nr0_1 : Nat) : Int) = kq24
        have hk0q24 : 0 ≤ kq24 := by omega
        have hkdq24 : decide (kq24 < 0) = false := by simp; omega
        have HKq24 := Lib.hid hkk
        clear hkk
        obtain rfl : kq24 = km23 := HKq24.out.symm.trans HKm23.out
        go_wp2_with fail
        refine (toSeal_c z1_0 z1_1 d1_0 A1_0 A1_1 c1_0 c1_1 n1_0 n1_1 l1_0 l1_1 _ _ _ _ _ (hrA1_0.below (by ((repeat (first | refine Below.alloc ?_ (by first | omega | (simp; done) | (simp; omega)) _ | refine Below.drew ?_)); exact HB24.out))) HNA1_0.out hmA1_0 (hrA1_1.below (by ((repeat (first | refine Below.alloc ?_ (by first | omega | (simp; done) | (simp; omega)) _ | refine Below.drew ?_)); exact HB24.out))) HNA1_1.out hmA1_1).mono ?_
        rintro e w25 ⟨ThA1_0, ThA1_1, mm25_1, rfl, le25_0, le25_1, ho0, ho1, hb25⟩
        have hz25 : w24.heap.size ≤ w25.heap.size := by have := hb25.size; first | omega | (simp at this; omega)
        have hzz25 : w.heap.size ≤ w25.heap.size := by omega
        have HB25 : Hid (Below w.heap.size w w25) := below_then (by ((repeat (first | refine Below.alloc ?_ (by first | omega | (simp; done) | (simp; omega)) _ | refine Below.drew ?_)); exact HB24.out)) hb25 (by first | omega | (simp; done) | (simp; omega))
        replace HXaS : Hid (Box w25 (w.heap.size) [.int .i64 z1_0, .slice A1_0 n1_0 c1_0, .int .i64 z1_1, .slice A1_1 n1_1 c1_1, .int .i64 d1_0.num, .int .i64 d1_0.size, .string d1_0.root, .int .i64 d1_0.taken, .string d1_0.troot]) := Box.below HXaS.out hb25
        clear hxaS hkaS
        have hxaS := HXaS.out.2
        have hkaS := HXaS.out.1
        replace HXw0 : Hid (Box w25 (w7.heap.size) [.int .i64 zr0_0, .slice wAr0_0 nr0_0 wcr0_0, .int .i64 zr0_1, .slice wAr0_1 nr0_1 wcr0_1, .int .i64 dr0_0.num, .int .i64 dr0_0.size, .string dr0_0.root, .int .i64 dr0_0.taken, .string dr0_0.troot]) := Box.below HXw0.out hb25
        clear hxw0 hkw0
        have hxw0 := HXw0.out.2
        have hkw0 := HXw0.out.1
        replace HXx1 : Hid (Box w25 (w8.heap.size) [.int .i64 z1_0, .slice Tx1A1_0 n1_0 n1_0, .int .i64 z1_1, .slice Tx1A1_1 n1_1 n1_1, .int .i64 d1_0.num, .int .i64 d1_0.size, .string d1_0.root, .int .i64 d1_0.taken, .string d1_0.troot]) := Box.below HXx1.out hb25
        clear hxx1 hkx1
        have hxx1 := HXx1.out.2
        have hkx1 := HXx1.out.1
        replace HXg0 : Hid (Box w25 (w11.heap.size) [.int .i64 zr0_0, .slice gAr0_0 nr0_0 gcr0_0, .int .i64 zr0_1, .slice gAr0_1 nr0_1 gcr0_1, .int .i64 dr0_0.num, .int .i64 dr0_0.size, .string dr0_0.root, .int .i64 dr0_0.taken, .string dr0_0.troot]) := Box.below HXg0.out hb25
        clear hxg0 hkg0
        have hxg0 := HXg0.out.2
        have hkg0 := HXg0.out.1
        replace HOTwA1_0 : Hid (Own w25 qTwA1_0 mm4_1 TwA1_0 (strs l1_0)) := HOTwA1_0.out.below hb25
        replace HOTwA1_1 : Hid (Own w25 qTwA1_1 w4.heap.size TwA1_1 (strs l1_1)) := HOTwA1_1.out.below hb25
        replace HOTwA2 : Hid (Own w25 qTwA2 w5.heap.size TwA2 (strs l2)) := HOTwA2.out.below hb25
        replace HOTwA3 : Hid (Own w25 qTwA3 w6.heap.size TwA3 (strs l3)) := HOTwA3.out.below hb25
        replace HOwAr0_0 : Hid (Own w25 lowAr0_0 hiwAr0_0 wAr0_0 (strs lr0_0)) := HOwAr0_0.out.below hb25
        replace HOwAr0_1 : Hid (Own w25 lowAr0_1 hiwAr0_1 wAr0_1 (strs lr0_1)) := HOwAr0_1.out.below hb25
        replace HOgAr0_0 : Hid (Own w25 logAr0_0 higAr0_0 gAr0_0 (strs (marks (1) nr0_0))) := HOgAr0_0.out.below hb25
        replace HOgAr0_1 : Hid (Own w25 logAr0_1 higAr0_1 gAr0_1 (strs (marks (1 + nr0_0) nr0_1))) := HOgAr0_1.out.below hb25
        obtain ⟨qThA1_0, hqThA1_0, hqqThA1_0, HOThA1_0⟩ : ∃ q, w24.heap.size ≤ q ∧ mm25_1 ≤ w25.heap.size ∧ Hid (Own w25 q mm25_1 ThA1_0 (strs l1_0)) := ⟨_, by first | omega | (simp at *; done) | (simp at *; omega), by first | omega | (simp at *; done) | (simp at *; omega), ho0⟩
        obtain ⟨qThA1_1, hqThA1_1, hqqThA1_1, HOThA1_1⟩ : ∃ q, mm25_1 ≤ q ∧ w25.heap.size ≤ w25.heap.size ∧ Hid (Own w25 q w25.heap.size ThA1_1 (strs l1_1)) := ⟨_, by first | omega | (simp at *; done) | (simp at *; omega), by first | omega | (simp at *; done) | (simp at *; omega), ho1⟩
        clear hb25 ho0 ho1
        go_wp2_with fail
        refine (toStringS_c' A2 _ _ _ n2 l2 _ (hrA2.below (by ((repeat (first | refine Below.alloc ?_ (by first | omega | (simp; done) | (simp; omega)) _ | refine Below.drew ?_)); exact HB25.out))) HNA2.out hmA2).mono ?_
        rintro e w26 ⟨ThA2, rfl, ho, hb26⟩
        have hz26 : w25.heap.size ≤ w26.heap.size := by have := hb26.size; first | omega | (simp at this; omega)
        have hzz26 : w.heap.size ≤ w26.heap.size := by omega
        have HB26 : Hid (Below w.heap.size w w26) := below_then (by ((repeat (first | refine Below.alloc ?_ (by first | omega | (simp; done) | (simp; omega)) _ | refine Below.drew ?_)); exact HB25.out)) hb26 (by first | omega | (simp; done) | (simp; omega))
        replace HXaS : Hid (Box w26 (w.heap.size) [.int .i64 z1_0, .slice A1_0 n1_0 c1_0, .int .i64 z1_1, .slice A1_1 n1_1 c1_1, .int .i64 d1_0.num, .int .i64 d1_0.size, .string d1_0.root, .int .i64 d1_0.taken, .string d1_0.troot]) := Box.below HXaS.out hb26
        clear hxaS hkaS
        have hxaS := HXaS.out.2
        have hkaS := HXaS.out.1
        replace HXw0 : Hid (Box w26 (w7.heap.size) [.int .i64 zr0_0, .slice wAr0_0 nr0_0 wcr0_0, .int .i64 zr0_1, .slice wAr0_1 nr0_1 wcr0_1, .int .i64 dr0_0.num, .int .i64 dr0_0.size, .string dr0_0.root, .int .i64 dr0_0.taken, .string dr0_0.troot]) := Box.below HXw0.out hb26
        clear hxw0 hkw0
        have hxw0 := HXw0.out.2
        have hkw0 := HXw0.out.1
        replace HXx1 : Hid (Box w26 (w8.heap.size) [.int .i64 z1_0, .slice Tx1A1_0 n1_0 n1_0, .int .i64 z1_1, .slice Tx1A1_1 n1_1 n1_1, .int .i64 d1_0.num, .int .i64 d1_0.size, .string d1_0.root, .int .i64 d1_0.taken, .string d1_0.troot]) := Box.below HXx1.out hb26
        clear hxx1 hkx1
        have hxx1 := HXx1.out.2
        have hkx1 := HXx1.out.1
        replace HXg0 : Hid (Box w26 (w11.heap.size) [.int .i64 zr0_0, .slice gAr0_0 nr0_0 gcr0_0, .int .i64 zr0_1, .slice gAr0_1 nr0_1 gcr0_1, .int .i64 dr0_0.num, .int .i64 dr0_0.size, .string dr0_0.root, .int .i64 dr0_0.taken, .string dr0_0.troot]) := Box.below HXg0.out hb26
        clear hxg0 hkg0
        have hxg0 := HXg0.out.2
        have hkg0 := HXg0.out.1
        replace HOTwA1_0 : Hid (Own w26 qTwA1_0 mm4_1 TwA1_0 (strs l1_0)) := HOTwA1_0.out.below hb26
        replace HOTwA1_1 : Hid (Own w26 qTwA1_1 w4.heap.size TwA1_1 (strs l1_1)) := HOTwA1_1.out.below hb26
        replace HOTwA2 : Hid (Own w26 qTwA2 w5.heap.size TwA2 (strs l2)) := HOTwA2.out.below hb26
        replace HOTwA3 : Hid (Own w26 qTwA3 w6.heap.size TwA3 (strs l3)) := HOTwA3.out.below hb26
        replace HOwAr0_0 : Hid (Own w26 lowAr0_0 hiwAr0_0 wAr0_0 (strs lr0_0)) := HOwAr0_0.out.below hb26
        replace HOwAr0_1 : Hid (Own w26 lowAr0_1 hiwAr0_1 wAr0_1 (strs lr0_1)) := HOwAr0_1.out.below hb26
        replace HOgAr0_0 : Hid (Own w26 logAr0_0 higAr0_0 gAr0_0 (strs (marks (1) nr0_0))) := HOgAr0_0.out.below hb26
        replace HOgAr0_1 : Hid (Own w26 logAr0_1 higAr0_1 gAr0_1 (strs (marks (1 + nr0_0) nr0_1))) := HOgAr0_1.out.below hb26
        replace HOThA1_0 : Hid (Own w26 qThA1_0 mm25_1 ThA1_0 (strs l1_0)) := HOThA1_0.out.below hb26
        replace HOThA1_1 : Hid (Own w26 qThA1_1 w25.heap.size ThA1_1 (strs l1_1)) := HOThA1_1.out.below hb26
        obtain ⟨qThA2, hqThA2, hqqThA2, HOThA2⟩ : ∃ q, w25.heap.size ≤ q ∧ w26.heap.size ≤ w26.heap.size ∧ Hid (Own w26 q w26.heap.size ThA2 (strs l2)) := ⟨_, by first | omega | (simp at *; done) | (simp at *; omega), by first | omega | (simp at *; done) | (simp at *; omega), ho⟩
        clear hb26 ho
        go_wp2_with fail
        refine (toStringS_c' A3 _ _ _ n3 l3 _ (hrA3.below (by ((repeat (first | refine Below.alloc ?_ (by first | omega | (simp; done) | (simp; omega)) _ | refine Below.drew ?_)); exact HB26.out))) HNA3.out hmA3).mono ?_
        rintro e w27 ⟨ThA3, rfl, ho, hb27⟩
        have hz27 : w26.heap.size ≤ w27.heap.size := by have := hb27.size; first | omega | (simp at this; omega)
        have hzz27 : w.heap.size ≤ w27.heap.size := by omega
        have HB27 : Hid (Below w.heap.size w w27) := below_then (by ((repeat (first | refine Below.alloc ?_ (by first | omega | (simp; done) | (simp; omega)) _ | refine Below.drew ?_)); exact HB26.out)) hb27 (by first | omega | (simp; done) | (simp; omega))
        replace HXaS : Hid (Box w27 (w.heap.size) [.int .i64 z1_0, .slice A1_0 n1_0 c1_0, .int .i64 z1_1, .slice A1_1 n1_1 c1_1, .int .i64 d1_0.num, .int .i64 d1_0.size, .string d1_0.root, .int .i64 d1_0.taken, .string d1_0.troot]) := Box.below HXaS.out hb27
        clear hxaS hkaS
        have hxaS := HXaS.out.2
        have hkaS := HXaS.out.1
        replace HXw0 : Hid (Box w27 (w7.heap.size) [.int .i64 zr0_0, .slice wAr0_0 nr0_0 wcr0_0, .int .i64 zr0_1, .slice wAr0_1 nr0_1 wcr0_1, .int .i64 dr0_0.num, .int .i64 dr0_0.size, .string dr0_0.root, .int .i64 dr0_0.taken, .string dr0_0.troot]) := Box.below HXw0.out hb27
        clear hxw0 hkw0
        have hxw0 := HXw0.out.2
        have hkw0 := HXw0.out.1
        replace HXx1 : Hid (Box w27 (w8.heap.size) [.int .i64 z1_0, .slice Tx1A1_0 n1_0 n1_0, .int .i64 z1_1, .slice Tx1A1_1 n1_1 n1_1, .int .i64 d1_0.num, .int .i64 d1_0.size, .string d1_0.root, .int .i64 d1_0.taken, .string d1_0.troot]) := Box.below HXx1.out hb27
        clear hxx1 hkx1
        have hxx1 := HXx1.out.2
        have hkx1 := HXx1.out.1
        replace HXg0 : Hid (Box w27 (w11.heap.size) [.int .i64 zr0_0, .slice gAr0_0 nr0_0 gcr0_0, .int .i64 zr0_1, .slice gAr0_1 nr0_1 gcr0_1, .int .i64 dr0_0.num, .int .i64 dr0_0.size, .string dr0_0.root, .int .i64 dr0_0.taken, .string dr0_0.troot]) := Box.below HXg0.out hb27
        clear hxg0 hkg0
        have hxg0 := HXg0.out.2
        have hkg0 := HXg0.out.1
        replace HOTwA1_0 : Hid (Own w27 qTwA1_0 mm4_1 TwA1_0 (strs l1_0)) := HOTwA1_0.out.below hb27
        replace HOTwA1_1 : Hid (Own w27 qTwA1_1 w4.heap.size TwA1_1 (strs l1_1)) := HOTwA1_1.out.below hb27
        replace HOTwA2 : Hid (Own w27 qTwA2 w5.heap.size TwA2 (strs l2)) := HOTwA2.out.below hb27
        replace HOTwA3 : Hid (Own w27 qTwA3 w6.heap.size TwA3 (strs l3)) := HOTwA3.out.below hb27
        replace HOwAr0_0 : Hid (Own w27 lowAr0_0 hiwAr0_0 wAr0_0 (strs lr0_0)) := HOwAr0_0.out.below hb27
        replace HOwAr0_1 : Hid (Own w27 lowAr0_1 hiwAr0_1 wAr0_1 (strs lr0_1)) := HOwAr0_1.out.below hb27
        replace HOgAr0_0 : Hid (Own w27 logAr0_0 higAr0_0 gAr0_0 (strs (marks (1) nr0_0))) := HOgAr0_0.out.below hb27
        replace HOgAr0_1 : Hid (Own w27 logAr0_1 higAr0_1 gAr0_1 (strs (marks (1 + nr0_0) nr0_1))) := HOgAr0_1.out.below hb27
        replace HOThA1_0 : Hid (Own w27 qThA1_0 mm25_1 ThA1_0 (strs l1_0)) := HOThA1_0.out.below hb27
        replace HOThA1_1 : Hid (Own w27 qThA1_1 w25.heap.size ThA1_1 (strs l1_1)) := HOThA1_1.out.below hb27
        replace HOThA2 : Hid (Own w27 qThA2 w26.heap.size ThA2 (strs l2)) := HOThA2.out.below hb27
        obtain ⟨qThA3, hqThA3, hqqThA3, HOThA3⟩ : ∃ q, w26.heap.size ≤ q ∧ w27.heap.size ≤ w27.heap.size ∧ Hid (Own w27 q w27.heap.size ThA3 (strs l3)) := ⟨_, by first | omega | (simp at *; done) | (simp at *; omega), by first | omega | (simp at *; done) | (simp at *; omega), ho⟩
        clear hb27 ho
        go_wp2_with fail
        refine (HIM hbk _ _ _ _ _ _ _ _ _ _ _ _ _ _ _ _ _ (HOThA1_0.out.rd) rfl (HOThA1_1.out.rd) rfl (HOThA2.out.rd) rfl (HOThA3.out.rd) rfl).mono ?_
        rintro e w28 ⟨hAr0_0, hcr0_0, lohAr0_0, hihAr0_0, hAr0_1, hcr0_1, lohAr0_1, hihAr0_1, rfl, ⟨hahAr0_0, hchAr0_0, ho0⟩, ⟨hahAr0_1, hchAr0_1, ho1⟩, hdhAr0_0_hAr0_1, hb28⟩
        have hz28 : w27.heap.size ≤ w28.heap.size := by have := hb28.size; first | omega | (simp at this; omega)
        have hzz28 : w.heap.size ≤ w28.heap.size := by omega
        have HB28 : Hid (Below w.heap.size w w28) := below_then (by ((repeat (first | refine Below.alloc ?_ (by first | omega | (simp; done) | (simp; omega)) _ | refine Below.drew ?_)); exact HB27.out)) hb28 (by first | omega | (simp; done) | (simp; omega))
        replace HXaS : Hid (Box w28 (w.heap.size) [.int .i64 z1_0, .slice A1_0 n1_0 c1_0, .int .i64 z1_1, .slice A1_1 n1_1 c1_1, .int .i64 d1_0.num, .int .i64 d1_0.size, .string d1_0.root, .int .i64 d1_0.taken, .string d1_0.troot]) := Box.below HXaS.out hb28
        clear hxaS hkaS
        have hxaS := HXaS.out.2
        have hkaS := HXaS.out.1
        replace HXw0 : Hid (Box w28 (w7.heap.size) [.int .i64 zr0_0, .slice wAr0_0 nr0_0 wcr0_0, .int .i64 zr0_1, .slice wAr0_1 nr0_1 wcr0_1, .int .i64 dr0_0.num, .int .i64 dr0_0.size, .string dr0_0.root, .int .i64 dr0_0.taken, .string dr0_0.troot]) := Box.below HXw0.out hb28
        clear hxw0 hkw0
        have hxw0 := HXw0.out.2
        have hkw0 := HXw0.out.1
        replace HXx1 : Hid (Box w28 (w8.heap.size) [.int .i64 z1_0, .slice Tx1A1_0 n1_0 n1_0, .int .i64 z1_1, .slice Tx1A1_1 n1_1 n1_1, .int .i64 d1_0.num, .int .i64 d1_0.size, .string d1_0.root, .int .i64 d1_0.taken, .string d1_0.troot]) := Box.below HXx1.out hb28
        clear hxx1 hkx1
        have hxx1 := HXx1.out.2
        have hkx1 := HXx1.out.1
        replace HXg0 : Hid (Box w28 (w11.heap.size) [.int .i64 zr0_0, .slice gAr0_0 nr0_0 gcr0_0, .int .i64 zr0_1, .slice gAr0_1 nr0_1 gcr0_1, .int .i64 dr0_0.num, .int .i64 dr0_0.size, .string dr0_0.root, .int .i64 dr0_0.taken, .string dr0_0.troot]) := Box.below HXg0.out hb28
        clear hxg0 hkg0
        have hxg0 := HXg0.out.2
        have hkg0 := HXg0.out.1
        replace HOTwA1_0 : Hid (Own w28 qTwA1_0 mm4_1 TwA1_0 (strs l1_0)) := HOTwA1_0.out.below hb28
        replace HOTwA1_1 : Hid (Own w28 qTwA1_1 w4.heap.size TwA1_1 (strs l1_1)) := HOTwA1_1.out.below hb28
        replace HOTwA2 : Hid (Own w28 qTwA2 w5.heap.size TwA2 (strs l2)) := HOTwA2.out.below hb28
        replace HOTwA3 : Hid (Own w28 qTwA3 w6.heap.size TwA3 (strs l3)) := HOTwA3.out.below hb28
        replace HOwAr0_0 : Hid (Own w28 lowAr0_0 hiwAr0_0 wAr0_0 (strs lr0_0)) := HOwAr0_0.out.below hb28
        replace HOwAr0_1 : Hid (Own w28 lowAr0_1 hiwAr0_1 wAr0_1 (strs lr0_1)) := HOwAr0_1.out.below hb28
        replace HOgAr0_0 : Hid (Own w28 logAr0_0 higAr0_0 gAr0_0 (strs (marks (1) nr0_0))) := HOgAr0_0.out.below hb28
        replace HOgAr0_1 : Hid (Own w28 logAr0_1 higAr0_1 gAr0_1 (strs (marks (1 + nr0_0) nr0_1))) := HOgAr0_1.out.below hb28
        replace HOThA1_0 : Hid (Own w28 qThA1_0 mm25_1 ThA1_0 (strs l1_0)) := HOThA1_0.out.below hb28
        replace HOThA1_1 : Hid (Own w28 qThA1_1 w25.heap.size ThA1_1 (strs l1_1)) := HOThA1_1.out.below hb28
        replace HOThA2 : Hid (Own w28 qThA2 w26.heap.size ThA2 (strs l2)) := HOThA2.out.below hb28
        replace HOThA3 : Hid (Own w28 qThA3 w27.heap.size ThA3 (strs l3)) := HOThA3.out.below hb28
        have hqhAr0_0 : w27.heap.size ≤ lohAr0_0 := by first | omega | (simp at *; omega)
        have HOhAr0_0 := Lib.hid ho0
        have hqhAr0_1 : w27.heap.size ≤ lohAr0_1 := by first | omega | (simp at *; omega)
        have HOhAr0_1 := Lib.hid ho1
        clear hb28 ho0 ho1
        go_wp2_with fail
        refine (eqSeal_c zr0_0 zr0_1 dr0_0 hAr0_0 hAr0_1 hcr0_0 hcr0_1 nr0_0 nr0_1 lr0_0 lr0_1 wAr0_0 wAr0_1 wcr0_0 wcr0_1 _ _ _ _ _ _ _ _  _ ((HOhAr0_0.out.rd).alloc _) ((HOwAr0_0.out.rd).alloc _) HRNAr0_0.out (by unfold maxLen; omega) ((HOhAr0_1.out.rd).alloc _) ((HOwAr0_1.out.rd).alloc _) HRNAr0_1.out (by unfold maxLen; omega)).mono ?_
        rintro e w29 ⟨rfl, hb29⟩
        have hz29 : w28.heap.size + 1 ≤ w29.heap.size := by have := hb29.size; first | omega | (simp at this; omega)
        have hzz29 : w.heap.size ≤ w29.heap.size := by omega
        have HB29 : Hid (Below w.heap.size w w29) := below_then (by ((repeat (first | refine Below.alloc ?_ (by first | omega | (simp; done) | (simp; omega)) _ | refine Below.drew ?_)); exact HB28.out)) hb29 (by first | omega | (simp; done) | (simp; omega))
        replace HXaS : Hid (Box w29 (w.heap.size) [.int .i64 z1_0, .slice A1_0 n1_0 c1_0, .int .i64 z1_1, .slice A1_1 n1_1 c1_1, .int .i64 d1_0.num, .int .i64 d1_0.size, .string d1_0.root, .int .i64 d1_0.taken, .string d1_0.troot]) := Box.below (HXaS.out.alloc _) hb29
        clear hxaS hkaS
        have hxaS := HXaS.out.2
        have hkaS := HXaS.out.1
        replace HXw0 : Hid (Box w29 (w7.heap.size) [.int .i64 zr0_0, .slice wAr0_0 nr0_0 wcr0_0, .int .i64 zr0_1, .slice wAr0_1 nr0_1 wcr0_1, .int .i64 dr0_0.num, .int .i64 dr0_0.size, .string dr0_0.root, .int .i64 dr0_0.taken, .string dr0_0.troot]) := Box.below (HXw0.out.alloc _) hb29
        clear hxw0 hkw0
        have hxw0 := HXw0.out.2
        have hkw0 := HXw0.out.1
        replace HXx1 : Hid (Box w29 (w8.heap.size) [.int .i64 z1_0, .slice Tx1A1_0 n1_0 n1_0, .int .i64 z1_1, .slice Tx1A1_1 n1_1 n1_1, .int .i64 d1_0.num, .int .i64 d1_0.size, .string d1_0.root, .int .i64 d1_0.taken, .string d1_0.troot]) := Box.below (HXx1.out.alloc _) hb29
        clear hxx1 hkx1
        have hxx1 := HXx1.out.2
        have hkx1 := HXx1.out.1
        replace HXg0 : Hid (Box w29 (w11.heap.size) [.int .i64 zr0_0, .slice gAr0_0 nr0_0 gcr0_0, .int .i64 zr0_1, .slice gAr0_1 nr0_1 gcr0_1, .int .i64 dr0_0.num, .int .i64 dr0_0.size, .string dr0_0.root, .int .i64 dr0_0.taken, .string dr0_0.troot]) := Box.below (HXg0.out.alloc _) hb29
        clear hxg0 hkg0
        have hxg0 := HXg0.out.2
        have hkg0 := HXg0.out.1
        have HXh0 : Hid (Box w29 (w28.heap.size) [.int .i64 zr0_0, .slice hAr0_0 nr0_0 hcr0_0, .int .i64 zr0_1, .slice hAr0_1 nr0_1 hcr0_1, .int .i64 dr0_0.num, .int .i64 dr0_0.size, .string dr0_0.root, .int .i64 dr0_0.taken, .string dr0_0.troot]) := Box.below (Box.new0 _ _ _) hb29
        have hxh0 := HXh0.out.2
        have hkh0 := HXh0.out.1
        replace HOTwA1_0 : Hid (Own w29 qTwA1_0 mm4_1 TwA1_0 (strs l1_0)) := (HOTwA1_0.out.alloc _).below hb29
        replace HOTwA1_1 : Hid (Own w29 qTwA1_1 w4.heap.size TwA1_1 (strs l1_1)) := (HOTwA1_1.out.alloc _).below hb29
        replace HOTwA2 : Hid (Own w29 qTwA2 w5.heap.size TwA2 (strs l2)) := (HOTwA2.out.alloc _).below hb29
        replace HOTwA3 : Hid (Own w29 qTwA3 w6.heap.size TwA3 (strs l3)) := (HOTwA3.out.alloc _).below hb29
        replace HOwAr0_0 : Hid (Own w29 lowAr0_0 hiwAr0_0 wAr0_0 (strs lr0_0)) := (HOwAr0_0.out.alloc _).below hb29
        replace HOwAr0_1 : Hid (Own w29 lowAr0_1 hiwAr0_1 wAr0_1 (strs lr0_1)) := (HOwAr0_1.out.alloc _).below hb29
        replace HOgAr0_0 : Hid (Own w29 logAr0_0 higAr0_0 gAr0_0 (strs (marks (1) nr0_0))) := (HOgAr0_0.out.alloc _).below hb29
        replace HOgAr0_1 : Hid (Own w29 logAr0_1 higAr0_1 gAr0_1 (strs (marks (1 + nr0_0) nr0_1))) := (HOgAr0_1.out.alloc _).below hb29
        replace HOThA1_0 : Hid (Own w29 qThA1_0 mm25_1 ThA1_0 (strs l1_0)) := (HOThA1_0.out.alloc _).below hb29
        replace HOThA1_1 : Hid (Own w29 qThA1_1 w25.heap.size ThA1_1 (strs l1_1)) := (HOThA1_1.out.alloc _).below hb29
        replace HOThA2 : Hid (Own w29 qThA2 w26.heap.size ThA2 (strs l2)) := (HOThA2.out.alloc _).below hb29
        replace HOThA3 : Hid (Own w29 qThA3 w27.heap.size ThA3 (strs l3)) := (HOThA3.out.alloc _).below hb29
        replace HOhAr0_0 : Hid (Own w29 lohAr0_0 hihAr0_0 hAr0_0 (strs lr0_0)) := (HOhAr0_0.out.alloc _).below hb29
        replace HOhAr0_1 : Hid (Own w29 lohAr0_1 hihAr0_1 hAr0_1 (strs lr0_1)) := (HOhAr0_1.out.alloc _).below hb29
        clear hb29
        go_wp2_with fail
        refine (heldSeal_c zr0_0 zr0_1 dr0_0 gAr0_0 gAr0_1 gcr0_0 gcr0_1 nr0_0 nr0_1 _ _ _ _ (1) _ _ (by omega) (HOgAr0_0.out.rd) (HOgAr0_1.out.rd) (by omega)).mono ?_
        rintro e w30 ⟨rfl, hb30⟩
        have hz30 : w29.heap.size ≤ w30.heap.size := by have := hb30.size; first | omega | (simp at this; omega)
        have hzz30 : w.heap.size ≤ w30.heap.size := by omega
        have HB30 : Hid (Below w.heap.size w w30) := below_then (by ((repeat (first | refine Below.alloc ?_ (by first | omega | (simp; done) | (simp; omega)) _ | refine Below.drew ?_)); exact HB29.out)) hb30 (by first | omega | (simp; done) | (simp; omega))
        replace HXaS : Hid (Box w30 (w.heap.size) [.int .i64 z1_0, .slice A1_0 n1_0 c1_0, .int .i64 z1_1, .slice A1_1 n1_1 c1_1, .int .i64 d1_0.num, .int .i64 d1_0.size, .string d1_0.root, .int .i64 d1_0.taken, .string d1_0.troot]) := Box.below HXaS.out hb30
        clear hxaS hkaS
        have hxaS := HXaS.out.2
        have hkaS := HXaS.out.1
        replace HXw0 : Hid (Box w30 (w7.heap.size) [.int .i64 zr0_0, .slice wAr0_0 nr0_0 wcr0_0, .int .i64 zr0_1, .slice wAr0_1 nr0_1 wcr0_1, .int .i64 dr0_0.num, .int .i64 dr0_0.size, .string dr0_0.root, .int .i64 dr0_0.taken, .string dr0_0.troot]) := Box.below HXw0.out hb30
        clear hxw0 hkw0
        have hxw0 := HXw0.out.2
        have hkw0 := HXw0.out.1
        replace HXx1 : Hid (Box w30 (w8.heap.size) [.int .i64 z1_0, .slice Tx1A1_0 n1_0 n1_0, .int .i64 z1_1, .slice Tx1A1_1 n1_1 n1_1, .int .i64 d1_0.num, .int .i64 d1_0.size, .string d1_0.root, .int .i64 d1_0.taken, .string d1_0.troot]) := Box.below HXx1.out hb30
        clear hxx1 hkx1
        have hxx1 := HXx1.out.2
        have hkx1 := HXx1.out.1
        replace HXg0 : Hid (Box w30 (w11.heap.size) [.int .i64 zr0_0, .slice gAr0_0 nr0_0 gcr0_0, .int .i64 zr0_1, .slice gAr0_1 nr0_1 gcr0_1, .int .i64 dr0_0.num, .int .i64 dr0_0.size, .string dr0_0.root, .int .i64 dr0_0.taken, .string dr0_0.troot]) := Box.below HXg0.out hb30
        clear hxg0 hkg0
        have hxg0 := HXg0.out.2
        have hkg0 := HXg0.out.1
        replace HXh0 : Hid (Box w30 (w28.heap.size) [.int .i64 zr0_0, .slice hAr0_0 nr0_0 hcr0_0, .int .i64 zr0_1, .slice hAr0_1 nr0_1 hcr0_1, .int .i64 dr0_0.num, .int .i64 dr0_0.size, .string dr0_0.root, .int .i64 dr0_0.taken, .string dr0_0.troot]) := Box.below HXh0.out hb30
        clear hxh0 hkh0
        have hxh0 := HXh0.out.2
        have hkh0 := HXh0.out.1
        replace HOTwA1_0 : Hid (Own w30 qTwA1_0 mm4_1 TwA1_0 (strs l1_0)) := HOTwA1_0.out.below hb30
        replace HOTwA1_1 : Hid (Own w30 qTwA1_1 w4.heap.size TwA1_1 (strs l1_1)) := HOTwA1_1.out.below hb30
        replace HOTwA2 : Hid (Own w30 qTwA2 w5.heap.size TwA2 (strs l2)) := HOTwA2.out.below hb30
        replace HOTwA3 : Hid (Own w30 qTwA3 w6.heap.size TwA3 (strs l3)) := HOTwA3.out.below hb30
        replace HOwAr0_0 : Hid (Own w30 lowAr0_0 hiwAr0_0 wAr0_0 (strs lr0_0)) := HOwAr0_0.out.below hb30
        replace HOwAr0_1 : Hid (Own w30 lowAr0_1 hiwAr0_1 wAr0_1 (strs lr0_1)) := HOwAr0_1.out.below hb30
        replace HOgAr0_0 : Hid (Own w30 logAr0_0 higAr0_0 gAr0_0 (strs (marks (1) nr0_0))) := HOgAr0_0.out.below hb30
        replace HOgAr0_1 : Hid (Own w30 logAr0_1 higAr0_1 gAr0_1 (strs (marks (1 + nr0_0) nr0_1))) := HOgAr0_1.out.below hb30
        replace HOThA1_0 : Hid (Own w30 qThA1_0 mm25_1 ThA1_0 (strs l1_0)) := HOThA1_0.out.below hb30
        replace HOThA1_1 : Hid (Own w30 qThA1_1 w25.heap.size ThA1_1 (strs l1_1)) := HOThA1_1.out.below hb30
        replace HOThA2 : Hid (Own w30 qThA2 w26.heap.size ThA2 (strs l2)) := HOThA2.out.below hb30
        replace HOThA3 : Hid (Own w30 qThA3 w27.heap.size ThA3 (strs l3)) := HOThA3.out.below hb30
        replace HOhAr0_0 : Hid (Own w30 lohAr0_0 hihAr0_0 hAr0_0 (strs lr0_0)) := HOhAr0_0.out.below hb30
        replace HOhAr0_1 : Hid (Own w30 lohAr0_1 hihAr0_1 hAr0_1 (strs lr0_1)) := HOhAr0_1.out.below hb30
        clear hb30
        generalize hkk : ((1 + nr0_0 + nr0_1 : Nat) : Int) = kq30
        have hk0q30 : 0 ≤ kq30 := by omega
        have hkdq30 : decide (kq30 < 0) = false := by simp; omega
        have HKq30 := Lib.hid hkk
        clear hkk
        obtain rfl : kq30 = kq24 := HKq30.out.symm.trans HKq24.out
        go_wp2
        go_ret
        exact ⟨rfl, HB30.out⟩

section
open Go.ChangeShapes Go.WideShapes Go.ChangeAt
open Go.ChangeMaps (open_string)
set_option maxRecDepth 100000 in
theorem lifted_SealMore (f0 : Int → Int → Int → Hd → (List ByteArray) → (List ByteArray) → (List ByteArray) → (List ByteArray) → Int) (f1 : Int → Int → Int → Hd → (List ByteArray) → (List ByteArray) → (List ByteArray) → (List ByteArray) → Int) (f2 : Int → Int → Int → Hd → (List ByteArray) → (List ByteArray) → (List ByteArray) → (List ByteArray) → Hd) (f3 : Int → Int → Int → Hd → (List ByteArray) → (List ByteArray) → (List ByteArray) → (List ByteArray) → List ByteArray) (f4 : Int → Int → Int → Hd → (List ByteArray) → (List ByteArray) → (List ByteArray) → (List ByteArray) → List ByteArray) (f5 : Int → Int → Int → Hd → (List ByteArray) → (List ByteArray) → (List ByteArray) → (List ByteArray) → Int) (f6 : Int → Int → Int → Hd → (List ByteArray) → (List ByteArray) → (List ByteArray) → (List ByteArray) → Int) (hsp : ∀ (z0 : Int) (z1_0 : Int) (z1_1 : Int) (d1_0 : Hd) (l1_0 : List ByteArray) (l1_1 : List ByteArray) (l2 : List ByteArray) (l3 : List ByteArray), (I64 z0) → (I64 z1_0) → (I64 z1_1) → (d1_0.fits) → specSealMore_does z0 z1_0 z1_1 d1_0 l1_0.length l1_1.length l1_0 l1_1 l2.length l2 l3.length l3 (f0 z0 z1_0 z1_1 d1_0 l1_0 l1_1 l2 l3) (f1 z0 z1_0 z1_1 d1_0 l1_0 l1_1 l2 l3) (f2 z0 z1_0 z1_1 d1_0 l1_0 l1_1 l2 l3) (f3 z0 z1_0 z1_1 d1_0 l1_0 l1_1 l2 l3).length (f4 z0 z1_0 z1_1 d1_0 l1_0 l1_1 l2 l3).length (f3 z0 z1_0 z1_1 d1_0 l1_0 l1_1 l2 l3) (f4 z0 z1_0 z1_1 d1_0 l1_0 l1_1 l2 l3) (f5 z0 z1_0 z1_1 d1_0 l1_0 l1_1 l2 l3) (f6 z0 z1_0 z1_1 d1_0 l1_0 l1_1 l2 l3)) (him : ∀ (z0 : Int) (z1_0 : Int) (z1_1 : Int) (d1_0 : Hd) (l1_0 : List ByteArray) (l1_1 : List ByteArray) (l2 : List ByteArray) (l3 : List ByteArray), (I64 z0) → (I64 z1_0) → (I64 z1_1) → (d1_0.fits) → implSealMore_does z0 z1_0 z1_1 d1_0 l1_0.length l1_1.length l1_0 l1_1 l2.length l2 l3.length l3 (f0 z0 z1_0 z1_1 d1_0 l1_0 l1_1 l2 l3) (f1 z0 z1_0 z1_1 d1_0 l1_0 l1_1 l2 l3) (f2 z0 z1_0 z1_1 d1_0 l1_0 l1_1 l2 l3) (f3 z0 z1_0 z1_1 d1_0 l1_0 l1_1 l2 l3).length (f4 z0 z1_0 z1_1 d1_0 l1_0 l1_1 l2 l3).length (f3 z0 z1_0 z1_1 d1_0 l1_0 l1_1 l2 l3) (f4 z0 z1_0 z1_1 d1_0 l1_0 l1_1 l2 l3) (f5 z0 z1_0 z1_1 d1_0 l1_0 l1_1 l2 l3) (f6 z0 z1_0 z1_1 d1_0 l1_0 l1_1 l2 l3)) (hlen0 : ∀ (z0 : Int) (z1_0 : Int) (z1_1 : Int) (d1_0 : Hd) (l1_0 : List ByteArray) (l1_1 : List ByteArray) (l2 : List ByteArray) (l3 : List ByteArray), (I64 z0) → (I64 z1_0) → (I64 z1_1) → (d1_0.fits) → (((l1_0.length + bulkS l1_0)) + ((l1_1.length + bulkS l1_1)) + d1_0.bulk) + (l2.length + bulkS l2) + (l3.length + bulkS l3) ≤ 1048576 → (f3 z0 z1_0 z1_1 d1_0 l1_0 l1_1 l2 l3).length ≤ 2000000) (hlen1 : ∀ (z0 : Int) (z1_0 : Int) (z1_1 : Int) (d1_0 : Hd) (l1_0 : List ByteArray) (l1_1 : List ByteArray) (l2 : List ByteArray) (l3 : List ByteArray), (I64 z0) → (I64 z1_0) → (I64 z1_1) → (d1_0.fits) → (((l1_0.length + bulkS l1_0)) + ((l1_1.length + bulkS l1_1)) + d1_0.bulk) + (l2.length + bulkS l2) + (l3.length + bulkS l3) ≤ 1048576 → (f4 z0 z1_0 z1_1 d1_0 l1_0 l1_1 l2 l3).length ≤ 2000000) (os : Os) (started : os.Started) (H : Type) (enc : TypeId × Value → H) :
    ReturnsInHanded {} Try.checked os 25 .any (Rows.fnExactSealMoreSpec.pre6 enc Try.prog Try.f25 Rows.fnExactSealMoreRow.domain false) (Rows.fnExactSealMoreSpec.post enc Try.prog Try.f25 false true false false) := by
  refine returnsInHanded_of_change (C := Try.checked) Try.own started (by kernel_rfl) Try.func25
    (ChangeSpec.witness6 (enc := enc) (C := Try.checked) false ⟨#[], #[.int .i64 0, .agg #[.int .i64 0, .slice none 0 0, .int .i64 0, .slice none 0 0, .int .i64 0, .int .i64 0, .string ByteArray.empty, .int .i64 0, .string ByteArray.empty], .slice none 0 0, .slice none 0 0], []⟩ 8 (by kernel_rfl) (by kernel_rfl) (by kernel_rfl) (by kernel_rfl)) ?_
  intro W base args ds gs before hval0 hW hcnd _
  have hval : ∀ (j : Nat) t v, Try.f25.params[j]? = some t → args[j]? = some v → Value.okWide Try.prog W .any base t v := hval0
  have hW' := hW
  obtain ⟨p, q, hA0, hV, rfl, hfz, hnd⟩ := hW
  have hA : DataW.TrodAll enc Try.prog W 0 (fun _ => true) true Try.f25.params.toList args.toList ds p := hA0
  rw [Try.params25] at hA hval
  obtain ⟨v0, vs0, d0, ds0, p0, q0, hargs, rfl, rfl, h0, r0⟩ := trodAll_cons hA
  obtain ⟨v1, vs1, d1, ds1, p1, q1, rfl, rfl, rfl, h1, r1⟩ := trodAll_cons r0
  obtain ⟨v2, vs2, d2, ds2, p2, q2, rfl, rfl, rfl, h2, r2⟩ := trodAll_cons r1
  obtain ⟨v3, vs3, d3, ds3, p3, q3, rfl, rfl, rfl, h3, r3⟩ := trodAll_cons r2
  obtain ⟨rfl, rfl, rfl⟩ := trodAll_nil r3
  obtain rfl : args = #[v0, v1, v2, v3] := by cases args; simp_all
  obtain ⟨rfl, rfl⟩ := trodVars_none hV
  have lt0 : ∀ x ∈ p0, x.block < W.heap.size := by obtain ⟨m, hm⟩ := h0; exact DataW.trod_lt m _ _ _ hm
  have kk0 := h0
  have lt1 : ∀ x ∈ p1, x.block < W.heap.size := by obtain ⟨m, hm⟩ := h1; exact DataW.trod_lt m _ _ _ hm
  have kk1 := h1
  have lt2 : ∀ x ∈ p2, x.block < W.heap.size := by obtain ⟨m, hm⟩ := h2; exact DataW.trod_lt m _ _ _ hm
  have kk2 := h2
  have lt3 : ∀ x ∈ p3, x.block < W.heap.size := by obtain ⟨m, hm⟩ := h3; exact DataW.trod_lt m _ _ _ hm
  have kk3 := h3
  obtain ⟨z0, rfl, rfl, rfl, wi0⟩ := open_int Try.underlying3 (hval 0 _ v0 rfl rfl) h0
  have hiz0 : I64 z0 := i64_of_wf wi0
  obtain ⟨z1_0, z1_1, d1_0, A1_0, A1_1, n1_0, c1_0, n1_1, c1_1, l1_0, l1_1, rfl, hiz1_0, hiz1_1, hid1_0, o1_0, hil1_0, o1_1, hil1_1⟩ := open_Seal (hval 1 _ v1 rfl rfl) h1
  obtain ⟨rfl, o1_0b, o1_0c, o1_0d⟩ := o1_0
  obtain ⟨rfl, o1_1b, o1_1c, o1_1d⟩ := o1_1
  obtain ⟨A2, n2, c2, l2, rfl, o2, hil2⟩ := open_strs (hval 2 _ v2 rfl rfl) h2
  obtain ⟨rfl, o2b, o2c, o2d⟩ := o2
  obtain ⟨A3, n3, c3, l3, rfl, o3, hil3⟩ := open_strs (hval 3 _ v3 rfl rfl) h3
  obtain ⟨rfl, o3b, o3c, o3d⟩ := o3
  clear hA0 hval0
  refine (walk_SealMore z0 z1_0 z1_1 d1_0 A1_0 A1_1 c1_0 c1_1 _ _ l1_0 l1_1 A2 c2 _ l2 A3 c3 _ l3 _ _ _ _ _ _ _ _ _ W o1_0d rfl (Nat.le_trans o1_0b o1_0c) hil1_0 o1_1d rfl (Nat.le_trans o1_1b o1_1c) hil1_1 hid1_0 o2d rfl (Nat.le_trans o2b o2c) hil2 o3d rfl (Nat.le_trans o3b o3c) hil3 rfl (hlen0 z0 z1_0 z1_1 d1_0 l1_0 l1_1 l2 l3 hiz0 hiz1_0 hiz1_1 hid1_0) rfl (hlen1 z0 z1_0 z1_1 d1_0 l1_0 l1_1 l2 l3 hiz0 hiz1_0 hiz1_1 hid1_0) (hsp z0 z1_0 z1_1 d1_0 l1_0 l1_1 l2 l3 hiz0 hiz1_0 hiz1_1 hid1_0) (him z0 z1_0 z1_1 d1_0 l1_0 l1_1 l2 l3 hiz0 hiz1_0 hiz1_1 hid1_0)).mono fun e W' ⟨he, bel⟩ => ?_
  subst he
  exact ⟨_, rfl, _, _, _, [], _, [], hW', trodAll_mk1 (shut_bool Try.underlying4 _), (trodAll_cons_mk (Below.trod Try.laidOut (by kernel_rfl) (of_decide_eq_true (by kernel_rfl)) kk0 bel lt0) (trodAll_cons_mk (Below.trod Try.laidOut (by kernel_rfl) (of_decide_eq_true (by kernel_rfl)) kk1 bel lt1) (trodAll_cons_mk (Below.trod Try.laidOut (by kernel_rfl) (of_decide_eq_true (by kernel_rfl)) kk2 bel lt2) (trodAll_cons_mk (Below.trod Try.laidOut (by kernel_rfl) (of_decide_eq_true (by kernel_rfl)) kk3 bel lt3) trodAll_mk0)))), rfl, bel.frame _, fun h => by cases h⟩
theorem said_SealMore (f0 : Int → Int → Int → Hd → (List ByteArray) → (List ByteArray) → (List ByteArray) → (List ByteArray) → Int) (f1 : Int → Int → Int → Hd → (List ByteArray) → (List ByteArray) → (List ByteArray) → (List ByteArray) → Int) (f2 : Int → Int → Int → Hd → (List ByteArray) → (List ByteArray) → (List ByteArray) → (List ByteArray) → Hd) (f3 : Int → Int → Int → Hd → (List ByteArray) → (List ByteArray) → (List ByteArray) → (List ByteArray) → List ByteArray) (f4 : Int → Int → Int → Hd → (List ByteArray) → (List ByteArray) → (List ByteArray) → (List ByteArray) → List ByteArray) (f5 : Int → Int → Int → Hd → (List ByteArray) → (List ByteArray) → (List ByteArray) → (List ByteArray) → Int) (f6 : Int → Int → Int → Hd → (List ByteArray) → (List ByteArray) → (List ByteArray) → (List ByteArray) → Int) (hsp : ∀ (z0 : Int) (z1_0 : Int) (z1_1 : Int) (d1_0 : Hd) (l1_0 : List ByteArray) (l1_1 : List ByteArray) (l2 : List ByteArray) (l3 : List ByteArray), (I64 z0) → (I64 z1_0) → (I64 z1_1) → (d1_0.fits) → specSealMore_does z0 z1_0 z1_1 d1_0 l1_0.length l1_1.length l1_0 l1_1 l2.length l2 l3.length l3 (f0 z0 z1_0 z1_1 d1_0 l1_0 l1_1 l2 l3) (f1 z0 z1_0 z1_1 d1_0 l1_0 l1_1 l2 l3) (f2 z0 z1_0 z1_1 d1_0 l1_0 l1_1 l2 l3) (f3 z0 z1_0 z1_1 d1_0 l1_0 l1_1 l2 l3).length (f4 z0 z1_0 z1_1 d1_0 l1_0 l1_1 l2 l3).length (f3 z0 z1_0 z1_1 d1_0 l1_0 l1_1 l2 l3) (f4 z0 z1_0 z1_1 d1_0 l1_0 l1_1 l2 l3) (f5 z0 z1_0 z1_1 d1_0 l1_0 l1_1 l2 l3) (f6 z0 z1_0 z1_1 d1_0 l1_0 l1_1 l2 l3)) (him : ∀ (z0 : Int) (z1_0 : Int) (z1_1 : Int) (d1_0 : Hd) (l1_0 : List ByteArray) (l1_1 : List ByteArray) (l2 : List ByteArray) (l3 : List ByteArray), (I64 z0) → (I64 z1_0) → (I64 z1_1) → (d1_0.fits) → implSealMore_does z0 z1_0 z1_1 d1_0 l1_0.length l1_1.length l1_0 l1_1 l2.length l2 l3.length l3 (f0 z0 z1_0 z1_1 d1_0 l1_0 l1_1 l2 l3) (f1 z0 z1_0 z1_1 d1_0 l1_0 l1_1 l2 l3) (f2 z0 z1_0 z1_1 d1_0 l1_0 l1_1 l2 l3) (f3 z0 z1_0 z1_1 d1_0 l1_0 l1_1 l2 l3).length (f4 z0 z1_0 z1_1 d1_0 l1_0 l1_1 l2 l3).length (f3 z0 z1_0 z1_1 d1_0 l1_0 l1_1 l2 l3) (f4 z0 z1_0 z1_1 d1_0 l1_0 l1_1 l2 l3) (f5 z0 z1_0 z1_1 d1_0 l1_0 l1_1 l2 l3) (f6 z0 z1_0 z1_1 d1_0 l1_0 l1_1 l2 l3)) (hlen0 : ∀ (z0 : Int) (z1_0 : Int) (z1_1 : Int) (d1_0 : Hd) (l1_0 : List ByteArray) (l1_1 : List ByteArray) (l2 : List ByteArray) (l3 : List ByteArray), (I64 z0) → (I64 z1_0) → (I64 z1_1) → (d1_0.fits) → (((l1_0.length + bulkS l1_0)) + ((l1_1.length + bulkS l1_1)) + d1_0.bulk) + (l2.length + bulkS l2) + (l3.length + bulkS l3) ≤ 1048576 → (f3 z0 z1_0 z1_1 d1_0 l1_0 l1_1 l2 l3).length ≤ 2000000) (hlen1 : ∀ (z0 : Int) (z1_0 : Int) (z1_1 : Int) (d1_0 : Hd) (l1_0 : List ByteArray) (l1_1 : List ByteArray) (l2 : List ByteArray) (l3 : List ByteArray), (I64 z0) → (I64 z1_0) → (I64 z1_1) → (d1_0.fits) → (((l1_0.length + bulkS l1_0)) + ((l1_1.length + bulkS l1_1)) + d1_0.bulk) + (l2.length + bulkS l2) + (l3.length + bulkS l3) ≤ 1048576 → (f4 z0 z1_0 z1_1 d1_0 l1_0 l1_1 l2 l3).length ≤ 2000000) : Rows.FnExactSealMoreSaid :=
  OpenClaim.holds_of_wide 25 Try.f25 rfl rfl rfl rfl rfl rfl rfl ⟨rfl, rfl, rfl, rfl, rfl⟩ rfl rfl rfl rfl rfl (by kernel_rfl) Try.func25 (by show joinedFacts Try.prog 25 Try.f25 Rows.fnExactSealMoreSpec Rows.fnExactSealMoreRow = true; unfold joinedFacts; rw [seat_enter, seat_final, seat_make]; kernel_rfl)
    (of_decide_eq_true (by kernel_rfl)) (by unfold Func.isWrapper; first | (rw [if_pos (by decide +kernel)]; kernel_rfl) | (rw [if_neg (by decide +kernel)]; exact ⟨rfl, rfl⟩))
    (fun os started H enc _ => lifted_SealMore f0 f1 f2 f3 f4 f5 f6 hsp him hlen0 hlen1 os started H enc)
end
end Go.Proofs.Ytojjjhbiccgjkaa
