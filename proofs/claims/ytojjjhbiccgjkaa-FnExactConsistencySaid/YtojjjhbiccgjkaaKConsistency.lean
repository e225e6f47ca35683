/- The walk of the law FnExactConsistency; what spec.Consistency and impl.Consistency do comes in as hypotheses. Written by gen_law.py. -/
import Derived.Test.YtojjjhbiccgjkaaData
import Derived.Test.YtojjjhbiccgjkaaStr
import Derived.Test.YtojjjhbiccgjkaaOpen
import Derived.Test.YtojjjhbiccgjkaaSeat
namespace Go.Proofs.Ytojjjhbiccgjkaa
set_option linter.unusedVariables false
set_option linter.unusedSimpArgs false
open Go.RowKit
attribute [local go_sem ↓] Go.wp_at_zero Go.wp_at_succ

def specConsistency_does (z0 : Int) (n1 : Nat) (l1 : List ByteArray) (z2 : Int) (nr0 : Nat) (lr0 : List ByteArray) (br1 : Bool) : Prop :=
    (n1 + bulkS l1) ≤ 1048576 → ∀ (B1 : Option Addr) (g1 aA1 bA1 : Nat) (W : World), Rd W aA1 bA1 B1 (strs l1) → g1 = n1 → Calls Try.prog 75 #[.int .i64 z0, .slice B1 n1 g1, .int .i64 z2] W fun r W' => ∃ (Ar0 : Option Addr) (cr0 : Nat), r = .returned (.tuple #[.slice Ar0 nr0 cr0, .bool br1]) ∧ Own W' W.heap.size W'.heap.size Ar0 (strs lr0) ∧ Below W.heap.size W W'
def implConsistency_does (z0 : Int) (n1 : Nat) (l1 : List ByteArray) (z2 : Int) (nr0 : Nat) (lr0 : List ByteArray) (br1 : Bool) : Prop :=
    (n1 + bulkS l1) ≤ 1048576 → ∀ (B1 : Option Addr) (g1 aA1 bA1 : Nat) (W : World), Rd W aA1 bA1 B1 (strs l1) → g1 = n1 → Calls Try.prog 76 #[.int .i64 z0, .slice B1 n1 g1, .int .i64 z2] W fun r W' => ∃ (Ar0 : Option Addr) (cr0 : Nat), r = .returned (.tuple #[.slice Ar0 nr0 cr0, .bool br1]) ∧ Own W' W.heap.size W'.heap.size Ar0 (strs lr0) ∧ Below W.heap.size W W'
set_option maxRecDepth 100000 in
set_option maxHeartbeats 4000000 in
theorem walk_Consistency (z0 : Int) (A1 : Option Addr) (c1 : Nat) (n1 : Nat) (l1 : List ByteArray) (z2 : Int) (nr0 : Nat) (lr0 : List ByteArray) (br1 : Bool) (w : World) (hrA1 : Rd w 0 w.heap.size A1 (strs l1)) (hnA1 : l1.length = n1) (hlA1 : n1 ≤ maxLen) (hsA1 : ∀ x ∈ l1, x.size ≤ maxLen) (hrnAr0 : lr0.length = nr0) (hrlAr0 : (n1 + bulkS l1) ≤ 1048576 → nr0 ≤ 2000000) (HSP : specConsistency_does z0 n1 l1 z2 nr0 lr0 br1) (HIM : implConsistency_does z0 n1 l1 z2 nr0 lr0 br1) :
    Calls Try.prog 18 #[.int .i64 z0, .slice A1 n1 c1, .int .i64 z2] w fun e w' => e = .returned (.bool true) ∧ Below w.heap.size w w' := by
  have HNA1 := Lib.hid hnA1
  have HSA1 := Lib.hid hsA1
  clear hnA1 hsA1
  have HRNAr0 := Lib.hid hrnAr0
  have HRLAr0 := Lib.hid hrlAr0
  clear hrnAr0 hrlAr0
  have HB0 : Hid (Below w.heap.size w w) := Below.refl _ _
  go_enter Try.func18, Try.ntmps18
  go_wp2_with fail
  refine (szStringS_c' A1 _ _ _ n1 l1 _ _ (hrA1.below (by ((repeat (first | refine Below.alloc ?_ (by first | omega | (simp; done) | (simp; omega)) _ | refine Below.drew ?_)); exact HB0.out))) HNA1.out hlA1 HSA1.out (by omega) (by omega)).mono ?_
  rintro e w1 ⟨rfl, hb1⟩
  have hz1 : w.heap.size ≤ w1.heap.size := by have := hb1.size; first | omega | (simp at this; omega)
  have hzz1 : w.heap.size ≤ w1.heap.size := by omega
  have HB1 : Hid (Below w.heap.size w w1) := below_then (by ((repeat (first | refine Below.alloc ?_ (by first | omega | (simp; done) | (simp; omega)) _ | refine Below.drew ?_)); exact HB0.out)) hb1 (by first | omega | (simp; done) | (simp; omega))
  clear hb1
  go_wp2_with fail
  · go_ret
    exact ⟨rfl, HB1.out⟩
  · have hp1 : 0 ≤ szF 1048576 ((n1 + bulkS l1)) := by assumption
    have hg1 := (szF_le 1048576 ((n1 + bulkS l1)) (by omega)).2
    have hbk : (n1 + bulkS l1) ≤ 1048576 := by have := (szF_pos hp1).1; omega
    have hmA1 : n1 ≤ 1048576 := by omega
    have hrlAr0 := HRLAr0.out hbk
    refine (toStringS_c' A1 _ _ _ n1 l1 _ (hrA1.below (by ((repeat (first | refine Below.alloc ?_ (by first | omega | (simp; done) | (simp; omega)) _ | refine Below.drew ?_)); exact HB1.out))) HNA1.out hmA1).mono ?_
    rintro e w2 ⟨TwA1, rfl, ho, hb2⟩
    have hz2 : w1.heap.size ≤ w2.heap.size := by have := hb2.size; first | omega | (simp at this; omega)
    have hzz2 : w.heap.size ≤ w2.heap.size := by omega
    have HB2 : Hid (Below w.heap.size w w2) := below_then (by ((repeat (first | refine Below.alloc ?_ (by first | omega | (simp; done) | (simp; omega)) _ | refine Below.drew ?_)); exact HB1.out)) hb2 (by first | omega | (simp; done) | (simp; omega))
    obtain ⟨qTwA1, hqTwA1, hqqTwA1, HOTwA1⟩ : ∃ q, w1.heap.size ≤ q ∧ w2.heap.size ≤ w2.heap.size ∧ Hid (Own w2 q w2.heap.size TwA1 (strs l1)) := ⟨_, by first | omega | (simp at *; done) | (simp at *; omega), by first | omega | (simp at *; done) | (simp at *; omega), ho⟩
    clear hb2 ho
    go_wp2_with fail
    refine (HSP hbk _ _ _ _ _ (HOTwA1.out.rd) rfl).mono ?_
    rintro e w3 ⟨wAr0, wcr0, rfl, ho0, hb3⟩
    have hz3 : w2.heap.size ≤ w3.heap.size := by have := hb3.size; first | omega | (simp at this; omega)
    have hzz3 : w.heap.size ≤ w3.heap.size := by omega
    have HB3 : Hid (Below w.heap.size w w3) := below_then (by ((repeat (first | refine Below.alloc ?_ (by first | omega | (simp; done) | (simp; omega)) _ | refine Below.drew ?_)); exact HB2.out)) hb3 (by first | omega | (simp; done) | (simp; omega))
    replace HOTwA1 : Hid (Own w3 qTwA1 w2.heap.size TwA1 (strs l1)) := HOTwA1.out.below hb3
    obtain ⟨qwAr0, hqwAr0, HOwAr0⟩ : ∃ q, w2.heap.size ≤ q ∧ Hid (Own w3 q w3.heap.size wAr0 (strs lr0)) := ⟨_, by first | omega | (simp at *; done) | (simp at *; omega), ho0⟩
    clear hb3 ho0
    go_wp2_with fail
    refine (toStringS_c' A1 _ _ _ n1 l1 _ (hrA1.below (by ((repeat (first | refine Below.alloc ?_ (by first | omega | (simp; done) | (simp; omega)) _ | refine Below.drew ?_)); exact HB3.out))) HNA1.out hmA1).mono ?_
    rintro e w4 ⟨Tx1A1, rfl, ho, hb4⟩
    have hz4 : w3.heap.size ≤ w4.heap.size := by have := hb4.size; first | omega | (simp at this; omega)
    have hzz4 : w.heap.size ≤ w4.heap.size := by omega
    have HB4 : Hid (Below w.heap.size w w4) := below_then (by ((repeat (first | refine Below.alloc ?_ (by first | omega | (simp; done) | (simp; omega)) _ | refine Below.drew ?_)); exact HB3.out)) hb4 (by first | omega | (simp; done) | (simp; omega))
    replace HOTwA1 : Hid (Own w4 qTwA1 w2.heap.size TwA1 (strs l1)) := HOTwA1.out.below hb4
    replace HOwAr0 : Hid (Own w4 qwAr0 w3.heap.size wAr0 (strs lr0)) := HOwAr0.out.below hb4
    obtain ⟨qTx1A1, hqTx1A1, hqqTx1A1, HOTx1A1⟩ : ∃ q, w3.heap.size ≤ q ∧ w4.heap.size ≤ w4.heap.size ∧ Hid (Own w4 q w4.heap.size Tx1A1 (strs l1)) := ⟨_, by first | omega | (simp at *; done) | (simp at *; omega), by first | omega | (simp at *; done) | (simp at *; omega), ho⟩
    clear hb4 ho
    go_wp2_with fail
    refine (HIM hbk _ _ _ _ _ (HOTx1A1.out.rd) rfl).mono ?_
    rintro e w5 ⟨gAr0, gcr0, rfl, ho0, hb5⟩
    have hz5 : w4.heap.size ≤ w5.heap.size := by have := hb5.size; first | omega | (simp at this; omega)
    have hzz5 : w.heap.size ≤ w5.heap.size := by omega
    have HB5 : Hid (Below w.heap.size w w5) := below_then (by ((repeat (first | refine Below.alloc ?_ (by first | omega | (simp; done) | (simp; omega)) _ | refine Below.drew ?_)); exact HB4.out)) hb5 (by first | omega | (simp; done) | (simp; omega))
    replace HOTwA1 : Hid (Own w5 qTwA1 w2.heap.size TwA1 (strs l1)) := HOTwA1.out.below hb5
    replace HOwAr0 : Hid (Own w5 qwAr0 w3.heap.size wAr0 (strs lr0)) := HOwAr0.out.below hb5
    replace HOTx1A1 : Hid (Own w5 qTx1A1 w4.heap.size Tx1A1 (strs l1)) := HOTx1A1.out.below hb5
    obtain ⟨qgAr0, hqgAr0, HOgAr0⟩ : ∃ q, w4.heap.size ≤ q ∧ Hid (Own w5 q w5.heap.size gAr0 (strs lr0)) := ⟨_, by first | omega | (simp at *; done) | (simp at *; omega), ho0⟩
    clear hb5 ho0
    go_wp2_with fail
    refine (eqStringS_c' gAr0 wAr0 _ _ _ _ _ _ nr0 nr0 lr0 _ (HOgAr0.out.rd) (HOwAr0.out.rd) HRNAr0.out HRNAr0.out (by unfold maxLen; omega)).mono ?_
    rintro e w6 ⟨rfl, hb6⟩
    have hz6 : w5.heap.size ≤ w6.heap.size := by have := hb6.size; first | omega | (simp at this; omega)
    have hzz6 : w.heap.size ≤ w6.heap.size := by omega
    have HB6 : Hid (Below w.heap.size w w6) := below_then (by ((repeat (first | refine Below.alloc ?_ (by first | omega | (simp; done) | (simp; omega)) _ | refine Below.drew ?_)); exact HB5.out)) hb6 (by first | omega | (simp; done) | (simp; omega))
    replace HOTwA1 : Hid (Own w6 qTwA1 w2.heap.size TwA1 (strs l1)) := HOTwA1.out.below hb6
    replace HOwAr0 : Hid (Own w6 qwAr0 w3.heap.size wAr0 (strs lr0)) := HOwAr0.out.below hb6
    replace HOTx1A1 : Hid (Own w6 qTx1A1 w4.heap.size Tx1A1 (strs l1)) := HOTx1A1.out.below hb6
    replace HOgAr0 : Hid (Own w6 qgAr0 w5.heap.size gAr0 (strs lr0)) := HOgAr0.out.below hb6
    clear hb6
    go_wp2_with fail
    refine (toStringS_c' A1 _ _ _ n1 l1 _ (hrA1.below (by ((repeat (first | refine Below.alloc ?_ (by first | omega | (simp; done) | (simp; omega)) _ | refine Below.drew ?_)); exact HB6.out))) HNA1.out hmA1).mono ?_
    rintro e w7 ⟨TE6A1, rfl, ho, hb7⟩
    have hz7 : w6.heap.size ≤ w7.heap.size := by have := hb7.size; first | omega | (simp at this; omega)
    have hzz7 : w.heap.size ≤ w7.heap.size := by omega
    have HB7 : Hid (Below w.heap.size w w7) := below_then (by ((repeat (first | refine Below.alloc ?_ (by first | omega | (simp; done) | (simp; omega)) _ | refine Below.drew ?_)); exact HB6.out)) hb7 (by first | omega | (simp; done) | (simp; omega))
    replace HOTwA1 : Hid (Own w7 qTwA1 w2.heap.size TwA1 (strs l1)) := HOTwA1.out.below hb7
    replace HOwAr0 : Hid (Own w7 qwAr0 w3.heap.size wAr0 (strs lr0)) := HOwAr0.out.below hb7
    replace HOTx1A1 : Hid (Own w7 qTx1A1 w4.heap.size Tx1A1 (strs l1)) := HOTx1A1.out.below hb7
    replace HOgAr0 : Hid (Own w7 qgAr0 w5.heap.size gAr0 (strs lr0)) := HOgAr0.out.below hb7
    obtain ⟨qTE6A1, hqTE6A1, hqqTE6A1, HOTE6A1⟩ : ∃ q, w6.heap.size ≤ q ∧ w7.heap.size ≤ w7.heap.size ∧ Hid (Own w7 q w7.heap.size TE6A1 (strs l1)) := ⟨_, by first | omega | (simp at *; done) | (simp at *; omega), by first | omega | (simp at *; done) | (simp at *; omega), ho⟩
    clear hb7 ho
    go_wp2_with fail
    refine (eqStringS_c' Tx1A1 TE6A1 _ _ _ _ _ _ n1 n1 l1 _ (HOTx1A1.out.rd) (HOTE6A1.out.rd) HNA1.out HNA1.out (by unfold maxLen; omega)).mono ?_
    rintro e w8 ⟨rfl, hb8⟩
    have hz8 : w7.heap.size ≤ w8.heap.size := by have := hb8.size; first | omega | (simp at this; omega)
    have hzz8 : w.heap.size ≤ w8.heap.size := by omega
    have HB8 : Hid (Below w.heap.size w w8) := below_then (by ((repeat (first | refine Below.alloc ?_ (by first | omega | (simp; done) | (simp; omega)) _ | refine Below.drew ?_)); exact HB7.out)) hb8 (by first | omega | (simp; done) | (simp; omega))
    replace HOTwA1 : Hid (Own w8 qTwA1 w2.heap.size TwA1 (strs l1)) := HOTwA1.out.below hb8
    replace HOwAr0 : Hid (Own w8 qwAr0 w3.heap.size wAr0 (strs lr0)) := HOwAr0.out.below hb8
    replace HOTx1A1 : Hid (Own w8 qTx1A1 w4.heap.size Tx1A1 (strs l1)) := HOTx1A1.out.below hb8
    replace HOgAr0 : Hid (Own w8 qgAr0 w5.heap.size gAr0 (strs lr0)) := HOgAr0.out.below hb8
    replace HOTE6A1 : Hid (Own w8 qTE6A1 w7.heap.size TE6A1 (strs l1)) := HOTE6A1.out.below hb8
    clear hb8
    clear HOTE6A1
    go_wp2_with fail
    refine (markStringS_c Tx1A1 _ qTx1A1 w4.heap.size (1) n1 _ (strs l1) _ (by omega) (HOTx1A1.out) (by rw [strs_len]; exact HNA1.out) (by omega)).mono ?_
    rintro e w9 ⟨rfl, hp9_0, ho0⟩
    have hz9_0 : w8.heap.size ≤ w9.heap.size := by have := hp9_0.size; first | omega | (simp at this; omega)
    have hzz9 : w.heap.size ≤ w9.heap.size := by omega
    have HB9 : Hid (Below w.heap.size w w9) := (below_only (by ((repeat (first | refine Below.alloc ?_ (by first | omega | (simp; done) | (simp; omega)) _ | refine Below.drew ?_)); exact HB8.out)) hp9_0 (by omega) (by first | omega | (simp; omega)))
    replace HOTwA1 : Hid (Own w9 qTwA1 w2.heap.size TwA1 (strs l1)) := (HOTwA1.out.only hp9_0 (by first | omega | (simp; omega)))
    replace HOwAr0 : Hid (Own w9 qwAr0 w3.heap.size wAr0 (strs lr0)) := (HOwAr0.out.only hp9_0 (by first | omega | (simp; omega)))
    replace HOgAr0 : Hid (Own w9 qgAr0 w5.heap.size gAr0 (strs lr0)) := (HOgAr0.out.only hp9_0 (by first | omega | (simp; omega)))
    clear HOTx1A1
    clear hp9_0 ho0
    generalize hkk : ((1 + n1 : Nat) : Int) = kk9
    have hk0k9 : 0 ≤ kk9 := by omega
    have hkdk9 : decide (kk9 < 0) = false := by simp; omega
    have HKk9 := Lib.hid hkk
    clear hkk
    go_wp2_with fail
    refine (eqStringS_c' gAr0 wAr0 _ _ _ _ _ _ nr0 nr0 lr0 _ (HOgAr0.out.rd) (HOwAr0.out.rd) HRNAr0.out HRNAr0.out (by unfold maxLen; omega)).mono ?_
    rintro e w10 ⟨rfl, hb10⟩
    have hz10 : w9.heap.size ≤ w10.heap.size := by have := hb10.size; first | omega | (simp at this; omega)
    have hzz10 : w.heap.size ≤ w10.heap.size := by omega
    have HB10 : Hid (Below w.heap.size w w10) := below_then (by ((repeat (first | refine Below.alloc ?_ (by first | omega | (simp; done) | (simp; omega)) _ | refine Below.drew ?_)); exact HB9.out)) hb10 (by first | omega | (simp; done) | (simp; omega))
    replace HOTwA1 : Hid (Own w10 qTwA1 w2.heap.size TwA1 (strs l1)) := HOTwA1.out.below hb10
    replace HOwAr0 : Hid (Own w10 qwAr0 w3.heap.size wAr0 (strs lr0)) := HOwAr0.out.below hb10
    replace HOgAr0 : Hid (Own w10 qgAr0 w5.heap.size gAr0 (strs lr0)) := HOgAr0.out.below hb10
    clear hb10
    go_wp2_with fail
    refine (markStringS_c gAr0 _ qgAr0 w5.heap.size (1) nr0 _ (strs lr0) _ (by omega) (HOgAr0.out) (by rw [strs_len]; exact HRNAr0.out) (by omega)).mono ?_
    rintro e w11 ⟨rfl, hp11_0, ho0⟩
    have hz11_0 : w10.heap.size ≤ w11.heap.size := by have := hp11_0.size; first | omega | (simp at this; omega)
    have hzz11 : w.heap.size ≤ w11.heap.size := by omega
    have HB11 : Hid (Below w.heap.size w w11) := (below_only (by ((repeat (first | refine Below.alloc ?_ (by first | omega | (simp; done) | (simp; omega)) _ | refine Below.drew ?_)); exact HB10.out)) hp11_0 (by omega) (by first | omega | (simp; omega)))
    replace HOTwA1 : Hid (Own w11 qTwA1 w2.heap.size TwA1 (strs l1)) := (HOTwA1.out.only hp11_0 (by first | omega | (simp; omega)))
    replace HOwAr0 : Hid (Own w11 qwAr0 w3.heap.size wAr0 (strs lr0)) := (HOwAr0.out.only hp11_0 (by first | omega | (simp; omega)))
    replace HOgAr0 : Hid (Own w11 qgAr0 w5.heap.size gAr0 (strs (marks (1) nr0))) := ho0
    clear hp11_0 ho0
    generalize hkk : ((1 + nr0 : Nat) : Int) = km11
    have hk0m11 : 0 ≤ km11 := by omega
    have hkdm11 : decide (km11 < 0) = false := by simp; omega
    have HKm11 := Lib.hid hkk
    clear hkk
    go_wp2_with fail
    refine (heldStringS_c gAr0 _ _ _ (1) nr0 _ _ (by omega) (HOgAr0.out.rd) (by omega)).mono ?_
    rintro e w12 ⟨rfl, hb12⟩
    have hz12 : w11.heap.size ≤ w12.heap.size := by have := hb12.size; first | omega | (simp at this; omega)
    have hzz12 : w.heap.size ≤ w12.heap.size := by omega
    have HB12 : Hid (Below w.heap.size w w12) := below_then (by ((repeat (first | refine Below.alloc ?_ (by first | omega | (simp; done) | (simp; omega)) _ | refine Below.drew ?_)); exact HB11.out)) hb12 (by first | omega | (simp; done) | (simp; omega))
    replace HOTwA1 : Hid (Own w12 qTwA1 w2.heap.size TwA1 (strs l1)) := HOTwA1.out.below hb12
    replace HOwAr0 : Hid (Own w12 qwAr0 w3.heap.size wAr0 (strs lr0)) := HOwAr0.out.below hb12
    replace HOgAr0 : Hid (Own w12 qgAr0 w5.heap.size gAr0 (strs (marks (1) nr0))) := HOgAr0.out.below hb12
    clear hb12
    generalize hkk : ((1 + nr0 : Nat) : Int) = kq12
    have hk0q12 : 0 ≤ kq12 := by omega
    have hkdq12 : decide (kq12 < 0) = false := by simp; omega
    have HKq12 := Lib.hid hkk
    clear hkk
    obtain rfl : kq12 = km11 := HKq12.out.symm.trans HKm11.out
    go_wp2_with fail
    refine (toStringS_c' A1 _ _ _ n1 l1 _ (hrA1.below (by ((repeat (first | refine Below.alloc ?_ (by first | omega | (simp; done) | (simp; omega)) _ | refine Below.drew ?_)); exact HB12.out))) HNA1.out hmA1).mono ?_
    rintro e w13 ⟨ThA1, rfl, ho, hb13⟩
    have hz13 : w12.heap.size ≤ w13.heap.size := by have := hb13.size; first | omega | (simp at this; omega)
    have hzz13 : w.heap.size ≤ w13.heap.size := by omega
    have HB13 : Hid (Below w.heap.size w w13) := below_then (by ((repeat (first | refine Below.alloc ?_ (by first | omega | (simp; done) | (simp; omega)) _ | refine Below.drew ?_)); exact HB12.out)) hb13 (by first | omega | (simp; done) | (simp; omega))
    replace HOTwA1 : Hid (Own w13 qTwA1 w2.heap.size TwA1 (strs l1)) := HOTwA1.out.below hb13
    replace HOwAr0 : Hid (Own w13 qwAr0 w3.heap.size wAr0 (strs lr0)) := HOwAr0.out.below hb13
    replace HOgAr0 : Hid (Own w13 qgAr0 w5.heap.size gAr0 (strs (marks (1) nr0))) := HOgAr0.out.below hb13
    obtain ⟨qThA1, hqThA1, hqqThA1, HOThA1⟩ : ∃ q, w12.heap.size ≤ q ∧ w13.heap.size ≤ w13.heap.size ∧ Hid (Own w13 q w13.heap.size ThA1 (strs l1)) := ⟨_, by first | omega | (simp at *; done) | (simp at *; omega), by first | omega | (simp at *; done) | (simp at *; omega), ho⟩
    clear hb13 ho
    go_wp2_with fail
    refine (HIM hbk _ _ _ _ _ (HOThA1.out.rd) rfl).mono ?_
    rintro e w14 ⟨hAr0, hcr0, rfl, ho0, hb14⟩
    have hz14 : w13.heap.size ≤ w14.heap.size := by have := hb14.size; first | omega | (simp at this; omega)
    have hzz14 : w.heap.size ≤ w14.heap.size := by omega
    have HB14 : Hid (Below w.heap.size w w14) := below_then (by ((repeat (first | refine Below.alloc ?_ (by first | omega | (simp; done) | (simp; omega)) _ | refine Below.drew ?_)); exact HB13.out)) hb14 (by first | omega | (simp; done) | (simp; omega))
    replace HOTwA1 : Hid (Own w14 qTwA1 w2.heap.size TwA1 (strs l1)) := HOTwA1.out.below hb14
    replace HOwAr0 : Hid (Own w14 qwAr0 w3.heap.size wAr0 (strs lr0)) := HOwAr0.out.below hb14
    replace HOgAr0 : Hid (Own w14 qgAr0 w5.heap.size gAr0 (strs (marks (1) nr0))) := HOgAr0.out.below hb14
    replace HOThA1 : Hid (Own w14 qThA1 w13.heap.size ThA1 (strs l1)) := HOThA1.out.below hb14
    obtain ⟨qhAr0, hqhAr0, HOhAr0⟩ : ∃ q, w13.heap.size ≤ q ∧ Hid (Own w14 q w14.heap.size hAr0 (strs lr0)) := ⟨_, by first | omega | (simp at *; done) | (simp at *; omega), ho0⟩
    clear hb14 ho0
    go_wp2_with fail
    refine (eqStringS_c' hAr0 wAr0 _ _ _ _ _ _ nr0 nr0 lr0 _ (HOhAr0.out.rd) (HOwAr0.out.rd) HRNAr0.out HRNAr0.out (by unfold maxLen; omega)).mono ?_
    rintro e w15 ⟨rfl, hb15⟩
    have hz15 : w14.heap.size ≤ w15.heap.size := by have := hb15.size; first | omega | (simp at this; omega)
    have hzz15 : w.heap.size ≤ w15.heap.size := by omega
    have HB15 : Hid (Below w.heap.size w w15) := below_then (by ((repeat (first | refine Below.alloc ?_ (by first | omega | (simp; done) | (simp; omega)) _ | refine Below.drew ?_)); exact HB14.out)) hb15 (by first | omega | (simp; done) | (simp; omega))
    replace HOTwA1 : Hid (Own w15 qTwA1 w2.heap.size TwA1 (strs l1)) := HOTwA1.out.below hb15
    replace HOwAr0 : Hid (Own w15 qwAr0 w3.heap.size wAr0 (strs lr0)) := HOwAr0.out.below hb15
    replace HOgAr0 : Hid (Own w15 qgAr0 w5.heap.size gAr0 (strs (marks (1) nr0))) := HOgAr0.out.below hb15
    replace HOThA1 : Hid (Own w15 qThA1 w13.heap.size ThA1 (strs l1)) := HOThA1.out.below hb15
    replace HOhAr0 : Hid (Own w15 qhAr0 w14.heap.size hAr0 (strs lr0)) := HOhAr0.out.below hb15
    clear hb15
    go_wp2_with fail
    refine (heldStringS_c gAr0 _ _ _ (1) nr0 _ _ (by omega) (HOgAr0.out.rd) (by omega)).mono ?_
    rintro e w16 ⟨rfl, hb16⟩
    have hz16 : w15.heap.size ≤ w16.heap.size := by have := hb16.size; first | omega | (simp at this; omega)
    have hzz16 : w.heap.size ≤ w16.heap.size := by omega
    have HB16 : Hid (Below w.heap.size w w16) := below_then (by ((repeat (first | refine Below.alloc ?_ (by first | omega | (simp; done) | (simp; omega)) _ | refine Below.drew ?_)); exact HB15.out)) hb16 (by first | omega | (simp; done) | (simp; omega))
    replace HOTwA1 : Hid (Own w16 qTwA1 w2.heap.size TwA1 (strs l1)) := HOTwA1.out.below hb16
    replace HOwAr0 : Hid (Own w16 qwAr0 w3.heap.size wAr0 (strs lr0)) := HOwAr0.out.below hb16
    replace HOgAr0 : Hid (Own w16 qgAr0 w5.heap.size gAr0 (strs (marks (1) nr0))) := HOgAr0.out.below hb16
    replace HOThA1 : Hid (Own w16 qThA1 w13.heap.size ThA1 (strs l1)) := HOThA1.out.below hb16
    replace HOhAr0 : Hid (Own w16 qhAr0 w14.heap.size hAr0 (strs lr0)) := HOhAr0.out.below hb16
    clear hb16
    generalize hkk : ((1 + nr0 : Nat) : Int) = kq16
    have hk0q16 : 0 ≤ kq16 := by omega
    have hkdq16 : decide (kq16 < 0) = false := by simp; omega
    have HKq16 := Lib.hid hkk
    clear hkk
    obtain rfl : kq16 = kq12 := HKq16.out.symm.trans HKq12.out
    go_wp2
    go_ret
    exact ⟨rfl, HB16.out⟩

section
open Go.ChangeShapes Go.WideShapes Go.ChangeAt
open Go.ChangeMaps (open_string)
set_option maxRecDepth 100000 in
theorem lifted_Consistency (f0 : Int → (List ByteArray) → Int → List ByteArray) (f1 : Int → (List ByteArray) → Int → Bool) (hsp : ∀ (z0 : Int) (l1 : List ByteArray) (z2 : Int), (I64 z0) → (I64 z2) → specConsistency_does z0 l1.length l1 z2 (f0 z0 l1 z2).length (f0 z0 l1 z2) (f1 z0 l1 z2)) (him : ∀ (z0 : Int) (l1 : List ByteArray) (z2 : Int), (I64 z0) → (I64 z2) → implConsistency_does z0 l1.length l1 z2 (f0 z0 l1 z2).length (f0 z0 l1 z2) (f1 z0 l1 z2)) (hlen0 : ∀ (z0 : Int) (l1 : List ByteArray) (z2 : Int), (I64 z0) → (I64 z2) → (l1.length + bulkS l1) ≤ 1048576 → (f0 z0 l1 z2).length ≤ 2000000) (os : Os) (started : os.Started) (H : Type) (enc : TypeId × Value → H) :
    ReturnsInHanded {} Try.checked os 18 .any (Rows.fnExactConsistencySpec.pre6 enc Try.prog Try.f18 Rows.fnExactConsistencyRow.domain false) (Rows.fnExactConsistencySpec.post enc Try.prog Try.f18 false true false false) := by
  refine returnsInHanded_of_change (C := Try.checked) Try.own started (by kernel_rfl) Try.func18
    (ChangeSpec.witness6 (enc := enc) (C := Try.checked) false ⟨#[], #[.int .i64 0, .slice none 0 0, .int .i64 0], []⟩ 8 (by kernel_rfl) (by kernel_rfl) (by kernel_rfl) (by kernel_rfl)) ?_
  intro W base args ds gs before hval0 hW hcnd _
  have hval : ∀ (j : Nat) t v, Try.f18.params[j]? = some t → args[j]? = some v → Value.okWide Try.prog W .any base t v := hval0
  have hW' := hW
  obtain ⟨p, q, hA0, hV, rfl, hfz, hnd⟩ := hW
  have hA : DataW.TrodAll enc Try.prog W 0 (fun _ => true) true Try.f18.params.toList args.toList ds p := hA0
  rw [Try.params18] at hA hval
  obtain ⟨v0, vs0, d0, ds0, p0, q0, hargs, rfl, rfl, h0, r0⟩ := trodAll_cons hA
  obtain ⟨v1, vs1, d1, ds1, p1, q1, rfl, rfl, rfl, h1, r1⟩ := trodAll_cons r0
  obtain ⟨v2, vs2, d2, ds2, p2, q2, rfl, rfl, rfl, h2, r2⟩ := trodAll_cons r1
  obtain ⟨rfl, rfl, rfl⟩ := trodAll_nil r2
  obtain rfl : args = #[v0, v1, v2] := by cases args; simp_all
  obtain ⟨rfl, rfl⟩ := trodVars_none hV
  have lt0 : ∀ x ∈ p0, x.block < W.heap.size := by obtain ⟨m, hm⟩ := h0; exact DataW.trod_lt m _ _ _ hm
  have kk0 := h0
  have lt1 : ∀ x ∈ p1, x.block < W.heap.size := by obtain ⟨m, hm⟩ := h1; exact DataW.trod_lt m _ _ _ hm
  have kk1 := h1
  have lt2 : ∀ x ∈ p2, x.block < W.heap.size := by obtain ⟨m, hm⟩ := h2; exact DataW.trod_lt m _ _ _ hm
  have kk2 := h2
  obtain ⟨z0, rfl, rfl, rfl, wi0⟩ := open_int Try.underlying3 (hval 0 _ v0 rfl rfl) h0
  have hiz0 : I64 z0 := i64_of_wf wi0
  obtain ⟨A1, n1, c1, l1, rfl, o1, hil1⟩ := open_strs (hval 1 _ v1 rfl rfl) h1
  obtain ⟨rfl, o1b, o1c, o1d⟩ := o1
  obtain ⟨z2, rfl, rfl, rfl, wi2⟩ := open_int Try.underlying3 (hval 2 _ v2 rfl rfl) h2
  have hiz2 : I64 z2 := i64_of_wf wi2
  clear hA0 hval0
  refine (walk_Consistency z0 A1 c1 _ l1 z2 _ _ _ W o1d rfl (Nat.le_trans o1b o1c) hil1 rfl (hlen0 z0 l1 z2 hiz0 hiz2) (hsp z0 l1 z2 hiz0 hiz2) (him z0 l1 z2 hiz0 hiz2)).mono fun e W' ⟨he, bel⟩ => ?_
  subst he
  exact ⟨_, rfl, _, _, _, [], _, [], hW', trodAll_mk1 (shut_bool Try.underlying4 _), (trodAll_cons_mk (Below.trod Try.laidOut (by kernel_rfl) (of_decide_eq_true (by kernel_rfl)) kk0 bel lt0) (trodAll_cons_mk (Below.trod Try.laidOut (by kernel_rfl) (of_decide_eq_true (by kernel_rfl)) kk1 bel lt1) (trodAll_cons_mk (Below.trod Try.laidOut (by kernel_rfl) (of_decide_eq_true (by kernel_rfl)) kk2 bel lt2) trodAll_mk0))), rfl, bel.frame _, fun h => by cases h⟩
theorem said_Consistency (f0 : Int → (List ByteArray) → Int → List ByteArray) (f1 : Int → (List ByteArray) → Int → Bool) (hsp : ∀ (z0 : Int) (l1 : List ByteArray) (z2 : Int), (I64 z0) → (I64 z2) → specConsistency_does z0 l1.length l1 z2 (f0 z0 l1 z2).length (f0 z0 l1 z2) (f1 z0 l1 z2)) (him : ∀ (z0 : Int) (l1 : List ByteArray) (z2 : Int), (I64 z0) → (I64 z2) → implConsistency_does z0 l1.length l1 z2 (f0 z0 l1 z2).length (f0 z0 l1 z2) (f1 z0 l1 z2)) (hlen0 : ∀ (z0 : Int) (l1 : List ByteArray) (z2 : Int), (I64 z0) → (I64 z2) → (l1.length + bulkS l1) ≤ 1048576 → (f0 z0 l1 z2).length ≤ 2000000) : Rows.FnExactConsistencySaid :=
  OpenClaim.holds_of_wide 18 Try.f18 rfl rfl rfl rfl rfl rfl rfl ⟨rfl, rfl, rfl, rfl, rfl⟩ rfl rfl rfl rfl rfl (by kernel_rfl) Try.func18 (by show joinedFacts Try.prog 18 Try.f18 Rows.fnExactConsistencySpec Rows.fnExactConsistencyRow = true; unfold joinedFacts; rw [seat_enter, seat_final, seat_make]; kernel_rfl)
    (of_decide_eq_true (by kernel_rfl)) (by unfold Func.isWrapper; first | (rw [if_pos (by decide +kernel)]; kernel_rfl) | (rw [if_neg (by decide +kernel)]; exact ⟨rfl, rfl⟩))
    (fun os started H enc _ => lifted_Consistency f0 f1 hsp him hlen0 os started H enc)
end
end Go.Proofs.Ytojjjhbiccgjkaa
