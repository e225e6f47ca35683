/- The walk of the law FnExactGrowAll; what spec.GrowAll and impl.GrowAll do comes in as hypotheses. Written by gen_law.py. -/
import Derived.Test.YtojjjhbiccgjkaaData
import Derived.Test.YtojjjhbiccgjkaaReg
import Derived.Test.YtojjjhbiccgjkaaStr
import Derived.Test.YtojjjhbiccgjkaaWRange
import Derived.Test.YtojjjhbiccgjkaaOpen
import Derived.Test.YtojjjhbiccgjkaaSeat
namespace Go.Proofs.Ytojjjhbiccgjkaa
set_option linter.unusedVariables false
set_option linter.unusedSimpArgs false
open Go.RowKit
attribute [local go_sem ↓] Go.wp_at_zero Go.wp_at_succ

def specGrowAll_does (z0 : Int) (z1_0 : Int) (n1_0 : Nat) (l1_0 : List ByteArray) (n2 : Nat) (l2 : List ByteArray) (zr0_0 : Int) (nr0_0 : Nat) (lr0_0 : List ByteArray) (zr1 : Int) (br2 : Bool) : Prop :=
    ((n1_0 + bulkS l1_0)) + (n2 + bulkS l2) ≤ 1048576 → ∀ (B1_0 : Option Addr) (g1_0 aA1_0 bA1_0 : Nat) (B2 : Option Addr) (g2 aA2 bA2 : Nat) (W : World), Rd W aA1_0 bA1_0 B1_0 (strs l1_0) → g1_0 = n1_0 → Rd W aA2 bA2 B2 (strs l2) → g2 = n2 → Calls Try.prog 68 #[.int .i64 z0, .agg #[.int .i64 z1_0, .slice B1_0 n1_0 g1_0], .slice B2 n2 g2] W fun r W' => ∃ (Ar0_0 : Option Addr) (cr0_0 : Nat), r = .returned (.tuple #[.agg #[.int .i64 zr0_0, .slice Ar0_0 nr0_0 cr0_0], .int .i64 zr1, .bool br2]) ∧ Own W' W.heap.size W'.heap.size Ar0_0 (strs lr0_0) ∧ Below W.heap.size W W'
def implGrowAll_does (z0 : Int) (z1_0 : Int) (n1_0 : Nat) (l1_0 : List ByteArray) (n2 : Nat) (l2 : List ByteArray) (zr0_0 : Int) (nr0_0 : Nat) (lr0_0 : List ByteArray) (zr1 : Int) (br2 : Bool) : Prop :=
    ((n1_0 + bulkS l1_0)) + (n2 + bulkS l2) ≤ 1048576 → ∀ (B1_0 : Option Addr) (g1_0 aA1_0 bA1_0 : Nat) (B2 : Option Addr) (g2 aA2 bA2 : Nat) (W : World), Rd W aA1_0 bA1_0 B1_0 (strs l1_0) → g1_0 = n1_0 → Rd W aA2 bA2 B2 (strs l2) → g2 = n2 → Calls Try.prog 69 #[.int .i64 z0, .agg #[.int .i64 z1_0, .slice B1_0 n1_0 g1_0], .slice B2 n2 g2] W fun r W' => ∃ (Ar0_0 : Option Addr) (cr0_0 : Nat), r = .returned (.tuple #[.agg #[.int .i64 zr0_0, .slice Ar0_0 nr0_0 cr0_0], .int .i64 zr1, .bool br2]) ∧ Own W' W.heap.size W'.heap.size Ar0_0 (strs lr0_0) ∧ Below W.heap.size W W'
set_option maxRecDepth 100000 in
set_option maxHeartbeats 4000000 in
theorem walk_GrowAll (z0 : Int) (z1_0 : Int) (A1_0 : Option Addr) (c1_0 : Nat) (n1_0 : Nat) (l1_0 : List ByteArray) (A2 : Option Addr) (c2 : Nat) (n2 : Nat) (l2 : List ByteArray) (zr0_0 : Int) (nr0_0 : Nat) (lr0_0 : List ByteArray) (zr1 : Int) (br2 : Bool) (w : World) (hrA1_0 : Rd w 0 w.heap.size A1_0 (strs l1_0)) (hnA1_0 : l1_0.length = n1_0) (hlA1_0 : n1_0 ≤ maxLen) (hsA1_0 : ∀ x ∈ l1_0, x.size ≤ maxLen) (hrA2 : Rd w 0 w.heap.size A2 (strs l2)) (hnA2 : l2.length = n2) (hlA2 : n2 ≤ maxLen) (hsA2 : ∀ x ∈ l2, x.size ≤ maxLen) (hrnAr0_0 : lr0_0.length = nr0_0) (hrlAr0_0 : ((n1_0 + bulkS l1_0)) + (n2 + bulkS l2) ≤ 1048576 → nr0_0 ≤ 2000000) (HSP : specGrowAll_does z0 z1_0 n1_0 l1_0 n2 l2 zr0_0 nr0_0 lr0_0 zr1 br2) (HIM : implGrowAll_does z0 z1_0 n1_0 l1_0 n2 l2 zr0_0 nr0_0 lr0_0 zr1 br2) :
    Calls Try.prog 15 #[.int .i64 z0, .agg #[.int .i64 z1_0, .slice A1_0 n1_0 c1_0], .slice A2 n2 c2] w fun e w' => e = .returned (.bool true) ∧ Below w.heap.size w w' := by
  have HNA1_0 := Lib.hid hnA1_0
  have HSA1_0 := Lib.hid hsA1_0
  clear hnA1_0 hsA1_0
  have HNA2 := Lib.hid hnA2
  have HSA2 := Lib.hid hsA2
  clear hnA2 hsA2
  have HRNAr0_0 := Lib.hid hrnAr0_0
  have HRLAr0_0 := Lib.hid hrlAr0_0
  clear hrnAr0_0 hrlAr0_0
  have HB0 : Hid (Below w.heap.size w w) := Below.refl _ _
  go_enter Try.func15, Try.ntmps15
  go_wp2_with fail
  refine (szRange_c z1_0 A1_0 c1_0 n1_0 l1_0 _ _ _ _ (hrA1_0.below (by ((repeat (first | refine Below.alloc ?_ (by first | omega | (simp; done) | (simp; omega)) _ | refine Below.drew ?_)); exact HB0.out))) HNA1_0.out hlA1_0 HSA1_0.out (by omega) (by omega)).mono ?_
  rintro e w1 ⟨rfl, hb1⟩
  have hz1 : w.heap.size + 1 ≤ w1.heap.size := by have := hb1.size; first | omega | (simp at this; omega)
  have hzz1 : w.heap.size ≤ w1.heap.size := by omega
  have HB1 : Hid (Below w.heap.size w w1) := below_then (by ((repeat (first | refine Below.alloc ?_ (by first | omega | (simp; done) | (simp; omega)) _ | refine Below.drew ?_)); exact HB0.out)) hb1 (by first | omega | (simp; done) | (simp; omega))
  have HXaR : Hid (Box w1 (w.heap.size) [.int .i64 z1_0, .slice A1_0 n1_0 c1_0]) := Box.below (Box.new0 _ _ _) hb1
  have hxaR := HXaR.out.2
  have hkaR := HXaR.out.1
  clear hb1
  go_wp2_with fail
  · go_ret
    exact ⟨rfl, HB1.out⟩
  · have hp1 : 0 ≤ szF 1048576 (((n1_0 + bulkS l1_0))) := by assumption
    have hg1 := (szF_le 1048576 (((n1_0 + bulkS l1_0))) (by omega)).2
    refine (szStringS_c' A2 _ _ _ n2 l2 _ _ (hrA2.below (by ((repeat (first | refine Below.alloc ?_ (by first | omega | (simp; done) | (simp; omega)) _ | refine Below.drew ?_)); exact HB1.out))) HNA2.out hlA2 HSA2.out (by omega) (by omega)).mono ?_
    rintro e w2 ⟨rfl, hb2⟩
    have hz2 : w1.heap.size ≤ w2.heap.size := by have := hb2.size; first | omega | (simp at this; omega)
    have hzz2 : w.heap.size ≤ w2.heap.size := by omega
    have HB2 : Hid (Below w.heap.size w w2) := below_then (by ((repeat (first | refine Below.alloc ?_ (by first | omega | (simp; done) | (simp; omega)) _ | refine Below.drew ?_)); exact HB1.out)) hb2 (by first | omega | (simp; done) | (simp; omega))
    replace HXaR : Hid (Box w2 (w.heap.size) [.int .i64 z1_0, .slice A1_0 n1_0 c1_0]) := Box.below HXaR.out hb2
    clear hxaR hkaR
    have hxaR := HXaR.out.2
    have hkaR := HXaR.out.1
    have HA2 : Hid (szF (szF 1048576 (((n1_0 + bulkS l1_0)))) (n2 + bulkS l2) = szF 1048576 (((n1_0 + bulkS l1_0)) + (n2 + bulkS l2))) := szF_add (by assumption)
    rw [HA2.out]
    clear hb2
    go_wp2_with fail
    · go_ret
      exact ⟨rfl, HB2.out⟩
    · have hp2 : 0 ≤ szF 1048576 (((n1_0 + bulkS l1_0)) + (n2 + bulkS l2)) := by assumption
      have hg2 := (szF_le 1048576 (((n1_0 + bulkS l1_0)) + (n2 + bulkS l2)) (by omega)).2
      have hbk : ((n1_0 + bulkS l1_0)) + (n2 + bulkS l2) ≤ 1048576 := by have := (szF_pos hp2).1; omega
      have hmA1_0 : n1_0 ≤ 1048576 := by omega
      have hmA2 : n2 ≤ 1048576 := by omega
      have hrlAr0_0 := HRLAr0_0.out hbk
      refine (toRange_c z1_0 A1_0 c1_0 n1_0 l1_0 _ _ _ (hrA1_0.below (by ((repeat (first | refine Below.alloc ?_ (by first | omega | (simp; done) | (simp; omega)) _ | refine Below.drew ?_)); exact HB2.out))) HNA1_0.out hmA1_0).mono ?_
      rintro e w3 ⟨TwA1_0, rfl, le3_0, ho0, hb3⟩
      have hz3 : w2.heap.size ≤ w3.heap.size := by have := hb3.size; first | omega | (simp at this; omega)
      have hzz3 : w.heap.size ≤ w3.heap.size := by omega
      have HB3 : Hid (Below w.heap.size w w3) := below_then (by ((repeat (first | refine Below.alloc ?_ (by first | omega | (simp; done) | (simp; omega)) _ | refine Below.drew ?_)); exact HB2.out)) hb3 (by first | omega | (simp; done) | (simp; omega))
      replace HXaR : Hid (Box w3 (w.heap.size) [.int .i64 z1_0, .slice A1_0 n1_0 c1_0]) := Box.below HXaR.out hb3
      clear hxaR hkaR
      have hxaR := HXaR.out.2
      have hkaR := HXaR.out.1
      obtain ⟨qTwA1_0, hqTwA1_0, hqqTwA1_0, HOTwA1_0⟩ : ∃ q, w2.heap.size ≤ q ∧ w3.heap.size ≤ w3.heap.size ∧ Hid (Own w3 q w3.heap.size TwA1_0 (strs l1_0)) := ⟨_, by first | omega | (simp at *; done) | (simp at *; omega), by first | omega | (simp at *; done) | (simp at *; omega), ho0⟩
      clear hb3 ho0
      go_wp2_with fail
      refine (toStringS_c' A2 _ _ _ n2 l2 _ (hrA2.below (by ((repeat (first | refine Below.alloc ?_ (by first | omega | (simp; done) | (simp; omega)) _ | refine Below.drew ?_)); exact HB3.out))) HNA2.out hmA2).mono ?_
      rintro e w4 ⟨TwA2, rfl, ho, hb4⟩
      have hz4 : w3.heap.size ≤ w4.heap.size := by have := hb4.size; first | omega | (simp at this; omega)
      have hzz4 : w.heap.size ≤ w4.heap.size := by omega
      have HB4 : Hid (Below w.heap.size w w4) := below_then (by ((repeat (first | refine Below.alloc ?_ (by first | omega | (simp; done) | (simp; omega)) _ | refine Below.drew ?_)); exact HB3.out)) hb4 (by first | omega | (simp; done) | (simp; omega))
      replace HXaR : Hid (Box w4 (w.heap.size) [.int .i64 z1_0, .slice A1_0 n1_0 c1_0]) := Box.below HXaR.out hb4
      clear hxaR hkaR
      have hxaR := HXaR.out.2
      have hkaR := HXaR.out.1
      replace HOTwA1_0 : Hid (Own w4 qTwA1_0 w3.heap.size TwA1_0 (strs l1_0)) := HOTwA1_0.out.below hb4
      obtain ⟨qTwA2, hqTwA2, hqqTwA2, HOTwA2⟩ : ∃ q, w3.heap.size ≤ q ∧ w4.heap.size ≤ w4.heap.size ∧ Hid (Own w4 q w4.heap.size TwA2 (strs l2)) := ⟨_, by first | omega | (simp at *; done) | (simp at *; omega), by first | omega | (simp at *; done) | (simp at *; omega), ho⟩
      clear hb4 ho
      go_wp2_with fail
      refine (HSP hbk _ _ _ _ _ _ _ _ _ (HOTwA1_0.out.rd) rfl (HOTwA2.out.rd) rfl).mono ?_
      rintro e w5 ⟨wAr0_0, wcr0_0, rfl, ho0, hb5⟩
      have hz5 : w4.heap.size ≤ w5.heap.size := by have := hb5.size; first | omega | (simp at this; omega)
      have hzz5 : w.heap.size ≤ w5.heap.size := by omega
      have HB5 : Hid (Below w.heap.size w w5) := below_then (by ((repeat (first | refine Below.alloc ?_ (by first | omega | (simp; done) | (simp; omega)) _ | refine Below.drew ?_)); exact HB4.out)) hb5 (by first | omega | (simp; done) | (simp; omega))
      replace HXaR : Hid (Box w5 (w.heap.size) [.int .i64 z1_0, .slice A1_0 n1_0 c1_0]) := Box.below HXaR.out hb5
      clear hxaR hkaR
      have hxaR := HXaR.out.2
      have hkaR := HXaR.out.1
      replace HOTwA1_0 : Hid (Own w5 qTwA1_0 w3.heap.size TwA1_0 (strs l1_0)) := HOTwA1_0.out.below hb5
      replace HOTwA2 : Hid (Own w5 qTwA2 w4.heap.size TwA2 (strs l2)) := HOTwA2.out.below hb5
      obtain ⟨qwAr0_0, hqwAr0_0, HOwAr0_0⟩ : ∃ q, w4.heap.size ≤ q ∧ Hid (Own w5 q w5.heap.size wAr0_0 (strs lr0_0)) := ⟨_, by first | omega | (simp at *; done) | (simp at *; omega), ho0⟩
      clear hb5 ho0
      go_wp2_with fail
      refine (toRange_c z1_0 A1_0 c1_0 n1_0 l1_0 _ _ _ (hrA1_0.below (by ((repeat (first | refine Below.alloc ?_ (by first | omega | (simp; done) | (simp; omega)) _ | refine Below.drew ?_)); exact HB5.out))) HNA1_0.out hmA1_0).mono ?_
      rintro e w6 ⟨Tx1A1_0, rfl, le6_0, ho0, hb6⟩
      have hz6 : w5.heap.size + 1 ≤ w6.heap.size := by have := hb6.size; first | omega | (simp at this; omega)
      have hzz6 : w.heap.size ≤ w6.heap.size := by omega
      have HB6 : Hid (Below w.heap.size w w6) := below_then (by ((repeat (first | refine Below.alloc ?_ (by first | omega | (simp; done) | (simp; omega)) _ | refine Below.drew ?_)); exact HB5.out)) hb6 (by first | omega | (simp; done) | (simp; omega))
      replace HXaR : Hid (Box w6 (w.heap.size) [.int .i64 z1_0, .slice A1_0 n1_0 c1_0]) := Box.below (HXaR.out.alloc _) hb6
      clear hxaR hkaR
      have hxaR := HXaR.out.2
      have hkaR := HXaR.out.1
      have HXw0 : Hid (Box w6 (w5.heap.size) [.int .i64 zr0_0, .slice wAr0_0 nr0_0 wcr0_0]) := Box.below (Box.new0 _ _ _) hb6
      have hxw0 := HXw0.out.2
      have hkw0 := HXw0.out.1
      replace HOTwA1_0 : Hid (Own w6 qTwA1_0 w3.heap.size TwA1_0 (strs l1_0)) := (HOTwA1_0.out.alloc _).below hb6
      replace HOTwA2 : Hid (Own w6 qTwA2 w4.heap.size TwA2 (strs l2)) := (HOTwA2.out.alloc _).below hb6
      replace HOwAr0_0 : Hid (Own w6 qwAr0_0 w5.heap.size wAr0_0 (strs lr0_0)) := (HOwAr0_0.out.alloc _).below hb6
      obtain ⟨qTx1A1_0, hqTx1A1_0, hqqTx1A1_0, HOTx1A1_0⟩ : ∃ q, w5.heap.size + 1 ≤ q ∧ w6.heap.size ≤ w6.heap.size ∧ Hid (Own w6 q w6.heap.size Tx1A1_0 (strs l1_0)) := ⟨_, by first | omega | (simp at *; done) | (simp at *; omega), by first | omega | (simp at *; done) | (simp at *; omega), ho0⟩
      clear hb6 ho0
      go_wp2_with fail
      refine (toStringS_c' A2 _ _ _ n2 l2 _ (hrA2.below (by ((repeat (first | refine Below.alloc ?_ (by first | omega | (simp; done) | (simp; omega)) _ | refine Below.drew ?_)); exact HB6.out))) HNA2.out hmA2).mono ?_
      rintro e w7 ⟨Tx2A2, rfl, ho, hb7⟩
      have hz7 : w6.heap.size + 1 ≤ w7.heap.size := by have := hb7.size; first | omega | (simp at this; omega)
      have hzz7 : w.heap.size ≤ w7.heap.size := by omega
      have HB7 : Hid (Below w.heap.size w w7) := below_then (by ((repeat (first | refine Below.alloc ?_ (by first | omega | (simp; done) | (simp; omega)) _ | refine Below.drew ?_)); exact HB6.out)) hb7 (by first | omega | (simp; done) | (simp; omega))
      replace HXaR : Hid (Box w7 (w.heap.size) [.int .i64 z1_0, .slice A1_0 n1_0 c1_0]) := Box.below (HXaR.out.alloc _) hb7
      clear hxaR hkaR
      have hxaR := HXaR.out.2
      have hkaR := HXaR.out.1
      replace HXw0 : Hid (Box w7 (w5.heap.size) [.int .i64 zr0_0, .slice wAr0_0 nr0_0 wcr0_0]) := Box.below (HXw0.out.alloc _) hb7
      clear hxw0 hkw0
      have hxw0 := HXw0.out.2
      have hkw0 := HXw0.out.1
      have HXx1 : Hid (Box w7 (w6.heap.size) [.int .i64 z1_0, .slice Tx1A1_0 n1_0 n1_0]) := Box.below (Box.new0 _ _ _) hb7
      have hxx1 := HXx1.out.2
      have hkx1 := HXx1.out.1
      replace HOTwA1_0 : Hid (Own w7 qTwA1_0 w3.heap.size TwA1_0 (strs l1_0)) := (HOTwA1_0.out.alloc _).below hb7
      replace HOTwA2 : Hid (Own w7 qTwA2 w4.heap.size TwA2 (strs l2)) := (HOTwA2.out.alloc _).below hb7
      replace HOwAr0_0 : Hid (Own w7 qwAr0_0 w5.heap.size wAr0_0 (strs lr0_0)) := (HOwAr0_0.out.alloc _).below hb7
      replace HOTx1A1_0 : Hid (Own w7 qTx1A1_0 w6.heap.size Tx1A1_0 (strs l1_0)) := (HOTx1A1_0.out.alloc _).below hb7
      obtain ⟨qTx2A2, hqTx2A2, hqqTx2A2, HOTx2A2⟩ : ∃ q, w6.heap.size + 1 ≤ q ∧ w7.heap.size ≤ w7.heap.size ∧ Hid (Own w7 q w7.heap.size Tx2A2 (strs l2)) := ⟨_, by first | omega | (simp at *; done) | (simp at *; omega), by first | omega | (simp at *; done) | (simp at *; omega), ho⟩
      clear hb7 ho
      go_wp2_with fail
      refine (HIM hbk _ _ _ _ _ _ _ _ _ (HOTx1A1_0.out.rd) rfl (HOTx2A2.out.rd) rfl).mono ?_
      rintro e w8 ⟨gAr0_0, gcr0_0, rfl, ho0, hb8⟩
      have hz8 : w7.heap.size ≤ w8.heap.size := by have := hb8.size; first | omega | (simp at this; omega)
      have hzz8 : w.heap.size ≤ w8.heap.size := by omega
      have HB8 : Hid (Below w.heap.size w w8) := below_then (by ((repeat (first | refine Below.alloc ?_ (by first | omega | (simp; done) | (simp; omega)) _ | refine Below.drew ?_)); exact HB7.out)) hb8 (by first | omega | (simp; done) | (simp; omega))
      replace HXaR : Hid (Box w8 (w.heap.size) [.int .i64 z1_0, .slice A1_0 n1_0 c1_0]) := Box.below HXaR.out hb8
      clear hxaR hkaR
      have hxaR := HXaR.out.2
      have hkaR := HXaR.out.1
      replace HXw0 : Hid (Box w8 (w5.heap.size) [.int .i64 zr0_0, .slice wAr0_0 nr0_0 wcr0_0]) := Box.below HXw0.out hb8
      clear hxw0 hkw0
      have hxw0 := HXw0.out.2
      have hkw0 := HXw0.out.1
      replace HXx1 : Hid (Box w8 (w6.heap.size) [.int .i64 z1_0, .slice Tx1A1_0 n1_0 n1_0]) := Box.below HXx1.out hb8
      clear hxx1 hkx1
      have hxx1 := HXx1.out.2
      have hkx1 := HXx1.out.1
      replace HOTwA1_0 : Hid (Own w8 qTwA1_0 w3.heap.size TwA1_0 (strs l1_0)) := HOTwA1_0.out.below hb8
      replace HOTwA2 : Hid (Own w8 qTwA2 w4.heap.size TwA2 (strs l2)) := HOTwA2.out.below hb8
      replace HOwAr0_0 : Hid (Own w8 qwAr0_0 w5.heap.size wAr0_0 (strs lr0_0)) := HOwAr0_0.out.below hb8
      replace HOTx1A1_0 : Hid (Own w8 qTx1A1_0 w6.heap.size Tx1A1_0 (strs l1_0)) := HOTx1A1_0.out.below hb8
      replace HOTx2A2 : Hid (Own w8 qTx2A2 w7.heap.size Tx2A2 (strs l2)) := HOTx2A2.out.below hb8
      obtain ⟨qgAr0_0, hqgAr0_0, HOgAr0_0⟩ : ∃ q, w7.heap.size ≤ q ∧ Hid (Own w8 q w8.heap.size gAr0_0 (strs lr0_0)) := ⟨_, by first | omega | (simp at *; done) | (simp at *; omega), ho0⟩
      clear hb8 ho0
      go_wp2_with fail
      refine (eqRange_c zr0_0 gAr0_0 gcr0_0 nr0_0 lr0_0 wAr0_0 wcr0_0 _ _ _ _  _ ((HOgAr0_0.out.rd).alloc _) ((HOwAr0_0.out.rd).alloc _) HRNAr0_0.out (by unfold maxLen; omega)).mono ?_
      rintro e w9 ⟨rfl, hb9⟩
      have hz9 : w8.heap.size + 1 ≤ w9.heap.size := by have := hb9.size; first | omega | (simp at this; omega)
      have hzz9 : w.heap.size ≤ w9.heap.size := by omega
      have HB9 : Hid (Below w.heap.size w w9) := below_then (by ((repeat (first | refine Below.alloc ?_ (by first | omega | (simp; done) | (simp; omega)) _ | refine Below.drew ?_)); exact HB8.out)) hb9 (by first | omega | (simp; done) | (simp; omega))
      replace HXaR : Hid (Box w9 (w.heap.size) [.int .i64 z1_0, .slice A1_0 n1_0 c1_0]) := Box.below (HXaR.out.alloc _) hb9
      clear hxaR hkaR
      have hxaR := HXaR.out.2
      have hkaR := HXaR.out.1
      replace HXw0 : Hid (Box w9 (w5.heap.size) [.int .i64 zr0_0, .slice wAr0_0 nr0_0 wcr0_0]) := Box.below (HXw0.out.alloc _) hb9
      clear hxw0 hkw0
      have hxw0 := HXw0.out.2
      have hkw0 := HXw0.out.1
      replace HXx1 : Hid (Box w9 (w6.heap.size) [.int .i64 z1_0, .slice Tx1A1_0 n1_0 n1_0]) := Box.below (HXx1.out.alloc _) hb9
      clear hxx1 hkx1
      have hxx1 := HXx1.out.2
      have hkx1 := HXx1.out.1
      have HXg0 : Hid (Box w9 (w8.heap.size) [.int .i64 zr0_0, .slice gAr0_0 nr0_0 gcr0_0]) := Box.below (Box.new0 _ _ _) hb9
      have hxg0 := HXg0.out.2
      have hkg0 := HXg0.out.1
      replace HOTwA1_0 : Hid (Own w9 qTwA1_0 w3.heap.size TwA1_0 (strs l1_0)) := (HOTwA1_0.out.alloc _).below hb9
      replace HOTwA2 : Hid (Own w9 qTwA2 w4.heap.size TwA2 (strs l2)) := (HOTwA2.out.alloc _).below hb9
      replace HOwAr0_0 : Hid (Own w9 qwAr0_0 w5.heap.size wAr0_0 (strs lr0_0)) := (HOwAr0_0.out.alloc _).below hb9
      replace HOTx1A1_0 : Hid (Own w9 qTx1A1_0 w6.heap.size Tx1A1_0 (strs l1_0)) := (HOTx1A1_0.out.alloc _).below hb9
      replace HOTx2A2 : Hid (Own w9 qTx2A2 w7.heap.size Tx2A2 (strs l2)) := (HOTx2A2.out.alloc _).below hb9
      replace HOgAr0_0 : Hid (Own w9 qgAr0_0 w8.heap.size gAr0_0 (strs lr0_0)) := (HOgAr0_0.out.alloc _).below hb9
      clear hb9
      go_wp2_with fail
      go_region_held3 (fun w' => (∀ o, w'.cell? ⟨w6.heap.size, o, none⟩ = [.int .i64 z1_0, .slice Tx1A1_0 n1_0 n1_0][o]?) ∧ (∀ o, w'.cell? ⟨w.heap.size, o, none⟩ = [.int .i64 z1_0, .slice A1_0 n1_0 c1_0][o]?))
        (first | exact ⟨HXx1.out.2, HXaR.out.2⟩ | exact ⟨HPx1.out.2, HPaR.out.2⟩ | exact ⟨HQx1.out.2, HQaR.out.2⟩)
        (first
        | (go_at_call 66
           refine (toRange_c z1_0 A1_0 c1_0 n1_0 l1_0 _ _ _ (hrA1_0.below (by ((repeat (first | refine Below.alloc ?_ (by first | omega | (simp; done) | (simp; omega)) _ | refine Below.drew ?_)); exact HB9.out))) HNA1_0.out hmA1_0).mono ?_
           rintro e w10 ⟨T10A1_0, rfl, le10_0, hod0, hb10⟩
           have HPx1 : Hid (Box w10 (w6.heap.size) [.int .i64 z1_0, .slice Tx1A1_0 n1_0 n1_0]) := Box.below (HXx1.out.drew) hb10
           have HPaR : Hid (Box w10 (w.heap.size) [.int .i64 z1_0, .slice A1_0 n1_0 c1_0]) := Box.below (HXaR.out.drew) hb10
           have HPOTwA1_0 : Hid (Own w10 qTwA1_0 w3.heap.size TwA1_0 (strs l1_0)) := (HOTwA1_0.out.drew).below hb10
           have HPOTwA2 : Hid (Own w10 qTwA2 w4.heap.size TwA2 (strs l2)) := (HOTwA2.out.drew).below hb10
           have HPOwAr0_0 : Hid (Own w10 qwAr0_0 w5.heap.size wAr0_0 (strs lr0_0)) := (HOwAr0_0.out.drew).below hb10
           have HPOTx1A1_0 : Hid (Own w10 qTx1A1_0 w6.heap.size Tx1A1_0 (strs l1_0)) := (HOTx1A1_0.out.drew).below hb10
           have HPOTx2A2 : Hid (Own w10 qTx2A2 w7.heap.size Tx2A2 (strs l2)) := (HOTx2A2.out.drew).below hb10
           have HPOgAr0_0 : Hid (Own w10 qgAr0_0 w8.heap.size gAr0_0 (strs lr0_0)) := (HOgAr0_0.out.drew).below hb10
           have hz10 : w9.heap.size ≤ w10.heap.size := hb10.size
           have HB10 : Hid (Below w.heap.size w w10) := below_then HB9.out.drew hb10 (by first | omega | (simp; omega))
           have HBB10 := Lib.hid hb10
           clear hb10)
        | (go_at_call 60
           refine (eqRange_c z1_0 Tx1A1_0 n1_0 n1_0 l1_0 T10A1_0 n1_0 _ _ _ _  _ (HPOTx1A1_0.out.rd) hod0.rd HNA1_0.out (by unfold maxLen; omega)).mono ?_
           rintro e w11 ⟨rfl, hb11⟩
           have HQx1 : Hid (Box w11 (w6.heap.size) [.int .i64 z1_0, .slice Tx1A1_0 n1_0 n1_0]) := Box.below HPx1.out hb11
           have HQaR : Hid (Box w11 (w.heap.size) [.int .i64 z1_0, .slice A1_0 n1_0 c1_0]) := Box.below HPaR.out hb11
           have HQOTwA1_0 : Hid (Own w11 qTwA1_0 w3.heap.size TwA1_0 (strs l1_0)) := HPOTwA1_0.out.below hb11
           have HQOTwA2 : Hid (Own w11 qTwA2 w4.heap.size TwA2 (strs l2)) := HPOTwA2.out.below hb11
           have HQOwAr0_0 : Hid (Own w11 qwAr0_0 w5.heap.size wAr0_0 (strs lr0_0)) := HPOwAr0_0.out.below hb11
           have HQOTx1A1_0 : Hid (Own w11 qTx1A1_0 w6.heap.size Tx1A1_0 (strs l1_0)) := HPOTx1A1_0.out.below hb11
           have HQOTx2A2 : Hid (Own w11 qTx2A2 w7.heap.size Tx2A2 (strs l2)) := HPOTx2A2.out.below hb11
           have HQOgAr0_0 : Hid (Own w11 qgAr0_0 w8.heap.size gAr0_0 (strs lr0_0)) := HPOgAr0_0.out.below hb11
           have HQw0 : Hid (Box w11 (w5.heap.size) [.int .i64 zr0_0, .slice wAr0_0 nr0_0 wcr0_0]) := Box.below (Box.below2 HXw0.out.drew HBB10.out) hb11
           have HQg0 : Hid (Box w11 (w8.heap.size) [.int .i64 zr0_0, .slice gAr0_0 nr0_0 gcr0_0]) := Box.below (Box.below2 HXg0.out.drew HBB10.out) hb11
           have hz11 : w10.heap.size ≤ w11.heap.size := hb11.size
           have HB11 : Hid (Below w.heap.size w w11) := below_then HB10.out hb11 (by first | omega | exact HB10.out.size)
           clear hb11))
      have hzz11 : w.heap.size ≤ w11.heap.size := by omega
      replace HOTwA1_0 := HQOTwA1_0
      clear HQOTwA1_0 HPOTwA1_0
      replace HOTwA2 := HQOTwA2
      clear HQOTwA2 HPOTwA2
      replace HOwAr0_0 := HQOwAr0_0
      clear HQOwAr0_0 HPOwAr0_0
      replace HOTx1A1_0 := HQOTx1A1_0
      clear HQOTx1A1_0 HPOTx1A1_0
      replace HOTx2A2 := HQOTx2A2
      clear HQOTx2A2 HPOTx2A2
      replace HOgAr0_0 := HQOgAr0_0
      clear HQOgAr0_0 HPOgAr0_0
      replace HXaR := HQaR
      clear HQaR HPaR hxaR hkaR
      have hxaR := HXaR.out.2
      have hkaR := HXaR.out.1
      replace HXw0 := HQw0
      clear HQw0 hxw0 hkw0
      have hxw0 := HXw0.out.2
      have hkw0 := HXw0.out.1
      replace HXx1 := HQx1
      clear HQx1 HPx1 hxx1 hkx1
      have hxx1 := HXx1.out.2
      have hkx1 := HXx1.out.1
      replace HXg0 := HQg0
      clear HQg0 hxg0 hkg0
      have hxg0 := HXg0.out.2
      have hkg0 := HXg0.out.1
      go_wp2_with fail
      refine (toStringS_c' A2 _ _ _ n2 l2 _ (hrA2.below (by ((repeat (first | refine Below.alloc ?_ (by first | omega | (simp; done) | (simp; omega)) _ | refine Below.drew ?_)); exact HB11.out))) HNA2.out hmA2).mono ?_
      rintro e w12 ⟨TE11A2, rfl, ho, hb12⟩
      have hz12 : w11.heap.size ≤ w12.heap.size := by have := hb12.size; first | omega | (simp at this; omega)
      have hzz12 : w.heap.size ≤ w12.heap.size := by omega
      have HB12 : Hid (Below w.heap.size w w12) := below_then (by ((repeat (first | refine Below.alloc ?_ (by first | omega | (simp; done) | (simp; omega)) _ | refine Below.drew ?_)); exact HB11.out)) hb12 (by first | omega | (simp; done) | (simp; omega))
      replace HXaR : Hid (Box w12 (w.heap.size) [.int .i64 z1_0, .slice A1_0 n1_0 c1_0]) := Box.below HXaR.out hb12
      clear hxaR hkaR
      have hxaR := HXaR.out.2
      have hkaR := HXaR.out.1
      replace HXw0 : Hid (Box w12 (w5.heap.size) [.int .i64 zr0_0, .slice wAr0_0 nr0_0 wcr0_0]) := Box.below HXw0.out hb12
      clear hxw0 hkw0
      have hxw0 := HXw0.out.2
      have hkw0 := HXw0.out.1
      replace HXx1 : Hid (Box w12 (w6.heap.size) [.int .i64 z1_0, .slice Tx1A1_0 n1_0 n1_0]) := Box.below HXx1.out hb12
      clear hxx1 hkx1
      have hxx1 := HXx1.out.2
      have hkx1 := HXx1.out.1
      replace HXg0 : Hid (Box w12 (w8.heap.size) [.int .i64 zr0_0, .slice gAr0_0 nr0_0 gcr0_0]) := Box.below HXg0.out hb12
      clear hxg0 hkg0
      have hxg0 := HXg0.out.2
      have hkg0 := HXg0.out.1
      replace HOTwA1_0 : Hid (Own w12 qTwA1_0 w3.heap.size TwA1_0 (strs l1_0)) := HOTwA1_0.out.below hb12
      replace HOTwA2 : Hid (Own w12 qTwA2 w4.heap.size TwA2 (strs l2)) := HOTwA2.out.below hb12
      replace HOwAr0_0 : Hid (Own w12 qwAr0_0 w5.heap.size wAr0_0 (strs lr0_0)) := HOwAr0_0.out.below hb12
      replace HOTx1A1_0 : Hid (Own w12 qTx1A1_0 w6.heap.size Tx1A1_0 (strs l1_0)) := HOTx1A1_0.out.below hb12
      replace HOTx2A2 : Hid (Own w12 qTx2A2 w7.heap.size Tx2A2 (strs l2)) := HOTx2A2.out.below hb12
      replace HOgAr0_0 : Hid (Own w12 qgAr0_0 w8.heap.size gAr0_0 (strs lr0_0)) := HOgAr0_0.out.below hb12
      obtain ⟨qTE11A2, hqTE11A2, hqqTE11A2, HOTE11A2⟩ : ∃ q, w11.heap.size ≤ q ∧ w12.heap.size ≤ w12.heap.size ∧ Hid (Own w12 q w12.heap.size TE11A2 (strs l2)) := ⟨_, by first | omega | (simp at *; done) | (simp at *; omega), by first | omega | (simp at *; done) | (simp at *; omega), ho⟩
      clear hb12 ho
      go_wp2_with fail
      refine (eqStringS_c' Tx2A2 TE11A2 _ _ _ _ _ _ n2 n2 l2 _ (HOTx2A2.out.rd) (HOTE11A2.out.rd) HNA2.out HNA2.out (by unfold maxLen; omega)).mono ?_
      rintro e w13 ⟨rfl, hb13⟩
      have hz13 : w12.heap.size ≤ w13.heap.size := by have := hb13.size; first | omega | (simp at this; omega)
      have hzz13 : w.heap.size ≤ w13.heap.size := by omega
      have HB13 : Hid (Below w.heap.size w w13) := below_then (by ((repeat (first | refine Below.alloc ?_ (by first | omega | (simp; done) | (simp; omega)) _ | refine Below.drew ?_)); exact HB12.out)) hb13 (by first | omega | (simp; done) | (simp; omega))
      replace HXaR : Hid (Box w13 (w.heap.size) [.int .i64 z1_0, .slice A1_0 n1_0 c1_0]) := Box.below HXaR.out hb13
      clear hxaR hkaR
      have hxaR := HXaR.out.2
      have hkaR := HXaR.out.1
      replace HXw0 : Hid (Box w13 (w5.heap.size) [.int .i64 zr0_0, .slice wAr0_0 nr0_0 wcr0_0]) := Box.below HXw0.out hb13
      clear hxw0 hkw0
      have hxw0 := HXw0.out.2
      have hkw0 := HXw0.out.1
      replace HXx1 : Hid (Box w13 (w6.heap.size) [.int .i64 z1_0, .slice Tx1A1_0 n1_0 n1_0]) := Box.below HXx1.out hb13
      clear hxx1 hkx1
      have hxx1 := HXx1.out.2
      have hkx1 := HXx1.out.1
      replace HXg0 : Hid (Box w13 (w8.heap.size) [.int .i64 zr0_0, .slice gAr0_0 nr0_0 gcr0_0]) := Box.below HXg0.out hb13
      clear hxg0 hkg0
      have hxg0 := HXg0.out.2
      have hkg0 := HXg0.out.1
      replace HOTwA1_0 : Hid (Own w13 qTwA1_0 w3.heap.size TwA1_0 (strs l1_0)) := HOTwA1_0.out.below hb13
      replace HOTwA2 : Hid (Own w13 qTwA2 w4.heap.size TwA2 (strs l2)) := HOTwA2.out.below hb13
      replace HOwAr0_0 : Hid (Own w13 qwAr0_0 w5.heap.size wAr0_0 (strs lr0_0)) := HOwAr0_0.out.below hb13
      replace HOTx1A1_0 : Hid (Own w13 qTx1A1_0 w6.heap.size Tx1A1_0 (strs l1_0)) := HOTx1A1_0.out.below hb13
      replace HOTx2A2 : Hid (Own w13 qTx2A2 w7.heap.size Tx2A2 (strs l2)) := HOTx2A2.out.below hb13
      replace HOgAr0_0 : Hid (Own w13 qgAr0_0 w8.heap.size gAr0_0 (strs lr0_0)) := HOgAr0_0.out.below hb13
      replace HOTE11A2 : Hid (Own w13 qTE11A2 w12.heap.size TE11A2 (strs l2)) := HOTE11A2.out.below hb13
      clear hb13
      clear HOTE11A2
      go_wp2_with fail
      refine (markRange_c z1_0 Tx1A1_0 n1_0 n1_0 qTx1A1_0 w6.heap.size (1) _ (strs l1_0) _ (by omega) (HOTx1A1_0.out) (by rw [strs_len]; exact HNA1_0.out) (by omega)  (by omega)).mono ?_
      rintro e w14 ⟨rfl, hp14_0, ho0⟩
      have hz14_0 : w13.heap.size ≤ w14.heap.size := by have := hp14_0.size; first | omega | (simp at this; omega)
      have hzz14 : w.heap.size ≤ w14.heap.size := by omega
      have HB14 : Hid (Below w.heap.size w w14) := (below_only (by ((repeat (first | refine Below.alloc ?_ (by first | omega | (simp; done) | (simp; omega)) _ | refine Below.drew ?_)); exact HB13.out)) hp14_0 (by omega) (by first | omega | (simp; omega)))
      replace HXaR : Hid (Box w14 (w.heap.size) [.int .i64 z1_0, .slice A1_0 n1_0 c1_0]) := (Box.only HXaR.out hp14_0 (by first | omega | (simp; omega)))
      clear hxaR hkaR
      have hxaR := HXaR.out.2
      have hkaR := HXaR.out.1
      replace HXw0 : Hid (Box w14 (w5.heap.size) [.int .i64 zr0_0, .slice wAr0_0 nr0_0 wcr0_0]) := (Box.only HXw0.out hp14_0 (by first | omega | (simp; omega)))
      clear hxw0 hkw0
      have hxw0 := HXw0.out.2
      have hkw0 := HXw0.out.1
      replace HXx1 : Hid (Box w14 (w6.heap.size) [.int .i64 z1_0, .slice Tx1A1_0 n1_0 n1_0]) := (Box.only HXx1.out hp14_0 (by first | omega | (simp; omega)))
      clear hxx1 hkx1
      have hxx1 := HXx1.out.2
      have hkx1 := HXx1.out.1
      replace HXg0 : Hid (Box w14 (w8.heap.size) [.int .i64 zr0_0, .slice gAr0_0 nr0_0 gcr0_0]) := (Box.only HXg0.out hp14_0 (by first | omega | (simp; omega)))
      clear hxg0 hkg0
      have hxg0 := HXg0.out.2
      have hkg0 := HXg0.out.1
      replace HOTwA1_0 : Hid (Own w14 qTwA1_0 w3.heap.size TwA1_0 (strs l1_0)) := (HOTwA1_0.out.only hp14_0 (by first | omega | (simp; omega)))
      replace HOTwA2 : Hid (Own w14 qTwA2 w4.heap.size TwA2 (strs l2)) := (HOTwA2.out.only hp14_0 (by first | omega | (simp; omega)))
      replace HOwAr0_0 : Hid (Own w14 qwAr0_0 w5.heap.size wAr0_0 (strs lr0_0)) := (HOwAr0_0.out.only hp14_0 (by first | omega | (simp; omega)))
      replace HOTx2A2 : Hid (Own w14 qTx2A2 w7.heap.size Tx2A2 (strs l2)) := (HOTx2A2.out.only hp14_0 (by first | omega | (simp; omega)))
      replace HOgAr0_0 : Hid (Own w14 qgAr0_0 w8.heap.size gAr0_0 (strs lr0_0)) := (HOgAr0_0.out.only hp14_0 (by first | omega | (simp; omega)))
      clear HOTx1A1_0
      clear hp14_0 ho0
      generalize hkk : ((1 + n1_0 : Nat) : Int) = kk14
      have hk0k14 : 0 ≤ kk14 := by omega
      have hkdk14 : decide (kk14 < 0) = false := by simp; omega
      have HKk14 := Lib.hid hkk
      clear hkk
      go_wp2_with fail
      refine (markStringS_c Tx2A2 _ qTx2A2 w7.heap.size (1 + n1_0) n2 _ (strs l2) _ HKk14.out.symm (HOTx2A2.out) (by rw [strs_len]; exact HNA2.out) (by omega)).mono ?_
      rintro e w15 ⟨rfl, hp15_0, ho0⟩
      have hz15_0 : w14.heap.size ≤ w15.heap.size := by have := hp15_0.size; first | omega | (simp at this; omega)
      have hzz15 : w.heap.size ≤ w15.heap.size := by omega
      have HB15 : Hid (Below w.heap.size w w15) := (below_only (by ((repeat (first | refine Below.alloc ?_ (by first | omega | (simp; done) | (simp; omega)) _ | refine Below.drew ?_)); exact HB14.out)) hp15_0 (by omega) (by first | omega | (simp; omega)))
      replace HXaR : Hid (Box w15 (w.heap.size) [.int .i64 z1_0, .slice A1_0 n1_0 c1_0]) := (Box.only HXaR.out hp15_0 (by first | omega | (simp; omega)))
      clear hxaR hkaR
      have hxaR := HXaR.out.2
      have hkaR := HXaR.out.1
      replace HXw0 : Hid (Box w15 (w5.heap.size) [.int .i64 zr0_0, .slice wAr0_0 nr0_0 wcr0_0]) := (Box.only HXw0.out hp15_0 (by first | omega | (simp; omega)))
      clear hxw0 hkw0
      have hxw0 := HXw0.out.2
      have hkw0 := HXw0.out.1
      replace HXx1 : Hid (Box w15 (w6.heap.size) [.int .i64 z1_0, .slice Tx1A1_0 n1_0 n1_0]) := (Box.only HXx1.out hp15_0 (by first | omega | (simp; omega)))
      clear hxx1 hkx1
      have hxx1 := HXx1.out.2
      have hkx1 := HXx1.out.1
      replace HXg0 : Hid (Box w15 (w8.heap.size) [.int .i64 zr0_0, .slice gAr0_0 nr0_0 gcr0_0]) := (Box.only HXg0.out hp15_0 (by first | omega | (simp; omega)))
      clear hxg0 hkg0
      have hxg0 := HXg0.out.2
      have hkg0 := HXg0.out.1
      replace HOTwA1_0 : Hid (Own w15 qTwA1_0 w3.heap.size TwA1_0 (strs l1_0)) := (HOTwA1_0.out.only hp15_0 (by first | omega | (simp; omega)))
      replace HOTwA2 : Hid (Own w15 qTwA2 w4.heap.size TwA2 (strs l2)) := (HOTwA2.out.only hp15_0 (by first | omega | (simp; omega)))
      replace HOwAr0_0 : Hid (Own w15 qwAr0_0 w5.heap.size wAr0_0 (strs lr0_0)) := (HOwAr0_0.out.only hp15_0 (by first | omega | (simp; omega)))
      replace HOgAr0_0 : Hid (Own w15 qgAr0_0 w8.heap.size gAr0_0 (strs lr0_0)) := (HOgAr0_0.out.only hp15_0 (by first | omega | (simp; omega)))
      clear HOTx2A2
      clear hp15_0 ho0
      generalize hkk : ((1 + n1_0 + n2 : Nat) : Int) = kk15
      have hk0k15 : 0 ≤ kk15 := by omega
      have hkdk15 : decide (kk15 < 0) = false := by simp; omega
      have HKk15 := Lib.hid hkk
      clear hkk
      go_wp2_with fail
      refine (eqRange_c zr0_0 gAr0_0 gcr0_0 nr0_0 lr0_0 wAr0_0 wcr0_0 _ _ _ _  _ (HOgAr0_0.out.rd) (HOwAr0_0.out.rd) HRNAr0_0.out (by unfold maxLen; omega)).mono ?_
      rintro e w16 ⟨rfl, hb16⟩
      have hz16 : w15.heap.size ≤ w16.heap.size := by have := hb16.size; first | omega | (simp at this; omega)
      have hzz16 : w.heap.size ≤ w16.heap.size := by omega
      have HB16 : Hid (Below w.heap.size w w16) := below_then (by ((repeat (first | refine Below.alloc ?_ (by first | omega | (simp; done) | (simp; omega)) _ | refine Below.drew ?_)); exact HB15.out)) hb16 (by first | omega | (simp; done) | (simp; omega))
      replace HXaR : Hid (Box w16 (w.heap.size) [.int .i64 z1_0, .slice A1_0 n1_0 c1_0]) := Box.below HXaR.out hb16
      clear hxaR hkaR
      have hxaR := HXaR.out.2
      have hkaR := HXaR.out.1
      replace HXw0 : Hid (Box w16 (w5.heap.size) [.int .i64 zr0_0, .slice wAr0_0 nr0_0 wcr0_0]) := Box.below HXw0.out hb16
      clear hxw0 hkw0
      have hxw0 := HXw0.out.2
      have hkw0 := HXw0.out.1
      replace HXx1 : Hid (Box w16 (w6.heap.size) [.int .i64 z1_0, .slice Tx1A1_0 n1_0 n1_0]) := Box.below HXx1.out hb16
      clear hxx1 hkx1
      have hxx1 := HXx1.out.2
      have hkx1 := HXx1.out.1
      replace HXg0 : Hid (Box w16 (w8.heap.size) [.int .i64 zr0_0, .slice gAr0_0 nr0_0 gcr0_0]) := Box.below HXg0.out hb16
      clear hxg0 hkg0
      have hxg0 := HXg0.out.2
      have hkg0 := HXg0.out.1
      replace HOTwA1_0 : Hid (Own w16 qTwA1_0 w3.heap.size TwA1_0 (strs l1_0)) := HOTwA1_0.out.below hb16
      replace HOTwA2 : Hid (Own w16 qTwA2 w4.heap.size TwA2 (strs l2)) := HOTwA2.out.below hb16
      replace HOwAr0_0 : Hid (Own w16 qwAr0_0 w5.heap.size wAr0_0 (strs lr0_0)) := HOwAr0_0.out.below hb16
      replace HOgAr0_0 : Hid (Own w16 qgAr0_0 w8.heap.size gAr0_0 (strs lr0_0)) := HOgAr0_0.out.below hb16
      clear hb16
      go_wp2_with fail
      refine (markRange_c zr0_0 gAr0_0 gcr0_0 nr0_0 qgAr0_0 w8.heap.size (1) _ (strs lr0_0) _ (by omega) (HOgAr0_0.out) (by rw [strs_len]; exact HRNAr0_0.out) (by omega)  (by omega)).mono ?_
      rintro e w17 ⟨rfl, hp17_0, ho0⟩
      have hz17_0 : w16.heap.size ≤ w17.heap.size := by have := hp17_0.size; first | omega | (simp at this; omega)
      have hzz17 : w.heap.size ≤ w17.heap.size := by omega
      have HB17 : Hid (Below w.heap.size w w17) := (below_only (by ((repeat (first | refine Below.alloc ?_ (by first | omega | (simp; done) | (simp; omega)) _ | refine Below.drew ?_)); exact HB16.out)) hp17_0 (by omega) (by first | omega | (simp; omega)))
      replace HXaR : Hid (Box w17 (w.heap.size) [.int .i64 z1_0, .slice A1_0 n1_0 c1_0]) := (Box.only HXaR.out hp17_0 (by first | omega | (simp; omega)))
      clear hxaR hkaR
      have hxaR := HXaR.out.2
      have hkaR := HXaR.out.1
      replace HXw0 : Hid (Box w17 (w5.heap.size) [.int .i64 zr0_0, .slice wAr0_0 nr0_0 wcr0_0]) := (Box.only HXw0.out hp17_0 (by first | omega | (simp; omega)))
      clear hxw0 hkw0
      have hxw0 := HXw0.out.2
      have hkw0 := HXw0.out.1
      replace HXx1 : Hid (Box w17 (w6.heap.size) [.int .i64 z1_0, .slice Tx1A1_0 n1_0 n1_0]) := (Box.only HXx1.out hp17_0 (by first | omega | (simp; omega)))
      clear hxx1 hkx1
      have hxx1 := HXx1.out.2
      have hkx1 := HXx1.out.1
      replace HXg0 : Hid (Box w17 (w8.heap.size) [.int .i64 zr0_0, .slice gAr0_0 nr0_0 gcr0_0]) := (Box.only HXg0.out hp17_0 (by first | omega | (simp; omega)))
      clear hxg0 hkg0
      have hxg0 := HXg0.out.2
      have hkg0 := HXg0.out.1
      replace HOTwA1_0 : Hid (Own w17 qTwA1_0 w3.heap.size TwA1_0 (strs l1_0)) := (HOTwA1_0.out.only hp17_0 (by first | omega | (simp; omega)))
      replace HOTwA2 : Hid (Own w17 qTwA2 w4.heap.size TwA2 (strs l2)) := (HOTwA2.out.only hp17_0 (by first | omega | (simp; omega)))
      replace HOwAr0_0 : Hid (Own w17 qwAr0_0 w5.heap.size wAr0_0 (strs lr0_0)) := (HOwAr0_0.out.only hp17_0 (by first | omega | (simp; omega)))
      replace HOgAr0_0 : Hid (Own w17 qgAr0_0 w8.heap.size gAr0_0 (strs (marks (1) nr0_0))) := ho0
      clear hp17_0 ho0
      generalize hkk : ((1 + nr0_0 : Nat) : Int) = km17
      have hk0m17 : 0 ≤ km17 := by omega
      have hkdm17 : decide (km17 < 0) = false := by simp; omega
      have HKm17 := Lib.hid hkk
      clear hkk
      go_wp2_with fail
      refine (heldRange_c zr0_0 gAr0_0 gcr0_0 nr0_0 _ _ (1) _ _ (by omega) (HOgAr0_0.out.rd) (by omega)).mono ?_
      rintro e w18 ⟨rfl, hb18⟩
      have hz18 : w17.heap.size ≤ w18.heap.size := by have := hb18.size; first | omega | (simp at this; omega)
      have hzz18 : w.heap.size ≤ w18.heap.size := by omega
      have HB18 : Hid (Below w.heap.size w w18) := below_then (by ((repeat (first | refine Below.alloc ?_ (by first | omega | (simp; done) | (simp; omega)) _ | refine Below.drew ?_)); exact HB17.out)) hb18 (by first | omega | (simp; done) | (simp; omega))
      replace HXaR : Hid (Box w18 (w.heap.size) [.int .i64 z1_0, .slice A1_0 n1_0 c1_0]) := Box.below HXaR.out hb18
      clear hxaR hkaR
      have hxaR := HXaR.out.2
      have hkaR := HXaR.out.1
      replace HXw0 : Hid (Box w18 (w5.heap.size) [.int .i64 zr0_0, .slice wAr0_0 nr0_0 wcr0_0]) := Box.below HXw0.out hb18
      clear hxw0 hkw0
      have hxw0 := HXw0.out.2
      have hkw0 := HXw0.out.1
      replace HXx1 : Hid (Box w18 (w6.heap.size) [.int .i64 z1_0, .slice Tx1A1_0 n1_0 n1_0]) := Box.below HXx1.out hb18
      clear hxx1 hkx1
      have hxx1 := HXx1.out.2
      have hkx1 := HXx1.out.1
      replace HXg0 : Hid (Box w18 (w8.heap.size) [.int .i64 zr0_0, .slice gAr0_0 nr0_0 gcr0_0]) := Box.below HXg0.out hb18
      clear hxg0 hkg0
      have hxg0 := HXg0.out.2
      have hkg0 := HXg0.out.1
      replace HOTwA1_0 : Hid (Own w18 qTwA1_0 w3.heap.size TwA1_0 (strs l1_0)) := HOTwA1_0.out.below hb18
      replace HOTwA2 : Hid (Own w18 qTwA2 w4.heap.size TwA2 (strs l2)) := HOTwA2.out.below hb18
      replace HOwAr0_0 : Hid (Own w18 qwAr0_0 w5.heap.size wAr0_0 (strs lr0_0)) := HOwAr0_0.out.below hb18
      replace HOgAr0_0 : Hid (Own w18 qgAr0_0 w8.heap.size gAr0_0 (strs (marks (1) nr0_0))) := HOgAr0_0.out.below hb18
      clear hb18
      generalize hkk : ((1 + nr0_0 : Nat) : Int) = kq18
      have hk0q18 : 0 ≤ kq18 := by omega
      have hkdq18 : decide (kq18 < 0) = false := by simp; omega
      have HKq18 := Lib.hid hkk
      clear hkk
      obtain rfl : kq18 = km17 := HKq18.out.symm.trans HKm17.out
      go_wp2_with fail
      refine (toRange_c z1_0 A1_0 c1_0 n1_0 l1_0 _ _ _ (hrA1_0.below (by ((repeat (first | refine Below.alloc ?_ (by first | omega | (simp; done) | (simp; omega)) _ | refine Below.drew ?_)); exact HB18.out))) HNA1_0.out hmA1_0).mono ?_
      rintro e w19 ⟨ThA1_0, rfl, le19_0, ho0, hb19⟩
      have hz19 : w18.heap.size ≤ w19.heap.size := by have := hb19.size; first | omega | (simp at this; omega)
      have hzz19 : w.heap.size ≤ w19.heap.size := by omega
      have HB19 : Hid (Below w.heap.size w w19) := below_then (by ((repeat (first | refine Below.alloc ?_ (by first | omega | (simp; done) | (simp; omega)) _ | refine Below.drew ?_)); exact HB18.out)) hb19 (by first | omega | (simp; done) | (simp; omega))
      replace HXaR : Hid (Box w19 (w.heap.size) [.int .i64 z1_0, .slice A1_0 n1_0 c1_0]) := Box.below HXaR.out hb19
      clear hxaR hkaR
      have hxaR := HXaR.out.2
      have hkaR := HXaR.out.1
      replace HXw0 : Hid (Box w19 (w5.heap.size) [.int .i64 zr0_0, .slice wAr0_0 nr0_0 wcr0_0]) := Box.below HXw0.out hb19
      clear hxw0 hkw0
      have hxw0 := HXw0.out.2
      have hkw0 := HXw0.out.1
      replace HXx1 : Hid (Box w19 (w6.heap.size) [.int .i64 z1_0, .slice Tx1A1_0 n1_0 n1_0]) := Box.below HXx1.out hb19
      clear hxx1 hkx1
      have hxx1 := HXx1.out.2
      have hkx1 := HXx1.out.1
      replace HXg0 : Hid (Box w19 (w8.heap.size) [.int .i64 zr0_0, .slice gAr0_0 nr0_0 gcr0_0]) := Box.below HXg0.out hb19
      clear hxg0 hkg0
      have hxg0 := HXg0.out.2
      have hkg0 := HXg0.out.1
      replace HOTwA1_0 : Hid (Own w19 qTwA1_0 w3.heap.size TwA1_0 (strs l1_0)) := HOTwA1_0.out.below hb19
      replace HOTwA2 : Hid (Own w19 qTwA2 w4.heap.size TwA2 (strs l2)) := HOTwA2.out.below hb19
      replace HOwAr0_0 : Hid (Own w19 qwAr0_0 w5.heap.size wAr0_0 (strs lr0_0)) := HOwAr0_0.out.below hb19
      replace HOgAr0_0 : Hid (Own w19 qgAr0_0 w8.heap.size gAr0_0 (strs (marks (1) nr0_0))) := HOgAr0_0.out.below hb19
      obtain ⟨qThA1_0, hqThA1_0, hqqThA1_0, HOThA1_0⟩ : ∃ q, w18.heap.size ≤ q ∧ w19.heap.size ≤ w19.heap.size ∧ Hid (Own w19 q w19.heap.size ThA1_0 (strs l1_0)) := ⟨_, by first | omega | (simp at *; done) | (simp at *; omega), by first | omega | (simp at *; done) | (simp at *; omega), ho0⟩
      clear hb19 ho0
      go_wp2_with fail
      refine (toStringS_c' A2 _ _ _ n2 l2 _ (hrA2.below (by ((repeat (first | refine Below.alloc ?_ (by first | omega | (simp; done) | (simp; omega)) _ | refine Below.drew ?_)); exact HB19.out))) HNA2.out hmA2).mono ?_
      rintro e w20 ⟨ThA2, rfl, ho, hb20⟩
      have hz20 : w19.heap.size ≤ w20.heap.size := by have := hb20.size; first | omega | (simp at this; omega)
      have hzz20 : w.heap.size ≤ w20.heap.size := by omega
      have HB20 : Hid (Below w.heap.size w w20) := below_then (by ((repeat (first | refine Below.alloc ?_ (by first | omega | (simp; done) | (simp; omega)) _ | refine Below.drew ?_)); exact HB19.out)) hb20 (by first | omega | (simp; done) | (simp; omega))
      replace HXaR : Hid (Box w20 (w.heap.size) [.int .i64 z1_0, .slice A1_0 n1_0 c1_0]) := Box.below HXaR.out hb20
      clear hxaR hkaR
      have hxaR := HXaR.out.2
      have hkaR := HXaR.out.1
      replace HXw0 : Hid (Box w20 (w5.heap.size) [.int .i64 zr0_0, .slice wAr0_0 nr0_0 wcr0_0]) := Box.below HXw0.out hb20
      clear hxw0 hkw0
      have hxw0 := HXw0.out.2
      have hkw0 := HXw0.out.1
      replace HXx1 : Hid (Box w20 (w6.heap.size) [.int .i64 z1_0, .slice Tx1A1_0 n1_0 n1_0]) := Box.below HXx1.out hb20
      clear hxx1 hkx1
      have hxx1 := HXx1.out.2
      have hkx1 := HXx1.out.1
      replace HXg0 : Hid (Box w20 (w8.heap.size) [.int .i64 zr0_0, .slice gAr0_0 nr0_0 gcr0_0]) := Box.below HXg0.out hb20
      clear hxg0 hkg0
      have hxg0 := HXg0.out.2
      have hkg0 := HXg0.out.1
      replace HOTwA1_0 : Hid (Own w20 qTwA1_0 w3.heap.size TwA1_0 (strs l1_0)) := HOTwA1_0.out.below hb20
      replace HOTwA2 : Hid (Own w20 qTwA2 w4.heap.size TwA2 (strs l2)) := HOTwA2.out.below hb20
      replace HOwAr0_0 : Hid (Own w20 qwAr0_0 w5.heap.size wAr0_0 (strs lr0_0)) := HOwAr0_0.out.below hb20
      replace HOgAr0_0 : Hid (Own w20 qgAr0_0 w8.heap.size gAr0_0 (strs (marks (1) nr0_0))) := HOgAr0_0.out.below hb20
      replace HOThA1_0 : Hid (Own w20 qThA1_0 w19.heap.size ThA1_0 (strs l1_0)) := HOThA1_0.out.below hb20
      obtain ⟨qThA2, hqThA2, hqqThA2, HOThA2⟩ : ∃ q, w19.heap.size ≤ q ∧ w20.heap.size ≤ w20.heap.size ∧ Hid (Own w20 q w20.heap.size ThA2 (strs l2)) := ⟨_, by first | omega | (simp at *; done) | (simp at *; omega), by first | omega | (simp at *; done) | (simp at *; omega), ho⟩
      clear hb20 ho
      go_wp2_with fail
      refine (HIM hbk _ _ _ _ _ _ _ _ _ (HOThA1_0.out.rd) rfl (HOThA2.out.rd) rfl).mono ?_
      rintro e w21 ⟨hAr0_0, hcr0_0, rfl, ho0, hb21⟩
      have hz21 : w20.heap.size ≤ w21.heap.size := by have := hb21.size; first | omega | (simp at this; omega)
      have hzz21 : w.heap.size ≤ w21.heap.size := by omega
      have HB21 : Hid (Below w.heap.size w w21) := below_then (by ((repeat (first | refine Below.alloc ?_ (by first | omega | (simp; done) | (simp; omega)) _ | refine Below.drew ?_)); exact HB20.out)) hb21 (by first | omega | (simp; done) | (simp; omega))
      replace HXaR : Hid (Box w21 (w.heap.size) [.int .i64 z1_0, .slice A1_0 n1_0 c1_0]) := Box.below HXaR.out hb21
      clear hxaR hkaR
      have hxaR := HXaR.out.2
      have hkaR := HXaR.out.1
      replace HXw0 : Hid (Box w21 (w5.heap.size) [.int .i64 zr0_0, .slice wAr0_0 nr0_0 wcr0_0]) := Box.below HXw0.out hb21
      clear hxw0 hkw0
      have hxw0 := HXw0.out.2
      have hkw0 := HXw0.out.1
      replace HXx1 : Hid (Box w21 (w6.heap.size) [.int .i64 z1_0, .slice Tx1A1_0 n1_0 n1_0]) := Box.below HXx1.out hb21
      clear hxx1 hkx1
      have hxx1 := HXx1.out.2
      have hkx1 := HXx1.out.1
      replace HXg0 : Hid (Box w21 (w8.heap.size) [.int .i64 zr0_0, .slice gAr0_0 nr0_0 gcr0_0]) := Box.below HXg0.out hb21
      clear hxg0 hkg0
      have hxg0 := HXg0.out.2
      have hkg0 := HXg0.out.1
      replace HOTwA1_0 : Hid (Own w21 qTwA1_0 w3.heap.size TwA1_0 (strs l1_0)) := HOTwA1_0.out.below hb21
      replace HOTwA2 : Hid (Own w21 qTwA2 w4.heap.size TwA2 (strs l2)) := HOTwA2.out.below hb21
      replace HOwAr0_0 : Hid (Own w21 qwAr0_0 w5.heap.size wAr0_0 (strs lr0_0)) := HOwAr0_0.out.below hb21
      replace HOgAr0_0 : Hid (Own w21 qgAr0_0 w8.heap.size gAr0_0 (strs (marks (1) nr0_0))) := HOgAr0_0.out.below hb21
      replace HOThA1_0 : Hid (Own w21 qThA1_0 w19.heap.size ThA1_0 (strs l1_0)) := HOThA1_0.out.below hb21
      replace HOThA2 : Hid (Own w21 qThA2 w20.heap.size ThA2 (strs l2)) := HOThA2.out.below hb21
      obtain ⟨qhAr0_0, hqhAr0_0, HOhAr0_0⟩ : ∃ q, w20.heap.size ≤ q ∧ Hid (Own w21 q w21.heap.size hAr0_0 (strs lr0_0)) := ⟨_, by first | omega | (simp at *; done) | (simp at *; omega), ho0⟩
      clear hb21 ho0
      go_wp2_with fail
      refine (eqRange_c zr0_0 hAr0_0 hcr0_0 nr0_0 lr0_0 wAr0_0 wcr0_0 _ _ _ _  _ ((HOhAr0_0.out.rd).alloc _) ((HOwAr0_0.out.rd).alloc _) HRNAr0_0.out (by unfold maxLen; omega)).mono ?_
      rintro e w22 ⟨rfl, hb22⟩
      have hz22 : w21.heap.size + 1 ≤ w22.heap.size := by have := hb22.size; first | omega | (simp at this; omega)
      have hzz22 : w.heap.size ≤ w22.heap.size := by omega
      have HB22 : Hid (Below w.heap.size w w22) := below_then (by ((repeat (first | refine Below.alloc ?_ (by first | omega | (simp; done) | (simp; omega)) _ | refine Below.drew ?_)); exact HB21.out)) hb22 (by first | omega | (simp; done) | (simp; omega))
      replace HXaR : Hid (Box w22 (w.heap.size) [.int .i64 z1_0, .slice A1_0 n1_0 c1_0]) := Box.below (HXaR.out.alloc _) hb22
      clear hxaR hkaR
      have hxaR := HXaR.out.2
      have hkaR := HXaR.out.1
      replace HXw0 : Hid (Box w22 (w5.heap.size) [.int .i64 zr0_0, .slice wAr0_0 nr0_0 wcr0_0]) := Box.below (HXw0.out.alloc _) hb22
      clear hxw0 hkw0
      have hxw0 := HXw0.out.2
      have hkw0 := HXw0.out.1
      replace HXx1 : Hid (Box w22 (w6.heap.size) [.int .i64 z1_0, .slice Tx1A1_0 n1_0 n1_0]) := Box.below (HXx1.out.alloc _) hb22
      clear hxx1 hkx1
      have hxx1 := HXx1.out.2
      have hkx1 := HXx1.out.1
      replace HXg0 : Hid (Box w22 (w8.heap.size) [.int .i64 zr0_0, .slice gAr0_0 nr0_0 gcr0_0]) := Box.below (HXg0.out.alloc _) hb22
      clear hxg0 hkg0
      have hxg0 := HXg0.out.2
      have hkg0 := HXg0.out.1
      have HXh0 : Hid (Box w22 (w21.heap.size) [.int .i64 zr0_0, .slice hAr0_0 nr0_0 hcr0_0]) := Box.below (Box.new0 _ _ _) hb22
      have hxh0 := HXh0.out.2
      have hkh0 := HXh0.out.1
      replace HOTwA1_0 : Hid (Own w22 qTwA1_0 w3.heap.size TwA1_0 (strs l1_0)) := (HOTwA1_0.out.alloc _).below hb22
      replace HOTwA2 : Hid (Own w22 qTwA2 w4.heap.size TwA2 (strs l2)) := (HOTwA2.out.alloc _).below hb22
      replace HOwAr0_0 : Hid (Own w22 qwAr0_0 w5.heap.size wAr0_0 (strs lr0_0)) := (HOwAr0_0.out.alloc _).below hb22
      replace HOgAr0_0 : Hid (Own w22 qgAr0_0 w8.heap.size gAr0_0 (strs (marks (1) nr0_0))) := (HOgAr0_0.out.alloc _).below hb22
      replace HOThA1_0 : Hid (Own w22 qThA1_0 w19.heap.size ThA1_0 (strs l1_0)) := (HOThA1_0.out.alloc _).below hb22
      replace HOThA2 : Hid (Own w22 qThA2 w20.heap.size ThA2 (strs l2)) := (HOThA2.out.alloc _).below hb22
      replace HOhAr0_0 : Hid (Own w22 qhAr0_0 w21.heap.size hAr0_0 (strs lr0_0)) := (HOhAr0_0.out.alloc _).below hb22
      clear hb22
      go_wp2_with fail
      refine (heldRange_c zr0_0 gAr0_0 gcr0_0 nr0_0 _ _ (1) _ _ (by omega) (HOgAr0_0.out.rd) (by omega)).mono ?_
      rintro e w23 ⟨rfl, hb23⟩
      have hz23 : w22.heap.size ≤ w23.heap.size := by have := hb23.size; first | omega | (simp at this; omega)
      have hzz23 : w.heap.size ≤ w23.heap.size := by omega
      have HB23 : Hid (Below w.heap.size w w23) := below_then (by ((repeat (first | refine Below.alloc ?_ (by first | omega | (simp; done) | (simp; omega)) _ | refine Below.drew ?_)); exact HB22.out)) hb23 (by first | omega | (simp; done) | (simp; omega))
      replace HXaR : Hid (Box w23 (w.heap.size) [.int .i64 z1_0, .slice A1_0 n1_0 c1_0]) := Box.below HXaR.out hb23
      clear hxaR hkaR
      have hxaR := HXaR.out.2
      have hkaR := HXaR.out.1
      replace HXw0 : Hid (Box w23 (w5.heap.size) [.int .i64 zr0_0, .slice wAr0_0 nr0_0 wcr0_0]) := Box.below HXw0.out hb23
      clear hxw0 hkw0
      have hxw0 := HXw0.out.2
      have hkw0 := HXw0.out.1
      replace HXx1 : Hid (Box w23 (w6.heap.size) [.int .i64 z1_0, .slice Tx1A1_0 n1_0 n1_0]) := Box.below HXx1.out hb23
      clear hxx1 hkx1
      have hxx1 := HXx1.out.2
      have hkx1 := HXx1.out.1
      replace HXg0 : Hid (Box w23 (w8.heap.size) [.int .i64 zr0_0, .slice gAr0_0 nr0_0 gcr0_0]) := Box.below HXg0.out hb23
      clear hxg0 hkg0
      have hxg0 := HXg0.out.2
      have hkg0 := HXg0.out.1
      replace HXh0 : Hid (Box w23 (w21.heap.size) [.int .i64 zr0_0, .slice hAr0_0 nr0_0 hcr0_0]) := Box.below HXh0.out hb23
      clear hxh0 hkh0
      have hxh0 := HXh0.out.2
      have hkh0 := HXh0.out.1
      replace HOTwA1_0 : Hid (Own w23 qTwA1_0 w3.heap.size TwA1_0 (strs l1_0)) := HOTwA1_0.out.below hb23
      replace HOTwA2 : Hid (Own w23 qTwA2 w4.heap.size TwA2 (strs l2)) := HOTwA2.out.below hb23
      replace HOwAr0_0 : Hid (Own w23 qwAr0_0 w5.heap.size wAr0_0 (strs lr0_0)) := HOwAr0_0.out.below hb23
      replace HOgAr0_0 : Hid (Own w23 qgAr0_0 w8.heap.size gAr0_0 (strs (marks (1) nr0_0))) := HOgAr0_0.out.below hb23
      replace HOThA1_0 : Hid (Own w23 qThA1_0 w19.heap.size ThA1_0 (strs l1_0)) := HOThA1_0.out.below hb23
      replace HOThA2 : Hid (Own w23 qThA2 w20.heap.size ThA2 (strs l2)) := HOThA2.out.below hb23
      replace HOhAr0_0 : Hid (Own w23 qhAr0_0 w21.heap.size hAr0_0 (strs lr0_0)) := HOhAr0_0.out.below hb23
      clear hb23
      generalize hkk : ((1 + nr0_0 : Nat) : Int) = kq23
      have hk0q23 : 0 ≤ kq23 := by omega
      have hkdq23 : decide (kq23 < 0) = false := by simp; omega
      have HKq23 := Lib.hid hkk
      clear hkk
      obtain rfl : kq23 = kq18 := HKq23.out.symm.trans HKq18.out
      go_wp2
      go_ret
      exact ⟨rfl, HB23.out⟩

section
open Go.ChangeShapes Go.WideShapes Go.ChangeAt
open Go.ChangeMaps (open_string)
set_option maxRecDepth 100000 in
theorem lifted_GrowAll (f0 : Int → Int → (List ByteArray) → (List ByteArray) → Int) (f1 : Int → Int → (List ByteArray) → (List ByteArray) → List ByteArray) (f2 : Int → Int → (List ByteArray) → (List ByteArray) → Int) (f3 : Int → Int → (List ByteArray) → (List ByteArray) → Bool) (hsp : ∀ (z0 : Int) (z1_0 : Int) (l1_0 : List ByteArray) (l2 : List ByteArray), (I64 z0) → (I64 z1_0) → specGrowAll_does z0 z1_0 l1_0.length l1_0 l2.length l2 (f0 z0 z1_0 l1_0 l2) (f1 z0 z1_0 l1_0 l2).length (f1 z0 z1_0 l1_0 l2) (f2 z0 z1_0 l1_0 l2) (f3 z0 z1_0 l1_0 l2)) (him : ∀ (z0 : Int) (z1_0 : Int) (l1_0 : List ByteArray) (l2 : List ByteArray), (I64 z0) → (I64 z1_0) → implGrowAll_does z0 z1_0 l1_0.length l1_0 l2.length l2 (f0 z0 z1_0 l1_0 l2) (f1 z0 z1_0 l1_0 l2).length (f1 z0 z1_0 l1_0 l2) (f2 z0 z1_0 l1_0 l2) (f3 z0 z1_0 l1_0 l2)) (hlen0 : ∀ (z0 : Int) (z1_0 : Int) (l1_0 : List ByteArray) (l2 : List ByteArray), (I64 z0) → (I64 z1_0) → ((l1_0.length + bulkS l1_0)) + (l2.length + bulkS l2) ≤ 1048576 → (f1 z0 z1_0 l1_0 l2).length ≤ 2000000) (os : Os) (started : os.Started) (H : Type) (enc : TypeId × Value → H) :
    ReturnsInHanded {} Try.checked os 15 .any (Rows.fnExactGrowAllSpec.pre6 enc Try.prog Try.f15 Rows.fnExactGrowAllRow.domain false) (Rows.fnExactGrowAllSpec.post enc Try.prog Try.f15 false true false false) := by
  refine returnsInHanded_of_change (C := Try.checked) Try.own started (by kernel_rfl) Try.func15
    (ChangeSpec.witness6 (enc := enc) (C := Try.checked) false ⟨#[], #[.int .i64 0, .agg #[.int .i64 0, .slice none 0 0], .slice none 0 0], []⟩ 8 (by kernel_rfl) (by kernel_rfl) (by kernel_rfl) (by kernel_rfl)) ?_
  intro W base args ds gs before hval0 hW hcnd _
  have hval : ∀ (j : Nat) t v, Try.f15.params[j]? = some t → args[j]? = some v → Value.okWide Try.prog W .any base t v := hval0
  have hW' := hW
  obtain ⟨p, q, hA0, hV, rfl, hfz, hnd⟩ := hW
  have hA : DataW.TrodAll enc Try.prog W 0 (fun _ => true) true Try.f15.params.toList args.toList ds p := hA0
  rw [Try.params15] at hA hval
  obtain ⟨v0, vs0, d0, ds0, p0, q0, hargs, rfl, rfl, h0, r0⟩ := trodAll_cons hA
  obtain ⟨v1, vs1, d1, ds1, p1, q1, rfl, rfl, rfl, h1, r1⟩ := trodAll_cons r0
  obtain ⟨v2, vs2, d2, ds2, p2, q2, rfl, rfl, rfl, h2, r2⟩ := trodAll_cons r1
  obtain ⟨rfl, rfl, rfl⟩ := trodAll_nil r2
  obtain rfl : args = #[v0, v1, v2] := by cases args; simp_all
  obtain ⟨rfl, rfl⟩ := trodVars_none hV
  have lt0 : ∀ x ∈ p0, x.block < W.heap.size := by obtain ⟨m, hm⟩ := h0; exact DataW.trod_lt m _ _ _ hm
  have kk0 := h0
  have lt1 : ∀ x ∈ p1, x.block < W.heap.size := by obtain ⟨m, hm⟩ := h1; exact DataW.trod_lt m _ _ _ hm
  have kk1 := h1
  have lt2 : ∀ x ∈ p2, x.block < W.heap.size := by obtain ⟨m, hm⟩ := h2; exact DataW.trod_lt m _ _ _ hm
  have kk2 := h2
  obtain ⟨z0, rfl, rfl, rfl, wi0⟩ := open_int Try.underlying3 (hval 0 _ v0 rfl rfl) h0
  have hiz0 : I64 z0 := i64_of_wf wi0
  obtain ⟨z1_0, A1_0, n1_0, c1_0, l1_0, rfl, hiz1_0, o1_0, hil1_0⟩ := open_Range (hval 1 _ v1 rfl rfl) h1
  obtain ⟨rfl, o1_0b, o1_0c, o1_0d⟩ := o1_0
  obtain ⟨A2, n2, c2, l2, rfl, o2, hil2⟩ := open_strs (hval 2 _ v2 rfl rfl) h2
  obtain ⟨rfl, o2b, o2c, o2d⟩ := o2
  clear hA0 hval0
  refine (walk_GrowAll z0 z1_0 A1_0 c1_0 _ l1_0 A2 c2 _ l2 _ _ _ _ _ W o1_0d rfl (Nat.le_trans o1_0b o1_0c) hil1_0 o2d rfl (Nat.le_trans o2b o2c) hil2 rfl (hlen0 z0 z1_0 l1_0 l2 hiz0 hiz1_0) (hsp z0 z1_0 l1_0 l2 hiz0 hiz1_0) (him z0 z1_0 l1_0 l2 hiz0 hiz1_0)).mono fun e W' ⟨he, bel⟩ => ?_
  subst he
  exact ⟨_, rfl, _, _, _, [], _, [], hW', trodAll_mk1 (shut_bool Try.underlying4 _), (trodAll_cons_mk (Below.trod Try.laidOut (by kernel_rfl) (of_decide_eq_true (by kernel_rfl)) kk0 bel lt0) (trodAll_cons_mk (Below.trod Try.laidOut (by kernel_rfl) (of_decide_eq_true (by kernel_rfl)) kk1 bel lt1) (trodAll_cons_mk (Below.trod Try.laidOut (by kernel_rfl) (of_decide_eq_true (by kernel_rfl)) kk2 bel lt2) trodAll_mk0))), rfl, bel.frame _, fun h => by cases h⟩
theorem said_GrowAll (f0 : Int → Int → (List ByteArray) → (List ByteArray) → Int) (f1 : Int → Int → (List ByteArray) → (List ByteArray) → List ByteArray) (f2 : Int → Int → (List ByteArray) → (List ByteArray) → Int) (f3 : Int → Int → (List ByteArray) → (List ByteArray) → Bool) (hsp : ∀ (z0 : Int) (z1_0 : Int) (l1_0 : List ByteArray) (l2 : List ByteArray), (I64 z0) → (I64 z1_0) → specGrowAll_does z0 z1_0 l1_0.length l1_0 l2.length l2 (f0 z0 z1_0 l1_0 l2) (f1 z0 z1_0 l1_0 l2).length (f1 z0 z1_0 l1_0 l2) (f2 z0 z1_0 l1_0 l2) (f3 z0 z1_0 l1_0 l2)) (him : ∀ (z0 : Int) (z1_0 : Int) (l1_0 : List ByteArray) (l2 : List ByteArray), (I64 z0) → (I64 z1_0) → implGrowAll_does z0 z1_0 l1_0.length l1_0 l2.length l2 (f0 z0 z1_0 l1_0 l2) (f1 z0 z1_0 l1_0 l2).length (f1 z0 z1_0 l1_0 l2) (f2 z0 z1_0 l1_0 l2) (f3 z0 z1_0 l1_0 l2)) (hlen0 : ∀ (z0 : Int) (z1_0 : Int) (l1_0 : List ByteArray) (l2 : List ByteArray), (I64 z0) → (I64 z1_0) → ((l1_0.length + bulkS l1_0)) + (l2.length + bulkS l2) ≤ 1048576 → (f1 z0 z1_0 l1_0 l2).length ≤ 2000000) : Rows.FnExactGrowAllSaid :=
  OpenClaim.holds_of_wide 15 Try.f15 rfl rfl rfl rfl rfl rfl rfl ⟨rfl, rfl, rfl, rfl, rfl⟩ rfl rfl rfl rfl rfl (by kernel_rfl) Try.func15 (by show joinedFacts Try.prog 15 Try.f15 Rows.fnExactGrowAllSpec Rows.fnExactGrowAllRow = true; unfold joinedFacts; rw [seat_enter, seat_final, seat_make]; kernel_rfl)
    (of_decide_eq_true (by kernel_rfl)) (by unfold Func.isWrapper; first | (rw [if_pos (by decide +kernel)]; kernel_rfl) | (rw [if_neg (by decide +kernel)]; exact ⟨rfl, rfl⟩))
    (fun os started H enc _ => lifted_GrowAll f0 f1 f2 f3 hsp him hlen0 os started H enc)
end
end Go.Proofs.Ytojjjhbiccgjkaa
