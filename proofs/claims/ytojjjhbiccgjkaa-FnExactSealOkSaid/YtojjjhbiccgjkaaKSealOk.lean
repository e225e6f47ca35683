/- The walk of the law FnExactSealOk; what spec.SealOk and impl.SealOk do comes in as hypotheses. Written by gen_law.py. -/
import Derived.Test.YtojjjhbiccgjkaaData
import Derived.Test.YtojjjhbiccgjkaaStr
import Derived.Test.YtojjjhbiccgjkaaWSeal
import Derived.Test.YtojjjhbiccgjkaaOpen
import Derived.Test.YtojjjhbiccgjkaaSeat
namespace Go.Proofs.Ytojjjhbiccgjkaa
set_option linter.unusedVariables false
set_option linter.unusedSimpArgs false
open Go.RowKit
attribute [local go_sem ↓] Go.wp_at_zero Go.wp_at_succ

def specSealOk_does (z0 : Int) (z1_0 z1_1 : Int) (d1_0 : Hd) (n1_0 n1_1 : Nat) (l1_0 : List ByteArray) (l1_1 : List ByteArray) (br0 : Bool) : Prop :=
    (((n1_0 + bulkS l1_0)) + ((n1_1 + bulkS l1_1)) + d1_0.bulk) ≤ 1048576 → ∀ (B1_0 : Option Addr) (g1_0 aA1_0 bA1_0 : Nat) (B1_1 : Option Addr) (g1_1 aA1_1 bA1_1 : Nat) (W : World), Rd W aA1_0 bA1_0 B1_0 (strs l1_0) → g1_0 = n1_0 → Rd W aA1_1 bA1_1 B1_1 (strs l1_1) → g1_1 = n1_1 → Calls Try.prog 82 #[.int .i64 z0, .agg #[.int .i64 z1_0, .slice B1_0 n1_0 g1_0, .int .i64 z1_1, .slice B1_1 n1_1 g1_1, .int .i64 d1_0.num, .int .i64 d1_0.size, .string d1_0.root, .int .i64 d1_0.taken, .string d1_0.troot]] W fun r W' => r = .returned (.bool br0) ∧ Below W.heap.size W W'
def implSealOk_does (z0 : Int) (z1_0 z1_1 : Int) (d1_0 : Hd) (n1_0 n1_1 : Nat) (l1_0 : List ByteArray) (l1_1 : List ByteArray) (br0 : Bool) : Prop :=
    (((n1_0 + bulkS l1_0)) + ((n1_1 + bulkS l1_1)) + d1_0.bulk) ≤ 1048576 → ∀ (B1_0 : Option Addr) (g1_0 aA1_0 bA1_0 : Nat) (B1_1 : Option Addr) (g1_1 aA1_1 bA1_1 : Nat) (W : World), Rd W aA1_0 bA1_0 B1_0 (strs l1_0) → g1_0 = n1_0 → Rd W aA1_1 bA1_1 B1_1 (strs l1_1) → g1_1 = n1_1 → Calls Try.prog 84 #[.int .i64 z0, .agg #[.int .i64 z1_0, .slice B1_0 n1_0 g1_0, .int .i64 z1_1, .slice B1_1 n1_1 g1_1, .int .i64 d1_0.num, .int .i64 d1_0.size, .string d1_0.root, .int .i64 d1_0.taken, .string d1_0.troot]] W fun r W' => r = .returned (.bool br0) ∧ Below W.heap.size W W'
set_option maxRecDepth 100000 in
set_option maxHeartbeats 4000000 in
theorem walk_SealOk (z0 : Int) (z1_0 z1_1 : Int) (d1_0 : Hd) (A1_0 A1_1 : Option Addr) (c1_0 c1_1 : Nat) (n1_0 n1_1 : Nat) (l1_0 : List ByteArray) (l1_1 : List ByteArray) (br0 : Bool) (w : World) (hrA1_0 : Rd w 0 w.heap.size A1_0 (strs l1_0)) (hnA1_0 : l1_0.length = n1_0) (hlA1_0 : n1_0 ≤ maxLen) (hsA1_0 : ∀ x ∈ l1_0, x.size ≤ maxLen) (hrA1_1 : Rd w 0 w.heap.size A1_1 (strs l1_1)) (hnA1_1 : l1_1.length = n1_1) (hlA1_1 : n1_1 ≤ maxLen) (hsA1_1 : ∀ x ∈ l1_1, x.size ≤ maxLen) (hfd1_0 : d1_0.fits) (HSP : specSealOk_does z0 z1_0 z1_1 d1_0 n1_0 n1_1 l1_0 l1_1 br0) (HIM : implSealOk_does z0 z1_0 z1_1 d1_0 n1_0 n1_1 l1_0 l1_1 br0) :
    Calls Try.prog 21 #[.int .i64 z0, .agg #[.int .i64 z1_0, .slice A1_0 n1_0 c1_0, .int .i64 z1_1, .slice A1_1 n1_1 c1_1, .int .i64 d1_0.num, .int .i64 d1_0.size, .string d1_0.root, .int .i64 d1_0.taken, .string d1_0.troot]] w fun e w' => e = .returned (.bool true) ∧ Below w.heap.size w w' := by
  have HNA1_0 := Lib.hid hnA1_0
  have HSA1_0 := Lib.hid hsA1_0
  clear hnA1_0 hsA1_0
  have HNA1_1 := Lib.hid hnA1_1
  have HSA1_1 := Lib.hid hsA1_1
  clear hnA1_1 hsA1_1
  have HB0 : Hid (Below w.heap.size w w) := Below.refl _ _
  go_enter Try.func21, Try.ntmps21
  go_wp2_with fail
  refine (szSeal_c z1_0 z1_1 d1_0 A1_0 A1_1 c1_0 c1_1 n1_0 n1_1 l1_0 l1_1 _ _ _ _ _ _ (hrA1_0.below (by ((repeat (first | refine Below.alloc ?_ (by first | omega | (simp; done) | (simp; omega)) _ | refine Below.drew ?_)); exact HB0.out))) HNA1_0.out hlA1_0 HSA1_0.out (hrA1_1.below (by ((repeat (first | refine Below.alloc ?_ (by first | omega | (simp; done) | (simp; omega)) _ | refine Below.drew ?_)); exact HB0.out))) HNA1_1.out hlA1_1 HSA1_1.out hfd1_0 (by omega) (by omega)).mono ?_
  rintro e w1 ⟨rfl, hb1⟩
  have hz1 : w.heap.size + 1 ≤ w1.heap.size := by have := hb1.size; first | omega | (simp at this; omega)
  have hzz1 : w.heap.size ≤ w1.heap.size := by omega
  have HB1 : Hid (Below w.heap.size w w1) := below_then (by ((repeat (first | refine Below.alloc ?_ (by first | omega | (simp; done) | (simp; omega)) _ | refine Below.drew ?_)); exact HB0.out)) hb1 (by first | omega | (simp; done) | (simp; omega))
  have HXaS : Hid (Box w1 (w.heap.size) [.int .i64 z1_0, .slice A1_0 n1_0 c1_0, .int .i64 z1_1, .slice A1_1 n1_1 c1_1, .int .i64 d1_0.num, .int .i64 d1_0.size, .string d1_0.root, .int .i64 d1_0.taken, .string d1_0.troot]) := Box.below (Box.new0 _ _ _) hb1
  have hxaS := HXaS.out.2
  have hkaS := HXaS.out.1
  clear hb1
  go_wp2_with fail
  · go_ret
    exact ⟨rfl, HB1.out⟩
  · have hp1 : 0 ≤ szF 1048576 ((((n1_0 + bulkS l1_0)) + ((n1_1 + bulkS l1_1)) + d1_0.bulk)) := by assumption
    have hg1 := (szF_le 1048576 ((((n1_0 + bulkS l1_0)) + ((n1_1 + bulkS l1_1)) + d1_0.bulk)) (by omega)).2
    have hbk : (((n1_0 + bulkS l1_0)) + ((n1_1 + bulkS l1_1)) + d1_0.bulk) ≤ 1048576 := by have := (szF_pos hp1).1; omega
    have hmA1_0 : n1_0 ≤ 1048576 := by omega
    have hmA1_1 : n1_1 ≤ 1048576 := by omega
    refine (toSeal_c z1_0 z1_1 d1_0 A1_0 A1_1 c1_0 c1_1 n1_0 n1_1 l1_0 l1_1 _ _ _ _ _ (hrA1_0.below (by ((repeat (first | refine Below.alloc ?_ (by first | omega | (simp; done) | (simp; omega)) _ | refine Below.drew ?_)); exact HB1.out))) HNA1_0.out hmA1_0 (hrA1_1.below (by ((repeat (first | refine Below.alloc ?_ (by first | omega | (simp; done) | (simp; omega)) _ | refine Below.drew ?_)); exact HB1.out))) HNA1_1.out hmA1_1).mono ?_
    rintro e w2 ⟨TwA1_0, TwA1_1, mm2_1, rfl, le2_0, le2_1, ho0, ho1, hb2⟩
    have hz2 : w1.heap.size ≤ w2.heap.size := by have := hb2.size; first | omega | (simp at this; omega)
    have hzz2 : w.heap.size ≤ w2.heap.size := by omega
    have HB2 : Hid (Below w.heap.size w w2) := below_then (by ((repeat (first | refine Below.alloc ?_ (by first | omega | (simp; done) | (simp; omega)) _ | refine Below.drew ?_)); exact HB1.out)) hb2 (by first | omega | (simp; done) | (simp; omega))
    replace HXaS : Hid (Box w2 (w.heap.size) [.int .i64 z1_0, .slice A1_0 n1_0 c1_0, .int .i64 z1_1, .slice A1_1 n1_1 c1_1, .int .i64 d1_0.num, .int .i64 d1_0.size, .string d1_0.root, .int .i64 d1_0.taken, .string d1_0.troot]) := Box.below HXaS.out hb2
    clear hxaS hkaS
    have hxaS := HXaS.out.2
    have hkaS := HXaS.out.1
    obtain ⟨qTwA1_0, hqTwA1_0, hqqTwA1_0, HOTwA1_0⟩ : ∃ q, w1.heap.size ≤ q ∧ mm2_1 ≤ w2.heap.size ∧ Hid (Own w2 q mm2_1 TwA1_0 (strs l1_0)) := ⟨_, by first | omega | (simp at *; done) | (simp at *; omega), by first | omega | (simp at *; done) | (simp at *; omega), ho0⟩
    obtain ⟨qTwA1_1, hqTwA1_1, hqqTwA1_1, HOTwA1_1⟩ : ∃ q, mm2_1 ≤ q ∧ w2.heap.size ≤ w2.heap.size ∧ Hid (Own w2 q w2.heap.size TwA1_1 (strs l1_1)) := ⟨_, by first | omega | (simp at *; done) | (simp at *; omega), by first | omega | (simp at *; done) | (simp at *; omega), ho1⟩
    clear hb2 ho0 ho1
    go_wp2_with fail
    refine (HSP hbk _ _ _ _ _ _ _ _ _ (HOTwA1_0.out.rd) rfl (HOTwA1_1.out.rd) rfl).mono ?_
    rintro e w3 ⟨rfl, hb3⟩
    have hz3 : w2.heap.size ≤ w3.heap.size := by have := hb3.size; first | omega | (simp at this; omega)
    have hzz3 : w.heap.size ≤ w3.heap.size := by omega
    have HB3 : Hid (Below w.heap.size w w3) := below_then (by ((repeat (first | refine Below.alloc ?_ (by first | omega | (simp; done) | (simp; omega)) _ | refine Below.drew ?_)); exact HB2.out)) hb3 (by first | omega | (simp; done) | (simp; omega))
    replace HXaS : Hid (Box w3 (w.heap.size) [.int .i64 z1_0, .slice A1_0 n1_0 c1_0, .int .i64 z1_1, .slice A1_1 n1_1 c1_1, .int .i64 d1_0.num, .int .i64 d1_0.size, .string d1_0.root, .int .i64 d1_0.taken, .string d1_0.troot]) := Box.below HXaS.out hb3
    clear hxaS hkaS
    have hxaS := HXaS.out.2
    have hkaS := HXaS.out.1
    replace HOTwA1_0 : Hid (Own w3 qTwA1_0 mm2_1 TwA1_0 (strs l1_0)) := HOTwA1_0.out.below hb3
    replace HOTwA1_1 : Hid (Own w3 qTwA1_1 w2.heap.size TwA1_1 (strs l1_1)) := HOTwA1_1.out.below hb3
    clear hb3 
    go_wp2_with fail
    refine (toSeal_c z1_0 z1_1 d1_0 A1_0 A1_1 c1_0 c1_1 n1_0 n1_1 l1_0 l1_1 _ _ _ _ _ (hrA1_0.below (by ((repeat (first | refine Below.alloc ?_ (by first | omega | (simp; done) | (simp; omega)) _ | refine Below.drew ?_)); exact HB3.out))) HNA1_0.out hmA1_0 (hrA1_1.below (by ((repeat (first | refine Below.alloc ?_ (by first | omega | (simp; done) | (simp; omega)) _ | refine Below.drew ?_)); exact HB3.out))) HNA1_1.out hmA1_1).mono ?_
    rintro e w4 ⟨Tx1A1_0, Tx1A1_1, mm4_1, rfl, le4_0, le4_1, ho0, ho1, hb4⟩
    have hz4 : w3.heap.size ≤ w4.heap.size := by have := hb4.size; first | omega | (simp at this; omega)
    have hzz4 : w.heap.size ≤ w4.heap.size := by omega
    have HB4 : Hid (Below w.heap.size w w4) := below_then (by ((repeat (first | refine Below.alloc ?_ (by first | omega | (simp; done) | (simp; omega)) _ | refine Below.drew ?_)); exact HB3.out)) hb4 (by first | omega | (simp; done) | (simp; omega))
    replace HXaS : Hid (Box w4 (w.heap.size) [.int .i64 z1_0, .slice A1_0 n1_0 c1_0, .int .i64 z1_1, .slice A1_1 n1_1 c1_1, .int .i64 d1_0.num, .int .i64 d1_0.size, .string d1_0.root, .int .i64 d1_0.taken, .string d1_0.troot]) := Box.below HXaS.out hb4
    clear hxaS hkaS
    have hxaS := HXaS.out.2
    have hkaS := HXaS.out.1
    replace HOTwA1_0 : Hid (Own w4 qTwA1_0 mm2_1 TwA1_0 (strs l1_0)) := HOTwA1_0.out.below hb4
    replace HOTwA1_1 : Hid (Own w4 qTwA1_1 w2.heap.size TwA1_1 (strs l1_1)) := HOTwA1_1.out.below hb4
    obtain ⟨qTx1A1_0, hqTx1A1_0, hqqTx1A1_0, HOTx1A1_0⟩ : ∃ q, w3.heap.size ≤ q ∧ mm4_1 ≤ w4.heap.size ∧ Hid (Own w4 q mm4_1 Tx1A1_0 (strs l1_0)) := ⟨_, by first | omega | (simp at *; done) | (simp at *; omega), by first | omega | (simp at *; done) | (simp at *; omega), ho0⟩
    obtain ⟨qTx1A1_1, hqTx1A1_1, hqqTx1A1_1, HOTx1A1_1⟩ : ∃ q, mm4_1 ≤ q ∧ w4.heap.size ≤ w4.heap.size ∧ Hid (Own w4 q w4.heap.size Tx1A1_1 (strs l1_1)) := ⟨_, by first | omega | (simp at *; done) | (simp at *; omega), by first | omega | (simp at *; done) | (simp at *; omega), ho1⟩
    clear hb4 ho0 ho1
    go_wp2_with fail
    refine (HIM hbk _ _ _ _ _ _ _ _ _ ((HOTx1A1_0.out.rd).alloc _) rfl ((HOTx1A1_1.out.rd).alloc _) rfl).mono ?_
    rintro e w5 ⟨rfl, hb5⟩
    have hz5 : w4.heap.size + 1 ≤ w5.heap.size := by have := hb5.size; first | omega | (simp at this; omega)
    have hzz5 : w.heap.size ≤ w5.heap.size := by omega
    have HB5 : Hid (Below w.heap.size w w5) := below_then (by ((repeat (first | refine Below.alloc ?_ (by first | omega | (simp; done) | (simp; omega)) _ | refine Below.drew ?_)); exact HB4.out)) hb5 (by first | omega | (simp; done) | (simp; omega))
    replace HXaS : Hid (Box w5 (w.heap.size) [.int .i64 z1_0, .slice A1_0 n1_0 c1_0, .int .i64 z1_1, .slice A1_1 n1_1 c1_1, .int .i64 d1_0.num, .int .i64 d1_0.size, .string d1_0.root, .int .i64 d1_0.taken, .string d1_0.troot]) := Box.below (HXaS.out.alloc _) hb5
    clear hxaS hkaS
    have hxaS := HXaS.out.2
    have hkaS := HXaS.out.1
    have HXx1 : Hid (Box w5 (w4.heap.size) [.int .i64 z1_0, .slice Tx1A1_0 n1_0 n1_0, .int .i64 z1_1, .slice Tx1A1_1 n1_1 n1_1, .int .i64 d1_0.num, .int .i64 d1_0.size, .string d1_0.root, .int .i64 d1_0.taken, .string d1_0.troot]) := Box.below (Box.new0 _ _ _) hb5
    have hxx1 := HXx1.out.2
    have hkx1 := HXx1.out.1
    replace HOTwA1_0 : Hid (Own w5 qTwA1_0 mm2_1 TwA1_0 (strs l1_0)) := (HOTwA1_0.out.alloc _).below hb5
    replace HOTwA1_1 : Hid (Own w5 qTwA1_1 w2.heap.size TwA1_1 (strs l1_1)) := (HOTwA1_1.out.alloc _).below hb5
    replace HOTx1A1_0 : Hid (Own w5 qTx1A1_0 mm4_1 Tx1A1_0 (strs l1_0)) := (HOTx1A1_0.out.alloc _).below hb5
    replace HOTx1A1_1 : Hid (Own w5 qTx1A1_1 w4.heap.size Tx1A1_1 (strs l1_1)) := (HOTx1A1_1.out.alloc _).below hb5
    clear hb5 
    go_wp2_with fail
    go_region_held3 (fun w' => (∀ o, w'.cell? ⟨w4.heap.size, o, none⟩ = [.int .i64 z1_0, .slice Tx1A1_0 n1_0 n1_0, .int .i64 z1_1, .slice Tx1A1_1 n1_1 n1_1, .int .i64 d1_0.num, .int .i64 d1_0.size, .string d1_0.root, .int .i64 d1_0.taken, .string d1_0.troot][o]?) ∧ (∀ o, w'.cell? ⟨w.heap.size, o, none⟩ = [.int .i64 z1_0, .slice A1_0 n1_0 c1_0, .int .i64 z1_1, .slice A1_1 n1_1 c1_1, .int .i64 d1_0.num, .int .i64 d1_0.size, .string d1_0.root, .int .i64 d1_0.taken, .string d1_0.troot][o]?))
      (first | exact ⟨HXx1.out.2, HXaS.out.2⟩ | exact ⟨HPx1.out.2, HPaS.out.2⟩ | exact ⟨HQx1.out.2, HQaS.out.2⟩)
      (first
      | (go_at_call 83
         refine (toSeal_c z1_0 z1_1 d1_0 A1_0 A1_1 c1_0 c1_1 n1_0 n1_1 l1_0 l1_1 _ _ _ _ _ (hrA1_0.below (by ((repeat (first | refine Below.alloc ?_ (by first | omega | (simp; done) | (simp; omega)) _ | refine Below.drew ?_)); exact HB5.out))) HNA1_0.out hmA1_0 (hrA1_1.below (by ((repeat (first | refine Below.alloc ?_ (by first | omega | (simp; done) | (simp; omega)) _ | refine Below.drew ?_)); exact HB5.out))) HNA1_1.out hmA1_1).mono ?_
         rintro e w6 ⟨T6A1_0, T6A1_1, mm6_1, rfl, le6_0, le6_1, hod0, hod1, hb6⟩
         have HPx1 : Hid (Box w6 (w4.heap.size) [.int .i64 z1_0, .slice Tx1A1_0 n1_0 n1_0, .int .i64 z1_1, .slice Tx1A1_1 n1_1 n1_1, .int .i64 d1_0.num, .int .i64 d1_0.size, .string d1_0.root, .int .i64 d1_0.taken, .string d1_0.troot]) := Box.below (HXx1.out.drew) hb6
         have HPaS : Hid (Box w6 (w.heap.size) [.int .i64 z1_0, .slice A1_0 n1_0 c1_0, .int .i64 z1_1, .slice A1_1 n1_1 c1_1, .int .i64 d1_0.num, .int .i64 d1_0.size, .string d1_0.root, .int .i64 d1_0.taken, .string d1_0.troot]) := Box.below (HXaS.out.drew) hb6
         have HPOTwA1_0 : Hid (Own w6 qTwA1_0 mm2_1 TwA1_0 (strs l1_0)) := (HOTwA1_0.out.drew).below hb6
         have HPOTwA1_1 : Hid (Own w6 qTwA1_1 w2.heap.size TwA1_1 (strs l1_1)) := (HOTwA1_1.out.drew).below hb6
         have HPOTx1A1_0 : Hid (Own w6 qTx1A1_0 mm4_1 Tx1A1_0 (strs l1_0)) := (HOTx1A1_0.out.drew).below hb6
         have HPOTx1A1_1 : Hid (Own w6 qTx1A1_1 w4.heap.size Tx1A1_1 (strs l1_1)) := (HOTx1A1_1.out.drew).below hb6
         have hz6 : w5.heap.size ≤ w6.heap.size := hb6.size
         have HB6 : Hid (Below w.heap.size w w6) := below_then HB5.out.drew hb6 (by first | omega | (simp; omega))
         clear hb6)
      | (go_at_call 55
         refine (eqSeal_c z1_0 z1_1 d1_0 Tx1A1_0 Tx1A1_1 n1_0 n1_1 n1_0 n1_1 l1_0 l1_1 T6A1_0 T6A1_1 n1_0 n1_1 _ _ _ _ _ _ _ _  _ (HPOTx1A1_0.out.rd) hod0.rd HNA1_0.out (by unfold maxLen; omega) (HPOTx1A1_1.out.rd) hod1.rd HNA1_1.out (by unfold maxLen; omega)).mono ?_
         rintro e w7 ⟨rfl, hb7⟩
         have HQx1 : Hid (Box w7 (w4.heap.size) [.int .i64 z1_0, .slice Tx1A1_0 n1_0 n1_0, .int .i64 z1_1, .slice Tx1A1_1 n1_1 n1_1, .int .i64 d1_0.num, .int .i64 d1_0.size, .string d1_0.root, .int .i64 d1_0.taken, .string d1_0.troot]) := Box.below HPx1.out hb7
         have HQaS : Hid (Box w7 (w.heap.size) [.int .i64 z1_0, .slice A1_0 n1_0 c1_0, .int .i64 z1_1, .slice A1_1 n1_1 c1_1, .int .i64 d1_0.num, .int .i64 d1_0.size, .string d1_0.root, .int .i64 d1_0.taken, .string d1_0.troot]) := Box.below HPaS.out hb7
         have HQOTwA1_0 : Hid (Own w7 qTwA1_0 mm2_1 TwA1_0 (strs l1_0)) := HPOTwA1_0.out.below hb7
         have HQOTwA1_1 : Hid (Own w7 qTwA1_1 w2.heap.size TwA1_1 (strs l1_1)) := HPOTwA1_1.out.below hb7
         have HQOTx1A1_0 : Hid (Own w7 qTx1A1_0 mm4_1 Tx1A1_0 (strs l1_0)) := HPOTx1A1_0.out.below hb7
         have HQOTx1A1_1 : Hid (Own w7 qTx1A1_1 w4.heap.size Tx1A1_1 (strs l1_1)) := HPOTx1A1_1.out.below hb7
         have hz7 : w6.heap.size ≤ w7.heap.size := hb7.size
         have HB7 : Hid (Below w.heap.size w w7) := below_then HB6.out hb7 (by first | omega | exact HB6.out.size)
         clear hb7))
    have hzz7 : w.heap.size ≤ w7.heap.size := by omega
    replace HOTwA1_0 := HQOTwA1_0
    clear HQOTwA1_0 HPOTwA1_0
    replace HOTwA1_1 := HQOTwA1_1
    clear HQOTwA1_1 HPOTwA1_1
    replace HOTx1A1_0 := HQOTx1A1_0
    clear HQOTx1A1_0 HPOTx1A1_0
    replace HOTx1A1_1 := HQOTx1A1_1
    clear HQOTx1A1_1 HPOTx1A1_1
    replace HXaS := HQaS
    clear HQaS HPaS hxaS hkaS
    have hxaS := HXaS.out.2
    have hkaS := HXaS.out.1
    replace HXx1 := HQx1
    clear HQx1 HPx1 hxx1 hkx1
    have hxx1 := HXx1.out.2
    have hkx1 := HXx1.out.1
    go_wp2
    go_ret
    exact ⟨rfl, HB7.out⟩

section
open Go.ChangeShapes Go.WideShapes Go.ChangeAt
open Go.ChangeMaps (open_string)
set_option maxRecDepth 100000 in
theorem lifted_SealOk (f0 : Int → Int → Int → Hd → (List ByteArray) → (List ByteArray) → Bool) (hsp : ∀ (z0 : Int) (z1_0 : Int) (z1_1 : Int) (d1_0 : Hd) (l1_0 : List ByteArray) (l1_1 : List ByteArray), (I64 z0) → (I64 z1_0) → (I64 z1_1) → (d1_0.fits) → specSealOk_does z0 z1_0 z1_1 d1_0 l1_0.length l1_1.length l1_0 l1_1 (f0 z0 z1_0 z1_1 d1_0 l1_0 l1_1)) (him : ∀ (z0 : Int) (z1_0 : Int) (z1_1 : Int) (d1_0 : Hd) (l1_0 : List ByteArray) (l1_1 : List ByteArray), (I64 z0) → (I64 z1_0) → (I64 z1_1) → (d1_0.fits) → implSealOk_does z0 z1_0 z1_1 d1_0 l1_0.length l1_1.length l1_0 l1_1 (f0 z0 z1_0 z1_1 d1_0 l1_0 l1_1))  (os : Os) (started : os.Started) (H : Type) (enc : TypeId × Value → H) :
    ReturnsInHanded {} Try.checked os 21 .any (Rows.fnExactSealOkSpec.pre6 enc Try.prog Try.f21 Rows.fnExactSealOkRow.domain false) (Rows.fnExactSealOkSpec.post enc Try.prog Try.f21 false true false false) := by
  refine returnsInHanded_of_change (C := Try.checked) Try.own started (by kernel_rfl) Try.func21
    (ChangeSpec.witness6 (enc := enc) (C := Try.checked) false ⟨#[], #[.int .i64 0, .agg #[.int .i64 0, .slice none 0 0, .int .i64 0, .slice none 0 0, .int .i64 0, .int .i64 0, .string ByteArray.empty, .int .i64 0, .string ByteArray.empty]], []⟩ 8 (by kernel_rfl) (by kernel_rfl) (by kernel_rfl) (by kernel_rfl)) ?_
  intro W base args ds gs before hval0 hW hcnd _
  have hval : ∀ (j : Nat) t v, Try.f21.params[j]? = some t → args[j]? = some v → Value.okWide Try.prog W .any base t v := hval0
  have hW' := hW
  obtain ⟨p, q, hA0, hV, rfl, hfz, hnd⟩ := hW
  have hA : DataW.TrodAll enc Try.prog W 0 (fun _ => true) true Try.f21.params.toList args.toList ds p := hA0
  rw [Try.params21] at hA hval
  obtain ⟨v0, vs0, d0, ds0, p0, q0, hargs, rfl, rfl, h0, r0⟩ := trodAll_cons hA
  obtain ⟨v1, vs1, d1, ds1, p1, q1, rfl, rfl, rfl, h1, r1⟩ := trodAll_cons r0
  obtain ⟨rfl, rfl, rfl⟩ := trodAll_nil r1
  obtain rfl : args = #[v0, v1] := by cases args; simp_all
  obtain ⟨rfl, rfl⟩ := trodVars_none hV
  have lt0 : ∀ x ∈ p0, x.block < W.heap.size := by obtain ⟨m, hm⟩ := h0; exact DataW.trod_lt m _ _ _ hm
  have kk0 := h0
  have lt1 : ∀ x ∈ p1, x.block < W.heap.size := by obtain ⟨m, hm⟩ := h1; exact DataW.trod_lt m _ _ _ hm
  have kk1 := h1
  obtain ⟨z0, rfl, rfl, rfl, wi0⟩ := open_int Try.underlying3 (hval 0 _ v0 rfl rfl) h0
  have hiz0 : I64 z0 := i64_of_wf wi0
  obtain ⟨z1_0, z1_1, d1_0, A1_0, A1_1, n1_0, c1_0, n1_1, c1_1, l1_0, l1_1, rfl, hiz1_0, hiz1_1, hid1_0, o1_0, hil1_0, o1_1, hil1_1⟩ := open_Seal (hval 1 _ v1 rfl rfl) h1
  obtain ⟨rfl, o1_0b, o1_0c, o1_0d⟩ := o1_0
  obtain ⟨rfl, o1_1b, o1_1c, o1_1d⟩ := o1_1
  clear hA0 hval0
  refine (walk_SealOk z0 z1_0 z1_1 d1_0 A1_0 A1_1 c1_0 c1_1 _ _ l1_0 l1_1 _ W o1_0d rfl (Nat.le_trans o1_0b o1_0c) hil1_0 o1_1d rfl (Nat.le_trans o1_1b o1_1c) hil1_1 hid1_0  (hsp z0 z1_0 z1_1 d1_0 l1_0 l1_1 hiz0 hiz1_0 hiz1_1 hid1_0) (him z0 z1_0 z1_1 d1_0 l1_0 l1_1 hiz0 hiz1_0 hiz1_1 hid1_0)).mono fun e W' ⟨he, bel⟩ => ?_
  subst he
  exact ⟨_, rfl, _, _, _, [], _, [], hW', trodAll_mk1 (shut_bool Try.underlying4 _), (trodAll_cons_mk (Below.trod Try.laidOut (by kernel_rfl) (of_decide_eq_true (by kernel_rfl)) kk0 bel lt0) (trodAll_cons_mk (Below.trod Try.laidOut (by kernel_rfl) (of_decide_eq_true (by kernel_rfl)) kk1 bel lt1) trodAll_mk0)), rfl, bel.frame _, fun h => by cases h⟩
theorem said_SealOk (f0 : Int → Int → Int → Hd → (List ByteArray) → (List ByteArray) → Bool) (hsp : ∀ (z0 : Int) (z1_0 : Int) (z1_1 : Int) (d1_0 : Hd) (l1_0 : List ByteArray) (l1_1 : List ByteArray), (I64 z0) → (I64 z1_0) → (I64 z1_1) → (d1_0.fits) → specSealOk_does z0 z1_0 z1_1 d1_0 l1_0.length l1_1.length l1_0 l1_1 (f0 z0 z1_0 z1_1 d1_0 l1_0 l1_1)) (him : ∀ (z0 : Int) (z1_0 : Int) (z1_1 : Int) (d1_0 : Hd) (l1_0 : List ByteArray) (l1_1 : List ByteArray), (I64 z0) → (I64 z1_0) → (I64 z1_1) → (d1_0.fits) → implSealOk_does z0 z1_0 z1_1 d1_0 l1_0.length l1_1.length l1_0 l1_1 (f0 z0 z1_0 z1_1 d1_0 l1_0 l1_1))  : Rows.FnExactSealOkSaid :=
  OpenClaim.holds_of_wide 21 Try.f21 rfl rfl rfl rfl rfl rfl rfl ⟨rfl, rfl, rfl, rfl, rfl⟩ rfl rfl rfl rfl rfl (by kernel_rfl) Try.func21 (by show joinedFacts Try.prog 21 Try.f21 Rows.fnExactSealOkSpec Rows.fnExactSealOkRow = true; unfold joinedFacts; rw [seat_enter, seat_final, seat_make]; kernel_rfl)
    (of_decide_eq_true (by kernel_rfl)) (by unfold Func.isWrapper; first | (rw [if_pos (by decide +kernel)]; kernel_rfl) | (rw [if_neg (by decide +kernel)]; exact ⟨rfl, rfl⟩))
    (fun os started H enc _ => lifted_SealOk f0 hsp him os started H enc)
end
end Go.Proofs.Ytojjjhbiccgjkaa
