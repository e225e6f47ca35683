/- The walk of the law FnExactGrow; what spec.Grow and impl.Grow do comes in as hypotheses. Written by gen_law.py. -/
import Derived.Test.YtojjjhbiccgjkaaData
import Derived.Test.YtojjjhbiccgjkaaReg
import Derived.Test.YtojjjhbiccgjkaaStr
import Derived.Test.YtojjjhbiccgjkaaWRange
import Derived.Test.YtojjjhbiccgjkaaOpen
import Derived.Test.YtojjjhbiccgjkaaSeat
namespace Go.Proofs.Ytojjjhbiccgjkaa
set_option linter.unusedVariables false
set_option linter.unusedSimpArgs false
open Go.RowKit
attribute [local go_sem ↓] Go.wp_at_zero Go.wp_at_succ

def specGrow_does (z0 : Int) (z1_0 : Int) (n1_0 : Nat) (l1_0 : List ByteArray) (s2 : ByteArray) (zr0_0 : Int) (nr0_0 : Nat) (lr0_0 : List ByteArray) (zr1 : Int) (br2 : Bool) : Prop :=
    s2.size ≤ 1048576 → ((n1_0 + bulkS l1_0)) ≤ 1048576 → ∀ (B1_0 : Option Addr) (g1_0 aA1_0 bA1_0 : Nat) (W : World), Rd W aA1_0 bA1_0 B1_0 (strs l1_0) → g1_0 = n1_0 → Calls Try.prog 65 #[.int .i64 z0, .agg #[.int .i64 z1_0, .slice B1_0 n1_0 g1_0], .string s2] W fun r W' => ∃ (Ar0_0 : Option Addr) (cr0_0 : Nat), r = .returned (.tuple #[.agg #[.int .i64 zr0_0, .slice Ar0_0 nr0_0 cr0_0], .int .i64 zr1, .bool br2]) ∧ Own W' W.heap.size W'.heap.size Ar0_0 (strs lr0_0) ∧ Below W.heap.size W W'
def implGrow_does (z0 : Int) (z1_0 : Int) (n1_0 : Nat) (l1_0 : List ByteArray) (s2 : ByteArray) (zr0_0 : Int) (nr0_0 : Nat) (lr0_0 : List ByteArray) (zr1 : Int) (br2 : Bool) : Prop :=
    s2.size ≤ 1048576 → ((n1_0 + bulkS l1_0)) ≤ 1048576 → ∀ (B1_0 : Option Addr) (g1_0 aA1_0 bA1_0 : Nat) (W : World), Rd W aA1_0 bA1_0 B1_0 (strs l1_0) → g1_0 = n1_0 → Calls Try.prog 67 #[.int .i64 z0, .agg #[.int .i64 z1_0, .slice B1_0 n1_0 g1_0], .string s2] W fun r W' => ∃ (Ar0_0 : Option Addr) (cr0_0 : Nat), r = .returned (.tuple #[.agg #[.int .i64 zr0_0, .slice Ar0_0 nr0_0 cr0_0], .int .i64 zr1, .bool br2]) ∧ Own W' W.heap.size W'.heap.size Ar0_0 (strs lr0_0) ∧ Below W.heap.size W W'
set_option maxRecDepth 100000 in
set_option maxHeartbeats 4000000 in
theorem walk_Grow (z0 : Int) (z1_0 : Int) (A1_0 : Option Addr) (c1_0 : Nat) (n1_0 : Nat) (l1_0 : List ByteArray) (s2 : ByteArray) (zr0_0 : Int) (nr0_0 : Nat) (lr0_0 : List ByteArray) (zr1 : Int) (br2 : Bool) (w : World) (hrA1_0 : Rd w 0 w.heap.size A1_0 (strs l1_0)) (hnA1_0 : l1_0.length = n1_0) (hlA1_0 : n1_0 ≤ maxLen) (hsA1_0 : ∀ x ∈ l1_0, x.size ≤ maxLen) (hts2 : s2.size ≤ maxLen) (hrnAr0_0 : lr0_0.length = nr0_0) (hrlAr0_0 : s2.size ≤ 1048576 → ((n1_0 + bulkS l1_0)) ≤ 1048576 → nr0_0 ≤ 2000000) (HSP : specGrow_does z0 z1_0 n1_0 l1_0 s2 zr0_0 nr0_0 lr0_0 zr1 br2) (HIM : implGrow_does z0 z1_0 n1_0 l1_0 s2 zr0_0 nr0_0 lr0_0 zr1 br2) :
    Calls Try.prog 14 #[.int .i64 z0, .agg #[.int .i64 z1_0, .slice A1_0 n1_0 c1_0], .string s2] w fun e w' => e = .returned (.bool true) ∧ Below w.heap.size w w' := by
  have HNA1_0 := Lib.hid hnA1_0
  have HSA1_0 := Lib.hid hsA1_0
  clear hnA1_0 hsA1_0
  have HRNAr0_0 := Lib.hid hrnAr0_0
  have HRLAr0_0 := Lib.hid hrlAr0_0
  clear hrnAr0_0 hrlAr0_0
  simp only [maxLen] at hts2
  have HB0 : Hid (Below w.heap.size w w) := Below.refl _ _
  go_enter Try.func14, Try.ntmps14
  go_wp2_with fail
  · go_ret
    exact ⟨rfl, by ((repeat (first | refine Below.alloc ?_ (by first | omega | (simp; done) | (simp; omega)) _ | refine Below.drew ?_)); exact HB0.out)⟩
  · have hstr : True := trivial
    have hus2 : s2.size ≤ 1048576 := by have h1 : (s2.size : Int) ≤ 1048576 := (by assumption); omega
    refine (szRange_c z1_0 A1_0 c1_0 n1_0 l1_0 _ _ _ _ (hrA1_0.below (by ((repeat (first | refine Below.alloc ?_ (by first | omega | (simp; done) | (simp; omega)) _ | refine Below.drew ?_)); exact HB0.out))) HNA1_0.out hlA1_0 HSA1_0.out (by omega) (by omega)).mono ?_
    rintro e w1 ⟨rfl, hb1⟩
    have hz1 : w.heap.size + 1 ≤ w1.heap.size := by have := hb1.size; first | omega | (simp at this; omega)
    have hzz1 : w.heap.size ≤ w1.heap.size := by omega
    have HB1 : Hid (Below w.heap.size w w1) := below_then (by ((repeat (first | refine Below.alloc ?_ (by first | omega | (simp; done) | (simp; omega)) _ | refine Below.drew ?_)); exact HB0.out)) hb1 (by first | omega | (simp; done) | (simp; omega))
    have HXaR : Hid (Box w1 (w.heap.size) [.int .i64 z1_0, .slice A1_0 n1_0 c1_0]) := Box.below (Box.new0 _ _ _) hb1
    have hxaR := HXaR.out.2
    have hkaR := HXaR.out.1
    clear hb1
    go_wp2_with fail
    · go_ret
      exact ⟨rfl, HB1.out⟩
    · have hp1 : 0 ≤ szF 1048576 (((n1_0 + bulkS l1_0))) := by assumption
      have hg1 := (szF_le 1048576 (((n1_0 + bulkS l1_0))) (by omega)).2
      have hbk : ((n1_0 + bulkS l1_0)) ≤ 1048576 := by have := (szF_pos hp1).1; omega
      have hmA1_0 : n1_0 ≤ 1048576 := by omega
      have hrlAr0_0 := HRLAr0_0.out hus2 hbk
      refine (toRange_c z1_0 A1_0 c1_0 n1_0 l1_0 _ _ _ (hrA1_0.below (by ((repeat (first | refine Below.alloc ?_ (by first | omega | (simp; done) | (simp; omega)) _ | refine Below.drew ?_)); exact HB1.out))) HNA1_0.out hmA1_0).mono ?_
      rintro e w2 ⟨TwA1_0, rfl, le2_0, ho0, hb2⟩
      have hz2 : w1.heap.size ≤ w2.heap.size := by have := hb2.size; first | omega | (simp at this; omega)
      have hzz2 : w.heap.size ≤ w2.heap.size := by omega
      have HB2 : Hid (Below w.heap.size w w2) := below_then (by ((repeat (first | refine Below.alloc ?_ (by first | omega | (simp; done) | (simp; omega)) _ | refine Below.drew ?_)); exact HB1.out)) hb2 (by first | omega | (simp; done) | (simp; omega))
      replace HXaR : Hid (Box w2 (w.heap.size) [.int .i64 z1_0, .slice A1_0 n1_0 c1_0]) := Box.below HXaR.out hb2
      clear hxaR hkaR
      have hxaR := HXaR.out.2
      have hkaR := HXaR.out.1
      obtain ⟨qTwA1_0, hqTwA1_0, hqqTwA1_0, HOTwA1_0⟩ : ∃ q, w1.heap.size ≤ q ∧ w2.heap.size ≤ w2.heap.size ∧ Hid (Own w2 q w2.heap.size TwA1_0 (strs l1_0)) := ⟨_, by first | omega | (simp at *; done) | (simp at *; omega), by first | omega | (simp at *; done) | (simp at *; omega), ho0⟩
      clear hb2 ho0
      go_wp2_with fail
      refine (HSP hus2 hbk _ _ _ _ _ (HOTwA1_0.out.rd) rfl).mono ?_
      rintro e w3 ⟨wAr0_0, wcr0_0, rfl, ho0, hb3⟩
      have hz3 : w2.heap.size ≤ w3.heap.size := by have := hb3.size; first | omega | (simp at this; omega)
      have hzz3 : w.heap.size ≤ w3.heap.size := by omega
      have HB3 : Hid (Below w.heap.size w w3) := below_then (by ((repeat (first | refine Below.alloc ?_ (by first | omega | (simp; done) | (simp; omega)) _ | refine Below.drew ?_)); exact HB2.out)) hb3 (by first | omega | (simp; done) | (simp; omega))
      replace HXaR : Hid (Box w3 (w.heap.size) [.int .i64 z1_0, .slice A1_0 n1_0 c1_0]) := Box.below HXaR.out hb3
      clear hxaR hkaR
      have hxaR := HXaR.out.2
      have hkaR := HXaR.out.1
      replace HOTwA1_0 : Hid (Own w3 qTwA1_0 w2.heap.size TwA1_0 (strs l1_0)) := HOTwA1_0.out.below hb3
      obtain ⟨qwAr0_0, hqwAr0_0, HOwAr0_0⟩ : ∃ q, w2.heap.size ≤ q ∧ Hid (Own w3 q w3.heap.size wAr0_0 (strs lr0_0)) := ⟨_, by first | omega | (simp at *; done) | (simp at *; omega), ho0⟩
      clear hb3 ho0
      go_wp2_with fail
      refine (toRange_c z1_0 A1_0 c1_0 n1_0 l1_0 _ _ _ (hrA1_0.below (by ((repeat (first | refine Below.alloc ?_ (by first | omega | (simp; done) | (simp; omega)) _ | refine Below.drew ?_)); exact HB3.out))) HNA1_0.out hmA1_0).mono ?_
      rintro e w4 ⟨Tx1A1_0, rfl, le4_0, ho0, hb4⟩
      have hz4 : w3.heap.size + 1 ≤ w4.heap.size := by have := hb4.size; first | omega | (simp at this; omega)
      have hzz4 : w.heap.size ≤ w4.heap.size := by omega
      have HB4 : Hid (Below w.heap.size w w4) := below_then (by ((repeat (first | refine Below.alloc ?_ (by first | omega | (simp; done) | (simp; omega)) _ | refine Below.drew ?_)); exact HB3.out)) hb4 (by first | omega | (simp; done) | (simp; omega))
      replace HXaR : Hid (Box w4 (w.heap.size) [.int .i64 z1_0, .slice A1_0 n1_0 c1_0]) := Box.below (HXaR.out.alloc _) hb4
      clear hxaR hkaR
      have hxaR := HXaR.out.2
      have hkaR := HXaR.out.1
      have HXw0 : Hid (Box w4 (w3.heap.size) [.int .i64 zr0_0, .slice wAr0_0 nr0_0 wcr0_0]) := Box.below (Box.new0 _ _ _) hb4
      have hxw0 := HXw0.out.2
      have hkw0 := HXw0.out.1
      replace HOTwA1_0 : Hid (Own w4 qTwA1_0 w2.heap.size TwA1_0 (strs l1_0)) := (HOTwA1_0.out.alloc _).below hb4
      replace HOwAr0_0 : Hid (Own w4 qwAr0_0 w3.heap.size wAr0_0 (strs lr0_0)) := (HOwAr0_0.out.alloc _).below hb4
      obtain ⟨qTx1A1_0, hqTx1A1_0, hqqTx1A1_0, HOTx1A1_0⟩ : ∃ q, w3.heap.size + 1 ≤ q ∧ w4.heap.size ≤ w4.heap.size ∧ Hid (Own w4 q w4.heap.size Tx1A1_0 (strs l1_0)) := ⟨_, by first | omega | (simp at *; done) | (simp at *; omega), by first | omega | (simp at *; done) | (simp at *; omega), ho0⟩
      clear hb4 ho0
      go_wp2_with fail
      refine (HIM hus2 hbk _ _ _ _ _ ((HOTx1A1_0.out.rd).alloc _) rfl).mono ?_
      rintro e w5 ⟨gAr0_0, gcr0_0, rfl, ho0, hb5⟩
      have hz5 : w4.heap.size + 1 ≤ w5.heap.size := by have := hb5.size; first | omega | (simp at this; omega)
      have hzz5 : w.heap.size ≤ w5.heap.size := by omega
      have HB5 : Hid (Below w.heap.size w w5) := below_then (by ((repeat (first | refine Below.alloc ?_ (by first | omega | (simp; done) | (simp; omega)) _ | refine Below.drew ?_)); exact HB4.out)) hb5 (by first | omega | (simp; done) | (simp; omega))
      replace HXaR : Hid (Box w5 (w.heap.size) [.int .i64 z1_0, .slice A1_0 n1_0 c1_0]) := Box.below (HXaR.out.alloc _) hb5
      clear hxaR hkaR
      have hxaR := HXaR.out.2
      have hkaR := HXaR.out.1
      replace HXw0 : Hid (Box w5 (w3.heap.size) [.int .i64 zr0_0, .slice wAr0_0 nr0_0 wcr0_0]) := Box.below (HXw0.out.alloc _) hb5
      clear hxw0 hkw0
      have hxw0 := HXw0.out.2
      have hkw0 := HXw0.out.1
      have HXx1 : Hid (Box w5 (w4.heap.size) [.int .i64 z1_0, .slice Tx1A1_0 n1_0 n1_0]) := Box.below (Box.new0 _ _ _) hb5
      have hxx1 := HXx1.out.2
      have hkx1 := HXx1.out.1
      replace HOTwA1_0 : Hid (Own w5 qTwA1_0 w2.heap.size TwA1_0 (strs l1_0)) := (HOTwA1_0.out.alloc _).below hb5
      replace HOwAr0_0 : Hid (Own w5 qwAr0_0 w3.heap.size wAr0_0 (strs lr0_0)) := (HOwAr0_0.out.alloc _).below hb5
      replace HOTx1A1_0 : Hid (Own w5 qTx1A1_0 w4.heap.size Tx1A1_0 (strs l1_0)) := (HOTx1A1_0.out.alloc _).below hb5
      obtain ⟨qgAr0_0, hqgAr0_0, HOgAr0_0⟩ : ∃ q, w4.heap.size + 1 ≤ q ∧ Hid (Own w5 q w5.heap.size gAr0_0 (strs lr0_0)) := ⟨_, by first | omega | (simp at *; done) | (simp at *; omega), ho0⟩
      clear hb5 ho0
      go_wp2_with fail
      refine (eqRange_c zr0_0 gAr0_0 gcr0_0 nr0_0 lr0_0 wAr0_0 wcr0_0 _ _ _ _  _ ((HOgAr0_0.out.rd).alloc _) ((HOwAr0_0.out.rd).alloc _) HRNAr0_0.out (by unfold maxLen; omega)).mono ?_
      rintro e w6 ⟨rfl, hb6⟩
      have hz6 : w5.heap.size + 1 ≤ w6.heap.size := by have := hb6.size; first | omega | (simp at this; omega)
      have hzz6 : w.heap.size ≤ w6.heap.size := by omega
      have HB6 : Hid (Below w.heap.size w w6) := below_then (by ((repeat (first | refine Below.alloc ?_ (by first | omega | (simp; done) | (simp; omega)) _ | refine Below.drew ?_)); exact HB5.out)) hb6 (by first | omega | (simp; done) | (simp; omega))
      replace HXaR : Hid (Box w6 (w.heap.size) [.int .i64 z1_0, .slice A1_0 n1_0 c1_0]) := Box.below (HXaR.out.alloc _) hb6
      clear hxaR hkaR
      have hxaR := HXaR.out.2
      have hkaR := HXaR.out.1
      replace HXw0 : Hid (Box w6 (w3.heap.size) [.int .i64 zr0_0, .slice wAr0_0 nr0_0 wcr0_0]) := Box.below (HXw0.out.alloc _) hb6
      clear hxw0 hkw0
      have hxw0 := HXw0.out.2
      have hkw0 := HXw0.out.1
      replace HXx1 : Hid (Box w6 (w4.heap.size) [.int .i64 z1_0, .slice Tx1A1_0 n1_0 n1_0]) := Box.below (HXx1.out.alloc _) hb6
      clear hxx1 hkx1
      have hxx1 := HXx1.out.2
      have hkx1 := HXx1.out.1
      have HXg0 : Hid (Box w6 (w5.heap.size) [.int .i64 zr0_0, .slice gAr0_0 nr0_0 gcr0_0]) := Box.below (Box.new0 _ _ _) hb6
      have hxg0 := HXg0.out.2
      have hkg0 := HXg0.out.1
      replace HOTwA1_0 : Hid (Own w6 qTwA1_0 w2.heap.size TwA1_0 (strs l1_0)) := (HOTwA1_0.out.alloc _).below hb6
      replace HOwAr0_0 : Hid (Own w6 qwAr0_0 w3.heap.size wAr0_0 (strs lr0_0)) := (HOwAr0_0.out.alloc _).below hb6
      replace HOTx1A1_0 : Hid (Own w6 qTx1A1_0 w4.heap.size Tx1A1_0 (strs l1_0)) := (HOTx1A1_0.out.alloc _).below hb6
      replace HOgAr0_0 : Hid (Own w6 qgAr0_0 w5.heap.size gAr0_0 (strs lr0_0)) := (HOgAr0_0.out.alloc _).below hb6
      clear hb6
      go_wp2_with fail
      go_region_held3 (fun w' => (∀ o, w'.cell? ⟨w4.heap.size, o, none⟩ = [.int .i64 z1_0, .slice Tx1A1_0 n1_0 n1_0][o]?) ∧ (∀ o, w'.cell? ⟨w.heap.size, o, none⟩ = [.int .i64 z1_0, .slice A1_0 n1_0 c1_0][o]?))
        (first | exact ⟨HXx1.out.2, HXaR.out.2⟩ | exact ⟨HPx1.out.2, HPaR.out.2⟩ | exact ⟨HQx1.out.2, HQaR.out.2⟩)
        (first
        | (go_at_call 66
           refine (toRange_c z1_0 A1_0 c1_0 n1_0 l1_0 _ _ _ (hrA1_0.below (by ((repeat (first | refine Below.alloc ?_ (by first | omega | (simp; done) | (simp; omega)) _ | refine Below.drew ?_)); exact HB6.out))) HNA1_0.out hmA1_0).mono ?_
           rintro e w7 ⟨T7A1_0, rfl, le7_0, hod0, hb7⟩
           have HPx1 : Hid (Box w7 (w4.heap.size) [.int .i64 z1_0, .slice Tx1A1_0 n1_0 n1_0]) := Box.below (HXx1.out.drew) hb7
           have HPaR : Hid (Box w7 (w.heap.size) [.int .i64 z1_0, .slice A1_0 n1_0 c1_0]) := Box.below (HXaR.out.drew) hb7
           have HPOTwA1_0 : Hid (Own w7 qTwA1_0 w2.heap.size TwA1_0 (strs l1_0)) := (HOTwA1_0.out.drew).below hb7
           have HPOwAr0_0 : Hid (Own w7 qwAr0_0 w3.heap.size wAr0_0 (strs lr0_0)) := (HOwAr0_0.out.drew).below hb7
           have HPOTx1A1_0 : Hid (Own w7 qTx1A1_0 w4.heap.size Tx1A1_0 (strs l1_0)) := (HOTx1A1_0.out.drew).below hb7
           have HPOgAr0_0 : Hid (Own w7 qgAr0_0 w5.heap.size gAr0_0 (strs lr0_0)) := (HOgAr0_0.out.drew).below hb7
           have hz7 : w6.heap.size ≤ w7.heap.size := hb7.size
           have HB7 : Hid (Below w.heap.size w w7) := below_then HB6.out.drew hb7 (by first | omega | (simp; omega))
           have HBB7 := Lib.hid hb7
           clear hb7)
        | (go_at_call 60
           refine (eqRange_c z1_0 Tx1A1_0 n1_0 n1_0 l1_0 T7A1_0 n1_0 _ _ _ _  _ (HPOTx1A1_0.out.rd) hod0.rd HNA1_0.out (by unfold maxLen; omega)).mono ?_
           rintro e w8 ⟨rfl, hb8⟩
           have HQx1 : Hid (Box w8 (w4.heap.size) [.int .i64 z1_0, .slice Tx1A1_0 n1_0 n1_0]) := Box.below HPx1.out hb8
           have HQaR : Hid (Box w8 (w.heap.size) [.int .i64 z1_0, .slice A1_0 n1_0 c1_0]) := Box.below HPaR.out hb8
           have HQOTwA1_0 : Hid (Own w8 qTwA1_0 w2.heap.size TwA1_0 (strs l1_0)) := HPOTwA1_0.out.below hb8
           have HQOwAr0_0 : Hid (Own w8 qwAr0_0 w3.heap.size wAr0_0 (strs lr0_0)) := HPOwAr0_0.out.below hb8
           have HQOTx1A1_0 : Hid (Own w8 qTx1A1_0 w4.heap.size Tx1A1_0 (strs l1_0)) := HPOTx1A1_0.out.below hb8
           have HQOgAr0_0 : Hid (Own w8 qgAr0_0 w5.heap.size gAr0_0 (strs lr0_0)) := HPOgAr0_0.out.below hb8
           have HQw0 : Hid (Box w8 (w3.heap.size) [.int .i64 zr0_0, .slice wAr0_0 nr0_0 wcr0_0]) := Box.below (Box.below2 HXw0.out.drew HBB7.out) hb8
           have HQg0 : Hid (Box w8 (w5.heap.size) [.int .i64 zr0_0, .slice gAr0_0 nr0_0 gcr0_0]) := Box.below (Box.below2 HXg0.out.drew HBB7.out) hb8
           have hz8 : w7.heap.size ≤ w8.heap.size := hb8.size
           have HB8 : Hid (Below w.heap.size w w8) := below_then HB7.out hb8 (by first | omega | exact HB7.out.size)
           clear hb8))
      have hzz8 : w.heap.size ≤ w8.heap.size := by omega
      replace HOTwA1_0 := HQOTwA1_0
      clear HQOTwA1_0 HPOTwA1_0
      replace HOwAr0_0 := HQOwAr0_0
      clear HQOwAr0_0 HPOwAr0_0
      replace HOTx1A1_0 := HQOTx1A1_0
      clear HQOTx1A1_0 HPOTx1A1_0
      replace HOgAr0_0 := HQOgAr0_0
      clear HQOgAr0_0 HPOgAr0_0
      replace HXaR := HQaR
      clear HQaR HPaR hxaR hkaR
      have hxaR := HXaR.out.2
      have hkaR := HXaR.out.1
      replace HXw0 := HQw0
      clear HQw0 hxw0 hkw0
      have hxw0 := HXw0.out.2
      have hkw0 := HXw0.out.1
      replace HXx1 := HQx1
      clear HQx1 HPx1 hxx1 hkx1
      have hxx1 := HXx1.out.2
      have hkx1 := HXx1.out.1
      replace HXg0 := HQg0
      clear HQg0 hxg0 hkg0
      have hxg0 := HXg0.out.2
      have hkg0 := HXg0.out.1
      go_wp2_with fail
      refine (markRange_c z1_0 Tx1A1_0 n1_0 n1_0 qTx1A1_0 w4.heap.size (1) _ (strs l1_0) _ (by omega) (HOTx1A1_0.out) (by rw [strs_len]; exact HNA1_0.out) (by omega)  (by omega)).mono ?_
      rintro e w9 ⟨rfl, hp9_0, ho0⟩
      have hz9_0 : w8.heap.size ≤ w9.heap.size := by have := hp9_0.size; first | omega | (simp at this; omega)
      have hzz9 : w.heap.size ≤ w9.heap.size := by omega
      have HB9 : Hid (Below w.heap.size w w9) := (below_only (by ((repeat (first | refine Below.alloc ?_ (by first | omega | (simp; done) | (simp; omega)) _ | refine Below.drew ?_)); exact HB8.out)) hp9_0 (by omega) (by first | omega | (simp; omega)))
      replace HXaR : Hid (Box w9 (w.heap.size) [.int .i64 z1_0, .slice A1_0 n1_0 c1_0]) := (Box.only HXaR.out hp9_0 (by first | omega | (simp; omega)))
      clear hxaR hkaR
      have hxaR := HXaR.out.2
      have hkaR := HXaR.out.1
      replace HXw0 : Hid (Box w9 (w3.heap.size) [.int .i64 zr0_0, .slice wAr0_0 nr0_0 wcr0_0]) := (Box.only HXw0.out hp9_0 (by first | omega | (simp; omega)))
      clear hxw0 hkw0
      have hxw0 := HXw0.out.2
      have hkw0 := HXw0.out.1
      replace HXx1 : Hid (Box w9 (w4.heap.size) [.int .i64 z1_0, .slice Tx1A1_0 n1_0 n1_0]) := (Box.only HXx1.out hp9_0 (by first | omega | (simp; omega)))
      clear hxx1 hkx1
      have hxx1 := HXx1.out.2
      have hkx1 := HXx1.out.1
      replace HXg0 : Hid (Box w9 (w5.heap.size) [.int .i64 zr0_0, .slice gAr0_0 nr0_0 gcr0_0]) := (Box.only HXg0.out hp9_0 (by first | omega | (simp; omega)))
      clear hxg0 hkg0
      have hxg0 := HXg0.out.2
      have hkg0 := HXg0.out.1
      replace HOTwA1_0 : Hid (Own w9 qTwA1_0 w2.heap.size TwA1_0 (strs l1_0)) := (HOTwA1_0.out.only hp9_0 (by first | omega | (simp; omega)))
      replace HOwAr0_0 : Hid (Own w9 qwAr0_0 w3.heap.size wAr0_0 (strs lr0_0)) := (HOwAr0_0.out.only hp9_0 (by first | omega | (simp; omega)))
      replace HOgAr0_0 : Hid (Own w9 qgAr0_0 w5.heap.size gAr0_0 (strs lr0_0)) := (HOgAr0_0.out.only hp9_0 (by first | omega | (simp; omega)))
      clear HOTx1A1_0
      clear hp9_0 ho0
      generalize hkk : ((1 + n1_0 : Nat) : Int) = kk9
      have hk0k9 : 0 ≤ kk9 := by omega
      have hkdk9 : decide (kk9 < 0) = false := by simp; omega
      have HKk9 := Lib.hid hkk
      clear hkk
      go_wp2_with fail
      refine (eqRange_c zr0_0 gAr0_0 gcr0_0 nr0_0 lr0_0 wAr0_0 wcr0_0 _ _ _ _  _ (HOgAr0_0.out.rd) (HOwAr0_0.out.rd) HRNAr0_0.out (by unfold maxLen; omega)).mono ?_
      rintro e w10 ⟨rfl, hb10⟩
      have hz10 : w9.heap.size ≤ w10.heap.size := by have := hb10.size; first | omega | (simp at this; omega)
      have hzz10 : w.heap.size ≤ w10.heap.size := by omega
      have HB10 : Hid (Below w.heap.size w w10) := below_then (by ((repeat (first | refine Below.alloc ?_ (by first | omega | (simp; done) | (simp; omega)) _ | refine Below.drew ?_)); exact HB9.out)) hb10 (by first | omega | (simp; done) | (simp; omega))
      replace HXaR : Hid (Box w10 (w.heap.size) [.int .i64 z1_0, .slice A1_0 n1_0 c1_0]) := Box.below HXaR.out hb10
      clear hxaR hkaR
      have hxaR := HXaR.out.2
      have hkaR := HXaR.out.1
      replace HXw0 : Hid (Box w10 (w3.heap.size) [.int .i64 zr0_0, .slice wAr0_0 nr0_0 wcr0_0]) := Box.below HXw0.out hb10
      clear hxw0 hkw0
      have hxw0 := HXw0.out.2
      have hkw0 := HXw0.out.1
      replace HXx1 : Hid (Box w10 (w4.heap.size) [.int .i64 z1_0, .slice Tx1A1_0 n1_0 n1_0]) := Box.below HXx1.out hb10
      clear hxx1 hkx1
      have hxx1 := HXx1.out.2
      have hkx1 := HXx1.out.1
      replace HXg0 : Hid (Box w10 (w5.heap.size) [.int .i64 zr0_0, .slice gAr0_0 nr0_0 gcr0_0]) := Box.below HXg0.out hb10
      clear hxg0 hkg0
      have hxg0 := HXg0.out.2
      have hkg0 := HXg0.out.1
      replace HOTwA1_0 : Hid (Own w10 qTwA1_0 w2.heap.size TwA1_0 (strs l1_0)) := HOTwA1_0.out.below hb10
      replace HOwAr0_0 : Hid (Own w10 qwAr0_0 w3.heap.size wAr0_0 (strs lr0_0)) := HOwAr0_0.out.below hb10
      replace HOgAr0_0 : Hid (Own w10 qgAr0_0 w5.heap.size gAr0_0 (strs lr0_0)) := HOgAr0_0.out.below hb10
      clear hb10
      go_wp2_with fail
      refine (markRange_c zr0_0 gAr0_0 gcr0_0 nr0_0 qgAr0_0 w5.heap.size (1) _ (strs lr0_0) _ (by omega) (HOgAr0_0.out) (by rw [strs_len]; exact HRNAr0_0.out) (by omega)  (by omega)).mono ?_
      rintro e w11 ⟨rfl, hp11_0, ho0⟩
      have hz11_0 : w10.heap.size ≤ w11.heap.size := by have := hp11_0.size; first | omega | (simp at this; omega)
      have hzz11 : w.heap.size ≤ w11.heap.size := by omega
      have HB11 : Hid (Below w.heap.size w w11) := (below_only (by ((repeat (first | refine Below.alloc ?_ (by first | omega | (simp; done) | (simp; omega)) _ | refine Below.drew ?_)); exact HB10.out)) hp11_0 (by omega) (by first | omega | (simp; omega)))
      replace HXaR : Hid (Box w11 (w.heap.size) [.int .i64 z1_0, .slice A1_0 n1_0 c1_0]) := (Box.only HXaR.out hp11_0 (by first | omega | (simp; omega)))
      clear hxaR hkaR
      have hxaR := HXaR.out.2
      have hkaR := HXaR.out.1
      replace HXw0 : Hid (Box w11 (w3.heap.size) [.int .i64 zr0_0, .slice wAr0_0 nr0_0 wcr0_0]) := (Box.only HXw0.out hp11_0 (by first | omega | (simp; omega)))
      clear hxw0 hkw0
      have hxw0 := HXw0.out.2
      have hkw0 := HXw0.out.1
      replace HXx1 : Hid (Box w11 (w4.heap.size) [.int .i64 z1_0, .slice Tx1A1_0 n1_0 n1_0]) := (Box.only HXx1.out hp11_0 (by first | omega | (simp; omega)))
      clear hxx1 hkx1
      have hxx1 := HXx1.out.2
      have hkx1 := HXx1.out.1
      replace HXg0 : Hid (Box w11 (w5.heap.size) [.int .i64 zr0_0, .slice gAr0_0 nr0_0 gcr0_0]) := (Box.only HXg0.out hp11_0 (by first | omega | (simp; omega)))
      clear hxg0 hkg0
      have hxg0 := HXg0.out.2
      have hkg0 := HXg0.out.1
      replace HOTwA1_0 : Hid (Own w11 qTwA1_0 w2.heap.size TwA1_0 (strs l1_0)) := (HOTwA1_0.out.only hp11_0 (by first | omega | (simp; omega)))
      replace HOwAr0_0 : Hid (Own w11 qwAr0_0 w3.heap.size wAr0_0 (strs lr0_0)) := (HOwAr0_0.out.only hp11_0 (by first | omega | (simp; omega)))
      replace HOgAr0_0 : Hid (Own w11 qgAr0_0 w5.heap.size gAr0_0 (strs (marks (1) nr0_0))) := ho0
      clear hp11_0 ho0
      generalize hkk : ((1 + nr0_0 : Nat) : Int) = km11
      have hk0m11 : 0 ≤ km11 := by omega
      have hkdm11 : decide (km11 < 0) = false := by simp; omega
      have HKm11 := Lib.hid hkk
      clear hkk
      go_wp2_with fail
      refine (heldRange_c zr0_0 gAr0_0 gcr0_0 nr0_0 _ _ (1) _ _ (by omega) (HOgAr0_0.out.rd) (by omega)).mono ?_
      rintro e w12 ⟨rfl, hb12⟩
      have hz12 : w11.heap.size ≤ w12.heap.size := by have := hb12.size; first | omega | (simp at this; omega)
      have hzz12 : w.heap.size ≤ w12.heap.size := by omega
      have HB12 : Hid (Below w.heap.size w w12) := below_then (by ((repeat (first | refine Below.alloc ?_ (by first | omega | (simp; done) | (simp; omega)) _ | refine Below.drew ?_)); exact HB11.out)) hb12 (by first | omega | (simp; done) | (simp; omega))
      replace HXaR : Hid (Box w12 (w.heap.size) [.int .i64 z1_0, .slice A1_0 n1_0 c1_0]) := Box.below HXaR.out hb12
      clear hxaR hkaR
      have hxaR := HXaR.out.2
      have hkaR := HXaR.out.1
      replace HXw0 : Hid (Box w12 (w3.heap.size) [.int .i64 zr0_0, .slice wAr0_0 nr0_0 wcr0_0]) := Box.below HXw0.out hb12
      clear hxw0 hkw0
      have hxw0 := HXw0.out.2
      have hkw0 := HXw0.out.1
      replace HXx1 : Hid (Box w12 (w4.heap.size) [.int .i64 z1_0, .slice Tx1A1_0 n1_0 n1_0]) := Box.below HXx1.out hb12
      clear hxx1 hkx1
      have hxx1 := HXx1.out.2
      have hkx1 := HXx1.out.1
      replace HXg0 : Hid (Box w12 (w5.heap.size) [.int .i64 zr0_0, .slice gAr0_0 nr0_0 gcr0_0]) := Box.below HXg0.out hb12
      clear hxg0 hkg0
      have hxg0 := HXg0.out.2
      have hkg0 := HXg0.out.1
      replace HOTwA1_0 : Hid (Own w12 qTwA1_0 w2.heap.size TwA1_0 (strs l1_0)) := HOTwA1_0.out.below hb12
      replace HOwAr0_0 : Hid (Own w12 qwAr0_0 w3.heap.size wAr0_0 (strs lr0_0)) := HOwAr0_0.out.below hb12
      replace HOgAr0_0 : Hid (Own w12 qgAr0_0 w5.heap.size gAr0_0 (strs (marks (1) nr0_0))) := HOgAr0_0.out.below hb12
      clear hb12
      generalize hkk : ((1 + nr0_0 : Nat) : Int) = kq12
      have hk0q12 : 0 ≤ kq12 := by omega
      have hkdq12 : decide (kq12 < 0) = false := by simp; omega
      have HKq12 := Lib.hid hkk
      clear hkk
      obtain rfl : kq12 = km11 := HKq12.out.symm.trans HKm11.out
      go_wp2_with fail
      refine (toRange_c z1_0 A1_0 c1_0 n1_0 l1_0 _ _ _ (hrA1_0.below (by ((repeat (first | refine Below.alloc ?_ (by first | omega | (simp; done) | (simp; omega)) _ | refine Below.drew ?_)); exact HB12.out))) HNA1_0.out hmA1_0).mono ?_
      rintro e w13 ⟨ThA1_0, rfl, le13_0, ho0, hb13⟩
      have hz13 : w12.heap.size ≤ w13.heap.size := by have := hb13.size; first | omega | (simp at this; omega)
      have hzz13 : w.heap.size ≤ w13.heap.size := by omega
      have HB13 : Hid (Below w.heap.size w w13) := below_then (by ((repeat (first | refine Below.alloc ?_ (by first | omega | (simp; done) | (simp; omega)) _ | refine Below.drew ?_)); exact HB12.out)) hb13 (by first | omega | (simp; done) | (simp; omega))
      replace HXaR : Hid (Box w13 (w.heap.size) [.int .i64 z1_0, .slice A1_0 n1_0 c1_0]) := Box.below HXaR.out hb13
      clear hxaR hkaR
      have hxaR := HXaR.out.2
      have hkaR := HXaR.out.1
      replace HXw0 : Hid (Box w13 (w3.heap.size) [.int .i64 zr0_0, .slice wAr0_0 nr0_0 wcr0_0]) := Box.below HXw0.out hb13
      clear hxw0 hkw0
      have hxw0 := HXw0.out.2
      have hkw0 := HXw0.out.1
      replace HXx1 : Hid (Box w13 (w4.heap.size) [.int .i64 z1_0, .slice Tx1A1_0 n1_0 n1_0]) := Box.below HXx1.out hb13
      clear hxx1 hkx1
      have hxx1 := HXx1.out.2
      have hkx1 := HXx1.out.1
      replace HXg0 : Hid (Box w13 (w5.heap.size) [.int .i64 zr0_0, .slice gAr0_0 nr0_0 gcr0_0]) := Box.below HXg0.out hb13
      clear hxg0 hkg0
      have hxg0 := HXg0.out.2
      have hkg0 := HXg0.out.1
      replace HOTwA1_0 : Hid (Own w13 qTwA1_0 w2.heap.size TwA1_0 (strs l1_0)) := HOTwA1_0.out.below hb13
      replace HOwAr0_0 : Hid (Own w13 qwAr0_0 w3.heap.size wAr0_0 (strs lr0_0)) := HOwAr0_0.out.below hb13
      replace HOgAr0_0 : Hid (Own w13 qgAr0_0 w5.heap.size gAr0_0 (strs (marks (1) nr0_0))) := HOgAr0_0.out.below hb13
      obtain ⟨qThA1_0, hqThA1_0, hqqThA1_0, HOThA1_0⟩ : ∃ q, w12.heap.size ≤ q ∧ w13.heap.size ≤ w13.heap.size ∧ Hid (Own w13 q w13.heap.size ThA1_0 (strs l1_0)) := ⟨_, by first | omega | (simp at *; done) | (simp at *; omega), by first | omega | (simp at *; done) | (simp at *; omega), ho0⟩
      clear hb13 ho0
      go_wp2_with fail
      refine (HIM hus2 hbk _ _ _ _ _ (HOThA1_0.out.rd) rfl).mono ?_
      rintro e w14 ⟨hAr0_0, hcr0_0, rfl, ho0, hb14⟩
      have hz14 : w13.heap.size ≤ w14.heap.size := by have := hb14.size; first | omega | (simp at this; omega)
      have hzz14 : w.heap.size ≤ w14.heap.size := by omega
      have HB14 : Hid (Below w.heap.size w w14) := below_then (by ((repeat (first | refine Below.alloc ?_ (by first | omega | (simp; done) | (simp; omega)) _ | refine Below.drew ?_)); exact HB13.out)) hb14 (by first | omega | (simp; done) | (simp; omega))
      replace HXaR : Hid (Box w14 (w.heap.size) [.int .i64 z1_0, .slice A1_0 n1_0 c1_0]) := Box.below HXaR.out hb14
      clear hxaR hkaR
      have hxaR := HXaR.out.2
      have hkaR := HXaR.out.1
      replace HXw0 : Hid (Box w14 (w3.heap.size) [.int .i64 zr0_0, .slice wAr0_0 nr0_0 wcr0_0]) := Box.below HXw0.out hb14
      clear hxw0 hkw0
      have hxw0 := HXw0.out.2
      have hkw0 := HXw0.out.1
      replace HXx1 : Hid (Box w14 (w4.heap.size) [.int .i64 z1_0, .slice Tx1A1_0 n1_0 n1_0]) := Box.below HXx1.out hb14
      clear hxx1 hkx1
      have hxx1 := HXx1.out.2
      have hkx1 := HXx1.out.1
      replace HXg0 : Hid (Box w14 (w5.heap.size) [.int .i64 zr0_0, .slice gAr0_0 nr0_0 gcr0_0]) := Box.below HXg0.out hb14
      clear hxg0 hkg0
      have hxg0 := HXg0.out.2
      have hkg0 := HXg0.out.1
      replace HOTwA1_0 : Hid (Own w14 qTwA1_0 w2.heap.size TwA1_0 (strs l1_0)) := HOTwA1_0.out.below hb14
      replace HOwAr0_0 : Hid (Own w14 qwAr0_0 w3.heap.size wAr0_0 (strs lr0_0)) := HOwAr0_0.out.below hb14
      replace HOgAr0_0 : Hid (Own w14 qgAr0_0 w5.heap.size gAr0_0 (strs (marks (1) nr0_0))) := HOgAr0_0.out.below hb14
      replace HOThA1_0 : Hid (Own w14 qThA1_0 w13.heap.size ThA1_0 (strs l1_0)) := HOThA1_0.out.below hb14
      obtain ⟨qhAr0_0, hqhAr0_0, HOhAr0_0⟩ : ∃ q, w13.heap.size ≤ q ∧ Hid (Own w14 q w14.heap.size hAr0_0 (strs lr0_0)) := ⟨_, by first | omega | (simp at *; done) | (simp at *; omega), ho0⟩
      clear hb14 ho0
      go_wp2_with fail
      refine (eqRange_c zr0_0 hAr0_0 hcr0_0 nr0_0 lr0_0 wAr0_0 wcr0_0 _ _ _ _  _ ((HOhAr0_0.out.rd).alloc _) ((HOwAr0_0.out.rd).alloc _) HRNAr0_0.out (by unfold maxLen; omega)).mono ?_
      rintro e w15 ⟨rfl, hb15⟩
      have hz15 : w14.heap.size + 1 ≤ w15.heap.size := by have := hb15.size; first | omega | (simp at this; omega)
      have hzz15 : w.heap.size ≤ w15.heap.size := by omega
      have HB15 : Hid (Below w.heap.size w w15) := below_then (by ((repeat (first | refine Below.alloc ?_ (by first | omega | (simp; done) | (simp; omega)) _ | refine Below.drew ?_)); exact HB14.out)) hb15 (by first | omega | (simp; done) | (simp; omega))
      replace HXaR : Hid (Box w15 (w.heap.size) [.int .i64 z1_0, .slice A1_0 n1_0 c1_0]) := Box.below (HXaR.out.alloc _) hb15
      clear hxaR hkaR
      have hxaR := HXaR.out.2
      have hkaR := HXaR.out.1
      replace HXw0 : Hid (Box w15 (w3.heap.size) [.int .i64 zr0_0, .slice wAr0_0 nr0_0 wcr0_0]) := Box.below (HXw0.out.alloc _) hb15
      clear hxw0 hkw0
      have hxw0 := HXw0.out.2
      have hkw0 := HXw0.out.1
      replace HXx1 : Hid (Box w15 (w4.heap.size) [.int .i64 z1_0, .slice Tx1A1_0 n1_0 n1_0]) := Box.below (HXx1.out.alloc _) hb15
      clear hxx1 hkx1
      have hxx1 := HXx1.out.2
      have hkx1 := HXx1.out.1
      replace HXg0 : Hid (Box w15 (w5.heap.size) [.int .i64 zr0_0, .slice gAr0_0 nr0_0 gcr0_0]) := Box.below (HXg0.out.alloc _) hb15
      clear hxg0 hkg0
      have hxg0 := HXg0.out.2
      have hkg0 := HXg0.out.1
      have HXh0 : Hid (Box w15 (w14.heap.size) [.int .i64 zr0_0, .slice hAr0_0 nr0_0 hcr0_0]) := Box.below (Box.new0 _ _ _) hb15
      have hxh0 := HXh0.out.2
      have hkh0 := HXh0.out.1
      replace HOTwA1_0 : Hid (Own w15 qTwA1_0 w2.heap.size TwA1_0 (strs l1_0)) := (HOTwA1_0.out.alloc _).below hb15
      replace HOwAr0_0 : Hid (Own w15 qwAr0_0 w3.heap.size wAr0_0 (strs lr0_0)) := (HOwAr0_0.out.alloc _).below hb15
      replace HOgAr0_0 : Hid (Own w15 qgAr0_0 w5.heap.size gAr0_0 (strs (marks (1) nr0_0))) := (HOgAr0_0.out.alloc _).below hb15
      replace HOThA1_0 : Hid (Own w15 qThA1_0 w13.heap.size ThA1_0 (strs l1_0)) := (HOThA1_0.out.alloc _).below hb15
      replace HOhAr0_0 : Hid (Own w15 qhAr0_0 w14.heap.size hAr0_0 (strs lr0_0)) := (HOhAr0_0.out.alloc _).below hb15
      clear hb15
      go_wp2_with fail
      refine (heldRange_c zr0_0 gAr0_0 gcr0_0 nr0_0 _ _ (1) _ _ (by omega) (HOgAr0_0.out.rd) (by omega)).mono ?_
      rintro e w16 ⟨rfl, hb16⟩
      have hz16 : w15.heap.size ≤ w16.heap.size := by have := hb16.size; first | omega | (simp at this; omega)
      have hzz16 : w.heap.size ≤ w16.heap.size := by omega
      have HB16 : Hid (Below w.heap.size w w16) := below_then (by ((repeat (first | refine Below.alloc ?_ (by first | omega | (simp; done) | (simp; omega)) _ | refine Below.drew ?_)); exact HB15.out)) hb16 (by first | omega | (simp; done) | (simp; omega))
      replace HXaR : Hid (Box w16 (w.heap.size) [.int .i64 z1_0, .slice A1_0 n1_0 c1_0]) := Box.below HXaR.out hb16
      clear hxaR hkaR
      have hxaR := HXaR.out.2
      have hkaR := HXaR.out.1
      replace HXw0 : Hid (Box w16 (w3.heap.size) [.int .i64 zr0_0, .slice wAr0_0 nr0_0 wcr0_0]) := Box.below HXw0.out hb16
      clear hxw0 hkw0
      have hxw0 := HXw0.out.2
      have hkw0 := HXw0.out.1
      replace HXx1 : Hid (Box w16 (w4.heap.size) [.int .i64 z1_0, .slice Tx1A1_0 n1_0 n1_0]) := Box.below HXx1.out hb16
      clear hxx1 hkx1
      have hxx1 := HXx1.out.2
      have hkx1 := HXx1.out.1
      replace HXg0 : Hid (Box w16 (w5.heap.size) [.int .i64 zr0_0, .slice gAr0_0 nr0_0 gcr0_0]) := Box.below HXg0.out hb16
      clear hxg0 hkg0
      have hxg0 := HXg0.out.2
      have hkg0 := HXg0.out.1
      replace HXh0 : Hid (Box w16 (w14.heap.size) [.int .i64 zr0_0, .slice hAr0_0 nr0_0 hcr0_0]) := Box.below HXh0.out hb16
      clear hxh0 hkh0
      have hxh0 := HXh0.out.2
      have hkh0 := HXh0.out.1
      replace HOTwA1_0 : Hid (Own w16 qTwA1_0 w2.heap.size TwA1_0 (strs l1_0)) := HOTwA1_0.out.below hb16
      replace HOwAr0_0 : Hid (Own w16 qwAr0_0 w3.heap.size wAr0_0 (strs lr0_0)) := HOwAr0_0.out.below hb16
      replace HOgAr0_0 : Hid (Own w16 qgAr0_0 w5.heap.size gAr0_0 (strs (marks (1) nr0_0))) := HOgAr0_0.out.below hb16
      replace HOThA1_0 : Hid (Own w16 qThA1_0 w13.heap.size ThA1_0 (strs l1_0)) := HOThA1_0.out.below hb16
      replace HOhAr0_0 : Hid (Own w16 qhAr0_0 w14.heap.size hAr0_0 (strs lr0_0)) := HOhAr0_0.out.below hb16
      clear hb16
      generalize hkk : ((1 + nr0_0 : Nat) : Int) = kq16
      have hk0q16 : 0 ≤ kq16 := by omega
      have hkdq16 : decide (kq16 < 0) = false := by simp; omega
      have HKq16 := Lib.hid hkk
      clear hkk
      obtain rfl : kq16 = kq12 := HKq16.out.symm.trans HKq12.out
      go_wp2
      go_ret
      exact ⟨rfl, HB16.out⟩

section
open Go.ChangeShapes Go.WideShapes Go.ChangeAt
open Go.ChangeMaps (open_string)
set_option maxRecDepth 100000 in
theorem lifted_Grow (f0 : Int → Int → (List ByteArray) → ByteArray → Int) (f1 : Int → Int → (List ByteArray) → ByteArray → List ByteArray) (f2 : Int → Int → (List ByteArray) → ByteArray → Int) (f3 : Int → Int → (List ByteArray) → ByteArray → Bool) (hsp : ∀ (z0 : Int) (z1_0 : Int) (l1_0 : List ByteArray) (s2 : ByteArray), (I64 z0) → (I64 z1_0) → specGrow_does z0 z1_0 l1_0.length l1_0 s2 (f0 z0 z1_0 l1_0 s2) (f1 z0 z1_0 l1_0 s2).length (f1 z0 z1_0 l1_0 s2) (f2 z0 z1_0 l1_0 s2) (f3 z0 z1_0 l1_0 s2)) (him : ∀ (z0 : Int) (z1_0 : Int) (l1_0 : List ByteArray) (s2 : ByteArray), (I64 z0) → (I64 z1_0) → implGrow_does z0 z1_0 l1_0.length l1_0 s2 (f0 z0 z1_0 l1_0 s2) (f1 z0 z1_0 l1_0 s2).length (f1 z0 z1_0 l1_0 s2) (f2 z0 z1_0 l1_0 s2) (f3 z0 z1_0 l1_0 s2)) (hlen0 : ∀ (z0 : Int) (z1_0 : Int) (l1_0 : List ByteArray) (s2 : ByteArray), (I64 z0) → (I64 z1_0) → s2.size ≤ 1048576 → ((l1_0.length + bulkS l1_0)) ≤ 1048576 → (f1 z0 z1_0 l1_0 s2).length ≤ 2000000) (os : Os) (started : os.Started) (H : Type) (enc : TypeId × Value → H) :
    ReturnsInHanded {} Try.checked os 14 .any (Rows.fnExactGrowSpec.pre6 enc Try.prog Try.f14 Rows.fnExactGrowRow.domain false) (Rows.fnExactGrowSpec.post enc Try.prog Try.f14 false true false false) := by
  refine returnsInHanded_of_change (C := Try.checked) Try.own started (by kernel_rfl) Try.func14
    (ChangeSpec.witness6 (enc := enc) (C := Try.checked) false ⟨#[], #[.int .i64 0, .agg #[.int .i64 0, .slice none 0 0], .string ByteArray.empty], []⟩ 8 (by kernel_rfl) (by kernel_rfl) (by kernel_rfl) (by kernel_rfl)) ?_
  intro W base args ds gs before hval0 hW hcnd _
  have hval : ∀ (j : Nat) t v, Try.f14.params[j]? = some t → args[j]? = some v → Value.okWide Try.prog W .any base t v := hval0
  have hW' := hW
  obtain ⟨p, q, hA0, hV, rfl, hfz, hnd⟩ := hW
  have hA : DataW.TrodAll enc Try.prog W 0 (fun _ => true) true Try.f14.params.toList args.toList ds p := hA0
  rw [Try.params14] at hA hval
  obtain ⟨v0, vs0, d0, ds0, p0, q0, hargs, rfl, rfl, h0, r0⟩ := trodAll_cons hA
  obtain ⟨v1, vs1, d1, ds1, p1, q1, rfl, rfl, rfl, h1, r1⟩ := trodAll_cons r0
  obtain ⟨v2, vs2, d2, ds2, p2, q2, rfl, rfl, rfl, h2, r2⟩ := trodAll_cons r1
  obtain ⟨rfl, rfl, rfl⟩ := trodAll_nil r2
  obtain rfl : args = #[v0, v1, v2] := by cases args; simp_all
  obtain ⟨rfl, rfl⟩ := trodVars_none hV
  have lt0 : ∀ x ∈ p0, x.block < W.heap.size := by obtain ⟨m, hm⟩ := h0; exact DataW.trod_lt m _ _ _ hm
  have kk0 := h0
  have lt1 : ∀ x ∈ p1, x.block < W.heap.size := by obtain ⟨m, hm⟩ := h1; exact DataW.trod_lt m _ _ _ hm
  have kk1 := h1
  have lt2 : ∀ x ∈ p2, x.block < W.heap.size := by obtain ⟨m, hm⟩ := h2; exact DataW.trod_lt m _ _ _ hm
  have kk2 := h2
  obtain ⟨z0, rfl, rfl, rfl, wi0⟩ := open_int Try.underlying3 (hval 0 _ v0 rfl rfl) h0
  have hiz0 : I64 z0 := i64_of_wf wi0
  obtain ⟨z1_0, A1_0, n1_0, c1_0, l1_0, rfl, hiz1_0, o1_0, hil1_0⟩ := open_Range (hval 1 _ v1 rfl rfl) h1
  obtain ⟨rfl, o1_0b, o1_0c, o1_0d⟩ := o1_0
  obtain ⟨s2, rfl, rfl, rfl, hs2⟩ := open_string Try.underlying9 (hval 2 _ v2 rfl rfl) h2
  clear hA0 hval0
  refine (walk_Grow z0 z1_0 A1_0 c1_0 _ l1_0 s2 _ _ _ _ _ W o1_0d rfl (Nat.le_trans o1_0b o1_0c) hil1_0 hs2 rfl (hlen0 z0 z1_0 l1_0 s2 hiz0 hiz1_0) (hsp z0 z1_0 l1_0 s2 hiz0 hiz1_0) (him z0 z1_0 l1_0 s2 hiz0 hiz1_0)).mono fun e W' ⟨he, bel⟩ => ?_
  subst he
  exact ⟨_, rfl, _, _, _, [], _, [], hW', trodAll_mk1 (shut_bool Try.underlying4 _), (trodAll_cons_mk (Below.trod Try.laidOut (by kernel_rfl) (of_decide_eq_true (by kernel_rfl)) kk0 bel lt0) (trodAll_cons_mk (Below.trod Try.laidOut (by kernel_rfl) (of_decide_eq_true (by kernel_rfl)) kk1 bel lt1) (trodAll_cons_mk (Below.trod Try.laidOut (by kernel_rfl) (of_decide_eq_true (by kernel_rfl)) kk2 bel lt2) trodAll_mk0))), rfl, bel.frame _, fun h => by cases h⟩
theorem said_Grow (f0 : Int → Int → (List ByteArray) → ByteArray → Int) (f1 : Int → Int → (List ByteArray) → ByteArray → List ByteArray) (f2 : Int → Int → (List ByteArray) → ByteArray → Int) (f3 : Int → Int → (List ByteArray) → ByteArray → Bool) (hsp : ∀ (z0 : Int) (z1_0 : Int) (l1_0 : List ByteArray) (s2 : ByteArray), (I64 z0) → (I64 z1_0) → specGrow_does z0 z1_0 l1_0.length l1_0 s2 (f0 z0 z1_0 l1_0 s2) (f1 z0 z1_0 l1_0 s2).length (f1 z0 z1_0 l1_0 s2) (f2 z0 z1_0 l1_0 s2) (f3 z0 z1_0 l1_0 s2)) (him : ∀ (z0 : Int) (z1_0 : Int) (l1_0 : List ByteArray) (s2 : ByteArray), (I64 z0) → (I64 z1_0) → implGrow_does z0 z1_0 l1_0.length l1_0 s2 (f0 z0 z1_0 l1_0 s2) (f1 z0 z1_0 l1_0 s2).length (f1 z0 z1_0 l1_0 s2) (f2 z0 z1_0 l1_0 s2) (f3 z0 z1_0 l1_0 s2)) (hlen0 : ∀ (z0 : Int) (z1_0 : Int) (l1_0 : List ByteArray) (s2 : ByteArray), (I64 z0) → (I64 z1_0) → s2.size ≤ 1048576 → ((l1_0.length + bulkS l1_0)) ≤ 1048576 → (f1 z0 z1_0 l1_0 s2).length ≤ 2000000) : Rows.FnExactGrowSaid :=
  OpenClaim.holds_of_wide 14 Try.f14 rfl rfl rfl rfl rfl rfl rfl ⟨rfl, rfl, rfl, rfl, rfl⟩ rfl rfl rfl rfl rfl (by kernel_rfl) Try.func14 (by show joinedFacts Try.prog 14 Try.f14 Rows.fnExactGrowSpec Rows.fnExactGrowRow = true; unfold joinedFacts; rw [seat_enter, seat_final, seat_make]; kernel_rfl)
    (of_decide_eq_true (by kernel_rfl)) (by unfold Func.isWrapper; first | (rw [if_pos (by decide +kernel)]; kernel_rfl) | (rw [if_neg (by decide +kernel)]; exact ⟨rfl, rfl⟩))
    (fun os started H enc _ => lifted_Grow f0 f1 f2 f3 hsp him hlen0 os started H enc)
end
end Go.Proofs.Ytojjjhbiccgjkaa
