/- The walk of the law FnExactSealNew; what spec.SealNew and impl.SealNew do comes in as hypotheses. Written by gen_law.py. -/
import Derived.Test.YtojjjhbiccgjkaaData
import Derived.Test.YtojjjhbiccgjkaaReg
import Derived.Test.YtojjjhbiccgjkaaStr
import Derived.Test.YtojjjhbiccgjkaaWSeal
import Derived.Test.YtojjjhbiccgjkaaOpen
import Derived.Test.YtojjjhbiccgjkaaSeat
namespace Go.Proofs.Ytojjjhbiccgjkaa
set_option linter.unusedVariables false
set_option linter.unusedSimpArgs false
open Go.RowKit
attribute [local go_sem ↓] Go.wp_at_zero Go.wp_at_succ

def specSealNew_does (z0 : Int) (zr0_0 zr0_1 : Int) (dr0_0 : Hd) (nr0_0 nr0_1 : Nat) (lr0_0 : List ByteArray) (lr0_1 : List ByteArray) (br1 : Bool) : Prop :=
    ∀ W : World, Calls Try.prog 53 #[.int .i64 z0] W fun r W' => ∃ (Ar0_0 : Option Addr) (cr0_0 loAr0_0 hiAr0_0 : Nat) (Ar0_1 : Option Addr) (cr0_1 loAr0_1 hiAr0_1 : Nat), r = .returned (.tuple #[.agg #[.int .i64 zr0_0, .slice Ar0_0 nr0_0 cr0_0, .int .i64 zr0_1, .slice Ar0_1 nr0_1 cr0_1, .int .i64 dr0_0.num, .int .i64 dr0_0.size, .string dr0_0.root, .int .i64 dr0_0.taken, .string dr0_0.troot], .bool br1]) ∧ (W.heap.size ≤ loAr0_0 ∧ hiAr0_0 ≤ W'.heap.size ∧ Own W' loAr0_0 hiAr0_0 Ar0_0 (strs lr0_0)) ∧ (W.heap.size ≤ loAr0_1 ∧ hiAr0_1 ≤ W'.heap.size ∧ Own W' loAr0_1 hiAr0_1 Ar0_1 (strs lr0_1)) ∧ (hiAr0_0 ≤ loAr0_1 ∨ hiAr0_1 ≤ loAr0_0) ∧ Below W.heap.size W W'
def implSealNew_does (z0 : Int) (zr0_0 zr0_1 : Int) (dr0_0 : Hd) (nr0_0 nr0_1 : Nat) (lr0_0 : List ByteArray) (lr0_1 : List ByteArray) (br1 : Bool) : Prop :=
    ∀ W : World, Calls Try.prog 54 #[.int .i64 z0] W fun r W' => ∃ (Ar0_0 : Option Addr) (cr0_0 loAr0_0 hiAr0_0 : Nat) (Ar0_1 : Option Addr) (cr0_1 loAr0_1 hiAr0_1 : Nat), r = .returned (.tuple #[.agg #[.int .i64 zr0_0, .slice Ar0_0 nr0_0 cr0_0, .int .i64 zr0_1, .slice Ar0_1 nr0_1 cr0_1, .int .i64 dr0_0.num, .int .i64 dr0_0.size, .string dr0_0.root, .int .i64 dr0_0.taken, .string dr0_0.troot], .bool br1]) ∧ (W.heap.size ≤ loAr0_0 ∧ hiAr0_0 ≤ W'.heap.size ∧ Own W' loAr0_0 hiAr0_0 Ar0_0 (strs lr0_0)) ∧ (W.heap.size ≤ loAr0_1 ∧ hiAr0_1 ≤ W'.heap.size ∧ Own W' loAr0_1 hiAr0_1 Ar0_1 (strs lr0_1)) ∧ (hiAr0_0 ≤ loAr0_1 ∨ hiAr0_1 ≤ loAr0_0) ∧ Below W.heap.size W W'
set_option maxRecDepth 100000 in
set_option maxHeartbeats 4000000 in
theorem walk_SealNew (z0 : Int) (zr0_0 zr0_1 : Int) (dr0_0 : Hd) (nr0_0 nr0_1 : Nat) (lr0_0 : List ByteArray) (lr0_1 : List ByteArray) (br1 : Bool) (w : World) (hrnAr0_0 : lr0_0.length = nr0_0) (hrlAr0_0 : nr0_0 ≤ 2000000) (hrnAr0_1 : lr0_1.length = nr0_1) (hrlAr0_1 : nr0_1 ≤ 2000000) (HSP : specSealNew_does z0 zr0_0 zr0_1 dr0_0 nr0_0 nr0_1 lr0_0 lr0_1 br1) (HIM : implSealNew_does z0 zr0_0 zr0_1 dr0_0 nr0_0 nr0_1 lr0_0 lr0_1 br1) :
    Calls Try.prog 12 #[.int .i64 z0] w fun e w' => e = .returned (.bool true) ∧ Below w.heap.size w w' := by
  have HRNAr0_0 := Lib.hid hrnAr0_0
  have HRLAr0_0 := Lib.hid hrlAr0_0
  clear hrnAr0_0 hrlAr0_0
  have HRNAr0_1 := Lib.hid hrnAr0_1
  have HRLAr0_1 := Lib.hid hrlAr0_1
  clear hrnAr0_1 hrlAr0_1
  have HB0 : Hid (Below w.heap.size w w) := Below.refl _ _
  go_enter Try.func12, Try.ntmps12
  go_wp2_with fail
  have hrlAr0_0 := HRLAr0_0.out
  have hrlAr0_1 := HRLAr0_1.out
  refine (HSP _ ).mono ?_
  rintro e w1 ⟨wAr0_0, wcr0_0, lowAr0_0, hiwAr0_0, wAr0_1, wcr0_1, lowAr0_1, hiwAr0_1, rfl, ⟨hawAr0_0, hcwAr0_0, ho0⟩, ⟨hawAr0_1, hcwAr0_1, ho1⟩, hdwAr0_0_wAr0_1, hb1⟩
  have hz1 : w.heap.size ≤ w1.heap.size := by have := hb1.size; first | omega | (simp at this; omega)
  have hzz1 : w.heap.size ≤ w1.heap.size := by omega
  have HB1 : Hid (Below w.heap.size w w1) := below_then (by ((repeat (first | refine Below.alloc ?_ (by first | omega | (simp; done) | (simp; omega)) _ | refine Below.drew ?_)); exact HB0.out)) hb1 (by first | omega | (simp; done) | (simp; omega))
  have hqwAr0_0 : w.heap.size ≤ lowAr0_0 := by first | omega | (simp at *; omega)
  have HOwAr0_0 := Lib.hid ho0
  have hqwAr0_1 : w.heap.size ≤ lowAr0_1 := by first | omega | (simp at *; omega)
  have HOwAr0_1 := Lib.hid ho1
  clear hb1 ho0 ho1
  go_wp2_with fail
  refine (HIM _ ).mono ?_
  rintro e w2 ⟨gAr0_0, gcr0_0, logAr0_0, higAr0_0, gAr0_1, gcr0_1, logAr0_1, higAr0_1, rfl, ⟨hagAr0_0, hcgAr0_0, ho0⟩, ⟨hagAr0_1, hcgAr0_1, ho1⟩, hdgAr0_0_gAr0_1, hb2⟩
  have hz2 : w1.heap.size + 1 ≤ w2.heap.size := by have := hb2.size; first | omega | (simp at this; omega)
  have hzz2 : w.heap.size ≤ w2.heap.size := by omega
  have HB2 : Hid (Below w.heap.size w w2) := below_then (by ((repeat (first | refine Below.alloc ?_ (by first | omega | (simp; done) | (simp; omega)) _ | refine Below.drew ?_)); exact HB1.out)) hb2 (by first | omega | (simp; done) | (simp; omega))
  have HXw0 : Hid (Box w2 (w1.heap.size) [.int .i64 zr0_0, .slice wAr0_0 nr0_0 wcr0_0, .int .i64 zr0_1, .slice wAr0_1 nr0_1 wcr0_1, .int .i64 dr0_0.num, .int .i64 dr0_0.size, .string dr0_0.root, .int .i64 dr0_0.taken, .string dr0_0.troot]) := Box.below (Box.new0 _ _ _) hb2
  have hxw0 := HXw0.out.2
  have hkw0 := HXw0.out.1
  replace HOwAr0_0 : Hid (Own w2 lowAr0_0 hiwAr0_0 wAr0_0 (strs lr0_0)) := (HOwAr0_0.out.alloc _).below hb2
  replace HOwAr0_1 : Hid (Own w2 lowAr0_1 hiwAr0_1 wAr0_1 (strs lr0_1)) := (HOwAr0_1.out.alloc _).below hb2
  have hqgAr0_0 : w1.heap.size + 1 ≤ logAr0_0 := by first | omega | (simp at *; omega)
  have HOgAr0_0 := Lib.hid ho0
  have hqgAr0_1 : w1.heap.size + 1 ≤ logAr0_1 := by first | omega | (simp at *; omega)
  have HOgAr0_1 := Lib.hid ho1
  clear hb2 ho0 ho1
  go_wp2_with fail
  refine (eqSeal_c zr0_0 zr0_1 dr0_0 gAr0_0 gAr0_1 gcr0_0 gcr0_1 nr0_0 nr0_1 lr0_0 lr0_1 wAr0_0 wAr0_1 wcr0_0 wcr0_1 _ _ _ _ _ _ _ _  _ ((HOgAr0_0.out.rd).alloc _) ((HOwAr0_0.out.rd).alloc _) HRNAr0_0.out (by unfold maxLen; omega) ((HOgAr0_1.out.rd).alloc _) ((HOwAr0_1.out.rd).alloc _) HRNAr0_1.out (by unfold maxLen; omega)).mono ?_
  rintro e w3 ⟨rfl, hb3⟩
  have hz3 : w2.heap.size + 1 ≤ w3.heap.size := by have := hb3.size; first | omega | (simp at this; omega)
  have hzz3 : w.heap.size ≤ w3.heap.size := by omega
  have HB3 : Hid (Below w.heap.size w w3) := below_then (by ((repeat (first | refine Below.alloc ?_ (by first | omega | (simp; done) | (simp; omega)) _ | refine Below.drew ?_)); exact HB2.out)) hb3 (by first | omega | (simp; done) | (simp; omega))
  replace HXw0 : Hid (Box w3 (w1.heap.size) [.int .i64 zr0_0, .slice wAr0_0 nr0_0 wcr0_0, .int .i64 zr0_1, .slice wAr0_1 nr0_1 wcr0_1, .int .i64 dr0_0.num, .int .i64 dr0_0.size, .string dr0_0.root, .int .i64 dr0_0.taken, .string dr0_0.troot]) := Box.below (HXw0.out.alloc _) hb3
  clear hxw0 hkw0
  have hxw0 := HXw0.out.2
  have hkw0 := HXw0.out.1
  have HXg0 : Hid (Box w3 (w2.heap.size) [.int .i64 zr0_0, .slice gAr0_0 nr0_0 gcr0_0, .int .i64 zr0_1, .slice gAr0_1 nr0_1 gcr0_1, .int .i64 dr0_0.num, .int .i64 dr0_0.size, .string dr0_0.root, .int .i64 dr0_0.taken, .string dr0_0.troot]) := Box.below (Box.new0 _ _ _) hb3
  have hxg0 := HXg0.out.2
  have hkg0 := HXg0.out.1
  replace HOwAr0_0 : Hid (Own w3 lowAr0_0 hiwAr0_0 wAr0_0 (strs lr0_0)) := (HOwAr0_0.out.alloc _).below hb3
  replace HOwAr0_1 : Hid (Own w3 lowAr0_1 hiwAr0_1 wAr0_1 (strs lr0_1)) := (HOwAr0_1.out.alloc _).below hb3
  replace HOgAr0_0 : Hid (Own w3 logAr0_0 higAr0_0 gAr0_0 (strs lr0_0)) := (HOgAr0_0.out.alloc _).below hb3
  replace HOgAr0_1 : Hid (Own w3 logAr0_1 higAr0_1 gAr0_1 (strs lr0_1)) := (HOgAr0_1.out.alloc _).below hb3
  clear hb3
  go_wp2_with fail
  refine (markSeal_c zr0_0 zr0_1 dr0_0 gAr0_0 gAr0_1 gcr0_0 gcr0_1 nr0_0 nr0_1 logAr0_0 higAr0_0 logAr0_1 higAr0_1 (1) _ (strs lr0_0) (strs lr0_1) _ (by omega) (HOgAr0_0.out) (by rw [strs_len]; exact HRNAr0_0.out) (by omega) (HOgAr0_1.out) (by rw [strs_len]; exact HRNAr0_1.out) (by omega) (by omega) (by omega)).mono ?_
  rintro e w4 ⟨v4_1, rfl, ⟨hp4_0, hp4_1⟩, ho0, ho1⟩
  have hz4_0 : w3.heap.size ≤ v4_1.heap.size := by have := hp4_0.size; first | omega | (simp at this; omega)
  have hz4_1 : v4_1.heap.size ≤ w4.heap.size := by have := hp4_1.size; first | omega | (simp at this; omega)
  have hzz4 : w.heap.size ≤ w4.heap.size := by omega
  have HB4 : Hid (Below w.heap.size w w4) := (below_only (below_only (by ((repeat (first | refine Below.alloc ?_ (by first | omega | (simp; done) | (simp; omega)) _ | refine Below.drew ?_)); exact HB3.out)) hp4_0 (by omega) (by first | omega | (simp; omega))) hp4_1 (by omega) (by first | omega | (simp; omega)))
  replace HXw0 : Hid (Box w4 (w1.heap.size) [.int .i64 zr0_0, .slice wAr0_0 nr0_0 wcr0_0, .int .i64 zr0_1, .slice wAr0_1 nr0_1 wcr0_1, .int .i64 dr0_0.num, .int .i64 dr0_0.size, .string dr0_0.root, .int .i64 dr0_0.taken, .string dr0_0.troot]) := (Box.only (Box.only HXw0.out hp4_0 (by first | omega | (simp; omega))) hp4_1 (by first | omega | (simp; omega)))
  clear hxw0 hkw0
  have hxw0 := HXw0.out.2
  have hkw0 := HXw0.out.1
  replace HXg0 : Hid (Box w4 (w2.heap.size) [.int .i64 zr0_0, .slice gAr0_0 nr0_0 gcr0_0, .int .i64 zr0_1, .slice gAr0_1 nr0_1 gcr0_1, .int .i64 dr0_0.num, .int .i64 dr0_0.size, .string dr0_0.root, .int .i64 dr0_0.taken, .string dr0_0.troot]) := (Box.only (Box.only HXg0.out hp4_0 (by first | omega | (simp; omega))) hp4_1 (by first | omega | (simp; omega)))
  clear hxg0 hkg0
  have hxg0 := HXg0.out.2
  have hkg0 := HXg0.out.1
  replace HOwAr0_0 : Hid (Own w4 lowAr0_0 hiwAr0_0 wAr0_0 (strs lr0_0)) := ((HOwAr0_0.out.only hp4_0 (by first | omega | (simp; omega))).only hp4_1 (by first | omega | (simp; omega)))
  replace HOwAr0_1 : Hid (Own w4 lowAr0_1 hiwAr0_1 wAr0_1 (strs lr0_1)) := ((HOwAr0_1.out.only hp4_0 (by first | omega | (simp; omega))).only hp4_1 (by first | omega | (simp; omega)))
  replace HOgAr0_0 : Hid (Own w4 logAr0_0 higAr0_0 gAr0_0 (strs (marks (1) nr0_0))) := ho0
  replace HOgAr0_1 : Hid (Own w4 logAr0_1 higAr0_1 gAr0_1 (strs (marks (1 + nr0_0) nr0_1))) := ho1
  clear hp4_0 hp4_1 ho0 ho1
  generalize hkk : ((1 + nr0_0 + nr0_1 : Nat) : Int) = km4
  have hk0m4 : 0 ≤ km4 := by omega
  have hkdm4 : decide (km4 < 0) = false := by simp; omega
  have HKm4 := Lib.hid hkk
  clear hkk
  go_wp2_with fail
  refine (heldSeal_c zr0_0 zr0_1 dr0_0 gAr0_0 gAr0_1 gcr0_0 gcr0_1 nr0_0 nr0_1 _ _ _ _ (1) _ _ (by omega) (HOgAr0_0.out.rd) (HOgAr0_1.out.rd) (by omega)).mono ?_
  rintro e w5 ⟨rfl, hb5⟩
  have hz5 : w4.heap.size ≤ w5.heap.size := by have := hb5.size; first | omega | (simp at this; omega)
  have hzz5 : w.heap.size ≤ w5.heap.size := by omega
  have HB5 : Hid (Below w.heap.size w w5) := below_then (by ((repeat (first | refine Below.alloc ?_ (by first | omega | (simp; done) | (simp; omega)) _ | refine Below.drew ?_)); exact HB4.out)) hb5 (by first | omega | (simp; done) | (simp; omega))
  replace HXw0 : Hid (Box w5 (w1.heap.size) [.int .i64 zr0_0, .slice wAr0_0 nr0_0 wcr0_0, .int .i64 zr0_1, .slice wAr0_1 nr0_1 wcr0_1, .int .i64 dr0_0.num, .int .i64 dr0_0.size, .string dr0_0.root, .int .i64 dr0_0.taken, .string dr0_0.troot]) := Box.below HXw0.out hb5
  clear hxw0 hkw0
  have hxw0 := HXw0.out.2
  have hkw0 := HXw0.out.1
  replace HXg0 : Hid (Box w5 (w2.heap.size) [.int .i64 zr0_0, .slice gAr0_0 nr0_0 gcr0_0, .int .i64 zr0_1, .slice gAr0_1 nr0_1 gcr0_1, .int .i64 dr0_0.num, .int .i64 dr0_0.size, .string dr0_0.root, .int .i64 dr0_0.taken, .string dr0_0.troot]) := Box.below HXg0.out hb5
  clear hxg0 hkg0
  have hxg0 := HXg0.out.2
  have hkg0 := HXg0.out.1
  replace HOwAr0_0 : Hid (Own w5 lowAr0_0 hiwAr0_0 wAr0_0 (strs lr0_0)) := HOwAr0_0.out.below hb5
  replace HOwAr0_1 : Hid (Own w5 lowAr0_1 hiwAr0_1 wAr0_1 (strs lr0_1)) := HOwAr0_1.out.below hb5
  replace HOgAr0_0 : Hid (Own w5 logAr0_0 higAr0_0 gAr0_0 (strs (marks (1) nr0_0))) := HOgAr0_0.out.below hb5
  replace HOgAr0_1 : Hid (Own w5 logAr0_1 higAr0_1 gAr0_1 (strs (marks (1 + nr0_0) nr0_1))) := HOgAr0_1.out.below hb5
  clear hb5
  generalize hkk : ((1 + nr0_0 + nr0_1 : Nat) : Int) = kq5
  have hk0q5 : 0 ≤ kq5 := by omega
  have hkdq5 : decide (kq5 < 0) = false := by simp; omega
  have HKq5 := Lib.hid hkk
  clear hkk
  obtain rfl : kq5 = km4 := HKq5.out.symm.trans HKm4.out
  go_wp2_with fail
  refine (HIM _ ).mono ?_
  rintro e w6 ⟨hAr0_0, hcr0_0, lohAr0_0, hihAr0_0, hAr0_1, hcr0_1, lohAr0_1, hihAr0_1, rfl, ⟨hahAr0_0, hchAr0_0, ho0⟩, ⟨hahAr0_1, hchAr0_1, ho1⟩, hdhAr0_0_hAr0_1, hb6⟩
  have hz6 : w5.heap.size ≤ w6.heap.size := by have := hb6.size; first | omega | (simp at this; omega)
  have hzz6 : w.heap.size ≤ w6.heap.size := by omega
  have HB6 : Hid (Below w.heap.size w w6) := below_then (by ((repeat (first | refine Below.alloc ?_ (by first | omega | (simp; done) | (simp; omega)) _ | refine Below.drew ?_)); exact HB5.out)) hb6 (by first | omega | (simp; done) | (simp; omega))
  replace HXw0 : Hid (Box w6 (w1.heap.size) [.int .i64 zr0_0, .slice wAr0_0 nr0_0 wcr0_0, .int .i64 zr0_1, .slice wAr0_1 nr0_1 wcr0_1, .int .i64 dr0_0.num, .int .i64 dr0_0.size, .string dr0_0.root, .int .i64 dr0_0.taken, .string dr0_0.troot]) := Box.below HXw0.out hb6
  clear hxw0 hkw0
  have hxw0 := HXw0.out.2
  have hkw0 := HXw0.out.1
  replace HXg0 : Hid (Box w6 (w2.heap.size) [.int .i64 zr0_0, .slice gAr0_0 nr0_0 gcr0_0, .int .i64 zr0_1, .slice gAr0_1 nr0_1 gcr0_1, .int .i64 dr0_0.num, .int .i64 dr0_0.size, .string dr0_0.root, .int .i64 dr0_0.taken, .string dr0_0.troot]) := Box.below HXg0.out hb6
  clear hxg0 hkg0
  have hxg0 := HXg0.out.2
  have hkg0 := HXg0.out.1
  replace HOwAr0_0 : Hid (Own w6 lowAr0_0 hiwAr0_0 wAr0_0 (strs lr0_0)) := HOwAr0_0.out.below hb6
  replace HOwAr0_1 : Hid (Own w6 lowAr0_1 hiwAr0_1 wAr0_1 (strs lr0_1)) := HOwAr0_1.out.below hb6
  replace HOgAr0_0 : Hid (Own w6 logAr0_0 higAr0_0 gAr0_0 (strs (marks (1) nr0_0))) := HOgAr0_0.out.below hb6
  replace HOgAr0_1 : Hid (Own w6 logAr0_1 higAr0_1 gAr0_1 (strs (marks (1 + nr0_0) nr0_1))) := HOgAr0_1.out.below hb6
  have hqhAr0_0 : w5.heap.size ≤ lohAr0_0 := by first | omega | (simp at *; omega)
  have HOhAr0_0 := Lib.hid ho0
  have hqhAr0_1 : w5.heap.size ≤ lohAr0_1 := by first | omega | (simp at *; omega)
  have HOhAr0_1 := Lib.hid ho1
  clear hb6 ho0 ho1
  go_wp2_with fail
  refine (eqSeal_c zr0_0 zr0_1 dr0_0 hAr0_0 hAr0_1 hcr0_0 hcr0_1 nr0_0 nr0_1 lr0_0 lr0_1 wAr0_0 wAr0_1 wcr0_0 wcr0_1 _ _ _ _ _ _ _ _  _ ((HOhAr0_0.out.rd).alloc _) ((HOwAr0_0.out.rd).alloc _) HRNAr0_0.out (by unfold maxLen; omega) ((HOhAr0_1.out.rd).alloc _) ((HOwAr0_1.out.rd).alloc _) HRNAr0_1.out (by unfold maxLen; omega)).mono ?_
  rintro e w7 ⟨rfl, hb7⟩
  have hz7 : w6.heap.size + 1 ≤ w7.heap.size := by have := hb7.size; first | omega | (simp at this; omega)
  have hzz7 : w.heap.size ≤ w7.heap.size := by omega
  have HB7 : Hid (Below w.heap.size w w7) := below_then (by ((repeat (first | refine Below.alloc ?_ (by first | omega | (simp; done) | (simp; omega)) _ | refine Below.drew ?_)); exact HB6.out)) hb7 (by first | omega | (simp; done) | (simp; omega))
  replace HXw0 : Hid (Box w7 (w1.heap.size) [.int .i64 zr0_0, .slice wAr0_0 nr0_0 wcr0_0, .int .i64 zr0_1, .slice wAr0_1 nr0_1 wcr0_1, .int .i64 dr0_0.num, .int .i64 dr0_0.size, .string dr0_0.root, .int .i64 dr0_0.taken, .string dr0_0.troot]) := Box.below (HXw0.out.alloc _) hb7
  clear hxw0 hkw0
  have hxw0 := HXw0.out.2
  have hkw0 := HXw0.out.1
  replace HXg0 : Hid (Box w7 (w2.heap.size) [.int .i64 zr0_0, .slice gAr0_0 nr0_0 gcr0_0, .int .i64 zr0_1, .slice gAr0_1 nr0_1 gcr0_1, .int .i64 dr0_0.num, .int .i64 dr0_0.size, .string dr0_0.root, .int .i64 dr0_0.taken, .string dr0_0.troot]) := Box.below (HXg0.out.alloc _) hb7
  clear hxg0 hkg0
  have hxg0 := HXg0.out.2
  have hkg0 := HXg0.out.1
  have HXh0 : Hid (Box w7 (w6.heap.size) [.int .i64 zr0_0, .slice hAr0_0 nr0_0 hcr0_0, .int .i64 zr0_1, .slice hAr0_1 nr0_1 hcr0_1, .int .i64 dr0_0.num, .int .i64 dr0_0.size, .string dr0_0.root, .int .i64 dr0_0.taken, .string dr0_0.troot]) := Box.below (Box.new0 _ _ _) hb7
  have hxh0 := HXh0.out.2
  have hkh0 := HXh0.out.1
  replace HOwAr0_0 : Hid (Own w7 lowAr0_0 hiwAr0_0 wAr0_0 (strs lr0_0)) := (HOwAr0_0.out.alloc _).below hb7
  replace HOwAr0_1 : Hid (Own w7 lowAr0_1 hiwAr0_1 wAr0_1 (strs lr0_1)) := (HOwAr0_1.out.alloc _).below hb7
  replace HOgAr0_0 : Hid (Own w7 logAr0_0 higAr0_0 gAr0_0 (strs (marks (1) nr0_0))) := (HOgAr0_0.out.alloc _).below hb7
  replace HOgAr0_1 : Hid (Own w7 logAr0_1 higAr0_1 gAr0_1 (strs (marks (1 + nr0_0) nr0_1))) := (HOgAr0_1.out.alloc _).below hb7
  replace HOhAr0_0 : Hid (Own w7 lohAr0_0 hihAr0_0 hAr0_0 (strs lr0_0)) := (HOhAr0_0.out.alloc _).below hb7
  replace HOhAr0_1 : Hid (Own w7 lohAr0_1 hihAr0_1 hAr0_1 (strs lr0_1)) := (HOhAr0_1.out.alloc _).below hb7
  clear hb7
  go_wp2_with fail
  refine (heldSeal_c zr0_0 zr0_1 dr0_0 gAr0_0 gAr0_1 gcr0_0 gcr0_1 nr0_0 nr0_1 _ _ _ _ (1) _ _ (by omega) (HOgAr0_0.out.rd) (HOgAr0_1.out.rd) (by omega)).mono ?_
  rintro e w8 ⟨rfl, hb8⟩
  have hz8 : w7.heap.size ≤ w8.heap.size := by have := hb8.size; first | omega | (simp at this; omega)
  have hzz8 : w.heap.size ≤ w8.heap.size := by omega
  have HB8 : Hid (Below w.heap.size w w8) := below_then (by ((repeat (first | refine Below.alloc ?_ (by first | omega | (simp; done) | (simp; omega)) _ | refine Below.drew ?_)); exact HB7.out)) hb8 (by first | omega | (simp; done) | (simp; omega))
  replace HXw0 : Hid (Box w8 (w1.heap.size) [.int .i64 zr0_0, .slice wAr0_0 nr0_0 wcr0_0, .int .i64 zr0_1, .slice wAr0_1 nr0_1 wcr0_1, .int .i64 dr0_0.num, .int .i64 dr0_0.size, .string dr0_0.root, .int .i64 dr0_0.taken, .string dr0_0.troot]) := Box.below HXw0.out hb8
  clear hxw0 hkw0
  have hxw0 := HXw0.out.2
  have hkw0 := HXw0.out.1
  replace HXg0 : Hid (Box w8 (w2.heap.size) [.int .i64 zr0_0, .slice gAr0_0 nr0_0 gcr0_0, .int .i64 zr0_1, .slice gAr0_1 nr0_1 gcr0_1, .int .i64 dr0_0.num, .int .i64 dr0_0.size, .string dr0_0.root, .int .i64 dr0_0.taken, .string dr0_0.troot]) := Box.below HXg0.out hb8
  clear hxg0 hkg0
  have hxg0 := HXg0.out.2
  have hkg0 := HXg0.out.1
  replace HXh0 : Hid (Box w8 (w6.heap.size) [.int .i64 zr0_0, .slice hAr0_0 nr0_0 hcr0_0, .int .i64 zr0_1, .slice hAr0_1 nr0_1 hcr0_1, .int .i64 dr0_0.num, .int .i64 dr0_0.size, .string dr0_0.root, .int .i64 dr0_0.taken, .string dr0_0.troot]) := Box.below HXh0.out hb8
  clear hxh0 hkh0
  have hxh0 := HXh0.out.2
  have hkh0 := HXh0.out.1
  replace HOwAr0_0 : Hid (Own w8 lowAr0_0 hiwAr0_0 wAr0_0 (strs lr0_0)) := HOwAr0_0.out.below hb8
  replace HOwAr0_1 : Hid (Own w8 lowAr0_1 hiwAr0_1 wAr0_1 (strs lr0_1)) := HOwAr0_1.out.below hb8
  replace HOgAr0_0 : Hid (Own w8 logAr0_0 higAr0_0 gAr0_0 (strs (marks (1) nr0_0))) := HOgAr0_0.out.below hb8
  replace HOgAr0_1 : Hid (Own w8 logAr0_1 higAr0_1 gAr0_1 (strs (marks (1 + nr0_0) nr0_1))) := HOgAr0_1.out.below hb8
  replace HOhAr0_0 : Hid (Own w8 lohAr0_0 hihAr0_0 hAr0_0 (strs lr0_0)) := HOhAr0_0.out.below hb8
  replace HOhAr0_1 : Hid (Own w8 lohAr0_1 hihAr0_1 hAr0_1 (strs lr0_1)) := HOhAr0_1.out.below hb8
  clear hb8
  generalize hkk : ((1 + nr0_0 + nr0_1 : Nat) : Int) = kq8
  have hk0q8 : 0 ≤ kq8 := by omega
  have hkdq8 : decide (kq8 < 0) = false := by simp; omega
  have HKq8 := Lib.hid hkk
  clear hkk
  obtain rfl : kq8 = kq5 := HKq8.out.symm.trans HKq5.out
  go_wp2
  go_ret
  exact ⟨rfl, HB8.out⟩

section
open Go.ChangeShapes Go.WideShapes Go.ChangeAt
open Go.ChangeMaps (open_string)
set_option maxRecDepth 100000 in
theorem lifted_SealNew (f0 : Int → Int) (f1 : Int → Int) (f2 : Int → Hd) (f3 : Int → List ByteArray) (f4 : Int → List ByteArray) (f5 : Int → Bool) (hsp : ∀ (z0 : Int), (I64 z0) → specSealNew_does z0 (f0 z0) (f1 z0) (f2 z0) (f3 z0).length (f4 z0).length (f3 z0) (f4 z0) (f5 z0)) (him : ∀ (z0 : Int), (I64 z0) → implSealNew_does z0 (f0 z0) (f1 z0) (f2 z0) (f3 z0).length (f4 z0).length (f3 z0) (f4 z0) (f5 z0)) (hlen0 : ∀ (z0 : Int), (I64 z0) → (f3 z0).length ≤ 2000000) (hlen1 : ∀ (z0 : Int), (I64 z0) → (f4 z0).length ≤ 2000000) (os : Os) (started : os.Started) (H : Type) (enc : TypeId × Value → H) :
    ReturnsInHanded {} Try.checked os 12 .any (Rows.fnExactSealNewSpec.pre6 enc Try.prog Try.f12 Rows.fnExactSealNewRow.domain false) (Rows.fnExactSealNewSpec.post enc Try.prog Try.f12 false true false false) := by
  refine returnsInHanded_of_change (C := Try.checked) Try.own started (by kernel_rfl) Try.func12
    (ChangeSpec.witness6 (enc := enc) (C := Try.checked) false ⟨#[], #[.int .i64 0], []⟩ 8 (by kernel_rfl) (by kernel_rfl) (by kernel_rfl) (by kernel_rfl)) ?_
  intro W base args ds gs before hval0 hW hcnd _
  have hval : ∀ (j : Nat) t v, Try.f12.params[j]? = some t → args[j]? = some v → Value.okWide Try.prog W .any base t v := hval0
  have hW' := hW
  obtain ⟨p, q, hA0, hV, rfl, hfz, hnd⟩ := hW
  have hA : DataW.TrodAll enc Try.prog W 0 (fun _ => true) true Try.f12.params.toList args.toList ds p := hA0
  rw [Try.params12] at hA hval
  obtain ⟨v0, vs0, d0, ds0, p0, q0, hargs, rfl, rfl, h0, r0⟩ := trodAll_cons hA
  obtain ⟨rfl, rfl, rfl⟩ := trodAll_nil r0
  obtain rfl : args = #[v0] := by cases args; simp_all
  obtain ⟨rfl, rfl⟩ := trodVars_none hV
  have lt0 : ∀ x ∈ p0, x.block < W.heap.size := by obtain ⟨m, hm⟩ := h0; exact DataW.trod_lt m _ _ _ hm
  have kk0 := h0
  obtain ⟨z0, rfl, rfl, rfl, wi0⟩ := open_int Try.underlying3 (hval 0 _ v0 rfl rfl) h0
  have hiz0 : I64 z0 := i64_of_wf wi0
  clear hA0 hval0
  refine (walk_SealNew z0 _ _ _ _ _ _ _ _ W  rfl (hlen0 z0 hiz0) rfl (hlen1 z0 hiz0) (hsp z0 hiz0) (him z0 hiz0)).mono fun e W' ⟨he, bel⟩ => ?_
  subst he
  exact ⟨_, rfl, _, _, _, [], _, [], hW', trodAll_mk1 (shut_bool Try.underlying4 _), (trodAll_cons_mk (Below.trod Try.laidOut (by kernel_rfl) (of_decide_eq_true (by kernel_rfl)) kk0 bel lt0) trodAll_mk0), rfl, bel.frame _, fun h => by cases h⟩
theorem said_SealNew (f0 : Int → Int) (f1 : Int → Int) (f2 : Int → Hd) (f3 : Int → List ByteArray) (f4 : Int → List ByteArray) (f5 : Int → Bool) (hsp : ∀ (z0 : Int), (I64 z0) → specSealNew_does z0 (f0 z0) (f1 z0) (f2 z0) (f3 z0).length (f4 z0).length (f3 z0) (f4 z0) (f5 z0)) (him : ∀ (z0 : Int), (I64 z0) → implSealNew_does z0 (f0 z0) (f1 z0) (f2 z0) (f3 z0).length (f4 z0).length (f3 z0) (f4 z0) (f5 z0)) (hlen0 : ∀ (z0 : Int), (I64 z0) → (f3 z0).length ≤ 2000000) (hlen1 : ∀ (z0 : Int), (I64 z0) → (f4 z0).length ≤ 2000000) : Rows.FnExactSealNewSaid :=
  OpenClaim.holds_of_wide 12 Try.f12 rfl rfl rfl rfl rfl rfl rfl ⟨rfl, rfl, rfl, rfl, rfl⟩ rfl rfl rfl rfl rfl (by kernel_rfl) Try.func12 (by show joinedFacts Try.prog 12 Try.f12 Rows.fnExactSealNewSpec Rows.fnExactSealNewRow = true; unfold joinedFacts; rw [seat_enter, seat_final, seat_make]; kernel_rfl)
    (of_decide_eq_true (by kernel_rfl)) (by unfold Func.isWrapper; first | (rw [if_pos (by decide +kernel)]; kernel_rfl) | (rw [if_neg (by decide +kernel)]; exact ⟨rfl, rfl⟩))
    (fun os started H enc _ => lifted_SealNew f0 f1 f2 f3 f4 f5 hsp him hlen0 hlen1 os started H enc)
end
end Go.Proofs.Ytojjjhbiccgjkaa
