/- The walk of the law FnExactTopicsOf; what spec.TopicsOf and impl.TopicsOf do comes in as hypotheses. Written by gen_law.py. -/
import Derived.Test.YtojjjhbiccgjkaaData
import Derived.Test.YtojjjhbiccgjkaaStr
import Derived.Test.YtojjjhbiccgjkaaWLog
import Derived.Test.YtojjjhbiccgjkaaOpen
import Derived.Test.YtojjjhbiccgjkaaSeat
namespace Go.Proofs.Ytojjjhbiccgjkaa
set_option linter.unusedVariables false
set_option linter.unusedSimpArgs false
open Go.RowKit
attribute [local go_sem ↓] Go.wp_at_zero Go.wp_at_succ

def specTopicsOf_does (n0_0 : Nat) (l0_0 : List Ent) (nr0 : Nat) (lr0 : List ByteArray) : Prop :=
    ((n0_0 + sumBy Ent.bulk l0_0)) ≤ 1048576 → ∀ (B0_0 : Option Addr) (g0_0 aA0_0 bA0_0 : Nat) (W : World), Rd W aA0_0 bA0_0 B0_0 (ents l0_0) → g0_0 = n0_0 → Calls Try.prog 86 #[.agg #[.slice B0_0 n0_0 g0_0]] W fun r W' => ∃ (Ar0 : Option Addr) (cr0 : Nat), r = .returned (.slice Ar0 nr0 cr0) ∧ Own W' W.heap.size W'.heap.size Ar0 (strs lr0) ∧ Below W.heap.size W W'
def implTopicsOf_does (n0_0 : Nat) (l0_0 : List Ent) (nr0 : Nat) (lr0 : List ByteArray) : Prop :=
    ((n0_0 + sumBy Ent.bulk l0_0)) ≤ 1048576 → ∀ (B0_0 : Option Addr) (g0_0 aA0_0 bA0_0 : Nat) (W : World), Rd W aA0_0 bA0_0 B0_0 (ents l0_0) → g0_0 = n0_0 → Calls Try.prog 88 #[.agg #[.slice B0_0 n0_0 g0_0]] W fun r W' => ∃ (Ar0 : Option Addr) (cr0 : Nat), r = .returned (.slice Ar0 nr0 cr0) ∧ Own W' W.heap.size W'.heap.size Ar0 (strs lr0) ∧ Below W.heap.size W W'
set_option maxRecDepth 100000 in
set_option maxHeartbeats 4000000 in
theorem walk_TopicsOf (A0_0 : Option Addr) (c0_0 : Nat) (n0_0 : Nat) (l0_0 : List Ent) (nr0 : Nat) (lr0 : List ByteArray) (w : World) (hrA0_0 : Rd w 0 w.heap.size A0_0 (ents l0_0)) (hnA0_0 : l0_0.length = n0_0) (hlA0_0 : n0_0 ≤ maxLen) (hsA0_0 : ∀ x ∈ l0_0, x.fits) (hrnAr0 : lr0.length = nr0) (hrlAr0 : ((n0_0 + sumBy Ent.bulk l0_0)) ≤ 1048576 → nr0 ≤ 2000000) (HSP : specTopicsOf_does n0_0 l0_0 nr0 lr0) (HIM : implTopicsOf_does n0_0 l0_0 nr0 lr0) :
    Calls Try.prog 22 #[.agg #[.slice A0_0 n0_0 c0_0]] w fun e w' => e = .returned (.bool true) ∧ Below w.heap.size w w' := by
  have HNA0_0 := Lib.hid hnA0_0
  have HSA0_0 := Lib.hid hsA0_0
  clear hnA0_0 hsA0_0
  have HRNAr0 := Lib.hid hrnAr0
  have HRLAr0 := Lib.hid hrlAr0
  clear hrnAr0 hrlAr0
  have HB0 : Hid (Below w.heap.size w w) := Below.refl _ _
  go_enter Try.func22, Try.ntmps22
  go_wp2_with fail
  refine (szLog_c A0_0 c0_0 n0_0 l0_0 _ _ _ _ (hrA0_0.below (by ((repeat (first | refine Below.alloc ?_ (by first | omega | (simp; done) | (simp; omega)) _ | refine Below.drew ?_)); exact HB0.out))) HNA0_0.out hlA0_0 HSA0_0.out (by omega) (by omega)).mono ?_
  rintro e w1 ⟨rfl, hb1⟩
  have hz1 : w.heap.size + 1 ≤ w1.heap.size := by have := hb1.size; first | omega | (simp at this; omega)
  have hzz1 : w.heap.size ≤ w1.heap.size := by omega
  have HB1 : Hid (Below w.heap.size w w1) := below_then (by ((repeat (first | refine Below.alloc ?_ (by first | omega | (simp; done) | (simp; omega)) _ | refine Below.drew ?_)); exact HB0.out)) hb1 (by first | omega | (simp; done) | (simp; omega))
  have HXaL : Hid (Box w1 (w.heap.size) [.slice A0_0 n0_0 c0_0]) := Box.below (Box.new0 _ _ _) hb1
  have hxaL := HXaL.out.2
  have hkaL := HXaL.out.1
  clear hb1
  go_wp2_with fail
  · go_ret
    exact ⟨rfl, HB1.out⟩
  · have hp1 : 0 ≤ szF 1048576 (((n0_0 + sumBy Ent.bulk l0_0))) := by assumption
    have hg1 := (szF_le 1048576 (((n0_0 + sumBy Ent.bulk l0_0))) (by omega)).2
    have hbk : ((n0_0 + sumBy Ent.bulk l0_0)) ≤ 1048576 := by have := (szF_pos hp1).1; omega
    have hmA0_0 : n0_0 ≤ 1048576 := by omega
    have hrlAr0 := HRLAr0.out hbk
    refine (toLog_c A0_0 c0_0 n0_0 l0_0 _ _ _ (hrA0_0.below (by ((repeat (first | refine Below.alloc ?_ (by first | omega | (simp; done) | (simp; omega)) _ | refine Below.drew ?_)); exact HB1.out))) HNA0_0.out hmA0_0).mono ?_
    rintro e w2 ⟨TwA0_0, rfl, le2_0, ho0, hb2⟩
    have hz2 : w1.heap.size ≤ w2.heap.size := by have := hb2.size; first | omega | (simp at this; omega)
    have hzz2 : w.heap.size ≤ w2.heap.size := by omega
    have HB2 : Hid (Below w.heap.size w w2) := below_then (by ((repeat (first | refine Below.alloc ?_ (by first | omega | (simp; done) | (simp; omega)) _ | refine Below.drew ?_)); exact HB1.out)) hb2 (by first | omega | (simp; done) | (simp; omega))
    replace HXaL : Hid (Box w2 (w.heap.size) [.slice A0_0 n0_0 c0_0]) := Box.below HXaL.out hb2
    clear hxaL hkaL
    have hxaL := HXaL.out.2
    have hkaL := HXaL.out.1
    obtain ⟨qTwA0_0, hqTwA0_0, hqqTwA0_0, HOTwA0_0⟩ : ∃ q, w1.heap.size ≤ q ∧ w2.heap.size ≤ w2.heap.size ∧ Hid (Own w2 q w2.heap.size TwA0_0 (ents l0_0)) := ⟨_, by first | omega | (simp at *; done) | (simp at *; omega), by first | omega | (simp at *; done) | (simp at *; omega), ho0⟩
    clear hb2 ho0
    go_wp2_with fail
    refine (HSP hbk _ _ _ _ _ (HOTwA0_0.out.rd) rfl).mono ?_
    rintro e w3 ⟨wAr0, wcr0, rfl, ho0, hb3⟩
    have hz3 : w2.heap.size ≤ w3.heap.size := by have := hb3.size; first | omega | (simp at this; omega)
    have hzz3 : w.heap.size ≤ w3.heap.size := by omega
    have HB3 : Hid (Below w.heap.size w w3) := below_then (by ((repeat (first | refine Below.alloc ?_ (by first | omega | (simp; done) | (simp; omega)) _ | refine Below.drew ?_)); exact HB2.out)) hb3 (by first | omega | (simp; done) | (simp; omega))
    replace HXaL : Hid (Box w3 (w.heap.size) [.slice A0_0 n0_0 c0_0]) := Box.below HXaL.out hb3
    clear hxaL hkaL
    have hxaL := HXaL.out.2
    have hkaL := HXaL.out.1
    replace HOTwA0_0 : Hid (Own w3 qTwA0_0 w2.heap.size TwA0_0 (ents l0_0)) := HOTwA0_0.out.below hb3
    obtain ⟨qwAr0, hqwAr0, HOwAr0⟩ : ∃ q, w2.heap.size ≤ q ∧ Hid (Own w3 q w3.heap.size wAr0 (strs lr0)) := ⟨_, by first | omega | (simp at *; done) | (simp at *; omega), ho0⟩
    clear hb3 ho0
    go_wp2_with fail
    refine (toLog_c A0_0 c0_0 n0_0 l0_0 _ _ _ (hrA0_0.below (by ((repeat (first | refine Below.alloc ?_ (by first | omega | (simp; done) | (simp; omega)) _ | refine Below.drew ?_)); exact HB3.out))) HNA0_0.out hmA0_0).mono ?_
    rintro e w4 ⟨Tx0A0_0, rfl, le4_0, ho0, hb4⟩
    have hz4 : w3.heap.size ≤ w4.heap.size := by have := hb4.size; first | omega | (simp at this; omega)
    have hzz4 : w.heap.size ≤ w4.heap.size := by omega
    have HB4 : Hid (Below w.heap.size w w4) := below_then (by ((repeat (first | refine Below.alloc ?_ (by first | omega | (simp; done) | (simp; omega)) _ | refine Below.drew ?_)); exact HB3.out)) hb4 (by first | omega | (simp; done) | (simp; omega))
    replace HXaL : Hid (Box w4 (w.heap.size) [.slice A0_0 n0_0 c0_0]) := Box.below HXaL.out hb4
    clear hxaL hkaL
    have hxaL := HXaL.out.2
    have hkaL := HXaL.out.1
    replace HOTwA0_0 : Hid (Own w4 qTwA0_0 w2.heap.size TwA0_0 (ents l0_0)) := HOTwA0_0.out.below hb4
    replace HOwAr0 : Hid (Own w4 qwAr0 w3.heap.size wAr0 (strs lr0)) := HOwAr0.out.below hb4
    obtain ⟨qTx0A0_0, hqTx0A0_0, hqqTx0A0_0, HOTx0A0_0⟩ : ∃ q, w3.heap.size ≤ q ∧ w4.heap.size ≤ w4.heap.size ∧ Hid (Own w4 q w4.heap.size Tx0A0_0 (ents l0_0)) := ⟨_, by first | omega | (simp at *; done) | (simp at *; omega), by first | omega | (simp at *; done) | (simp at *; omega), ho0⟩
    clear hb4 ho0
    go_wp2_with fail
    refine (HIM hbk _ _ _ _ _ ((HOTx0A0_0.out.rd).alloc _) rfl).mono ?_
    rintro e w5 ⟨gAr0, gcr0, rfl, ho0, hb5⟩
    have hz5 : w4.heap.size + 1 ≤ w5.heap.size := by have := hb5.size; first | omega | (simp at this; omega)
    have hzz5 : w.heap.size ≤ w5.heap.size := by omega
    have HB5 : Hid (Below w.heap.size w w5) := below_then (by ((repeat (first | refine Below.alloc ?_ (by first | omega | (simp; done) | (simp; omega)) _ | refine Below.drew ?_)); exact HB4.out)) hb5 (by first | omega | (simp; done) | (simp; omega))
    replace HXaL : Hid (Box w5 (w.heap.size) [.slice A0_0 n0_0 c0_0]) := Box.below (HXaL.out.alloc _) hb5
    clear hxaL hkaL
    have hxaL := HXaL.out.2
    have hkaL := HXaL.out.1
    have HXx0 : Hid (Box w5 (w4.heap.size) [.slice Tx0A0_0 n0_0 n0_0]) := Box.below (Box.new0 _ _ _) hb5
    have hxx0 := HXx0.out.2
    have hkx0 := HXx0.out.1
    replace HOTwA0_0 : Hid (Own w5 qTwA0_0 w2.heap.size TwA0_0 (ents l0_0)) := (HOTwA0_0.out.alloc _).below hb5
    replace HOwAr0 : Hid (Own w5 qwAr0 w3.heap.size wAr0 (strs lr0)) := (HOwAr0.out.alloc _).below hb5
    replace HOTx0A0_0 : Hid (Own w5 qTx0A0_0 w4.heap.size Tx0A0_0 (ents l0_0)) := (HOTx0A0_0.out.alloc _).below hb5
    obtain ⟨qgAr0, hqgAr0, HOgAr0⟩ : ∃ q, w4.heap.size + 1 ≤ q ∧ Hid (Own w5 q w5.heap.size gAr0 (strs lr0)) := ⟨_, by first | omega | (simp at *; done) | (simp at *; omega), ho0⟩
    clear hb5 ho0
    go_wp2_with fail
    refine (eqStringS_c' gAr0 wAr0 _ _ _ _ _ _ nr0 nr0 lr0 _ (HOgAr0.out.rd) (HOwAr0.out.rd) HRNAr0.out HRNAr0.out (by unfold maxLen; omega)).mono ?_
    rintro e w6 ⟨rfl, hb6⟩
    have hz6 : w5.heap.size ≤ w6.heap.size := by have := hb6.size; first | omega | (simp at this; omega)
    have hzz6 : w.heap.size ≤ w6.heap.size := by omega
    have HB6 : Hid (Below w.heap.size w w6) := below_then (by ((repeat (first | refine Below.alloc ?_ (by first | omega | (simp; done) | (simp; omega)) _ | refine Below.drew ?_)); exact HB5.out)) hb6 (by first | omega | (simp; done) | (simp; omega))
    replace HXaL : Hid (Box w6 (w.heap.size) [.slice A0_0 n0_0 c0_0]) := Box.below HXaL.out hb6
    clear hxaL hkaL
    have hxaL := HXaL.out.2
    have hkaL := HXaL.out.1
    replace HXx0 : Hid (Box w6 (w4.heap.size) [.slice Tx0A0_0 n0_0 n0_0]) := Box.below HXx0.out hb6
    clear hxx0 hkx0
    have hxx0 := HXx0.out.2
    have hkx0 := HXx0.out.1
    replace HOTwA0_0 : Hid (Own w6 qTwA0_0 w2.heap.size TwA0_0 (ents l0_0)) := HOTwA0_0.out.below hb6
    replace HOwAr0 : Hid (Own w6 qwAr0 w3.heap.size wAr0 (strs lr0)) := HOwAr0.out.below hb6
    replace HOTx0A0_0 : Hid (Own w6 qTx0A0_0 w4.heap.size Tx0A0_0 (ents l0_0)) := HOTx0A0_0.out.below hb6
    replace HOgAr0 : Hid (Own w6 qgAr0 w5.heap.size gAr0 (strs lr0)) := HOgAr0.out.below hb6
    clear hb6
    go_wp2_with fail
    go_region_held3 (fun w' => (∀ o, w'.cell? ⟨w4.heap.size, o, none⟩ = [.slice Tx0A0_0 n0_0 n0_0][o]?) ∧ (∀ o, w'.cell? ⟨w.heap.size, o, none⟩ = [.slice A0_0 n0_0 c0_0][o]?))
      (first | exact ⟨HXx0.out.2, HXaL.out.2⟩ | exact ⟨HPx0.out.2, HPaL.out.2⟩ | exact ⟨HQx0.out.2, HQaL.out.2⟩)
      (first
      | (go_at_call 87
         with_reducible refine (toLog_c A0_0 c0_0 n0_0 l0_0 _ _ _ (hrA0_0.below (by ((repeat (first | refine Below.alloc ?_ (by first | omega | (simp; done) | (simp; omega)) _ | refine Below.drew ?_)); exact HB6.out))) HNA0_0.out hmA0_0).mono ?_
         rintro e w7 ⟨T7A0_0, rfl, le7_0, hod0, hb7⟩
         have HPx0 : Hid (Box w7 (w4.heap.size) [.slice Tx0A0_0 n0_0 n0_0]) := Box.below (HXx0.out.drew) hb7
         have HPaL : Hid (Box w7 (w.heap.size) [.slice A0_0 n0_0 c0_0]) := Box.below (HXaL.out.drew) hb7
         have HPOTwA0_0 : Hid (Own w7 qTwA0_0 w2.heap.size TwA0_0 (ents l0_0)) := (HOTwA0_0.out.drew).below hb7
         have HPOwAr0 : Hid (Own w7 qwAr0 w3.heap.size wAr0 (strs lr0)) := (HOwAr0.out.drew).below hb7
         have HPOTx0A0_0 : Hid (Own w7 qTx0A0_0 w4.heap.size Tx0A0_0 (ents l0_0)) := (HOTx0A0_0.out.drew).below hb7
         have HPOgAr0 : Hid (Own w7 qgAr0 w5.heap.size gAr0 (strs lr0)) := (HOgAr0.out.drew).below hb7
         have hz7 : w6.heap.size ≤ w7.heap.size := hb7.size
         have HB7 : Hid (Below w.heap.size w w7) := below_then HB6.out.drew hb7 (by first | omega | (simp; omega))
         clear hb7)
      | (go_at_call 89
         with_reducible refine (eqLog_c  Tx0A0_0 n0_0 n0_0 l0_0 T7A0_0 n0_0 _ _ _ _  _ (HPOTx0A0_0.out.rd) hod0.rd HNA0_0.out (by unfold maxLen; omega)).mono ?_
         rintro e w8 ⟨rfl, hb8⟩
         have HQx0 : Hid (Box w8 (w4.heap.size) [.slice Tx0A0_0 n0_0 n0_0]) := Box.below HPx0.out hb8
         have HQaL : Hid (Box w8 (w.heap.size) [.slice A0_0 n0_0 c0_0]) := Box.below HPaL.out hb8
         have HQOTwA0_0 : Hid (Own w8 qTwA0_0 w2.heap.size TwA0_0 (ents l0_0)) := HPOTwA0_0.out.below hb8
         have HQOwAr0 : Hid (Own w8 qwAr0 w3.heap.size wAr0 (strs lr0)) := HPOwAr0.out.below hb8
         have HQOTx0A0_0 : Hid (Own w8 qTx0A0_0 w4.heap.size Tx0A0_0 (ents l0_0)) := HPOTx0A0_0.out.below hb8
         have HQOgAr0 : Hid (Own w8 qgAr0 w5.heap.size gAr0 (strs lr0)) := HPOgAr0.out.below hb8
         have hz8 : w7.heap.size ≤ w8.heap.size := hb8.size
         have HB8 : Hid (Below w.heap.size w w8) := below_then HB7.out hb8 (by first | omega | exact HB7.out.size)
         clear hb8))
    have hzz8 : w.heap.size ≤ w8.heap.size := by omega
    replace HOTwA0_0 := HQOTwA0_0
    clear HQOTwA0_0 HPOTwA0_0
    replace HOwAr0 := HQOwAr0
    clear HQOwAr0 HPOwAr0
    replace HOTx0A0_0 := HQOTx0A0_0
    clear HQOTx0A0_0 HPOTx0A0_0
    replace HOgAr0 := HQOgAr0
    clear HQOgAr0 HPOgAr0
    replace HXaL := HQaL
    clear HQaL HPaL hxaL hkaL
    have hxaL := HXaL.out.2
    have hkaL := HXaL.out.1
    replace HXx0 := HQx0
    clear HQx0 HPx0 hxx0 hkx0
    have hxx0 := HXx0.out.2
    have hkx0 := HXx0.out.1
    go_wp2_with fail
    refine (markLog_c  Tx0A0_0 n0_0 n0_0 qTx0A0_0 w4.heap.size (1) _ (ents l0_0) _ (by omega) (HOTx0A0_0.out) (by rw [ents_len, HNA0_0.out]) (by omega)  (by omega)).mono ?_
    rintro e w9 ⟨rfl, hp9_0, ho0⟩
    have hz9_0 : w8.heap.size ≤ w9.heap.size := by have := hp9_0.size; first | omega | (simp at this; omega)
    have hzz9 : w.heap.size ≤ w9.heap.size := by omega
    have HB9 : Hid (Below w.heap.size w w9) := (below_only (by ((repeat (first | refine Below.alloc ?_ (by first | omega | (simp; done) | (simp; omega)) _ | refine Below.drew ?_)); exact HB8.out)) hp9_0 (by omega) (by first | omega | (simp; omega)))
    replace HXaL : Hid (Box w9 (w.heap.size) [.slice A0_0 n0_0 c0_0]) := (Box.only HXaL.out hp9_0 (by first | omega | (simp; omega)))
    clear hxaL hkaL
    have hxaL := HXaL.out.2
    have hkaL := HXaL.out.1
    replace HXx0 : Hid (Box w9 (w4.heap.size) [.slice Tx0A0_0 n0_0 n0_0]) := (Box.only HXx0.out hp9_0 (by first | omega | (simp; omega)))
    clear hxx0 hkx0
    have hxx0 := HXx0.out.2
    have hkx0 := HXx0.out.1
    replace HOTwA0_0 : Hid (Own w9 qTwA0_0 w2.heap.size TwA0_0 (ents l0_0)) := (HOTwA0_0.out.only hp9_0 (by first | omega | (simp; omega)))
    replace HOwAr0 : Hid (Own w9 qwAr0 w3.heap.size wAr0 (strs lr0)) := (HOwAr0.out.only hp9_0 (by first | omega | (simp; omega)))
    replace HOgAr0 : Hid (Own w9 qgAr0 w5.heap.size gAr0 (strs lr0)) := (HOgAr0.out.only hp9_0 (by first | omega | (simp; omega)))
    clear HOTx0A0_0
    clear hp9_0 ho0
    generalize hkk : ((1 + n0_0 * 5 : Nat) : Int) = kk9
    have hk0k9 : 0 ≤ kk9 := by omega
    have hkdk9 : decide (kk9 < 0) = false := by simp; omega
    have HKk9 := Lib.hid hkk
    clear hkk
    go_wp2_with fail
    refine (eqStringS_c' gAr0 wAr0 _ _ _ _ _ _ nr0 nr0 lr0 _ (HOgAr0.out.rd) (HOwAr0.out.rd) HRNAr0.out HRNAr0.out (by unfold maxLen; omega)).mono ?_
    rintro e w10 ⟨rfl, hb10⟩
    have hz10 : w9.heap.size ≤ w10.heap.size := by have := hb10.size; first | omega | (simp at this; omega)
    have hzz10 : w.heap.size ≤ w10.heap.size := by omega
    have HB10 : Hid (Below w.heap.size w w10) := below_then (by ((repeat (first | refine Below.alloc ?_ (by first | omega | (simp; done) | (simp; omega)) _ | refine Below.drew ?_)); exact HB9.out)) hb10 (by first | omega | (simp; done) | (simp; omega))
    replace HXaL : Hid (Box w10 (w.heap.size) [.slice A0_0 n0_0 c0_0]) := Box.below HXaL.out hb10
    clear hxaL hkaL
    have hxaL := HXaL.out.2
    have hkaL := HXaL.out.1
    replace HXx0 : Hid (Box w10 (w4.heap.size) [.slice Tx0A0_0 n0_0 n0_0]) := Box.below HXx0.out hb10
    clear hxx0 hkx0
    have hxx0 := HXx0.out.2
    have hkx0 := HXx0.out.1
    replace HOTwA0_0 : Hid (Own w10 qTwA0_0 w2.heap.size TwA0_0 (ents l0_0)) := HOTwA0_0.out.below hb10
    replace HOwAr0 : Hid (Own w10 qwAr0 w3.heap.size wAr0 (strs lr0)) := HOwAr0.out.below hb10
    replace HOgAr0 : Hid (Own w10 qgAr0 w5.heap.size gAr0 (strs lr0)) := HOgAr0.out.below hb10
    clear hb10
    go_wp2_with fail
    refine (markStringS_c gAr0 _ qgAr0 w5.heap.size (1) nr0 _ (strs lr0) _ (by omega) (HOgAr0.out) (by rw [strs_len]; exact HRNAr0.out) (by omega)).mono ?_
    rintro e w11 ⟨rfl, hp11_0, ho0⟩
    have hz11_0 : w10.heap.size ≤ w11.heap.size := by have := hp11_0.size; first | omega | (simp at this; omega)
    have hzz11 : w.heap.size ≤ w11.heap.size := by omega
    have HB11 : Hid (Below w.heap.size w w11) := (below_only (by ((repeat (first | refine Below.alloc ?_ (by first | omega | (simp; done) | (simp; omega)) _ | refine Below.drew ?_)); exact HB10.out)) hp11_0 (by omega) (by first | omega | (simp; omega)))
    replace HXaL : Hid (Box w11 (w.heap.size) [.slice A0_0 n0_0 c0_0]) := (Box.only HXaL.out hp11_0 (by first | omega | (simp; omega)))
    clear hxaL hkaL
    have hxaL := HXaL.out.2
    have hkaL := HXaL.out.1
    replace HXx0 : Hid (Box w11 (w4.heap.size) [.slice Tx0A0_0 n0_0 n0_0]) := (Box.only HXx0.out hp11_0 (by first | omega | (simp; omega)))
    clear hxx0 hkx0
    have hxx0 := HXx0.out.2
    have hkx0 := HXx0.out.1
    replace HOTwA0_0 : Hid (Own w11 qTwA0_0 w2.heap.size TwA0_0 (ents l0_0)) := (HOTwA0_0.out.only hp11_0 (by first | omega | (simp; omega)))
    replace HOwAr0 : Hid (Own w11 qwAr0 w3.heap.size wAr0 (strs lr0)) := (HOwAr0.out.only hp11_0 (by first | omega | (simp; omega)))
    replace HOgAr0 : Hid (Own w11 qgAr0 w5.heap.size gAr0 (strs (marks (1) nr0))) := ho0
    clear hp11_0 ho0
    generalize hkk : ((1 + nr0 : Nat) : Int) = km11
    have hk0m11 : 0 ≤ km11 := by omega
    have hkdm11 : decide (km11 < 0) = false := by simp; omega
    have HKm11 := Lib.hid hkk
    clear hkk
    go_wp2_with fail
    refine (heldStringS_c gAr0 _ _ _ (1) nr0 _ _ (by omega) (HOgAr0.out.rd) (by omega)).mono ?_
    rintro e w12 ⟨rfl, hb12⟩
    have hz12 : w11.heap.size ≤ w12.heap.size := by have := hb12.size; first | omega | (simp at this; omega)
    have hzz12 : w.heap.size ≤ w12.heap.size := by omega
    have HB12 : Hid (Below w.heap.size w w12) := below_then (by ((repeat (first | refine Below.alloc ?_ (by first | omega | (simp; done) | (simp; omega)) _ | refine Below.drew ?_)); exact HB11.out)) hb12 (by first | omega | (simp; done) | (simp; omega))
    replace HXaL : Hid (Box w12 (w.heap.size) [.slice A0_0 n0_0 c0_0]) := Box.below HXaL.out hb12
    clear hxaL hkaL
    have hxaL := HXaL.out.2
    have hkaL := HXaL.out.1
    replace HXx0 : Hid (Box w12 (w4.heap.size) [.slice Tx0A0_0 n0_0 n0_0]) := Box.below HXx0.out hb12
    clear hxx0 hkx0
    have hxx0 := HXx0.out.2
    have hkx0 := HXx0.out.1
    replace HOTwA0_0 : Hid (Own w12 qTwA0_0 w2.heap.size TwA0_0 (ents l0_0)) := HOTwA0_0.out.below hb12
    replace HOwAr0 : Hid (Own w12 qwAr0 w3.heap.size wAr0 (strs lr0)) := HOwAr0.out.below hb12
    replace HOgAr0 : Hid (Own w12 qgAr0 w5.heap.size gAr0 (strs (marks (1) nr0))) := HOgAr0.out.below hb12
    clear hb12
    generalize hkk : ((1 + nr0 : Nat) : Int) = kq12
    have hk0q12 : 0 ≤ kq12 := by omega
    have hkdq12 : decide (kq12 < 0) = false := by simp; omega
    have HKq12 := Lib.hid hkk
    clear hkk
    obtain rfl : kq12 = km11 := HKq12.out.symm.trans HKm11.out
    go_wp2_with fail
    refine (toLog_c A0_0 c0_0 n0_0 l0_0 _ _ _ (hrA0_0.below (by ((repeat (first | refine Below.alloc ?_ (by first | omega | (simp; done) | (simp; omega)) _ | refine Below.drew ?_)); exact HB12.out))) HNA0_0.out hmA0_0).mono ?_
    rintro e w13 ⟨ThA0_0, rfl, le13_0, ho0, hb13⟩
    have hz13 : w12.heap.size ≤ w13.heap.size := by have := hb13.size; first | omega | (simp at this; omega)
    have hzz13 : w.heap.size ≤ w13.heap.size := by omega
    have HB13 : Hid (Below w.heap.size w w13) := below_then (by ((repeat (first | refine Below.alloc ?_ (by first | omega | (simp; done) | (simp; omega)) _ | refine Below.drew ?_)); exact HB12.out)) hb13 (by first | omega | (simp; done) | (simp; omega))
    replace HXaL : Hid (Box w13 (w.heap.size) [.slice A0_0 n0_0 c0_0]) := Box.below HXaL.out hb13
    clear hxaL hkaL
    have hxaL := HXaL.out.2
    have hkaL := HXaL.out.1
    replace HXx0 : Hid (Box w13 (w4.heap.size) [.slice Tx0A0_0 n0_0 n0_0]) := Box.below HXx0.out hb13
    clear hxx0 hkx0
    have hxx0 := HXx0.out.2
    have hkx0 := HXx0.out.1
    replace HOTwA0_0 : Hid (Own w13 qTwA0_0 w2.heap.size TwA0_0 (ents l0_0)) := HOTwA0_0.out.below hb13
    replace HOwAr0 : Hid (Own w13 qwAr0 w3.heap.size wAr0 (strs lr0)) := HOwAr0.out.below hb13
    replace HOgAr0 : Hid (Own w13 qgAr0 w5.heap.size gAr0 (strs (marks (1) nr0))) := HOgAr0.out.below hb13
    obtain ⟨qThA0_0, hqThA0_0, hqqThA0_0, HOThA0_0⟩ : ∃ q, w12.heap.size ≤ q ∧ w13.heap.size ≤ w13.heap.size ∧ Hid (Own w13 q w13.heap.size ThA0_0 (ents l0_0)) := ⟨_, by first | omega | (simp at *; done) | (simp at *; omega), by first | omega | (simp at *; done) | (simp at *; omega), ho0⟩
    clear hb13 ho0
    go_wp2_with fail
    refine (HIM hbk _ _ _ _ _ (HOThA0_0.out.rd) rfl).mono ?_
    rintro e w14 ⟨hAr0, hcr0, rfl, ho0, hb14⟩
    have hz14 : w13.heap.size ≤ w14.heap.size := by have := hb14.size; first | omega | (simp at this; omega)
    have hzz14 : w.heap.size ≤ w14.heap.size := by omega
    have HB14 : Hid (Below w.heap.size w w14) := below_then (by ((repeat (first | refine Below.alloc ?_ (by first | omega | (simp; done) | (simp; omega)) _ | refine Below.drew ?_)); exact HB13.out)) hb14 (by first | omega | (simp; done) | (simp; omega))
    replace HXaL : Hid (Box w14 (w.heap.size) [.slice A0_0 n0_0 c0_0]) := Box.below HXaL.out hb14
    clear hxaL hkaL
    have hxaL := HXaL.out.2
    have hkaL := HXaL.out.1
    replace HXx0 : Hid (Box w14 (w4.heap.size) [.slice Tx0A0_0 n0_0 n0_0]) := Box.below HXx0.out hb14
    clear hxx0 hkx0
    have hxx0 := HXx0.out.2
    have hkx0 := HXx0.out.1
    replace HOTwA0_0 : Hid (Own w14 qTwA0_0 w2.heap.size TwA0_0 (ents l0_0)) := HOTwA0_0.out.below hb14
    replace HOwAr0 : Hid (Own w14 qwAr0 w3.heap.size wAr0 (strs lr0)) := HOwAr0.out.below hb14
    replace HOgAr0 : Hid (Own w14 qgAr0 w5.heap.size gAr0 (strs (marks (1) nr0))) := HOgAr0.out.below hb14
    replace HOThA0_0 : Hid (Own w14 qThA0_0 w13.heap.size ThA0_0 (ents l0_0)) := HOThA0_0.out.below hb14
    obtain ⟨qhAr0, hqhAr0, HOhAr0⟩ : ∃ q, w13.heap.size ≤ q ∧ Hid (Own w14 q w14.heap.size hAr0 (strs lr0)) := ⟨_, by first | omega | (simp at *; done) | (simp at *; omega), ho0⟩
    clear hb14 ho0
    go_wp2_with fail
    refine (eqStringS_c' hAr0 wAr0 _ _ _ _ _ _ nr0 nr0 lr0 _ (HOhAr0.out.rd) (HOwAr0.out.rd) HRNAr0.out HRNAr0.out (by unfold maxLen; omega)).mono ?_
    rintro e w15 ⟨rfl, hb15⟩
    have hz15 : w14.heap.size ≤ w15.heap.size := by have := hb15.size; first | omega | (simp at this; omega)
    have hzz15 : w.heap.size ≤ w15.heap.size := by omega
    have HB15 : Hid (Below w.heap.size w w15) := below_then (by ((repeat (first | refine Below.alloc ?_ (by first | omega | (simp; done) | (simp; omega)) _ | refine Below.drew ?_)); exact HB14.out)) hb15 (by first | omega | (simp; done) | (simp; omega))
    replace HXaL : Hid (Box w15 (w.heap.size) [.slice A0_0 n0_0 c0_0]) := Box.below HXaL.out hb15
    clear hxaL hkaL
    have hxaL := HXaL.out.2
    have hkaL := HXaL.out.1
    replace HXx0 : Hid (Box w15 (w4.heap.size) [.slice Tx0A0_0 n0_0 n0_0]) := Box.below HXx0.out hb15
    clear hxx0 hkx0
    have hxx0 := HXx0.out.2
    have hkx0 := HXx0.out.1
    replace HOTwA0_0 : Hid (Own w15 qTwA0_0 w2.heap.size TwA0_0 (ents l0_0)) := HOTwA0_0.out.below hb15
    replace HOwAr0 : Hid (Own w15 qwAr0 w3.heap.size wAr0 (strs lr0)) := HOwAr0.out.below hb15
    replace HOgAr0 : Hid (Own w15 qgAr0 w5.heap.size gAr0 (strs (marks (1) nr0))) := HOgAr0.out.below hb15
    replace HOThA0_0 : Hid (Own w15 qThA0_0 w13.heap.size ThA0_0 (ents l0_0)) := HOThA0_0.out.below hb15
    replace HOhAr0 : Hid (Own w15 qhAr0 w14.heap.size hAr0 (strs lr0)) := HOhAr0.out.below hb15
    clear hb15
    go_wp2_with fail
    refine (heldStringS_c gAr0 _ _ _ (1) nr0 _ _ (by omega) (HOgAr0.out.rd) (by omega)).mono ?_
    rintro e w16 ⟨rfl, hb16⟩
    have hz16 : w15.heap.size ≤ w16.heap.size := by have := hb16.size; first | omega | (simp at this; omega)
    have hzz16 : w.heap.size ≤ w16.heap.size := by omega
    have HB16 : Hid (Below w.heap.size w w16) := below_then (by ((repeat (first | refine Below.alloc ?_ (by first | omega | (simp; done) | (simp; omega)) _ | refine Below.drew ?_)); exact HB15.out)) hb16 (by first | omega | (simp; done) | (simp; omega))
    replace HXaL : Hid (Box w16 (w.heap.size) [.slice A0_0 n0_0 c0_0]) := Box.below HXaL.out hb16
    clear hxaL hkaL
    have hxaL := HXaL.out.2
    have hkaL := HXaL.out.1
    replace HXx0 : Hid (Box w16 (w4.heap.size) [.slice Tx0A0_0 n0_0 n0_0]) := Box.below HXx0.out hb16
    clear hxx0 hkx0
    have hxx0 := HXx0.out.2
    have hkx0 := HXx0.out.1
    replace HOTwA0_0 : Hid (Own w16 qTwA0_0 w2.heap.size TwA0_0 (ents l0_0)) := HOTwA0_0.out.below hb16
    replace HOwAr0 : Hid (Own w16 qwAr0 w3.heap.size wAr0 (strs lr0)) := HOwAr0.out.below hb16
    replace HOgAr0 : Hid (Own w16 qgAr0 w5.heap.size gAr0 (strs (marks (1) nr0))) := HOgAr0.out.below hb16
    replace HOThA0_0 : Hid (Own w16 qThA0_0 w13.heap.size ThA0_0 (ents l0_0)) := HOThA0_0.out.below hb16
    replace HOhAr0 : Hid (Own w16 qhAr0 w14.heap.size hAr0 (strs lr0)) := HOhAr0.out.below hb16
    clear hb16
    generalize hkk : ((1 + nr0 : Nat) : Int) = kq16
    have hk0q16 : 0 ≤ kq16 := by omega
    have hkdq16 : decide (kq16 < 0) = false := by simp; omega
    have HKq16 := Lib.hid hkk
    clear hkk
    obtain rfl : kq16 = kq12 := HKq16.out.symm.trans HKq12.out
    go_wp2
    go_ret
    exact ⟨rfl, HB16.out⟩

section
open Go.ChangeShapes Go.WideShapes Go.ChangeAt
open Go.ChangeMaps (open_string)
set_option maxRecDepth 100000 in
theorem lifted_TopicsOf (f0 : (List Ent) → List ByteArray) (hsp : ∀ (l0_0 : List Ent), (∀ x ∈ l0_0, x.fits) → specTopicsOf_does l0_0.length l0_0 (f0 l0_0).length (f0 l0_0)) (him : ∀ (l0_0 : List Ent), (∀ x ∈ l0_0, x.fits) → implTopicsOf_does l0_0.length l0_0 (f0 l0_0).length (f0 l0_0)) (hlen0 : ∀ (l0_0 : List Ent), (∀ x ∈ l0_0, x.fits) → ((l0_0.length + sumBy Ent.bulk l0_0)) ≤ 1048576 → (f0 l0_0).length ≤ 2000000) (os : Os) (started : os.Started) (H : Type) (enc : TypeId × Value → H) :
    ReturnsInHanded {} Try.checked os 22 .any (Rows.fnExactTopicsOfSpec.pre6 enc Try.prog Try.f22 Rows.fnExactTopicsOfRow.domain false) (Rows.fnExactTopicsOfSpec.post enc Try.prog Try.f22 false true false false) := by
  refine returnsInHanded_of_change (C := Try.checked) Try.own started (by kernel_rfl) Try.func22
    (ChangeSpec.witness6 (enc := enc) (C := Try.checked) false ⟨#[], #[.agg #[.slice none 0 0]], []⟩ 8 (by kernel_rfl) (by kernel_rfl) (by kernel_rfl) (by kernel_rfl)) ?_
  intro W base args ds gs before hval0 hW hcnd _
  have hval : ∀ (j : Nat) t v, Try.f22.params[j]? = some t → args[j]? = some v → Value.okWide Try.prog W .any base t v := hval0
  have hW' := hW
  obtain ⟨p, q, hA0, hV, rfl, hfz, hnd⟩ := hW
  have hA : DataW.TrodAll enc Try.prog W 0 (fun _ => true) true Try.f22.params.toList args.toList ds p := hA0
  rw [Try.params22] at hA hval
  obtain ⟨v0, vs0, d0, ds0, p0, q0, hargs, rfl, rfl, h0, r0⟩ := trodAll_cons hA
  obtain ⟨rfl, rfl, rfl⟩ := trodAll_nil r0
  obtain rfl : args = #[v0] := by cases args; simp_all
  obtain ⟨rfl, rfl⟩ := trodVars_none hV
  have lt0 : ∀ x ∈ p0, x.block < W.heap.size := by obtain ⟨m, hm⟩ := h0; exact DataW.trod_lt m _ _ _ hm
  have kk0 := h0
  obtain ⟨A0_0, n0_0, c0_0, l0_0, rfl, o0_0, hil0_0⟩ := open_Log (hval 0 _ v0 rfl rfl) h0
  obtain ⟨rfl, o0_0b, o0_0c, o0_0d⟩ := o0_0
  clear hA0 hval0
  refine (walk_TopicsOf A0_0 c0_0 _ l0_0 _ _ W o0_0d rfl (Nat.le_trans o0_0b o0_0c) hil0_0 rfl (hlen0 l0_0 hil0_0) (hsp l0_0 hil0_0) (him l0_0 hil0_0)).mono fun e W' ⟨he, bel⟩ => ?_
  subst he
  exact ⟨_, rfl, _, _, _, [], _, [], hW', trodAll_mk1 (shut_bool Try.underlying4 _), (trodAll_cons_mk (Below.trod Try.laidOut (by kernel_rfl) (of_decide_eq_true (by kernel_rfl)) kk0 bel lt0) trodAll_mk0), rfl, bel.frame _, fun h => by cases h⟩
theorem said_TopicsOf (f0 : (List Ent) → List ByteArray) (hsp : ∀ (l0_0 : List Ent), (∀ x ∈ l0_0, x.fits) → specTopicsOf_does l0_0.length l0_0 (f0 l0_0).length (f0 l0_0)) (him : ∀ (l0_0 : List Ent), (∀ x ∈ l0_0, x.fits) → implTopicsOf_does l0_0.length l0_0 (f0 l0_0).length (f0 l0_0)) (hlen0 : ∀ (l0_0 : List Ent), (∀ x ∈ l0_0, x.fits) → ((l0_0.length + sumBy Ent.bulk l0_0)) ≤ 1048576 → (f0 l0_0).length ≤ 2000000) : Rows.FnExactTopicsOfSaid :=
  OpenClaim.holds_of_wide 22 Try.f22 rfl rfl rfl rfl rfl rfl rfl ⟨rfl, rfl, rfl, rfl, rfl⟩ rfl rfl rfl rfl rfl (by kernel_rfl) Try.func22 (by show joinedFacts Try.prog 22 Try.f22 Rows.fnExactTopicsOfSpec Rows.fnExactTopicsOfRow = true; unfold joinedFacts; rw [seat_enter, seat_final, seat_make]; kernel_rfl)
    (of_decide_eq_true (by kernel_rfl)) (by unfold Func.isWrapper; first | (rw [if_pos (by decide +kernel)]; kernel_rfl) | (rw [if_neg (by decide +kernel)]; exact ⟨rfl, rfl⟩))
    (fun os started H enc _ => lifted_TopicsOf f0 hsp him hlen0 os started H enc)
end
end Go.Proofs.Ytojjjhbiccgjkaa
