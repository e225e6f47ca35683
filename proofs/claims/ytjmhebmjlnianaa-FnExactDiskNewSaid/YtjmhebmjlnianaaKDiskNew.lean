/- The walk of the law FnExactDiskNew; what spec.DiskNew and impl.DiskNew do comes in as hypotheses. Written by gen_law.py. -/
import Derived.Test.YtjmhebmjlnianaaData
import Derived.Test.YtjmhebmjlnianaaStr
import Derived.Test.YtjmhebmjlnianaaWDisk
import Derived.Test.YtjmhebmjlnianaaOpen
namespace Go.Proofs.Ytjmhebmjlnianaa
set_option linter.unusedVariables false
set_option linter.unusedSimpArgs false
open Go.RowKit
attribute [local go_sem ↓] Go.wp_at_zero Go.wp_at_succ

def specDiskNew_does (nr0_0 : Nat) (lr0_0 : List ByteArray) : Prop :=
    ∀ W : World, Calls Try.prog 20 #[] W fun r W' => ∃ (Ar0_0 : Option Addr) (cr0_0 : Nat), r = .returned (.agg #[.slice Ar0_0 nr0_0 cr0_0]) ∧ Own W' W.heap.size W'.heap.size Ar0_0 (strs lr0_0) ∧ Below W.heap.size W W'
def implDiskNew_does (nr0_0 : Nat) (lr0_0 : List ByteArray) : Prop :=
    ∀ W : World, Calls Try.prog 21 #[] W fun r W' => ∃ (Ar0_0 : Option Addr) (cr0_0 : Nat), r = .returned (.agg #[.slice Ar0_0 nr0_0 cr0_0]) ∧ Own W' W.heap.size W'.heap.size Ar0_0 (strs lr0_0) ∧ Below W.heap.size W W'
set_option maxRecDepth 100000 in
set_option maxHeartbeats 400000 in
theorem walk_DiskNew  (nr0_0 : Nat) (lr0_0 : List ByteArray) (w : World) (hrnAr0_0 : lr0_0.length = nr0_0) (hrlAr0_0 : nr0_0 ≤ 2000000) (HSP : specDiskNew_does nr0_0 lr0_0) (HIM : implDiskNew_does nr0_0 lr0_0) :
    Calls Try.prog 4 #[] w fun e w' => e = .returned (.bool true) ∧ Below w.heap.size w w' := by
  have HRNAr0_0 := Lib.hid hrnAr0_0
  have HRLAr0_0 := Lib.hid hrlAr0_0
  clear hrnAr0_0 hrlAr0_0
  have HB0 : Hid (Below w.heap.size w w) := Below.refl _ _
  go_enter Try.func4, Try.ntmps4
  go_wp2_with fail
  have hrlAr0_0 := HRLAr0_0.out
  refine (HSP _ ).mono ?_
  rintro e w1 ⟨wAr0_0, wcr0_0, rfl, ho0, hb1⟩
  have hz1 : w.heap.size ≤ w1.heap.size := by have := hb1.size; first | omega | (simp at this; omega)
  have hzz1 : w.heap.size ≤ w1.heap.size := by omega
  have HB1 : Hid (Below w.heap.size w w1) := below_then (by ((repeat (first | refine Below.alloc ?_ (by first | omega | (simp; done) | (simp; omega)) _ | refine Below.drew ?_)); exact HB0.out)) hb1 (by first | omega | (simp; done) | (simp; omega))
  obtain ⟨qwAr0_0, hqwAr0_0, HOwAr0_0⟩ : ∃ q, w.heap.size ≤ q ∧ Hid (Own w1 q w1.heap.size wAr0_0 (strs lr0_0)) := ⟨_, by first | omega | (simp at *; done) | (simp at *; omega), ho0⟩
  clear hb1 ho0
  go_wp2_with fail
  refine (HIM _ ).mono ?_
  rintro e w2 ⟨gAr0_0, gcr0_0, rfl, ho0, hb2⟩
  have hz2 : w1.heap.size + 1 ≤ w2.heap.size := by have := hb2.size; first | omega | (simp at this; omega)
  have hzz2 : w.heap.size ≤ w2.heap.size := by omega
  have HB2 : Hid (Below w.heap.size w w2) := below_then (by ((repeat (first | refine Below.alloc ?_ (by first | omega | (simp; done) | (simp; omega)) _ | refine Below.drew ?_)); exact HB1.out)) hb2 (by first | omega | (simp; done) | (simp; omega))
  have HXw0 : Hid (Box w2 (w1.heap.size) [.slice wAr0_0 nr0_0 wcr0_0]) := Box.below (Box.new0 _ _ _) hb2
  have hxw0 := HXw0.out.2
  have hkw0 := HXw0.out.1
  replace HOwAr0_0 : Hid (Own w2 qwAr0_0 w1.heap.size wAr0_0 (strs lr0_0)) := (HOwAr0_0.out.alloc _).below hb2
  obtain ⟨qgAr0_0, hqgAr0_0, HOgAr0_0⟩ : ∃ q, w1.heap.size + 1 ≤ q ∧ Hid (Own w2 q w2.heap.size gAr0_0 (strs lr0_0)) := ⟨_, by first | omega | (simp at *; done) | (simp at *; omega), ho0⟩
  clear hb2 ho0
  go_wp2_with fail
  refine (eqDisk_c  gAr0_0 gcr0_0 nr0_0 lr0_0 wAr0_0 wcr0_0 _ _ _ _  _ ((HOgAr0_0.out.rd).alloc _) ((HOwAr0_0.out.rd).alloc _) HRNAr0_0.out (by unfold maxLen; omega)).mono ?_
  rintro e w3 ⟨rfl, hb3⟩
  have hz3 : w2.heap.size + 1 ≤ w3.heap.size := by have := hb3.size; first | omega | (simp at this; omega)
  have hzz3 : w.heap.size ≤ w3.heap.size := by omega
  have HB3 : Hid (Below w.heap.size w w3) := below_then (by ((repeat (first | refine Below.alloc ?_ (by first | omega | (simp; done) | (simp; omega)) _ | refine Below.drew ?_)); exact HB2.out)) hb3 (by first | omega | (simp; done) | (simp; omega))
  replace HXw0 : Hid (Box w3 (w1.heap.size) [.slice wAr0_0 nr0_0 wcr0_0]) := Box.below (HXw0.out.alloc _) hb3
  clear hxw0 hkw0
  have hxw0 := HXw0.out.2
  have hkw0 := HXw0.out.1
  have HXg0 : Hid (Box w3 (w2.heap.size) [.slice gAr0_0 nr0_0 gcr0_0]) := Box.below (Box.new0 _ _ _) hb3
  have hxg0 := HXg0.out.2
  have hkg0 := HXg0.out.1
  replace HOwAr0_0 : Hid (Own w3 qwAr0_0 w1.heap.size wAr0_0 (strs lr0_0)) := (HOwAr0_0.out.alloc _).below hb3
  replace HOgAr0_0 : Hid (Own w3 qgAr0_0 w2.heap.size gAr0_0 (strs lr0_0)) := (HOgAr0_0.out.alloc _).below hb3
  clear hb3
  go_wp2_with fail
  refine (markDisk_c  gAr0_0 gcr0_0 nr0_0 qgAr0_0 w2.heap.size (1) _ (strs lr0_0) _ (by omega) (HOgAr0_0.out) (by rw [strs_len]; exact HRNAr0_0.out) (by omega)  (by omega)).mono ?_
  rintro e w4 ⟨rfl, hp4_0, ho0⟩
  have hz4_0 : w3.heap.size ≤ w4.heap.size := by have := hp4_0.size; first | omega | (simp at this; omega)
  have hzz4 : w.heap.size ≤ w4.heap.size := by omega
  have HB4 : Hid (Below w.heap.size w w4) := (below_only (by ((repeat (first | refine Below.alloc ?_ (by first | omega | (simp; done) | (simp; omega)) _ | refine Below.drew ?_)); exact HB3.out)) hp4_0 (by omega) (by first | omega | (simp; omega)))
  replace HXw0 : Hid (Box w4 (w1.heap.size) [.slice wAr0_0 nr0_0 wcr0_0]) := (Box.only HXw0.out hp4_0 (by first | omega | (simp; omega)))
  clear hxw0 hkw0
  have hxw0 := HXw0.out.2
  have hkw0 := HXw0.out.1
  replace HXg0 : Hid (Box w4 (w2.heap.size) [.slice gAr0_0 nr0_0 gcr0_0]) := (Box.only HXg0.out hp4_0 (by first | omega | (simp; omega)))
  clear hxg0 hkg0
  have hxg0 := HXg0.out.2
  have hkg0 := HXg0.out.1
  replace HOwAr0_0 : Hid (Own w4 qwAr0_0 w1.heap.size wAr0_0 (strs lr0_0)) := (HOwAr0_0.out.only hp4_0 (by first | omega | (simp; omega)))
  replace HOgAr0_0 : Hid (Own w4 qgAr0_0 w2.heap.size gAr0_0 (strs (marks (1) nr0_0))) := ho0
  clear hp4_0 ho0
  generalize hkk : ((1 + nr0_0 : Nat) : Int) = km4
  have hk0m4 : 0 ≤ km4 := by omega
  have hkdm4 : decide (km4 < 0) = false := by simp; omega
  have HKm4 := Lib.hid hkk
  clear hkk
  go_wp2_with fail
  refine (heldDisk_c  gAr0_0 gcr0_0 nr0_0 _ _ (1) _ _ (by omega) (HOgAr0_0.out.rd) (by omega)).mono ?_
  rintro e w5 ⟨rfl, hb5⟩
  have hz5 : w4.heap.size ≤ w5.heap.size := by have := hb5.size; first | omega | (simp at this; omega)
  have hzz5 : w.heap.size ≤ w5.heap.size := by omega
  have HB5 : Hid (Below w.heap.size w w5) := below_then (by ((repeat (first | refine Below.alloc ?_ (by first | omega | (simp; done) | (simp; omega)) _ | refine Below.drew ?_)); exact HB4.out)) hb5 (by first | omega | (simp; done) | (simp; omega))
  replace HXw0 : Hid (Box w5 (w1.heap.size) [.slice wAr0_0 nr0_0 wcr0_0]) := Box.below HXw0.out hb5
  clear hxw0 hkw0
  have hxw0 := HXw0.out.2
  have hkw0 := HXw0.out.1
  replace HXg0 : Hid (Box w5 (w2.heap.size) [.slice gAr0_0 nr0_0 gcr0_0]) := Box.below HXg0.out hb5
  clear hxg0 hkg0
  have hxg0 := HXg0.out.2
  have hkg0 := HXg0.out.1
  replace HOwAr0_0 : Hid (Own w5 qwAr0_0 w1.heap.size wAr0_0 (strs lr0_0)) := HOwAr0_0.out.below hb5
  replace HOgAr0_0 : Hid (Own w5 qgAr0_0 w2.heap.size gAr0_0 (strs (marks (1) nr0_0))) := HOgAr0_0.out.below hb5
  clear hb5
  generalize hkk : ((1 + nr0_0 : Nat) : Int) = kq5
  have hk0q5 : 0 ≤ kq5 := by omega
  have hkdq5 : decide (kq5 < 0) = false := by simp; omega
  have HKq5 := Lib.hid hkk
  clear hkk
  obtain rfl : kq5 = km4 := HKq5.out.symm.trans HKm4.out
  go_wp2_with fail
  refine (HIM _ ).mono ?_
  rintro e w6 ⟨hAr0_0, hcr0_0, rfl, ho0, hb6⟩
  have hz6 : w5.heap.size ≤ w6.heap.size := by have := hb6.size; first | omega | (simp at this; omega)
  have hzz6 : w.heap.size ≤ w6.heap.size := by omega
  have HB6 : Hid (Below w.heap.size w w6) := below_then (by ((repeat (first | refine Below.alloc ?_ (by first | omega | (simp; done) | (simp; omega)) _ | refine Below.drew ?_)); exact HB5.out)) hb6 (by first | omega | (simp; done) | (simp; omega))
  replace HXw0 : Hid (Box w6 (w1.heap.size) [.slice wAr0_0 nr0_0 wcr0_0]) := Box.below HXw0.out hb6
  clear hxw0 hkw0
  have hxw0 := HXw0.out.2
  have hkw0 := HXw0.out.1
  replace HXg0 : Hid (Box w6 (w2.heap.size) [.slice gAr0_0 nr0_0 gcr0_0]) := Box.below HXg0.out hb6
  clear hxg0 hkg0
  have hxg0 := HXg0.out.2
  have hkg0 := HXg0.out.1
  replace HOwAr0_0 : Hid (Own w6 qwAr0_0 w1.heap.size wAr0_0 (strs lr0_0)) := HOwAr0_0.out.below hb6
  replace HOgAr0_0 : Hid (Own w6 qgAr0_0 w2.heap.size gAr0_0 (strs (marks (1) nr0_0))) := HOgAr0_0.out.below hb6
  obtain ⟨qhAr0_0, hqhAr0_0, HOhAr0_0⟩ : ∃ q, w5.heap.size ≤ q ∧ Hid (Own w6 q w6.heap.size hAr0_0 (strs lr0_0)) := ⟨_, by first | omega | (simp at *; done) | (simp at *; omega), ho0⟩
  clear hb6 ho0
  go_wp2_with fail
  refine (eqDisk_c  hAr0_0 hcr0_0 nr0_0 lr0_0 wAr0_0 wcr0_0 _ _ _ _  _ ((HOhAr0_0.out.rd).alloc _) ((HOwAr0_0.out.rd).alloc _) HRNAr0_0.out (by unfold maxLen; omega)).mono ?_
  rintro e w7 ⟨rfl, hb7⟩
  have hz7 : w6.heap.size + 1 ≤ w7.heap.size := by have := hb7.size; first | omega | (simp at this; omega)
  have hzz7 : w.heap.size ≤ w7.heap.size := by omega
  have HB7 : Hid (Below w.heap.size w w7) := below_then (by ((repeat (first | refine Below.alloc ?_ (by first | omega | (simp; done) | (simp; omega)) _ | refine Below.drew ?_)); exact HB6.out)) hb7 (by first | omega | (simp; done) | (simp; omega))
  replace HXw0 : Hid (Box w7 (w1.heap.size) [.slice wAr0_0 nr0_0 wcr0_0]) := Box.below (HXw0.out.alloc _) hb7
  clear hxw0 hkw0
  have hxw0 := HXw0.out.2
  have hkw0 := HXw0.out.1
  replace HXg0 : Hid (Box w7 (w2.heap.size) [.slice gAr0_0 nr0_0 gcr0_0]) := Box.below (HXg0.out.alloc _) hb7
  clear hxg0 hkg0
  have hxg0 := HXg0.out.2
  have hkg0 := HXg0.out.1
  have HXh0 : Hid (Box w7 (w6.heap.size) [.slice hAr0_0 nr0_0 hcr0_0]) := Box.below (Box.new0 _ _ _) hb7
  have hxh0 := HXh0.out.2
  have hkh0 := HXh0.out.1
  replace HOwAr0_0 : Hid (Own w7 qwAr0_0 w1.heap.size wAr0_0 (strs lr0_0)) := (HOwAr0_0.out.alloc _).below hb7
  replace HOgAr0_0 : Hid (Own w7 qgAr0_0 w2.heap.size gAr0_0 (strs (marks (1) nr0_0))) := (HOgAr0_0.out.alloc _).below hb7
  replace HOhAr0_0 : Hid (Own w7 qhAr0_0 w6.heap.size hAr0_0 (strs lr0_0)) := (HOhAr0_0.out.alloc _).below hb7
  clear hb7
  go_wp2_with fail
  refine (heldDisk_c  gAr0_0 gcr0_0 nr0_0 _ _ (1) _ _ (by omega) (HOgAr0_0.out.rd) (by omega)).mono ?_
  rintro e w8 ⟨rfl, hb8⟩
  have hz8 : w7.heap.size ≤ w8.heap.size := by have := hb8.size; first | omega | (simp at this; omega)
  have hzz8 : w.heap.size ≤ w8.heap.size := by omega
  have HB8 : Hid (Below w.heap.size w w8) := below_then (by ((repeat (first | refine Below.alloc ?_ (by first | omega | (simp; done) | (simp; omega)) _ | refine Below.drew ?_)); exact HB7.out)) hb8 (by first | omega | (simp; done) | (simp; omega))
  replace HXw0 : Hid (Box w8 (w1.heap.size) [.slice wAr0_0 nr0_0 wcr0_0]) := Box.below HXw0.out hb8
  clear hxw0 hkw0
  have hxw0 := HXw0.out.2
  have hkw0 := HXw0.out.1
  replace HXg0 : Hid (Box w8 (w2.heap.size) [.slice gAr0_0 nr0_0 gcr0_0]) := Box.below HXg0.out hb8
  clear hxg0 hkg0
  have hxg0 := HXg0.out.2
  have hkg0 := HXg0.out.1
  replace HXh0 : Hid (Box w8 (w6.heap.size) [.slice hAr0_0 nr0_0 hcr0_0]) := Box.below HXh0.out hb8
  clear hxh0 hkh0
  have hxh0 := HXh0.out.2
  have hkh0 := HXh0.out.1
  replace HOwAr0_0 : Hid (Own w8 qwAr0_0 w1.heap.size wAr0_0 (strs lr0_0)) := HOwAr0_0.out.below hb8
  replace HOgAr0_0 : Hid (Own w8 qgAr0_0 w2.heap.size gAr0_0 (strs (marks (1) nr0_0))) := HOgAr0_0.out.below hb8
  replace HOhAr0_0 : Hid (Own w8 qhAr0_0 w6.heap.size hAr0_0 (strs lr0_0)) := HOhAr0_0.out.below hb8
  clear hb8
  generalize hkk : ((1 + nr0_0 : Nat) : Int) = kq8
  have hk0q8 : 0 ≤ kq8 := by omega
  have hkdq8 : decide (kq8 < 0) = false := by simp; omega
  have HKq8 := Lib.hid hkk
  clear hkk
  obtain rfl : kq8 = kq5 := HKq8.out.symm.trans HKq5.out
  go_wp2
  go_ret
  exact ⟨rfl, HB8.out⟩

section
open Go.ChangeShapes Go.WideShapes Go.ChangeAt
open Go.ChangeMaps (open_string)
set_option maxRecDepth 100000 in
theorem lifted_DiskNew (f0 : List ByteArray) (hsp : specDiskNew_does f0.length f0) (him : implDiskNew_does f0.length f0) (hlen0 : f0.length ≤ 2000000) (os : Os) (started : os.Started) (H : Type) (enc : TypeId × Value → H) :
    ReturnsInHanded {} Try.checked os 4 .any (Rows.fnExactDiskNewSpec.pre6 enc Try.prog Try.f4 Rows.fnExactDiskNewRow.domain false) (Rows.fnExactDiskNewSpec.post enc Try.prog Try.f4 false true false false) := by
  refine returnsInHanded_of_change (C := Try.checked) Try.own started (by kernel_rfl) Try.func4
    (ChangeSpec.witness6 (enc := enc) (C := Try.checked) false ⟨#[], #[], []⟩ 8 (by kernel_rfl) (by kernel_rfl) (by kernel_rfl) (by kernel_rfl)) ?_
  intro W base args ds gs before hval0 hW hcnd _
  have hval : ∀ (j : Nat) t v, Try.f4.params[j]? = some t → args[j]? = some v → Value.okWide Try.prog W .any base t v := hval0
  have hW' := hW
  obtain ⟨p, q, hA0, hV, rfl, hfz, hnd⟩ := hW
  have hA : DataW.TrodAll enc Try.prog W 0 (fun _ => true) true Try.f4.params.toList args.toList ds p := hA0
  rw [Try.params4] at hA hval
  obtain ⟨hargs, rfl, rfl⟩ := trodAll_nil hA
  obtain rfl : args = #[] := by cases args; simp_all
  obtain ⟨rfl, rfl⟩ := trodVars_none hV
  clear hA0 hval0
  refine (walk_DiskNew  _ _ W  rfl (hlen0  ) (hsp  ) (him  )).mono fun e W' ⟨he, bel⟩ => ?_
  subst he
  exact ⟨_, rfl, _, _, _, [], _, [], hW', trodAll_mk1 (shut_bool Try.underlying4 _), trodAll_mk0, rfl, bel.frame _, fun h => by cases h⟩
theorem said_DiskNew (f0 : List ByteArray) (hsp : specDiskNew_does f0.length f0) (him : implDiskNew_does f0.length f0) (hlen0 : f0.length ≤ 2000000) : Rows.FnExactDiskNewSaid :=
  OpenClaim.holds_of_wide 4 Try.f4 rfl rfl rfl rfl rfl rfl rfl ⟨rfl, rfl, rfl, rfl, rfl⟩ rfl rfl rfl rfl rfl (by kernel_rfl) Try.func4 (by kernel_rfl)
    (of_decide_eq_true (by kernel_rfl)) (by unfold Func.isWrapper; first | (rw [if_pos (by decide +kernel)]; kernel_rfl) | (rw [if_neg (by decide +kernel)]; exact ⟨rfl, rfl⟩))
    (fun os started H enc _ => lifted_DiskNew f0 hsp him hlen0 os started H enc)
end
end Go.Proofs.Ytjmhebmjlnianaa
