/- The walk of the law FnExactWriteOk; what spec.WriteOk and impl.WriteOk do comes in as hypotheses. Written by gen_law.py. -/
import Derived.Test.YtjmhebmjlnianaaData
import Derived.Test.YtjmhebmjlnianaaSWrite
import Derived.Test.YtjmhebmjlnianaaStr
import Derived.Test.YtjmhebmjlnianaaWDisk
import Derived.Test.YtjmhebmjlnianaaOpen
namespace Go.Proofs.Ytjmhebmjlnianaa
set_option linter.unusedVariables false
set_option linter.unusedSimpArgs false
open Go.RowKit
attribute [local go_sem ↓] Go.wp_at_zero Go.wp_at_succ

def specWriteOk_does (n0_0 : Nat) (l0_0 : List ByteArray) (e1 : Wri) (br0 : Bool) : Prop :=
    ((n0_0 + bulkS l0_0)) + e1.bulk ≤ 1048576 → ∀ (B0_0 : Option Addr) (g0_0 aA0_0 bA0_0 : Nat) (W : World), Rd W aA0_0 bA0_0 B0_0 (strs l0_0) → Calls Try.prog 35 #[.agg #[.slice B0_0 n0_0 g0_0], .agg #[.int .i64 e1.file, .int .i64 e1.pos, .string e1.text]] W fun r W' => r = .returned (.bool br0) ∧ Below W.heap.size W W'
def implWriteOk_does (n0_0 : Nat) (l0_0 : List ByteArray) (e1 : Wri) (br0 : Bool) : Prop :=
    ((n0_0 + bulkS l0_0)) + e1.bulk ≤ 1048576 → ∀ (B0_0 : Option Addr) (g0_0 aA0_0 bA0_0 : Nat) (W : World), Rd W aA0_0 bA0_0 B0_0 (strs l0_0) → Calls Try.prog 37 #[.agg #[.slice B0_0 n0_0 g0_0], .agg #[.int .i64 e1.file, .int .i64 e1.pos, .string e1.text]] W fun r W' => r = .returned (.bool br0) ∧ Below W.heap.size W W'
set_option maxRecDepth 100000 in
set_option maxHeartbeats 400000 in
theorem walk_WriteOk (A0_0 : Option Addr) (c0_0 : Nat) (n0_0 : Nat) (l0_0 : List ByteArray) (e1 : Wri) (br0 : Bool) (w : World) (hrA0_0 : Rd w 0 w.heap.size A0_0 (strs l0_0)) (hnA0_0 : l0_0.length = n0_0) (hlA0_0 : n0_0 ≤ maxLen) (hsA0_0 : ∀ x ∈ l0_0, x.size ≤ maxLen) (hfe1 : e1.fits) (HSP : specWriteOk_does n0_0 l0_0 e1 br0) (HIM : implWriteOk_does n0_0 l0_0 e1 br0) :
    Calls Try.prog 7 #[.agg #[.slice A0_0 n0_0 c0_0], .agg #[.int .i64 e1.file, .int .i64 e1.pos, .string e1.text]] w fun e w' => e = .returned (.bool true) ∧ Below w.heap.size w w' := by
  have HNA0_0 := Lib.hid hnA0_0
  have HSA0_0 := Lib.hid hsA0_0
  clear hnA0_0 hsA0_0
  have HB0 : Hid (Below w.heap.size w w) := Below.refl _ _
  go_enter Try.func7, Try.ntmps7
  go_wp2_with fail
  refine (szDisk_c A0_0 c0_0 n0_0 l0_0 _ _ _ _ (hrA0_0.below (by ((repeat (first | refine Below.alloc ?_ (by first | omega | (simp; done) | (simp; omega)) _ | refine Below.drew ?_)); exact HB0.out))) HNA0_0.out hlA0_0 HSA0_0.out (by omega) (by omega)).mono ?_
  rintro e w1 ⟨rfl, hb1⟩
  have hz1 : w.heap.size + 2 ≤ w1.heap.size := by have := hb1.size; first | omega | (simp at this; omega)
  have hzz1 : w.heap.size ≤ w1.heap.size := by omega
  have HB1 : Hid (Below w.heap.size w w1) := below_then (by ((repeat (first | refine Below.alloc ?_ (by first | omega | (simp; done) | (simp; omega)) _ | refine Below.drew ?_)); exact HB0.out)) hb1 (by first | omega | (simp; done) | (simp; omega))
  have HXaD : Hid (Box w1 (w.heap.size) [.slice A0_0 n0_0 c0_0]) := Box.below ((Box.new0 _ _ _).alloc _) hb1
  have hxaD := HXaD.out.2
  have hkaD := HXaD.out.1
  have HXaW : Hid (Box w1 (w.heap.size + 1) [.int .i64 e1.file, .int .i64 e1.pos, .string e1.text]) := Box.below (Box.new1 _ _ _ _) hb1
  have hxaW := HXaW.out.2
  have hkaW := HXaW.out.1
  clear hb1
  go_wp2_with fail
  · go_ret
    exact ⟨rfl, HB1.out⟩
  · have hp1 : 0 ≤ szF 1048576 (((n0_0 + bulkS l0_0))) := by assumption
    have hg1 := (szF_le 1048576 (((n0_0 + bulkS l0_0))) (by omega)).2
    refine (szWrite_c e1 _ _ hfe1 (by omega) (by omega)).mono ?_
    rintro e w2 ⟨rfl, hb2⟩
    have hz2 : w1.heap.size ≤ w2.heap.size := by have := hb2.size; first | omega | (simp at this; omega)
    have hzz2 : w.heap.size ≤ w2.heap.size := by omega
    have HB2 : Hid (Below w.heap.size w w2) := below_then (by ((repeat (first | refine Below.alloc ?_ (by first | omega | (simp; done) | (simp; omega)) _ | refine Below.drew ?_)); exact HB1.out)) hb2 (by first | omega | (simp; done) | (simp; omega))
    replace HXaD : Hid (Box w2 (w.heap.size) [.slice A0_0 n0_0 c0_0]) := Box.below HXaD.out hb2
    clear hxaD hkaD
    have hxaD := HXaD.out.2
    have hkaD := HXaD.out.1
    replace HXaW : Hid (Box w2 (w.heap.size + 1) [.int .i64 e1.file, .int .i64 e1.pos, .string e1.text]) := Box.below HXaW.out hb2
    clear hxaW hkaW
    have hxaW := HXaW.out.2
    have hkaW := HXaW.out.1
    have HA2 : Hid (szF (szF 1048576 (((n0_0 + bulkS l0_0)))) e1.bulk = szF 1048576 (((n0_0 + bulkS l0_0)) + e1.bulk)) := szF_add (by assumption)
    rw [HA2.out]
    clear hb2
    go_wp2_with fail
    · go_ret
      exact ⟨rfl, HB2.out⟩
    · have hp2 : 0 ≤ szF 1048576 (((n0_0 + bulkS l0_0)) + e1.bulk) := by assumption
      have hg2 := (szF_le 1048576 (((n0_0 + bulkS l0_0)) + e1.bulk) (by omega)).2
      have hbk : ((n0_0 + bulkS l0_0)) + e1.bulk ≤ 1048576 := by have := (szF_pos hp2).1; omega
      have hmA0_0 : n0_0 ≤ 1048576 := by omega
      go_region_held3 (fun w' => (∀ o, w'.cell? ⟨w.heap.size, o, none⟩ = [.slice A0_0 n0_0 c0_0][o]?) ∧ (∀ o, w'.cell? ⟨w.heap.size + 1, o, none⟩ = [.int .i64 e1.file, .int .i64 e1.pos, .string e1.text][o]?))
        (first | exact ⟨(HXaD.out.drew).2, (HXaW.out.drew).2⟩ | exact ⟨HXaD.out.2, HXaW.out.2⟩)
        (first
        | (go_at_call 27
           refine (toDisk_c A0_0 c0_0 n0_0 l0_0 _ _ _ (hrA0_0.below (by ((repeat (first | refine Below.alloc ?_ (by first | omega | (simp; done) | (simp; omega)) _ | refine Below.drew ?_)); exact HB2.out))) HNA0_0.out hmA0_0).mono ?_
           rintro e w3 ⟨TwA0_0, rfl, le3_0, ho0, hb3⟩
           have hz3 : w2.heap.size ≤ w3.heap.size := by have := hb3.size; first | omega | (simp at this; omega)
           have hzz3 : w.heap.size ≤ w3.heap.size := by omega
           have HB3 : Hid (Below w.heap.size w w3) := below_then (by ((repeat (first | refine Below.alloc ?_ (by first | omega | (simp; done) | (simp; omega)) _ | refine Below.drew ?_)); exact HB2.out)) hb3 (by first | omega | (simp; done) | (simp; omega))
           replace HXaD : Hid (Box w3 (w.heap.size) [.slice A0_0 n0_0 c0_0]) := Box.below (HXaD.out.drew) hb3
           clear hxaD hkaD
           have hxaD := HXaD.out.2
           have hkaD := HXaD.out.1
           replace HXaW : Hid (Box w3 (w.heap.size + 1) [.int .i64 e1.file, .int .i64 e1.pos, .string e1.text]) := Box.below (HXaW.out.drew) hb3
           clear hxaW hkaW
           have hxaW := HXaW.out.2
           have hkaW := HXaW.out.1
           obtain ⟨qTwA0_0, hqTwA0_0, hqqTwA0_0, HOTwA0_0⟩ : ∃ q, w2.heap.size ≤ q ∧ w3.heap.size ≤ w3.heap.size ∧ Hid (Own w3 q w3.heap.size TwA0_0 (strs l0_0)) := ⟨_, by first | omega | (simp at *; done) | (simp at *; omega), by first | omega | (simp at *; done) | (simp at *; omega), ho0⟩
           clear hb3 ho0)
        | (go_at_call 36
           refine (toWrite_c e1 _).mono ?_
           rintro e w4 ⟨rfl, hb4⟩
           have hz4 : w3.heap.size ≤ w4.heap.size := by have := hb4.size; first | omega | (simp at this; omega)
           have hzz4 : w.heap.size ≤ w4.heap.size := by omega
           have HB4 : Hid (Below w.heap.size w w4) := below_then (by ((repeat (first | refine Below.alloc ?_ (by first | omega | (simp; done) | (simp; omega)) _ | refine Below.drew ?_)); exact HB3.out)) hb4 (by first | omega | (simp; done) | (simp; omega))
           replace HXaD : Hid (Box w4 (w.heap.size) [.slice A0_0 n0_0 c0_0]) := Box.below HXaD.out hb4
           clear hxaD hkaD
           have hxaD := HXaD.out.2
           have hkaD := HXaD.out.1
           replace HXaW : Hid (Box w4 (w.heap.size + 1) [.int .i64 e1.file, .int .i64 e1.pos, .string e1.text]) := Box.below HXaW.out hb4
           clear hxaW hkaW
           have hxaW := HXaW.out.2
           have hkaW := HXaW.out.1
           replace HOTwA0_0 : Hid (Own w4 qTwA0_0 w3.heap.size TwA0_0 (strs l0_0)) := HOTwA0_0.out.below hb4
           clear hb4)
        | (go_at_call 35
           refine (HSP hbk _ _ _ _ _ (HOTwA0_0.out.rd)).mono ?_
           rintro e w5 ⟨rfl, hb5⟩
           have hz5 : w4.heap.size ≤ w5.heap.size := by have := hb5.size; first | omega | (simp at this; omega)
           have hzz5 : w.heap.size ≤ w5.heap.size := by omega
           have HB5 : Hid (Below w.heap.size w w5) := below_then (by ((repeat (first | refine Below.alloc ?_ (by first | omega | (simp; done) | (simp; omega)) _ | refine Below.drew ?_)); exact HB4.out)) hb5 (by first | omega | (simp; done) | (simp; omega))
           replace HXaD : Hid (Box w5 (w.heap.size) [.slice A0_0 n0_0 c0_0]) := Box.below HXaD.out hb5
           clear hxaD hkaD
           have hxaD := HXaD.out.2
           have hkaD := HXaD.out.1
           replace HXaW : Hid (Box w5 (w.heap.size + 1) [.int .i64 e1.file, .int .i64 e1.pos, .string e1.text]) := Box.below HXaW.out hb5
           clear hxaW hkaW
           have hxaW := HXaW.out.2
           have hkaW := HXaW.out.1
           replace HOTwA0_0 : Hid (Own w5 qTwA0_0 w3.heap.size TwA0_0 (strs l0_0)) := HOTwA0_0.out.below hb5
           clear hb5 ))
      go_wp2_with fail
      refine (toDisk_c A0_0 c0_0 n0_0 l0_0 _ _ _ (hrA0_0.below (by ((repeat (first | refine Below.alloc ?_ (by first | omega | (simp; done) | (simp; omega)) _ | refine Below.drew ?_)); exact HB5.out))) HNA0_0.out hmA0_0).mono ?_
      rintro e w6 ⟨Tx0A0_0, rfl, le6_0, ho0, hb6⟩
      have hz6 : w5.heap.size ≤ w6.heap.size := by have := hb6.size; first | omega | (simp at this; omega)
      have hzz6 : w.heap.size ≤ w6.heap.size := by omega
      have HB6 : Hid (Below w.heap.size w w6) := below_then (by ((repeat (first | refine Below.alloc ?_ (by first | omega | (simp; done) | (simp; omega)) _ | refine Below.drew ?_)); exact HB5.out)) hb6 (by first | omega | (simp; done) | (simp; omega))
      replace HXaD : Hid (Box w6 (w.heap.size) [.slice A0_0 n0_0 c0_0]) := Box.below HXaD.out hb6
      clear hxaD hkaD
      have hxaD := HXaD.out.2
      have hkaD := HXaD.out.1
      replace HXaW : Hid (Box w6 (w.heap.size + 1) [.int .i64 e1.file, .int .i64 e1.pos, .string e1.text]) := Box.below HXaW.out hb6
      clear hxaW hkaW
      have hxaW := HXaW.out.2
      have hkaW := HXaW.out.1
      replace HOTwA0_0 : Hid (Own w6 qTwA0_0 w3.heap.size TwA0_0 (strs l0_0)) := HOTwA0_0.out.below hb6
      obtain ⟨qTx0A0_0, hqTx0A0_0, hqqTx0A0_0, HOTx0A0_0⟩ : ∃ q, w5.heap.size ≤ q ∧ w6.heap.size ≤ w6.heap.size ∧ Hid (Own w6 q w6.heap.size Tx0A0_0 (strs l0_0)) := ⟨_, by first | omega | (simp at *; done) | (simp at *; omega), by first | omega | (simp at *; done) | (simp at *; omega), ho0⟩
      clear hb6 ho0
      go_wp2_with fail
      go_region_held3 (fun w' => (∀ o, w'.cell? ⟨w6.heap.size, o, none⟩ = [.slice Tx0A0_0 n0_0 n0_0][o]?) ∧ (∀ o, w'.cell? ⟨w.heap.size + 1, o, none⟩ = [.int .i64 e1.file, .int .i64 e1.pos, .string e1.text][o]?))
        (first | exact ⟨((Box.new0 _ _ _).drew).2, ((HXaW.out.alloc _).drew).2⟩ | exact ⟨HXx0.out.2, HXaW.out.2⟩)
        (first
        | (go_at_call 36
           refine (toWrite_c e1 _).mono ?_
           rintro e w7 ⟨rfl, hb7⟩
           have hz7 : w6.heap.size + 1 ≤ w7.heap.size := by have := hb7.size; first | omega | (simp at this; omega)
           have hzz7 : w.heap.size ≤ w7.heap.size := by omega
           have HB7 : Hid (Below w.heap.size w w7) := below_then (by ((repeat (first | refine Below.alloc ?_ (by first | omega | (simp; done) | (simp; omega)) _ | refine Below.drew ?_)); exact HB6.out)) hb7 (by first | omega | (simp; done) | (simp; omega))
           replace HXaD : Hid (Box w7 (w.heap.size) [.slice A0_0 n0_0 c0_0]) := Box.below ((HXaD.out.alloc _).drew) hb7
           clear hxaD hkaD
           have hxaD := HXaD.out.2
           have hkaD := HXaD.out.1
           replace HXaW : Hid (Box w7 (w.heap.size + 1) [.int .i64 e1.file, .int .i64 e1.pos, .string e1.text]) := Box.below ((HXaW.out.alloc _).drew) hb7
           clear hxaW hkaW
           have hxaW := HXaW.out.2
           have hkaW := HXaW.out.1
           have HXx0 : Hid (Box w7 (w6.heap.size) [.slice Tx0A0_0 n0_0 n0_0]) := Box.below ((Box.new0 _ _ _).drew) hb7
           have hxx0 := HXx0.out.2
           have hkx0 := HXx0.out.1
           replace HOTwA0_0 : Hid (Own w7 qTwA0_0 w3.heap.size TwA0_0 (strs l0_0)) := ((HOTwA0_0.out.alloc _).drew).below hb7
           replace HOTx0A0_0 : Hid (Own w7 qTx0A0_0 w6.heap.size Tx0A0_0 (strs l0_0)) := ((HOTx0A0_0.out.alloc _).drew).below hb7
           clear hb7)
        | (go_at_call 37
           refine (HIM hbk _ _ _ _ _ (HOTx0A0_0.out.rd)).mono ?_
           rintro e w8 ⟨rfl, hb8⟩
           have hz8 : w7.heap.size ≤ w8.heap.size := by have := hb8.size; first | omega | (simp at this; omega)
           have hzz8 : w.heap.size ≤ w8.heap.size := by omega
           have HB8 : Hid (Below w.heap.size w w8) := below_then (by ((repeat (first | refine Below.alloc ?_ (by first | omega | (simp; done) | (simp; omega)) _ | refine Below.drew ?_)); exact HB7.out)) hb8 (by first | omega | (simp; done) | (simp; omega))
           replace HXaD : Hid (Box w8 (w.heap.size) [.slice A0_0 n0_0 c0_0]) := Box.below HXaD.out hb8
           clear hxaD hkaD
           have hxaD := HXaD.out.2
           have hkaD := HXaD.out.1
           replace HXaW : Hid (Box w8 (w.heap.size + 1) [.int .i64 e1.file, .int .i64 e1.pos, .string e1.text]) := Box.below HXaW.out hb8
           clear hxaW hkaW
           have hxaW := HXaW.out.2
           have hkaW := HXaW.out.1
           replace HXx0 : Hid (Box w8 (w6.heap.size) [.slice Tx0A0_0 n0_0 n0_0]) := Box.below HXx0.out hb8
           clear hxx0 hkx0
           have hxx0 := HXx0.out.2
           have hkx0 := HXx0.out.1
           replace HOTwA0_0 : Hid (Own w8 qTwA0_0 w3.heap.size TwA0_0 (strs l0_0)) := HOTwA0_0.out.below hb8
           replace HOTx0A0_0 : Hid (Own w8 qTx0A0_0 w6.heap.size Tx0A0_0 (strs l0_0)) := HOTx0A0_0.out.below hb8
           clear hb8 ))
      go_wp2_with fail
      go_region_held3 (fun w' => (∀ o, w'.cell? ⟨w6.heap.size, o, none⟩ = [.slice Tx0A0_0 n0_0 n0_0][o]?) ∧ (∀ o, w'.cell? ⟨w.heap.size, o, none⟩ = [.slice A0_0 n0_0 c0_0][o]?))
        (first | exact ⟨HXx0.out.2, HXaD.out.2⟩ | exact ⟨HPx0.out.2, HPaD.out.2⟩ | exact ⟨HQx0.out.2, HQaD.out.2⟩)
        (first
        | (go_at_call 27
           refine (toDisk_c A0_0 c0_0 n0_0 l0_0 _ _ _ (hrA0_0.below (by ((repeat (first | refine Below.alloc ?_ (by first | omega | (simp; done) | (simp; omega)) _ | refine Below.drew ?_)); exact HB8.out))) HNA0_0.out hmA0_0).mono ?_
           rintro e w9 ⟨T9A0_0, rfl, le9_0, hod0, hb9⟩
           have HPx0 : Hid (Box w9 (w6.heap.size) [.slice Tx0A0_0 n0_0 n0_0]) := Box.below (HXx0.out.drew) hb9
           have HPaD : Hid (Box w9 (w.heap.size) [.slice A0_0 n0_0 c0_0]) := Box.below (HXaD.out.drew) hb9
           have HPOTwA0_0 : Hid (Own w9 qTwA0_0 w3.heap.size TwA0_0 (strs l0_0)) := (HOTwA0_0.out.drew).below hb9
           have HPOTx0A0_0 : Hid (Own w9 qTx0A0_0 w6.heap.size Tx0A0_0 (strs l0_0)) := (HOTx0A0_0.out.drew).below hb9
           have hz9 : w8.heap.size ≤ w9.heap.size := hb9.size
           have HB9 : Hid (Below w.heap.size w w9) := below_then HB8.out.drew hb9 (by first | omega | (simp; omega))
           have HBB9 := Lib.hid hb9
           clear hb9)
        | (go_at_call 22
           refine (eqDisk_c  Tx0A0_0 n0_0 n0_0 l0_0 T9A0_0 n0_0 _ _ _ _  _ (HPOTx0A0_0.out.rd) hod0.rd HNA0_0.out (by unfold maxLen; omega)).mono ?_
           rintro e w10 ⟨rfl, hb10⟩
           have HQx0 : Hid (Box w10 (w6.heap.size) [.slice Tx0A0_0 n0_0 n0_0]) := Box.below HPx0.out hb10
           have HQaD : Hid (Box w10 (w.heap.size) [.slice A0_0 n0_0 c0_0]) := Box.below HPaD.out hb10
           have HQOTwA0_0 : Hid (Own w10 qTwA0_0 w3.heap.size TwA0_0 (strs l0_0)) := HPOTwA0_0.out.below hb10
           have HQOTx0A0_0 : Hid (Own w10 qTx0A0_0 w6.heap.size Tx0A0_0 (strs l0_0)) := HPOTx0A0_0.out.below hb10
           have HQaW : Hid (Box w10 (w.heap.size + 1) [.int .i64 e1.file, .int .i64 e1.pos, .string e1.text]) := Box.below (Box.below2 HXaW.out.drew HBB9.out) hb10
           have hz10 : w9.heap.size ≤ w10.heap.size := hb10.size
           have HB10 : Hid (Below w.heap.size w w10) := below_then HB9.out hb10 (by first | omega | exact HB9.out.size)
           clear hb10))
      have hzz10 : w.heap.size ≤ w10.heap.size := by omega
      replace HOTwA0_0 := HQOTwA0_0
      clear HQOTwA0_0 HPOTwA0_0
      replace HOTx0A0_0 := HQOTx0A0_0
      clear HQOTx0A0_0 HPOTx0A0_0
      replace HXaD := HQaD
      clear HQaD HPaD hxaD hkaD
      have hxaD := HXaD.out.2
      have hkaD := HXaD.out.1
      replace HXaW := HQaW
      clear HQaW hxaW hkaW
      have hxaW := HXaW.out.2
      have hkaW := HXaW.out.1
      replace HXx0 := HQx0
      clear HQx0 HPx0 hxx0 hkx0
      have hxx0 := HXx0.out.2
      have hkx0 := HXx0.out.1
      go_wp2
      go_ret
      exact ⟨rfl, HB10.out⟩

section
open Go.ChangeShapes Go.WideShapes Go.ChangeAt
open Go.ChangeMaps (open_string)
set_option maxRecDepth 100000 in
theorem lifted_WriteOk (f0 : (List ByteArray) → Wri → Bool) (hsp : ∀ (l0_0 : List ByteArray) (e1 : Wri), (e1.fits) → specWriteOk_does l0_0.length l0_0 e1 (f0 l0_0 e1)) (him : ∀ (l0_0 : List ByteArray) (e1 : Wri), (e1.fits) → implWriteOk_does l0_0.length l0_0 e1 (f0 l0_0 e1))  (os : Os) (started : os.Started) (H : Type) (enc : TypeId × Value → H) :
    ReturnsInHanded {} Try.checked os 7 .any (Rows.fnExactWriteOkSpec.pre6 enc Try.prog Try.f7 Rows.fnExactWriteOkRow.domain false) (Rows.fnExactWriteOkSpec.post enc Try.prog Try.f7 false true false false) := by
  refine returnsInHanded_of_change (C := Try.checked) Try.own started (by kernel_rfl) Try.func7
    (ChangeSpec.witness6 (enc := enc) (C := Try.checked) false ⟨#[], #[.agg #[.slice none 0 0], .agg #[.int .i64 0, .int .i64 0, .string ByteArray.empty]], []⟩ 8 (by kernel_rfl) (by kernel_rfl) (by kernel_rfl) (by kernel_rfl)) ?_
  intro W base args ds gs before hval0 hW hcnd _
  have hval : ∀ (j : Nat) t v, Try.f7.params[j]? = some t → args[j]? = some v → Value.okWide Try.prog W .any base t v := hval0
  have hW' := hW
  obtain ⟨p, q, hA0, hV, rfl, hfz, hnd⟩ := hW
  have hA : DataW.TrodAll enc Try.prog W 0 (fun _ => true) true Try.f7.params.toList args.toList ds p := hA0
  rw [Try.params7] at hA hval
  obtain ⟨v0, vs0, d0, ds0, p0, q0, hargs, rfl, rfl, h0, r0⟩ := trodAll_cons hA
  obtain ⟨v1, vs1, d1, ds1, p1, q1, rfl, rfl, rfl, h1, r1⟩ := trodAll_cons r0
  obtain ⟨rfl, rfl, rfl⟩ := trodAll_nil r1
  obtain rfl : args = #[v0, v1] := by cases args; simp_all
  obtain ⟨rfl, rfl⟩ := trodVars_none hV
  have lt0 : ∀ x ∈ p0, x.block < W.heap.size := by obtain ⟨m, hm⟩ := h0; exact DataW.trod_lt m _ _ _ hm
  have kk0 := h0
  have lt1 : ∀ x ∈ p1, x.block < W.heap.size := by obtain ⟨m, hm⟩ := h1; exact DataW.trod_lt m _ _ _ hm
  have kk1 := h1
  obtain ⟨A0_0, n0_0, c0_0, l0_0, rfl, o0_0, hil0_0⟩ := open_Disk (hval 0 _ v0 rfl rfl) h0
  obtain ⟨rfl, o0_0b, o0_0c, o0_0d⟩ := o0_0
  obtain ⟨e1, rfl, hie1⟩ := open_Write (hval 1 _ v1 rfl rfl) h1
  clear hA0 hval0
  refine (walk_WriteOk A0_0 c0_0 _ l0_0 e1 _ W o0_0d rfl (Nat.le_trans o0_0b o0_0c) hil0_0 hie1  (hsp l0_0 e1 hie1) (him l0_0 e1 hie1)).mono fun e W' ⟨he, bel⟩ => ?_
  subst he
  exact ⟨_, rfl, _, _, _, [], _, [], hW', trodAll_mk1 (shut_bool Try.underlying4 _), (trodAll_cons_mk (Below.trod Try.laidOut (by kernel_rfl) (of_decide_eq_true (by kernel_rfl)) kk0 bel lt0) (trodAll_cons_mk (Below.trod Try.laidOut (by kernel_rfl) (of_decide_eq_true (by kernel_rfl)) kk1 bel lt1) trodAll_mk0)), rfl, bel.frame _, fun h => by cases h⟩
theorem said_WriteOk (f0 : (List ByteArray) → Wri → Bool) (hsp : ∀ (l0_0 : List ByteArray) (e1 : Wri), (e1.fits) → specWriteOk_does l0_0.length l0_0 e1 (f0 l0_0 e1)) (him : ∀ (l0_0 : List ByteArray) (e1 : Wri), (e1.fits) → implWriteOk_does l0_0.length l0_0 e1 (f0 l0_0 e1))  : Rows.FnExactWriteOkSaid :=
  OpenClaim.holds_of_wide 7 Try.f7 rfl rfl rfl rfl rfl rfl rfl ⟨rfl, rfl, rfl, rfl, rfl⟩ rfl rfl rfl rfl rfl (by kernel_rfl) Try.func7 (by kernel_rfl)
    (of_decide_eq_true (by kernel_rfl)) (by unfold Func.isWrapper; first | (rw [if_pos (by decide +kernel)]; kernel_rfl) | (rw [if_neg (by decide +kernel)]; exact ⟨rfl, rfl⟩))
    (fun os started H enc _ => lifted_WriteOk f0 hsp him os started H enc)
end
end Go.Proofs.Ytjmhebmjlnianaa
