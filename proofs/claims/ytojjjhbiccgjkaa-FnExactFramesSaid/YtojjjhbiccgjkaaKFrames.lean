/- The walk of the law FnExactFrames; what spec.Frames and impl.Frames do comes in as hypotheses. Written by gen_law.py. -/
import Derived.Test.YtojjjhbiccgjkaaData
import Derived.Test.YtojjjhbiccgjkaaStr
import Derived.Test.YtojjjhbiccgjkaaOpen
import Derived.Test.YtojjjhbiccgjkaaSeat
namespace Go.Proofs.Ytojjjhbiccgjkaa
set_option linter.unusedVariables false
set_option linter.unusedSimpArgs false
open Go.RowKit
attribute [local go_sem ↓] Go.wp_at_zero Go.wp_at_succ

def specFrames_does (n0 : Nat) (l0 : List ByteArray) (sr0 : ByteArray) (br1 : Bool) : Prop :=
    (n0 + bulkS l0) ≤ 1048576 → ∀ (B0 : Option Addr) (g0 aA0 bA0 : Nat) (W : World), Rd W aA0 bA0 B0 (strs l0) → g0 = n0 → Calls Try.prog 42 #[.slice B0 n0 g0] W fun r W' => r = .returned (.tuple #[.string sr0, .bool br1]) ∧ Below W.heap.size W W'
def implFrames_does (n0 : Nat) (l0 : List ByteArray) (sr0 : ByteArray) (br1 : Bool) : Prop :=
    (n0 + bulkS l0) ≤ 1048576 → ∀ (B0 : Option Addr) (g0 aA0 bA0 : Nat) (W : World), Rd W aA0 bA0 B0 (strs l0) → g0 = n0 → Calls Try.prog 44 #[.slice B0 n0 g0] W fun r W' => r = .returned (.tuple #[.string sr0, .bool br1]) ∧ Below W.heap.size W W'
set_option maxRecDepth 100000 in
set_option maxHeartbeats 4000000 in
theorem walk_Frames (A0 : Option Addr) (c0 : Nat) (n0 : Nat) (l0 : List ByteArray) (sr0 : ByteArray) (br1 : Bool) (w : World) (hrA0 : Rd w 0 w.heap.size A0 (strs l0)) (hnA0 : l0.length = n0) (hlA0 : n0 ≤ maxLen) (hsA0 : ∀ x ∈ l0, x.size ≤ maxLen) (HSP : specFrames_does n0 l0 sr0 br1) (HIM : implFrames_does n0 l0 sr0 br1) :
    Calls Try.prog 9 #[.slice A0 n0 c0] w fun e w' => e = .returned (.bool true) ∧ Below w.heap.size w w' := by
  have HNA0 := Lib.hid hnA0
  have HSA0 := Lib.hid hsA0
  clear hnA0 hsA0
  have HB0 : Hid (Below w.heap.size w w) := Below.refl _ _
  go_enter Try.func9, Try.ntmps9
  go_wp2_with fail
  refine (szStringS_c' A0 _ _ _ n0 l0 _ _ (hrA0.below (by ((repeat (first | refine Below.alloc ?_ (by first | omega | (simp; done) | (simp; omega)) _ | refine Below.drew ?_)); exact HB0.out))) HNA0.out hlA0 HSA0.out (by omega) (by omega)).mono ?_
  rintro e w1 ⟨rfl, hb1⟩
  have hz1 : w.heap.size ≤ w1.heap.size := by have := hb1.size; first | omega | (simp at this; omega)
  have hzz1 : w.heap.size ≤ w1.heap.size := by omega
  have HB1 : Hid (Below w.heap.size w w1) := below_then (by ((repeat (first | refine Below.alloc ?_ (by first | omega | (simp; done) | (simp; omega)) _ | refine Below.drew ?_)); exact HB0.out)) hb1 (by first | omega | (simp; done) | (simp; omega))
  clear hb1
  go_wp2_with fail
  · go_ret
    exact ⟨rfl, HB1.out⟩
  · have hp1 : 0 ≤ szF 1048576 ((n0 + bulkS l0)) := by assumption
    have hg1 := (szF_le 1048576 ((n0 + bulkS l0)) (by omega)).2
    have hbk : (n0 + bulkS l0) ≤ 1048576 := by have := (szF_pos hp1).1; omega
    have hmA0 : n0 ≤ 1048576 := by omega
    refine (toStringS_c' A0 _ _ _ n0 l0 _ (hrA0.below (by ((repeat (first | refine Below.alloc ?_ (by first | omega | (simp; done) | (simp; omega)) _ | refine Below.drew ?_)); exact HB1.out))) HNA0.out hmA0).mono ?_
    rintro e w2 ⟨TwA0, rfl, ho, hb2⟩
    have hz2 : w1.heap.size ≤ w2.heap.size := by have := hb2.size; first | omega | (simp at this; omega)
    have hzz2 : w.heap.size ≤ w2.heap.size := by omega
    have HB2 : Hid (Below w.heap.size w w2) := below_then (by ((repeat (first | refine Below.alloc ?_ (by first | omega | (simp; done) | (simp; omega)) _ | refine Below.drew ?_)); exact HB1.out)) hb2 (by first | omega | (simp; done) | (simp; omega))
    obtain ⟨qTwA0, hqTwA0, hqqTwA0, HOTwA0⟩ : ∃ q, w1.heap.size ≤ q ∧ w2.heap.size ≤ w2.heap.size ∧ Hid (Own w2 q w2.heap.size TwA0 (strs l0)) := ⟨_, by first | omega | (simp at *; done) | (simp at *; omega), by first | omega | (simp at *; done) | (simp at *; omega), ho⟩
    clear hb2 ho
    go_wp2_with fail
    refine (HSP hbk _ _ _ _ _ (HOTwA0.out.rd) rfl).mono ?_
    rintro e w3 ⟨rfl, hb3⟩
    have hz3 : w2.heap.size ≤ w3.heap.size := by have := hb3.size; first | omega | (simp at this; omega)
    have hzz3 : w.heap.size ≤ w3.heap.size := by omega
    have HB3 : Hid (Below w.heap.size w w3) := below_then (by ((repeat (first | refine Below.alloc ?_ (by first | omega | (simp; done) | (simp; omega)) _ | refine Below.drew ?_)); exact HB2.out)) hb3 (by first | omega | (simp; done) | (simp; omega))
    replace HOTwA0 : Hid (Own w3 qTwA0 w2.heap.size TwA0 (strs l0)) := HOTwA0.out.below hb3
    clear hb3 
    go_wp2_with fail
    refine (toStringS_c' A0 _ _ _ n0 l0 _ (hrA0.below (by ((repeat (first | refine Below.alloc ?_ (by first | omega | (simp; done) | (simp; omega)) _ | refine Below.drew ?_)); exact HB3.out))) HNA0.out hmA0).mono ?_
    rintro e w4 ⟨Tx0A0, rfl, ho, hb4⟩
    have hz4 : w3.heap.size ≤ w4.heap.size := by have := hb4.size; first | omega | (simp at this; omega)
    have hzz4 : w.heap.size ≤ w4.heap.size := by omega
    have HB4 : Hid (Below w.heap.size w w4) := below_then (by ((repeat (first | refine Below.alloc ?_ (by first | omega | (simp; done) | (simp; omega)) _ | refine Below.drew ?_)); exact HB3.out)) hb4 (by first | omega | (simp; done) | (simp; omega))
    replace HOTwA0 : Hid (Own w4 qTwA0 w2.heap.size TwA0 (strs l0)) := HOTwA0.out.below hb4
    obtain ⟨qTx0A0, hqTx0A0, hqqTx0A0, HOTx0A0⟩ : ∃ q, w3.heap.size ≤ q ∧ w4.heap.size ≤ w4.heap.size ∧ Hid (Own w4 q w4.heap.size Tx0A0 (strs l0)) := ⟨_, by first | omega | (simp at *; done) | (simp at *; omega), by first | omega | (simp at *; done) | (simp at *; omega), ho⟩
    clear hb4 ho
    go_wp2_with fail
    refine (HIM hbk _ _ _ _ _ (HOTx0A0.out.rd) rfl).mono ?_
    rintro e w5 ⟨rfl, hb5⟩
    have hz5 : w4.heap.size ≤ w5.heap.size := by have := hb5.size; first | omega | (simp at this; omega)
    have hzz5 : w.heap.size ≤ w5.heap.size := by omega
    have HB5 : Hid (Below w.heap.size w w5) := below_then (by ((repeat (first | refine Below.alloc ?_ (by first | omega | (simp; done) | (simp; omega)) _ | refine Below.drew ?_)); exact HB4.out)) hb5 (by first | omega | (simp; done) | (simp; omega))
    replace HOTwA0 : Hid (Own w5 qTwA0 w2.heap.size TwA0 (strs l0)) := HOTwA0.out.below hb5
    replace HOTx0A0 : Hid (Own w5 qTx0A0 w4.heap.size Tx0A0 (strs l0)) := HOTx0A0.out.below hb5
    clear hb5 
    go_wp2_with fail
    refine (toStringS_c' A0 _ _ _ n0 l0 _ (hrA0.below (by ((repeat (first | refine Below.alloc ?_ (by first | omega | (simp; done) | (simp; omega)) _ | refine Below.drew ?_)); exact HB5.out))) HNA0.out hmA0).mono ?_
    rintro e w6 ⟨TE5A0, rfl, ho, hb6⟩
    have hz6 : w5.heap.size ≤ w6.heap.size := by have := hb6.size; first | omega | (simp at this; omega)
    have hzz6 : w.heap.size ≤ w6.heap.size := by omega
    have HB6 : Hid (Below w.heap.size w w6) := below_then (by ((repeat (first | refine Below.alloc ?_ (by first | omega | (simp; done) | (simp; omega)) _ | refine Below.drew ?_)); exact HB5.out)) hb6 (by first | omega | (simp; done) | (simp; omega))
    replace HOTwA0 : Hid (Own w6 qTwA0 w2.heap.size TwA0 (strs l0)) := HOTwA0.out.below hb6
    replace HOTx0A0 : Hid (Own w6 qTx0A0 w4.heap.size Tx0A0 (strs l0)) := HOTx0A0.out.below hb6
    obtain ⟨qTE5A0, hqTE5A0, hqqTE5A0, HOTE5A0⟩ : ∃ q, w5.heap.size ≤ q ∧ w6.heap.size ≤ w6.heap.size ∧ Hid (Own w6 q w6.heap.size TE5A0 (strs l0)) := ⟨_, by first | omega | (simp at *; done) | (simp at *; omega), by first | omega | (simp at *; done) | (simp at *; omega), ho⟩
    clear hb6 ho
    go_wp2_with fail
    refine (eqStringS_c' Tx0A0 TE5A0 _ _ _ _ _ _ n0 n0 l0 _ (HOTx0A0.out.rd) (HOTE5A0.out.rd) HNA0.out HNA0.out (by unfold maxLen; omega)).mono ?_
    rintro e w7 ⟨rfl, hb7⟩
    have hz7 : w6.heap.size ≤ w7.heap.size := by have := hb7.size; first | omega | (simp at this; omega)
    have hzz7 : w.heap.size ≤ w7.heap.size := by omega
    have HB7 : Hid (Below w.heap.size w w7) := below_then (by ((repeat (first | refine Below.alloc ?_ (by first | omega | (simp; done) | (simp; omega)) _ | refine Below.drew ?_)); exact HB6.out)) hb7 (by first | omega | (simp; done) | (simp; omega))
    replace HOTwA0 : Hid (Own w7 qTwA0 w2.heap.size TwA0 (strs l0)) := HOTwA0.out.below hb7
    replace HOTx0A0 : Hid (Own w7 qTx0A0 w4.heap.size Tx0A0 (strs l0)) := HOTx0A0.out.below hb7
    replace HOTE5A0 : Hid (Own w7 qTE5A0 w6.heap.size TE5A0 (strs l0)) := HOTE5A0.out.below hb7
    clear hb7
    clear HOTE5A0
    go_wp2
    go_ret
    exact ⟨rfl, HB7.out⟩

section
open Go.ChangeShapes Go.WideShapes Go.ChangeAt
open Go.ChangeMaps (open_string)
set_option maxRecDepth 100000 in
theorem lifted_Frames (f0 : (List ByteArray) → ByteArray) (f1 : (List ByteArray) → Bool) (hsp : ∀ (l0 : List ByteArray), specFrames_does l0.length l0 (f0 l0) (f1 l0)) (him : ∀ (l0 : List ByteArray), implFrames_does l0.length l0 (f0 l0) (f1 l0))  (os : Os) (started : os.Started) (H : Type) (enc : TypeId × Value → H) :
    ReturnsInHanded {} Try.checked os 9 .any (Rows.fnExactFramesSpec.pre6 enc Try.prog Try.f9 Rows.fnExactFramesRow.domain false) (Rows.fnExactFramesSpec.post enc Try.prog Try.f9 false true false false) := by
  refine returnsInHanded_of_change (C := Try.checked) Try.own started (by kernel_rfl) Try.func9
    (ChangeSpec.witness6 (enc := enc) (C := Try.checked) false ⟨#[], #[.slice none 0 0], []⟩ 8 (by kernel_rfl) (by kernel_rfl) (by kernel_rfl) (by kernel_rfl)) ?_
  intro W base args ds gs before hval0 hW hcnd _
  have hval : ∀ (j : Nat) t v, Try.f9.params[j]? = some t → args[j]? = some v → Value.okWide Try.prog W .any base t v := hval0
  have hW' := hW
  obtain ⟨p, q, hA0, hV, rfl, hfz, hnd⟩ := hW
  have hA : DataW.TrodAll enc Try.prog W 0 (fun _ => true) true Try.f9.params.toList args.toList ds p := hA0
  rw [Try.params9] at hA hval
  obtain ⟨v0, vs0, d0, ds0, p0, q0, hargs, rfl, rfl, h0, r0⟩ := trodAll_cons hA
  obtain ⟨rfl, rfl, rfl⟩ := trodAll_nil r0
  obtain rfl : args = #[v0] := by cases args; simp_all
  obtain ⟨rfl, rfl⟩ := trodVars_none hV
  have lt0 : ∀ x ∈ p0, x.block < W.heap.size := by obtain ⟨m, hm⟩ := h0; exact DataW.trod_lt m _ _ _ hm
  have kk0 := h0
  obtain ⟨A0, n0, c0, l0, rfl, o0, hil0⟩ := open_strs (hval 0 _ v0 rfl rfl) h0
  obtain ⟨rfl, o0b, o0c, o0d⟩ := o0
  clear hA0 hval0
  refine (walk_Frames A0 c0 _ l0 _ _ W o0d rfl (Nat.le_trans o0b o0c) hil0  (hsp l0 ) (him l0 )).mono fun e W' ⟨he, bel⟩ => ?_
  subst he
  exact ⟨_, rfl, _, _, _, [], _, [], hW', trodAll_mk1 (shut_bool Try.underlying4 _), (trodAll_cons_mk (Below.trod Try.laidOut (by kernel_rfl) (of_decide_eq_true (by kernel_rfl)) kk0 bel lt0) trodAll_mk0), rfl, bel.frame _, fun h => by cases h⟩
theorem said_Frames (f0 : (List ByteArray) → ByteArray) (f1 : (List ByteArray) → Bool) (hsp : ∀ (l0 : List ByteArray), specFrames_does l0.length l0 (f0 l0) (f1 l0)) (him : ∀ (l0 : List ByteArray), implFrames_does l0.length l0 (f0 l0) (f1 l0))  : Rows.FnExactFramesSaid :=
  OpenClaim.holds_of_wide 9 Try.f9 rfl rfl rfl rfl rfl rfl rfl ⟨rfl, rfl, rfl, rfl, rfl⟩ rfl rfl rfl rfl rfl (by kernel_rfl) Try.func9 (by show joinedFacts Try.prog 9 Try.f9 Rows.fnExactFramesSpec Rows.fnExactFramesRow = true; unfold joinedFacts; rw [seat_enter, seat_final, seat_make]; kernel_rfl)
    (of_decide_eq_true (by kernel_rfl)) (by unfold Func.isWrapper; first | (rw [if_pos (by decide +kernel)]; kernel_rfl) | (rw [if_neg (by decide +kernel)]; exact ⟨rfl, rfl⟩))
    (fun os started H enc _ => lifted_Frames f0 f1 hsp him os started H enc)
end
end Go.Proofs.Ytojjjhbiccgjkaa
