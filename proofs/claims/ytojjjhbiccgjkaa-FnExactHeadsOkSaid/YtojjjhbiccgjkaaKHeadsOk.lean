/- The walk of the law FnExactHeadsOk; what spec.HeadsOk and impl.HeadsOk do comes in as hypotheses. Written by gen_law.py. -/
import Derived.Test.YtojjjhbiccgjkaaData
import Derived.Test.YtojjjhbiccgjkaaSHead
import Derived.Test.YtojjjhbiccgjkaaStr
import Derived.Test.YtojjjhbiccgjkaaOpen
import Derived.Test.YtojjjhbiccgjkaaSeat
namespace Go.Proofs.Ytojjjhbiccgjkaa
set_option linter.unusedVariables false
set_option linter.unusedSimpArgs false
open Go.RowKit
attribute [local go_sem ↓] Go.wp_at_zero Go.wp_at_succ

def specHeadsOk_does (z0 : Int) (n1 : Nat) (l1 : List Hd) (br0 : Bool) : Prop :=
    (n1 + sumBy Hd.bulk l1) ≤ 1048576 → ∀ (B1 : Option Addr) (g1 aA1 bA1 : Nat) (W : World), Rd W aA1 bA1 B1 (hds l1) → g1 = n1 → Calls Try.prog 49 #[.int .i64 z0, .slice B1 n1 g1] W fun r W' => r = .returned (.bool br0) ∧ Below W.heap.size W W'
def implHeadsOk_does (z0 : Int) (n1 : Nat) (l1 : List Hd) (br0 : Bool) : Prop :=
    (n1 + sumBy Hd.bulk l1) ≤ 1048576 → ∀ (B1 : Option Addr) (g1 aA1 bA1 : Nat) (W : World), Rd W aA1 bA1 B1 (hds l1) → g1 = n1 → Calls Try.prog 51 #[.int .i64 z0, .slice B1 n1 g1] W fun r W' => r = .returned (.bool br0) ∧ Below W.heap.size W W'
set_option maxRecDepth 100000 in
set_option maxHeartbeats 4000000 in
theorem walk_HeadsOk (z0 : Int) (A1 : Option Addr) (c1 : Nat) (n1 : Nat) (l1 : List Hd) (br0 : Bool) (w : World) (hrA1 : Rd w 0 w.heap.size A1 (hds l1)) (hnA1 : l1.length = n1) (hlA1 : n1 ≤ maxLen) (hsA1 : ∀ x ∈ l1, x.fits) (HSP : specHeadsOk_does z0 n1 l1 br0) (HIM : implHeadsOk_does z0 n1 l1 br0) :
    Calls Try.prog 11 #[.int .i64 z0, .slice A1 n1 c1] w fun e w' => e = .returned (.bool true) ∧ Below w.heap.size w w' := by
  have HNA1 := Lib.hid hnA1
  have HSA1 := Lib.hid hsA1
  clear hnA1 hsA1
  have HB0 : Hid (Below w.heap.size w w) := Below.refl _ _
  go_enter Try.func11, Try.ntmps11
  go_wp2_with fail
  refine (szHeadS_c A1 _ _ _ n1 l1 _ _ (hrA1.below (by ((repeat (first | refine Below.alloc ?_ (by first | omega | (simp; done) | (simp; omega)) _ | refine Below.drew ?_)); exact HB0.out))) HNA1.out hlA1 HSA1.out (by omega) (by omega)).mono ?_
  rintro e w1 ⟨rfl, hb1⟩
  have hz1 : w.heap.size ≤ w1.heap.size := by have := hb1.size; first | omega | (simp at this; omega)
  have hzz1 : w.heap.size ≤ w1.heap.size := by omega
  have HB1 : Hid (Below w.heap.size w w1) := below_then (by ((repeat (first | refine Below.alloc ?_ (by first | omega | (simp; done) | (simp; omega)) _ | refine Below.drew ?_)); exact HB0.out)) hb1 (by first | omega | (simp; done) | (simp; omega))
  clear hb1
  go_wp2_with fail
  · go_ret
    exact ⟨rfl, HB1.out⟩
  · have hp1 : 0 ≤ szF 1048576 ((n1 + sumBy Hd.bulk l1)) := by assumption
    have hg1 := (szF_le 1048576 ((n1 + sumBy Hd.bulk l1)) (by omega)).2
    have hbk : (n1 + sumBy Hd.bulk l1) ≤ 1048576 := by have := (szF_pos hp1).1; omega
    have hmA1 : n1 ≤ 1048576 := by omega
    refine (toHeadS_c A1 _ _ _ n1 l1 _ (hrA1.below (by ((repeat (first | refine Below.alloc ?_ (by first | omega | (simp; done) | (simp; omega)) _ | refine Below.drew ?_)); exact HB1.out))) HNA1.out hmA1).mono ?_
    rintro e w2 ⟨TwA1, rfl, ho, hb2⟩
    have hz2 : w1.heap.size ≤ w2.heap.size := by have := hb2.size; first | omega | (simp at this; omega)
    have hzz2 : w.heap.size ≤ w2.heap.size := by omega
    have HB2 : Hid (Below w.heap.size w w2) := below_then (by ((repeat (first | refine Below.alloc ?_ (by first | omega | (simp; done) | (simp; omega)) _ | refine Below.drew ?_)); exact HB1.out)) hb2 (by first | omega | (simp; done) | (simp; omega))
    obtain ⟨qTwA1, hqTwA1, hqqTwA1, HOTwA1⟩ : ∃ q, w1.heap.size ≤ q ∧ w2.heap.size ≤ w2.heap.size ∧ Hid (Own w2 q w2.heap.size TwA1 (hds l1)) := ⟨_, by first | omega | (simp at *; done) | (simp at *; omega), by first | omega | (simp at *; done) | (simp at *; omega), ho⟩
    clear hb2 ho
    go_wp2_with fail
    refine (HSP hbk _ _ _ _ _ (HOTwA1.out.rd) rfl).mono ?_
    rintro e w3 ⟨rfl, hb3⟩
    have hz3 : w2.heap.size ≤ w3.heap.size := by have := hb3.size; first | omega | (simp at this; omega)
    have hzz3 : w.heap.size ≤ w3.heap.size := by omega
    have HB3 : Hid (Below w.heap.size w w3) := below_then (by ((repeat (first | refine Below.alloc ?_ (by first | omega | (simp; done) | (simp; omega)) _ | refine Below.drew ?_)); exact HB2.out)) hb3 (by first | omega | (simp; done) | (simp; omega))
    replace HOTwA1 : Hid (Own w3 qTwA1 w2.heap.size TwA1 (hds l1)) := HOTwA1.out.below hb3
    clear hb3 
    go_wp2_with fail
    refine (toHeadS_c A1 _ _ _ n1 l1 _ (hrA1.below (by ((repeat (first | refine Below.alloc ?_ (by first | omega | (simp; done) | (simp; omega)) _ | refine Below.drew ?_)); exact HB3.out))) HNA1.out hmA1).mono ?_
    rintro e w4 ⟨Tx1A1, rfl, ho, hb4⟩
    have hz4 : w3.heap.size ≤ w4.heap.size := by have := hb4.size; first | omega | (simp at this; omega)
    have hzz4 : w.heap.size ≤ w4.heap.size := by omega
    have HB4 : Hid (Below w.heap.size w w4) := below_then (by ((repeat (first | refine Below.alloc ?_ (by first | omega | (simp; done) | (simp; omega)) _ | refine Below.drew ?_)); exact HB3.out)) hb4 (by first | omega | (simp; done) | (simp; omega))
    replace HOTwA1 : Hid (Own w4 qTwA1 w2.heap.size TwA1 (hds l1)) := HOTwA1.out.below hb4
    obtain ⟨qTx1A1, hqTx1A1, hqqTx1A1, HOTx1A1⟩ : ∃ q, w3.heap.size ≤ q ∧ w4.heap.size ≤ w4.heap.size ∧ Hid (Own w4 q w4.heap.size Tx1A1 (hds l1)) := ⟨_, by first | omega | (simp at *; done) | (simp at *; omega), by first | omega | (simp at *; done) | (simp at *; omega), ho⟩
    clear hb4 ho
    go_wp2_with fail
    refine (HIM hbk _ _ _ _ _ (HOTx1A1.out.rd) rfl).mono ?_
    rintro e w5 ⟨rfl, hb5⟩
    have hz5 : w4.heap.size ≤ w5.heap.size := by have := hb5.size; first | omega | (simp at this; omega)
    have hzz5 : w.heap.size ≤ w5.heap.size := by omega
    have HB5 : Hid (Below w.heap.size w w5) := below_then (by ((repeat (first | refine Below.alloc ?_ (by first | omega | (simp; done) | (simp; omega)) _ | refine Below.drew ?_)); exact HB4.out)) hb5 (by first | omega | (simp; done) | (simp; omega))
    replace HOTwA1 : Hid (Own w5 qTwA1 w2.heap.size TwA1 (hds l1)) := HOTwA1.out.below hb5
    replace HOTx1A1 : Hid (Own w5 qTx1A1 w4.heap.size Tx1A1 (hds l1)) := HOTx1A1.out.below hb5
    clear hb5 
    go_wp2_with fail
    refine (toHeadS_c A1 _ _ _ n1 l1 _ (hrA1.below (by ((repeat (first | refine Below.alloc ?_ (by first | omega | (simp; done) | (simp; omega)) _ | refine Below.drew ?_)); exact HB5.out))) HNA1.out hmA1).mono ?_
    rintro e w6 ⟨TE5A1, rfl, ho, hb6⟩
    have hz6 : w5.heap.size ≤ w6.heap.size := by have := hb6.size; first | omega | (simp at this; omega)
    have hzz6 : w.heap.size ≤ w6.heap.size := by omega
    have HB6 : Hid (Below w.heap.size w w6) := below_then (by ((repeat (first | refine Below.alloc ?_ (by first | omega | (simp; done) | (simp; omega)) _ | refine Below.drew ?_)); exact HB5.out)) hb6 (by first | omega | (simp; done) | (simp; omega))
    replace HOTwA1 : Hid (Own w6 qTwA1 w2.heap.size TwA1 (hds l1)) := HOTwA1.out.below hb6
    replace HOTx1A1 : Hid (Own w6 qTx1A1 w4.heap.size Tx1A1 (hds l1)) := HOTx1A1.out.below hb6
    obtain ⟨qTE5A1, hqTE5A1, hqqTE5A1, HOTE5A1⟩ : ∃ q, w5.heap.size ≤ q ∧ w6.heap.size ≤ w6.heap.size ∧ Hid (Own w6 q w6.heap.size TE5A1 (hds l1)) := ⟨_, by first | omega | (simp at *; done) | (simp at *; omega), by first | omega | (simp at *; done) | (simp at *; omega), ho⟩
    clear hb6 ho
    go_wp2_with fail
    refine (eqHeadS_c Tx1A1 TE5A1 _ _ _ _ _ _ n1 n1 l1 _ (HOTx1A1.out.rd) (HOTE5A1.out.rd) HNA1.out HNA1.out (by unfold maxLen; omega)).mono ?_
    rintro e w7 ⟨rfl, hb7⟩
    have hz7 : w6.heap.size ≤ w7.heap.size := by have := hb7.size; first | omega | (simp at this; omega)
    have hzz7 : w.heap.size ≤ w7.heap.size := by omega
    have HB7 : Hid (Below w.heap.size w w7) := below_then (by ((repeat (first | refine Below.alloc ?_ (by first | omega | (simp; done) | (simp; omega)) _ | refine Below.drew ?_)); exact HB6.out)) hb7 (by first | omega | (simp; done) | (simp; omega))
    replace HOTwA1 : Hid (Own w7 qTwA1 w2.heap.size TwA1 (hds l1)) := HOTwA1.out.below hb7
    replace HOTx1A1 : Hid (Own w7 qTx1A1 w4.heap.size Tx1A1 (hds l1)) := HOTx1A1.out.below hb7
    replace HOTE5A1 : Hid (Own w7 qTE5A1 w6.heap.size TE5A1 (hds l1)) := HOTE5A1.out.below hb7
    clear hb7
    clear HOTE5A1
    go_wp2
    go_ret
    exact ⟨rfl, HB7.out⟩

section
open Go.ChangeShapes Go.WideShapes Go.ChangeAt
open Go.ChangeMaps (open_string)
set_option maxRecDepth 100000 in
theorem lifted_HeadsOk (f0 : Int → (List Hd) → Bool) (hsp : ∀ (z0 : Int) (l1 : List Hd), (I64 z0) → (∀ x ∈ l1, x.fits) → specHeadsOk_does z0 l1.length l1 (f0 z0 l1)) (him : ∀ (z0 : Int) (l1 : List Hd), (I64 z0) → (∀ x ∈ l1, x.fits) → implHeadsOk_does z0 l1.length l1 (f0 z0 l1))  (os : Os) (started : os.Started) (H : Type) (enc : TypeId × Value → H) :
    ReturnsInHanded {} Try.checked os 11 .any (Rows.fnExactHeadsOkSpec.pre6 enc Try.prog Try.f11 Rows.fnExactHeadsOkRow.domain false) (Rows.fnExactHeadsOkSpec.post enc Try.prog Try.f11 false true false false) := by
  refine returnsInHanded_of_change (C := Try.checked) Try.own started (by kernel_rfl) Try.func11
    (ChangeSpec.witness6 (enc := enc) (C := Try.checked) false ⟨#[], #[.int .i64 0, .slice none 0 0], []⟩ 8 (by kernel_rfl) (by kernel_rfl) (by kernel_rfl) (by kernel_rfl)) ?_
  intro W base args ds gs before hval0 hW hcnd _
  have hval : ∀ (j : Nat) t v, Try.f11.params[j]? = some t → args[j]? = some v → Value.okWide Try.prog W .any base t v := hval0
  have hW' := hW
  obtain ⟨p, q, hA0, hV, rfl, hfz, hnd⟩ := hW
  have hA : DataW.TrodAll enc Try.prog W 0 (fun _ => true) true Try.f11.params.toList args.toList ds p := hA0
  rw [Try.params11] at hA hval
  obtain ⟨v0, vs0, d0, ds0, p0, q0, hargs, rfl, rfl, h0, r0⟩ := trodAll_cons hA
  obtain ⟨v1, vs1, d1, ds1, p1, q1, rfl, rfl, rfl, h1, r1⟩ := trodAll_cons r0
  obtain ⟨rfl, rfl, rfl⟩ := trodAll_nil r1
  obtain rfl : args = #[v0, v1] := by cases args; simp_all
  obtain ⟨rfl, rfl⟩ := trodVars_none hV
  have lt0 : ∀ x ∈ p0, x.block < W.heap.size := by obtain ⟨m, hm⟩ := h0; exact DataW.trod_lt m _ _ _ hm
  have kk0 := h0
  have lt1 : ∀ x ∈ p1, x.block < W.heap.size := by obtain ⟨m, hm⟩ := h1; exact DataW.trod_lt m _ _ _ hm
  have kk1 := h1
  obtain ⟨z0, rfl, rfl, rfl, wi0⟩ := open_int Try.underlying3 (hval 0 _ v0 rfl rfl) h0
  have hiz0 : I64 z0 := i64_of_wf wi0
  obtain ⟨A1, n1, c1, l1, rfl, o1, hil1⟩ := open_HeadS (hval 1 _ v1 rfl rfl) h1
  obtain ⟨rfl, o1b, o1c, o1d⟩ := o1
  clear hA0 hval0
  refine (walk_HeadsOk z0 A1 c1 _ l1 _ W o1d rfl (Nat.le_trans o1b o1c) hil1  (hsp z0 l1 hiz0 hil1) (him z0 l1 hiz0 hil1)).mono fun e W' ⟨he, bel⟩ => ?_
  subst he
  exact ⟨_, rfl, _, _, _, [], _, [], hW', trodAll_mk1 (shut_bool Try.underlying4 _), (trodAll_cons_mk (Below.trod Try.laidOut (by kernel_rfl) (of_decide_eq_true (by kernel_rfl)) kk0 bel lt0) (trodAll_cons_mk (Below.trod Try.laidOut (by kernel_rfl) (of_decide_eq_true (by kernel_rfl)) kk1 bel lt1) trodAll_mk0)), rfl, bel.frame _, fun h => by cases h⟩
theorem said_HeadsOk (f0 : Int → (List Hd) → Bool) (hsp : ∀ (z0 : Int) (l1 : List Hd), (I64 z0) → (∀ x ∈ l1, x.fits) → specHeadsOk_does z0 l1.length l1 (f0 z0 l1)) (him : ∀ (z0 : Int) (l1 : List Hd), (I64 z0) → (∀ x ∈ l1, x.fits) → implHeadsOk_does z0 l1.length l1 (f0 z0 l1))  : Rows.FnExactHeadsOkSaid :=
  OpenClaim.holds_of_wide 11 Try.f11 rfl rfl rfl rfl rfl rfl rfl ⟨rfl, rfl, rfl, rfl, rfl⟩ rfl rfl rfl rfl rfl (by kernel_rfl) Try.func11 (by show joinedFacts Try.prog 11 Try.f11 Rows.fnExactHeadsOkSpec Rows.fnExactHeadsOkRow = true; unfold joinedFacts; rw [seat_enter, seat_final, seat_make]; kernel_rfl)
    (of_decide_eq_true (by kernel_rfl)) (by unfold Func.isWrapper; first | (rw [if_pos (by decide +kernel)]; kernel_rfl) | (rw [if_neg (by decide +kernel)]; exact ⟨rfl, rfl⟩))
    (fun os started H enc _ => lifted_HeadsOk f0 hsp him os started H enc)
end
end Go.Proofs.Ytojjjhbiccgjkaa
