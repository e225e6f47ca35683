/- The walk of the law FnExactCheckBetween; what spec.CheckBetween and impl.CheckBetween do comes in as hypotheses. Written by gen_law.py. -/
import Derived.Test.YtojjjhbiccgjkaaData
import Derived.Test.YtojjjhbiccgjkaaStr
import Derived.Test.YtojjjhbiccgjkaaOpen
import Derived.Test.YtojjjhbiccgjkaaSeat
namespace Go.Proofs.Ytojjjhbiccgjkaa
set_option linter.unusedVariables false
set_option linter.unusedSimpArgs false
open Go.RowKit
attribute [local go_sem ↓] Go.wp_at_zero Go.wp_at_succ

def specCheckBetween_does (z0 : Int) (z1 : Int) (s2 : ByteArray) (z3 : Int) (s4 : ByteArray) (n5 : Nat) (l5 : List ByteArray) (br0 : Bool) : Prop :=
    s2.size ≤ 1048576 → s4.size ≤ 1048576 → (n5 + bulkS l5) ≤ 1048576 → ∀ (B5 : Option Addr) (g5 aA5 bA5 : Nat) (W : World), Rd W aA5 bA5 B5 (strs l5) → g5 = n5 → Calls Try.prog 79 #[.int .i64 z0, .int .i64 z1, .string s2, .int .i64 z3, .string s4, .slice B5 n5 g5] W fun r W' => r = .returned (.bool br0) ∧ Below W.heap.size W W'
def implCheckBetween_does (z0 : Int) (z1 : Int) (s2 : ByteArray) (z3 : Int) (s4 : ByteArray) (n5 : Nat) (l5 : List ByteArray) (br0 : Bool) : Prop :=
    s2.size ≤ 1048576 → s4.size ≤ 1048576 → (n5 + bulkS l5) ≤ 1048576 → ∀ (B5 : Option Addr) (g5 aA5 bA5 : Nat) (W : World), Rd W aA5 bA5 B5 (strs l5) → g5 = n5 → Calls Try.prog 80 #[.int .i64 z0, .int .i64 z1, .string s2, .int .i64 z3, .string s4, .slice B5 n5 g5] W fun r W' => r = .returned (.bool br0) ∧ Below W.heap.size W W'
set_option maxRecDepth 100000 in
set_option maxHeartbeats 4000000 in
theorem walk_CheckBetween (z0 : Int) (z1 : Int) (s2 : ByteArray) (z3 : Int) (s4 : ByteArray) (A5 : Option Addr) (c5 : Nat) (n5 : Nat) (l5 : List ByteArray) (br0 : Bool) (w : World) (hts2 : s2.size ≤ maxLen) (hts4 : s4.size ≤ maxLen) (hrA5 : Rd w 0 w.heap.size A5 (strs l5)) (hnA5 : l5.length = n5) (hlA5 : n5 ≤ maxLen) (hsA5 : ∀ x ∈ l5, x.size ≤ maxLen) (HSP : specCheckBetween_does z0 z1 s2 z3 s4 n5 l5 br0) (HIM : implCheckBetween_does z0 z1 s2 z3 s4 n5 l5 br0) :
    Calls Try.prog 20 #[.int .i64 z0, .int .i64 z1, .string s2, .int .i64 z3, .string s4, .slice A5 n5 c5] w fun e w' => e = .returned (.bool true) ∧ Below w.heap.size w w' := by
  have HNA5 := Lib.hid hnA5
  have HSA5 := Lib.hid hsA5
  clear hnA5 hsA5
  simp only [maxLen] at hts2
  simp only [maxLen] at hts4
  have HB0 : Hid (Below w.heap.size w w) := Below.refl _ _
  go_enter Try.func20, Try.ntmps20
  go_wp2_with fail
  · go_ret
    exact ⟨rfl, by ((repeat (first | refine Below.alloc ?_ (by first | omega | (simp; done) | (simp; omega)) _ | refine Below.drew ?_)); exact HB0.out)⟩
  · go_ret
    exact ⟨rfl, by ((repeat (first | refine Below.alloc ?_ (by first | omega | (simp; done) | (simp; omega)) _ | refine Below.drew ?_)); exact HB0.out)⟩
  · have hstr : True := trivial
    have hus2 : s2.size ≤ 1048576 := by have h1 : (s2.size : Int) ≤ 1048576 := (by assumption); omega
    have hus4 : s4.size ≤ 1048576 := by have h1 : (s4.size : Int) ≤ 1048576 := (by assumption); omega
    refine (szStringS_c' A5 _ _ _ n5 l5 _ _ (hrA5.below (by ((repeat (first | refine Below.alloc ?_ (by first | omega | (simp; done) | (simp; omega)) _ | refine Below.drew ?_)); exact HB0.out))) HNA5.out hlA5 HSA5.out (by omega) (by omega)).mono ?_
    rintro e w1 ⟨rfl, hb1⟩
    have hz1 : w.heap.size ≤ w1.heap.size := by have := hb1.size; first | omega | (simp at this; omega)
    have hzz1 : w.heap.size ≤ w1.heap.size := by omega
    have HB1 : Hid (Below w.heap.size w w1) := below_then (by ((repeat (first | refine Below.alloc ?_ (by first | omega | (simp; done) | (simp; omega)) _ | refine Below.drew ?_)); exact HB0.out)) hb1 (by first | omega | (simp; done) | (simp; omega))
    clear hb1
    go_wp2_with fail
    · go_ret
      exact ⟨rfl, HB1.out⟩
    · have hp1 : 0 ≤ szF 1048576 ((n5 + bulkS l5)) := by assumption
      have hg1 := (szF_le 1048576 ((n5 + bulkS l5)) (by omega)).2
      have hbk : (n5 + bulkS l5) ≤ 1048576 := by have := (szF_pos hp1).1; omega
      have hmA5 : n5 ≤ 1048576 := by omega
      refine (toStringS_c' A5 _ _ _ n5 l5 _ (hrA5.below (by ((repeat (first | refine Below.alloc ?_ (by first | omega | (simp; done) | (simp; omega)) _ | refine Below.drew ?_)); exact HB1.out))) HNA5.out hmA5).mono ?_
      rintro e w2 ⟨TwA5, rfl, ho, hb2⟩
      have hz2 : w1.heap.size ≤ w2.heap.size := by have := hb2.size; first | omega | (simp at this; omega)
      have hzz2 : w.heap.size ≤ w2.heap.size := by omega
      have HB2 : Hid (Below w.heap.size w w2) := below_then (by ((repeat (first | refine Below.alloc ?_ (by first | omega | (simp; done) | (simp; omega)) _ | refine Below.drew ?_)); exact HB1.out)) hb2 (by first | omega | (simp; done) | (simp; omega))
      obtain ⟨qTwA5, hqTwA5, hqqTwA5, HOTwA5⟩ : ∃ q, w1.heap.size ≤ q ∧ w2.heap.size ≤ w2.heap.size ∧ Hid (Own w2 q w2.heap.size TwA5 (strs l5)) := ⟨_, by first | omega | (simp at *; done) | (simp at *; omega), by first | omega | (simp at *; done) | (simp at *; omega), ho⟩
      clear hb2 ho
      go_wp2_with fail
      refine (HSP hus2 hus4 hbk _ _ _ _ _ (HOTwA5.out.rd) rfl).mono ?_
      rintro e w3 ⟨rfl, hb3⟩
      have hz3 : w2.heap.size ≤ w3.heap.size := by have := hb3.size; first | omega | (simp at this; omega)
      have hzz3 : w.heap.size ≤ w3.heap.size := by omega
      have HB3 : Hid (Below w.heap.size w w3) := below_then (by ((repeat (first | refine Below.alloc ?_ (by first | omega | (simp; done) | (simp; omega)) _ | refine Below.drew ?_)); exact HB2.out)) hb3 (by first | omega | (simp; done) | (simp; omega))
      replace HOTwA5 : Hid (Own w3 qTwA5 w2.heap.size TwA5 (strs l5)) := HOTwA5.out.below hb3
      clear hb3 
      go_wp2_with fail
      refine (toStringS_c' A5 _ _ _ n5 l5 _ (hrA5.below (by ((repeat (first | refine Below.alloc ?_ (by first | omega | (simp; done) | (simp; omega)) _ | refine Below.drew ?_)); exact HB3.out))) HNA5.out hmA5).mono ?_
      rintro e w4 ⟨Tx5A5, rfl, ho, hb4⟩
      have hz4 : w3.heap.size ≤ w4.heap.size := by have := hb4.size; first | omega | (simp at this; omega)
      have hzz4 : w.heap.size ≤ w4.heap.size := by omega
      have HB4 : Hid (Below w.heap.size w w4) := below_then (by ((repeat (first | refine Below.alloc ?_ (by first | omega | (simp; done) | (simp; omega)) _ | refine Below.drew ?_)); exact HB3.out)) hb4 (by first | omega | (simp; done) | (simp; omega))
      replace HOTwA5 : Hid (Own w4 qTwA5 w2.heap.size TwA5 (strs l5)) := HOTwA5.out.below hb4
      obtain ⟨qTx5A5, hqTx5A5, hqqTx5A5, HOTx5A5⟩ : ∃ q, w3.heap.size ≤ q ∧ w4.heap.size ≤ w4.heap.size ∧ Hid (Own w4 q w4.heap.size Tx5A5 (strs l5)) := ⟨_, by first | omega | (simp at *; done) | (simp at *; omega), by first | omega | (simp at *; done) | (simp at *; omega), ho⟩
      clear hb4 ho
      go_wp2_with fail
      refine (HIM hus2 hus4 hbk _ _ _ _ _ (HOTx5A5.out.rd) rfl).mono ?_
      rintro e w5 ⟨rfl, hb5⟩
      have hz5 : w4.heap.size ≤ w5.heap.size := by have := hb5.size; first | omega | (simp at this; omega)
      have hzz5 : w.heap.size ≤ w5.heap.size := by omega
      have HB5 : Hid (Below w.heap.size w w5) := below_then (by ((repeat (first | refine Below.alloc ?_ (by first | omega | (simp; done) | (simp; omega)) _ | refine Below.drew ?_)); exact HB4.out)) hb5 (by first | omega | (simp; done) | (simp; omega))
      replace HOTwA5 : Hid (Own w5 qTwA5 w2.heap.size TwA5 (strs l5)) := HOTwA5.out.below hb5
      replace HOTx5A5 : Hid (Own w5 qTx5A5 w4.heap.size Tx5A5 (strs l5)) := HOTx5A5.out.below hb5
      clear hb5 
      go_wp2_with fail
      refine (toStringS_c' A5 _ _ _ n5 l5 _ (hrA5.below (by ((repeat (first | refine Below.alloc ?_ (by first | omega | (simp; done) | (simp; omega)) _ | refine Below.drew ?_)); exact HB5.out))) HNA5.out hmA5).mono ?_
      rintro e w6 ⟨TE5A5, rfl, ho, hb6⟩
      have hz6 : w5.heap.size ≤ w6.heap.size := by have := hb6.size; first | omega | (simp at this; omega)
      have hzz6 : w.heap.size ≤ w6.heap.size := by omega
      have HB6 : Hid (Below w.heap.size w w6) := below_then (by ((repeat (first | refine Below.alloc ?_ (by first | omega | (simp; done) | (simp; omega)) _ | refine Below.drew ?_)); exact HB5.out)) hb6 (by first | omega | (simp; done) | (simp; omega))
      replace HOTwA5 : Hid (Own w6 qTwA5 w2.heap.size TwA5 (strs l5)) := HOTwA5.out.below hb6
      replace HOTx5A5 : Hid (Own w6 qTx5A5 w4.heap.size Tx5A5 (strs l5)) := HOTx5A5.out.below hb6
      obtain ⟨qTE5A5, hqTE5A5, hqqTE5A5, HOTE5A5⟩ : ∃ q, w5.heap.size ≤ q ∧ w6.heap.size ≤ w6.heap.size ∧ Hid (Own w6 q w6.heap.size TE5A5 (strs l5)) := ⟨_, by first | omega | (simp at *; done) | (simp at *; omega), by first | omega | (simp at *; done) | (simp at *; omega), ho⟩
      clear hb6 ho
      go_wp2_with fail
      refine (eqStringS_c' Tx5A5 TE5A5 _ _ _ _ _ _ n5 n5 l5 _ (HOTx5A5.out.rd) (HOTE5A5.out.rd) HNA5.out HNA5.out (by unfold maxLen; omega)).mono ?_
      rintro e w7 ⟨rfl, hb7⟩
      have hz7 : w6.heap.size ≤ w7.heap.size := by have := hb7.size; first | omega | (simp at this; omega)
      have hzz7 : w.heap.size ≤ w7.heap.size := by omega
      have HB7 : Hid (Below w.heap.size w w7) := below_then (by ((repeat (first | refine Below.alloc ?_ (by first | omega | (simp; done) | (simp; omega)) _ | refine Below.drew ?_)); exact HB6.out)) hb7 (by first | omega | (simp; done) | (simp; omega))
      replace HOTwA5 : Hid (Own w7 qTwA5 w2.heap.size TwA5 (strs l5)) := HOTwA5.out.below hb7
      replace HOTx5A5 : Hid (Own w7 qTx5A5 w4.heap.size Tx5A5 (strs l5)) := HOTx5A5.out.below hb7
      replace HOTE5A5 : Hid (Own w7 qTE5A5 w6.heap.size TE5A5 (strs l5)) := HOTE5A5.out.below hb7
      clear hb7
      clear HOTE5A5
      go_wp2
      go_ret
      exact ⟨rfl, HB7.out⟩

section
open Go.ChangeShapes Go.WideShapes Go.ChangeAt
open Go.ChangeMaps (open_string)
set_option maxRecDepth 100000 in
theorem lifted_CheckBetween (f0 : Int → Int → ByteArray → Int → ByteArray → (List ByteArray) → Bool) (hsp : ∀ (z0 : Int) (z1 : Int) (s2 : ByteArray) (z3 : Int) (s4 : ByteArray) (l5 : List ByteArray), (I64 z0) → (I64 z1) → (I64 z3) → specCheckBetween_does z0 z1 s2 z3 s4 l5.length l5 (f0 z0 z1 s2 z3 s4 l5)) (him : ∀ (z0 : Int) (z1 : Int) (s2 : ByteArray) (z3 : Int) (s4 : ByteArray) (l5 : List ByteArray), (I64 z0) → (I64 z1) → (I64 z3) → implCheckBetween_does z0 z1 s2 z3 s4 l5.length l5 (f0 z0 z1 s2 z3 s4 l5))  (os : Os) (started : os.Started) (H : Type) (enc : TypeId × Value → H) :
    ReturnsInHanded {} Try.checked os 20 .any (Rows.fnExactCheckBetweenSpec.pre6 enc Try.prog Try.f20 Rows.fnExactCheckBetweenRow.domain false) (Rows.fnExactCheckBetweenSpec.post enc Try.prog Try.f20 false true false false) := by
  refine returnsInHanded_of_change (C := Try.checked) Try.own started (by kernel_rfl) Try.func20
    (ChangeSpec.witness6 (enc := enc) (C := Try.checked) false ⟨#[], #[.int .i64 0, .int .i64 0, .string ByteArray.empty, .int .i64 0, .string ByteArray.empty, .slice none 0 0], []⟩ 8 (by kernel_rfl) (by kernel_rfl) (by kernel_rfl) (by kernel_rfl)) ?_
  intro W base args ds gs before hval0 hW hcnd _
  have hval : ∀ (j : Nat) t v, Try.f20.params[j]? = some t → args[j]? = some v → Value.okWide Try.prog W .any base t v := hval0
  have hW' := hW
  obtain ⟨p, q, hA0, hV, rfl, hfz, hnd⟩ := hW
  have hA : DataW.TrodAll enc Try.prog W 0 (fun _ => true) true Try.f20.params.toList args.toList ds p := hA0
  rw [Try.params20] at hA hval
  obtain ⟨v0, vs0, d0, ds0, p0, q0, hargs, rfl, rfl, h0, r0⟩ := trodAll_cons hA
  obtain ⟨v1, vs1, d1, ds1, p1, q1, rfl, rfl, rfl, h1, r1⟩ := trodAll_cons r0
  obtain ⟨v2, vs2, d2, ds2, p2, q2, rfl, rfl, rfl, h2, r2⟩ := trodAll_cons r1
  obtain ⟨v3, vs3, d3, ds3, p3, q3, rfl, rfl, rfl, h3, r3⟩ := trodAll_cons r2
  obtain ⟨v4, vs4, d4, ds4, p4, q4, rfl, rfl, rfl, h4, r4⟩ := trodAll_cons r3
  obtain ⟨v5, vs5, d5, ds5, p5, q5, rfl, rfl, rfl, h5, r5⟩ := trodAll_cons r4
  obtain ⟨rfl, rfl, rfl⟩ := trodAll_nil r5
  obtain rfl : args = #[v0, v1, v2, v3, v4, v5] := by cases args; simp_all
  obtain ⟨rfl, rfl⟩ := trodVars_none hV
  have lt0 : ∀ x ∈ p0, x.block < W.heap.size := by obtain ⟨m, hm⟩ := h0; exact DataW.trod_lt m _ _ _ hm
  have kk0 := h0
  have lt1 : ∀ x ∈ p1, x.block < W.heap.size := by obtain ⟨m, hm⟩ := h1; exact DataW.trod_lt m _ _ _ hm
  have kk1 := h1
  have lt2 : ∀ x ∈ p2, x.block < W.heap.size := by obtain ⟨m, hm⟩ := h2; exact DataW.trod_lt m _ _ _ hm
  have kk2 := h2
  have lt3 : ∀ x ∈ p3, x.block < W.heap.size := by obtain ⟨m, hm⟩ := h3; exact DataW.trod_lt m _ _ _ hm
  have kk3 := h3
  have lt4 : ∀ x ∈ p4, x.block < W.heap.size := by obtain ⟨m, hm⟩ := h4; exact DataW.trod_lt m _ _ _ hm
  have kk4 := h4
  have lt5 : ∀ x ∈ p5, x.block < W.heap.size := by obtain ⟨m, hm⟩ := h5; exact DataW.trod_lt m _ _ _ hm
  have kk5 := h5
  obtain ⟨z0, rfl, rfl, rfl, wi0⟩ := open_int Try.underlying3 (hval 0 _ v0 rfl rfl) h0
  have hiz0 : I64 z0 := i64_of_wf wi0
  obtain ⟨z1, rfl, rfl, rfl, wi1⟩ := open_int Try.underlying3 (hval 1 _ v1 rfl rfl) h1
  have hiz1 : I64 z1 := i64_of_wf wi1
  obtain ⟨s2, rfl, rfl, rfl, hs2⟩ := open_string Try.underlying9 (hval 2 _ v2 rfl rfl) h2
  obtain ⟨z3, rfl, rfl, rfl, wi3⟩ := open_int Try.underlying3 (hval 3 _ v3 rfl rfl) h3
  have hiz3 : I64 z3 := i64_of_wf wi3
  obtain ⟨s4, rfl, rfl, rfl, hs4⟩ := open_string Try.underlying9 (hval 4 _ v4 rfl rfl) h4
  obtain ⟨A5, n5, c5, l5, rfl, o5, hil5⟩ := open_strs (hval 5 _ v5 rfl rfl) h5
  obtain ⟨rfl, o5b, o5c, o5d⟩ := o5
  clear hA0 hval0
  refine (walk_CheckBetween z0 z1 s2 z3 s4 A5 c5 _ l5 _ W hs2 hs4 o5d rfl (Nat.le_trans o5b o5c) hil5  (hsp z0 z1 s2 z3 s4 l5 hiz0 hiz1 hiz3) (him z0 z1 s2 z3 s4 l5 hiz0 hiz1 hiz3)).mono fun e W' ⟨he, bel⟩ => ?_
  subst he
  exact ⟨_, rfl, _, _, _, [], _, [], hW', trodAll_mk1 (shut_bool Try.underlying4 _), (trodAll_cons_mk (Below.trod Try.laidOut (by kernel_rfl) (of_decide_eq_true (by kernel_rfl)) kk0 bel lt0) (trodAll_cons_mk (Below.trod Try.laidOut (by kernel_rfl) (of_decide_eq_true (by kernel_rfl)) kk1 bel lt1) (trodAll_cons_mk (Below.trod Try.laidOut (by kernel_rfl) (of_decide_eq_true (by kernel_rfl)) kk2 bel lt2) (trodAll_cons_mk (Below.trod Try.laidOut (by kernel_rfl) (of_decide_eq_true (by kernel_rfl)) kk3 bel lt3) (trodAll_cons_mk (Below.trod Try.laidOut (by kernel_rfl) (of_decide_eq_true (by kernel_rfl)) kk4 bel lt4) (trodAll_cons_mk (Below.trod Try.laidOut (by kernel_rfl) (of_decide_eq_true (by kernel_rfl)) kk5 bel lt5) trodAll_mk0)))))), rfl, bel.frame _, fun h => by cases h⟩
theorem said_CheckBetween (f0 : Int → Int → ByteArray → Int → ByteArray → (List ByteArray) → Bool) (hsp : ∀ (z0 : Int) (z1 : Int) (s2 : ByteArray) (z3 : Int) (s4 : ByteArray) (l5 : List ByteArray), (I64 z0) → (I64 z1) → (I64 z3) → specCheckBetween_does z0 z1 s2 z3 s4 l5.length l5 (f0 z0 z1 s2 z3 s4 l5)) (him : ∀ (z0 : Int) (z1 : Int) (s2 : ByteArray) (z3 : Int) (s4 : ByteArray) (l5 : List ByteArray), (I64 z0) → (I64 z1) → (I64 z3) → implCheckBetween_does z0 z1 s2 z3 s4 l5.length l5 (f0 z0 z1 s2 z3 s4 l5))  : Rows.FnExactCheckBetweenSaid :=
  OpenClaim.holds_of_wide 20 Try.f20 rfl rfl rfl rfl rfl rfl rfl ⟨rfl, rfl, rfl, rfl, rfl⟩ rfl rfl rfl rfl rfl (by kernel_rfl) Try.func20 (by show joinedFacts Try.prog 20 Try.f20 Rows.fnExactCheckBetweenSpec Rows.fnExactCheckBetweenRow = true; unfold joinedFacts; rw [seat_enter, seat_final, seat_make]; kernel_rfl)
    (of_decide_eq_true (by kernel_rfl)) (by unfold Func.isWrapper; first | (rw [if_pos (by decide +kernel)]; kernel_rfl) | (rw [if_neg (by decide +kernel)]; exact ⟨rfl, rfl⟩))
    (fun os started H enc _ => lifted_CheckBetween f0 hsp him os started H enc)
end
end Go.Proofs.Ytojjjhbiccgjkaa
