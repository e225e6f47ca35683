/- The walk of the law FnExactRootsBy; what spec.RootsBy and impl.RootsBy do comes in as hypotheses. Written by gen_law.py. -/
import Derived.Test.YtojjjhbiccgjkaaData
import Derived.Test.YtojjjhbiccgjkaaStr
import Derived.Test.YtojjjhbiccgjkaaOpen
import Derived.Test.YtojjjhbiccgjkaaSeat
namespace Go.Proofs.Ytojjjhbiccgjkaa
set_option linter.unusedVariables false
set_option linter.unusedSimpArgs false
open Go.RowKit
attribute [local go_sem ↓] Go.wp_at_zero Go.wp_at_succ

def specRootsBy_does (z0 : Int) (z1 : Int) (s2 : ByteArray) (z3 : Int) (n4 : Nat) (l4 : List ByteArray) (sr0 : ByteArray) (sr1 : ByteArray) (br2 : Bool) : Prop :=
    s2.size ≤ 1048576 → (n4 + bulkS l4) ≤ 1048576 → ∀ (B4 : Option Addr) (g4 aA4 bA4 : Nat) (W : World), Rd W aA4 bA4 B4 (strs l4) → g4 = n4 → Calls Try.prog 70 #[.int .i64 z0, .int .i64 z1, .string s2, .int .i64 z3, .slice B4 n4 g4] W fun r W' => r = .returned (.tuple #[.string sr0, .string sr1, .bool br2]) ∧ Below W.heap.size W W'
def implRootsBy_does (z0 : Int) (z1 : Int) (s2 : ByteArray) (z3 : Int) (n4 : Nat) (l4 : List ByteArray) (sr0 : ByteArray) (sr1 : ByteArray) (br2 : Bool) : Prop :=
    s2.size ≤ 1048576 → (n4 + bulkS l4) ≤ 1048576 → ∀ (B4 : Option Addr) (g4 aA4 bA4 : Nat) (W : World), Rd W aA4 bA4 B4 (strs l4) → g4 = n4 → Calls Try.prog 71 #[.int .i64 z0, .int .i64 z1, .string s2, .int .i64 z3, .slice B4 n4 g4] W fun r W' => r = .returned (.tuple #[.string sr0, .string sr1, .bool br2]) ∧ Below W.heap.size W W'
set_option maxRecDepth 100000 in
set_option maxHeartbeats 4000000 in
theorem walk_RootsBy (z0 : Int) (z1 : Int) (s2 : ByteArray) (z3 : Int) (A4 : Option Addr) (c4 : Nat) (n4 : Nat) (l4 : List ByteArray) (sr0 : ByteArray) (sr1 : ByteArray) (br2 : Bool) (w : World) (hts2 : s2.size ≤ maxLen) (hrA4 : Rd w 0 w.heap.size A4 (strs l4)) (hnA4 : l4.length = n4) (hlA4 : n4 ≤ maxLen) (hsA4 : ∀ x ∈ l4, x.size ≤ maxLen) (HSP : specRootsBy_does z0 z1 s2 z3 n4 l4 sr0 sr1 br2) (HIM : implRootsBy_does z0 z1 s2 z3 n4 l4 sr0 sr1 br2) :
    Calls Try.prog 16 #[.int .i64 z0, .int .i64 z1, .string s2, .int .i64 z3, .slice A4 n4 c4] w fun e w' => e = .returned (.bool true) ∧ Below w.heap.size w w' := by
  have HNA4 := Lib.hid hnA4
  have HSA4 := Lib.hid hsA4
  clear hnA4 hsA4
  simp only [maxLen] at hts2
  have HB0 : Hid (Below w.heap.size w w) := Below.refl _ _
  go_enter Try.func16, Try.ntmps16
  go_wp2_with fail
  · go_ret
    exact ⟨rfl, by ((repeat (first | refine Below.alloc ?_ (by first | omega | (simp; done) | (simp; omega)) _ | refine Below.drew ?_)); exact HB0.out)⟩
  · have hstr : True := trivial
    have hus2 : s2.size ≤ 1048576 := by have h1 : (s2.size : Int) ≤ 1048576 := (by assumption); omega
    refine (szStringS_c' A4 _ _ _ n4 l4 _ _ (hrA4.below (by ((repeat (first | refine Below.alloc ?_ (by first | omega | (simp; done) | (simp; omega)) _ | refine Below.drew ?_)); exact HB0.out))) HNA4.out hlA4 HSA4.out (by omega) (by omega)).mono ?_
    rintro e w1 ⟨rfl, hb1⟩
    have hz1 : w.heap.size ≤ w1.heap.size := by have := hb1.size; first | omega | (simp at this; omega)
    have hzz1 : w.heap.size ≤ w1.heap.size := by omega
    have HB1 : Hid (Below w.heap.size w w1) := below_then (by ((repeat (first | refine Below.alloc ?_ (by first | omega | (simp; done) | (simp; omega)) _ | refine Below.drew ?_)); exact HB0.out)) hb1 (by first | omega | (simp; done) | (simp; omega))
    clear hb1
    go_wp2_with fail
    · go_ret
      exact ⟨rfl, HB1.out⟩
    · have hp1 : 0 ≤ szF 1048576 ((n4 + bulkS l4)) := by assumption
      have hg1 := (szF_le 1048576 ((n4 + bulkS l4)) (by omega)).2
      have hbk : (n4 + bulkS l4) ≤ 1048576 := by have := (szF_pos hp1).1; omega
      have hmA4 : n4 ≤ 1048576 := by omega
      refine (toStringS_c' A4 _ _ _ n4 l4 _ (hrA4.below (by ((repeat (first | refine Below.alloc ?_ (by first | omega | (simp; done) | (simp; omega)) _ | refine Below.drew ?_)); exact HB1.out))) HNA4.out hmA4).mono ?_
      rintro e w2 ⟨TwA4, rfl, ho, hb2⟩
      have hz2 : w1.heap.size ≤ w2.heap.size := by have := hb2.size; first | omega | (simp at this; omega)
      have hzz2 : w.heap.size ≤ w2.heap.size := by omega
      have HB2 : Hid (Below w.heap.size w w2) := below_then (by ((repeat (first | refine Below.alloc ?_ (by first | omega | (simp; done) | (simp; omega)) _ | refine Below.drew ?_)); exact HB1.out)) hb2 (by first | omega | (simp; done) | (simp; omega))
      obtain ⟨qTwA4, hqTwA4, hqqTwA4, HOTwA4⟩ : ∃ q, w1.heap.size ≤ q ∧ w2.heap.size ≤ w2.heap.size ∧ Hid (Own w2 q w2.heap.size TwA4 (strs l4)) := ⟨_, by first | omega | (simp at *; done) | (simp at *; omega), by first | omega | (simp at *; done) | (simp at *; omega), ho⟩
      clear hb2 ho
      go_wp2_with fail
      refine (HSP hus2 hbk _ _ _ _ _ (HOTwA4.out.rd) rfl).mono ?_
      rintro e w3 ⟨rfl, hb3⟩
      have hz3 : w2.heap.size ≤ w3.heap.size := by have := hb3.size; first | omega | (simp at this; omega)
      have hzz3 : w.heap.size ≤ w3.heap.size := by omega
      have HB3 : Hid (Below w.heap.size w w3) := below_then (by ((repeat (first | refine Below.alloc ?_ (by first | omega | (simp; done) | (simp; omega)) _ | refine Below.drew ?_)); exact HB2.out)) hb3 (by first | omega | (simp; done) | (simp; omega))
      replace HOTwA4 : Hid (Own w3 qTwA4 w2.heap.size TwA4 (strs l4)) := HOTwA4.out.below hb3
      clear hb3 
      go_wp2_with fail
      refine (toStringS_c' A4 _ _ _ n4 l4 _ (hrA4.below (by ((repeat (first | refine Below.alloc ?_ (by first | omega | (simp; done) | (simp; omega)) _ | refine Below.drew ?_)); exact HB3.out))) HNA4.out hmA4).mono ?_
      rintro e w4 ⟨Tx4A4, rfl, ho, hb4⟩
      have hz4 : w3.heap.size ≤ w4.heap.size := by have := hb4.size; first | omega | (simp at this; omega)
      have hzz4 : w.heap.size ≤ w4.heap.size := by omega
      have HB4 : Hid (Below w.heap.size w w4) := below_then (by ((repeat (first | refine Below.alloc ?_ (by first | omega | (simp; done) | (simp; omega)) _ | refine Below.drew ?_)); exact HB3.out)) hb4 (by first | omega | (simp; done) | (simp; omega))
      replace HOTwA4 : Hid (Own w4 qTwA4 w2.heap.size TwA4 (strs l4)) := HOTwA4.out.below hb4
      obtain ⟨qTx4A4, hqTx4A4, hqqTx4A4, HOTx4A4⟩ : ∃ q, w3.heap.size ≤ q ∧ w4.heap.size ≤ w4.heap.size ∧ Hid (Own w4 q w4.heap.size Tx4A4 (strs l4)) := ⟨_, by first | omega | (simp at *; done) | (simp at *; omega), by first | omega | (simp at *; done) | (simp at *; omega), ho⟩
      clear hb4 ho
      go_wp2_with fail
      refine (HIM hus2 hbk _ _ _ _ _ (HOTx4A4.out.rd) rfl).mono ?_
      rintro e w5 ⟨rfl, hb5⟩
      have hz5 : w4.heap.size ≤ w5.heap.size := by have := hb5.size; first | omega | (simp at this; omega)
      have hzz5 : w.heap.size ≤ w5.heap.size := by omega
      have HB5 : Hid (Below w.heap.size w w5) := below_then (by ((repeat (first | refine Below.alloc ?_ (by first | omega | (simp; done) | (simp; omega)) _ | refine Below.drew ?_)); exact HB4.out)) hb5 (by first | omega | (simp; done) | (simp; omega))
      replace HOTwA4 : Hid (Own w5 qTwA4 w2.heap.size TwA4 (strs l4)) := HOTwA4.out.below hb5
      replace HOTx4A4 : Hid (Own w5 qTx4A4 w4.heap.size Tx4A4 (strs l4)) := HOTx4A4.out.below hb5
      clear hb5 
      go_wp2_with fail
      refine (toStringS_c' A4 _ _ _ n4 l4 _ (hrA4.below (by ((repeat (first | refine Below.alloc ?_ (by first | omega | (simp; done) | (simp; omega)) _ | refine Below.drew ?_)); exact HB5.out))) HNA4.out hmA4).mono ?_
      rintro e w6 ⟨TE5A4, rfl, ho, hb6⟩
      have hz6 : w5.heap.size ≤ w6.heap.size := by have := hb6.size; first | omega | (simp at this; omega)
      have hzz6 : w.heap.size ≤ w6.heap.size := by omega
      have HB6 : Hid (Below w.heap.size w w6) := below_then (by ((repeat (first | refine Below.alloc ?_ (by first | omega | (simp; done) | (simp; omega)) _ | refine Below.drew ?_)); exact HB5.out)) hb6 (by first | omega | (simp; done) | (simp; omega))
      replace HOTwA4 : Hid (Own w6 qTwA4 w2.heap.size TwA4 (strs l4)) := HOTwA4.out.below hb6
      replace HOTx4A4 : Hid (Own w6 qTx4A4 w4.heap.size Tx4A4 (strs l4)) := HOTx4A4.out.below hb6
      obtain ⟨qTE5A4, hqTE5A4, hqqTE5A4, HOTE5A4⟩ : ∃ q, w5.heap.size ≤ q ∧ w6.heap.size ≤ w6.heap.size ∧ Hid (Own w6 q w6.heap.size TE5A4 (strs l4)) := ⟨_, by first | omega | (simp at *; done) | (simp at *; omega), by first | omega | (simp at *; done) | (simp at *; omega), ho⟩
      clear hb6 ho
      go_wp2_with fail
      refine (eqStringS_c' Tx4A4 TE5A4 _ _ _ _ _ _ n4 n4 l4 _ (HOTx4A4.out.rd) (HOTE5A4.out.rd) HNA4.out HNA4.out (by unfold maxLen; omega)).mono ?_
      rintro e w7 ⟨rfl, hb7⟩
      have hz7 : w6.heap.size ≤ w7.heap.size := by have := hb7.size; first | omega | (simp at this; omega)
      have hzz7 : w.heap.size ≤ w7.heap.size := by omega
      have HB7 : Hid (Below w.heap.size w w7) := below_then (by ((repeat (first | refine Below.alloc ?_ (by first | omega | (simp; done) | (simp; omega)) _ | refine Below.drew ?_)); exact HB6.out)) hb7 (by first | omega | (simp; done) | (simp; omega))
      replace HOTwA4 : Hid (Own w7 qTwA4 w2.heap.size TwA4 (strs l4)) := HOTwA4.out.below hb7
      replace HOTx4A4 : Hid (Own w7 qTx4A4 w4.heap.size Tx4A4 (strs l4)) := HOTx4A4.out.below hb7
      replace HOTE5A4 : Hid (Own w7 qTE5A4 w6.heap.size TE5A4 (strs l4)) := HOTE5A4.out.below hb7
      clear hb7
      clear HOTE5A4
      go_wp2
      go_ret
      exact ⟨rfl, HB7.out⟩

section
open Go.ChangeShapes Go.WideShapes Go.ChangeAt
open Go.ChangeMaps (open_string)
set_option maxRecDepth 100000 in
theorem lifted_RootsBy (f0 : Int → Int → ByteArray → Int → (List ByteArray) → ByteArray) (f1 : Int → Int → ByteArray → Int → (List ByteArray) → ByteArray) (f2 : Int → Int → ByteArray → Int → (List ByteArray) → Bool) (hsp : ∀ (z0 : Int) (z1 : Int) (s2 : ByteArray) (z3 : Int) (l4 : List ByteArray), (I64 z0) → (I64 z1) → (I64 z3) → specRootsBy_does z0 z1 s2 z3 l4.length l4 (f0 z0 z1 s2 z3 l4) (f1 z0 z1 s2 z3 l4) (f2 z0 z1 s2 z3 l4)) (him : ∀ (z0 : Int) (z1 : Int) (s2 : ByteArray) (z3 : Int) (l4 : List ByteArray), (I64 z0) → (I64 z1) → (I64 z3) → implRootsBy_does z0 z1 s2 z3 l4.length l4 (f0 z0 z1 s2 z3 l4) (f1 z0 z1 s2 z3 l4) (f2 z0 z1 s2 z3 l4))  (os : Os) (started : os.Started) (H : Type) (enc : TypeId × Value → H) :
    ReturnsInHanded {} Try.checked os 16 .any (Rows.fnExactRootsBySpec.pre6 enc Try.prog Try.f16 Rows.fnExactRootsByRow.domain false) (Rows.fnExactRootsBySpec.post enc Try.prog Try.f16 false true false false) := by
  refine returnsInHanded_of_change (C := Try.checked) Try.own started (by kernel_rfl) Try.func16
    (ChangeSpec.witness6 (enc := enc) (C := Try.checked) false ⟨#[], #[.int .i64 0, .int .i64 0, .string ByteArray.empty, .int .i64 0, .slice none 0 0], []⟩ 8 (by kernel_rfl) (by kernel_rfl) (by kernel_rfl) (by kernel_rfl)) ?_
  intro W base args ds gs before hval0 hW hcnd _
  have hval : ∀ (j : Nat) t v, Try.f16.params[j]? = some t → args[j]? = some v → Value.okWide Try.prog W .any base t v := hval0
  have hW' := hW
  obtain ⟨p, q, hA0, hV, rfl, hfz, hnd⟩ := hW
  have hA : DataW.TrodAll enc Try.prog W 0 (fun _ => true) true Try.f16.params.toList args.toList ds p := hA0
  rw [Try.params16] at hA hval
  obtain ⟨v0, vs0, d0, ds0, p0, q0, hargs, rfl, rfl, h0, r0⟩ := trodAll_cons hA
  obtain ⟨v1, vs1, d1, ds1, p1, q1, rfl, rfl, rfl, h1, r1⟩ := trodAll_cons r0
  obtain ⟨v2, vs2, d2, ds2, p2, q2, rfl, rfl, rfl, h2, r2⟩ := trodAll_cons r1
  obtain ⟨v3, vs3, d3, ds3, p3, q3, rfl, rfl, rfl, h3, r3⟩ := trodAll_cons r2
  obtain ⟨v4, vs4, d4, ds4, p4, q4, rfl, rfl, rfl, h4, r4⟩ := trodAll_cons r3
  obtain ⟨rfl, rfl, rfl⟩ := trodAll_nil r4
  obtain rfl : args = #[v0, v1, v2, v3, v4] := by cases args; simp_all
  obtain ⟨rfl, rfl⟩ := trodVars_none hV
  have lt0 : ∀ x ∈ p0, x.block < W.heap.size := by obtain ⟨m, hm⟩ := h0; exact DataW.trod_lt m _ _ _ hm
  have kk0 := h0
  have lt1 : ∀ x ∈ p1, x.block < W.heap.size := by obtain ⟨m, hm⟩ := h1; exact DataW.trod_lt m _ _ _ hm
  have kk1 := h1
  have lt2 : ∀ x ∈ p2, x.block < W.heap.size := by obtain ⟨m, hm⟩ := h2; exact DataW.trod_lt m _ _ _ hm
  have kk2 := h2
  have lt3 : ∀ x ∈ p3, x.block < W.heap.size := by obtain ⟨m, hm⟩ := h3; exact DataW.trod_lt m _ _ _ hm
  have kk3 := h3
  have lt4 : ∀ x ∈ p4, x.block < W.heap.size := by obtain ⟨m, hm⟩ := h4; exact DataW.trod_lt m _ _ _ hm
  have kk4 := h4
  obtain ⟨z0, rfl, rfl, rfl, wi0⟩ := open_int Try.underlying3 (hval 0 _ v0 rfl rfl) h0
  have hiz0 : I64 z0 := i64_of_wf wi0
  obtain ⟨z1, rfl, rfl, rfl, wi1⟩ := open_int Try.underlying3 (hval 1 _ v1 rfl rfl) h1
  have hiz1 : I64 z1 := i64_of_wf wi1
  obtain ⟨s2, rfl, rfl, rfl, hs2⟩ := open_string Try.underlying9 (hval 2 _ v2 rfl rfl) h2
  obtain ⟨z3, rfl, rfl, rfl, wi3⟩ := open_int Try.underlying3 (hval 3 _ v3 rfl rfl) h3
  have hiz3 : I64 z3 := i64_of_wf wi3
  obtain ⟨A4, n4, c4, l4, rfl, o4, hil4⟩ := open_strs (hval 4 _ v4 rfl rfl) h4
  obtain ⟨rfl, o4b, o4c, o4d⟩ := o4
  clear hA0 hval0
  refine (walk_RootsBy z0 z1 s2 z3 A4 c4 _ l4 _ _ _ W hs2 o4d rfl (Nat.le_trans o4b o4c) hil4  (hsp z0 z1 s2 z3 l4 hiz0 hiz1 hiz3) (him z0 z1 s2 z3 l4 hiz0 hiz1 hiz3)).mono fun e W' ⟨he, bel⟩ => ?_
  subst he
  exact ⟨_, rfl, _, _, _, [], _, [], hW', trodAll_mk1 (shut_bool Try.underlying4 _), (trodAll_cons_mk (Below.trod Try.laidOut (by kernel_rfl) (of_decide_eq_true (by kernel_rfl)) kk0 bel lt0) (trodAll_cons_mk (Below.trod Try.laidOut (by kernel_rfl) (of_decide_eq_true (by kernel_rfl)) kk1 bel lt1) (trodAll_cons_mk (Below.trod Try.laidOut (by kernel_rfl) (of_decide_eq_true (by kernel_rfl)) kk2 bel lt2) (trodAll_cons_mk (Below.trod Try.laidOut (by kernel_rfl) (of_decide_eq_true (by kernel_rfl)) kk3 bel lt3) (trodAll_cons_mk (Below.trod Try.laidOut (by kernel_rfl) (of_decide_eq_true (by kernel_rfl)) kk4 bel lt4) trodAll_mk0))))), rfl, bel.frame _, fun h => by cases h⟩
theorem said_RootsBy (f0 : Int → Int → ByteArray → Int → (List ByteArray) → ByteArray) (f1 : Int → Int → ByteArray → Int → (List ByteArray) → ByteArray) (f2 : Int → Int → ByteArray → Int → (List ByteArray) → Bool) (hsp : ∀ (z0 : Int) (z1 : Int) (s2 : ByteArray) (z3 : Int) (l4 : List ByteArray), (I64 z0) → (I64 z1) → (I64 z3) → specRootsBy_does z0 z1 s2 z3 l4.length l4 (f0 z0 z1 s2 z3 l4) (f1 z0 z1 s2 z3 l4) (f2 z0 z1 s2 z3 l4)) (him : ∀ (z0 : Int) (z1 : Int) (s2 : ByteArray) (z3 : Int) (l4 : List ByteArray), (I64 z0) → (I64 z1) → (I64 z3) → implRootsBy_does z0 z1 s2 z3 l4.length l4 (f0 z0 z1 s2 z3 l4) (f1 z0 z1 s2 z3 l4) (f2 z0 z1 s2 z3 l4))  : Rows.FnExactRootsBySaid :=
  OpenClaim.holds_of_wide 16 Try.f16 rfl rfl rfl rfl rfl rfl rfl ⟨rfl, rfl, rfl, rfl, rfl⟩ rfl rfl rfl rfl rfl (by kernel_rfl) Try.func16 (by show joinedFacts Try.prog 16 Try.f16 Rows.fnExactRootsBySpec Rows.fnExactRootsByRow = true; unfold joinedFacts; rw [seat_enter, seat_final, seat_make]; kernel_rfl)
    (of_decide_eq_true (by kernel_rfl)) (by unfold Func.isWrapper; first | (rw [if_pos (by decide +kernel)]; kernel_rfl) | (rw [if_neg (by decide +kernel)]; exact ⟨rfl, rfl⟩))
    (fun os started H enc _ => lifted_RootsBy f0 f1 f2 hsp him os started H enc)
end
end Go.Proofs.Ytojjjhbiccgjkaa
