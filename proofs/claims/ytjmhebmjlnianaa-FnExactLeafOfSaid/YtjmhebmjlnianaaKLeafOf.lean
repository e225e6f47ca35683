/- The walk of the law FnExactLeafOf; what spec.LeafOf and impl.LeafOf do comes in as hypotheses. Written by gen_law.py. -/
import Derived.Test.YtjmhebmjlnianaaData
import Derived.Test.YtjmhebmjlnianaaStr
import Derived.Test.YtjmhebmjlnianaaWLog
import Derived.Test.YtjmhebmjlnianaaOpen
namespace Go.Proofs.Ytjmhebmjlnianaa
set_option linter.unusedVariables false
set_option linter.unusedSimpArgs false
open Go.RowKit
attribute [local go_sem ↓] Go.wp_at_zero Go.wp_at_succ

def specLeafOf_does (n0_0 : Nat) (l0_0 : List Ent) (s1 : ByteArray) (z2 : Int) (zr0 : Int) : Prop :=
    s1.size ≤ 1048576 → ((n0_0 + sumBy Ent.bulk l0_0)) ≤ 1048576 → ∀ (B0_0 : Option Addr) (g0_0 aA0_0 bA0_0 : Nat) (W : World), Rd W aA0_0 bA0_0 B0_0 (ents l0_0) → n0_0 ≤ g0_0 → Calls Try.prog 49 #[.agg #[.slice B0_0 n0_0 g0_0], .string s1, .int .i64 z2] W fun r W' => r = .returned (.int .i64 zr0) ∧ Below W.heap.size W W'
def implLeafOf_does (n0_0 : Nat) (l0_0 : List Ent) (s1 : ByteArray) (z2 : Int) (zr0 : Int) : Prop :=
    s1.size ≤ 1048576 → ((n0_0 + sumBy Ent.bulk l0_0)) ≤ 1048576 → ∀ (B0_0 : Option Addr) (g0_0 aA0_0 bA0_0 : Nat) (W : World), Rd W aA0_0 bA0_0 B0_0 (ents l0_0) → n0_0 ≤ g0_0 → Calls Try.prog 50 #[.agg #[.slice B0_0 n0_0 g0_0], .string s1, .int .i64 z2] W fun r W' => r = .returned (.int .i64 zr0) ∧ Below W.heap.size W W'
set_option maxRecDepth 100000 in
set_option maxHeartbeats 400000 in
theorem walk_LeafOf (A0_0 : Option Addr) (c0_0 : Nat) (n0_0 : Nat) (l0_0 : List Ent) (s1 : ByteArray) (z2 : Int) (zr0 : Int) (w : World) (hrA0_0 : Rd w 0 w.heap.size A0_0 (ents l0_0)) (hnA0_0 : l0_0.length = n0_0) (hlA0_0 : n0_0 ≤ maxLen) (hsA0_0 : ∀ x ∈ l0_0, x.fits) (hts1 : s1.size ≤ maxLen) (HSP : specLeafOf_does n0_0 l0_0 s1 z2 zr0) (HIM : implLeafOf_does n0_0 l0_0 s1 z2 zr0) :
    Calls Try.prog 12 #[.agg #[.slice A0_0 n0_0 c0_0], .string s1, .int .i64 z2] w fun e w' => e = .returned (.bool true) ∧ Below w.heap.size w w' := by
  have HNA0_0 := Lib.hid hnA0_0
  have HSA0_0 := Lib.hid hsA0_0
  clear hnA0_0 hsA0_0
  simp only [maxLen] at hts1
  have HB0 : Hid (Below w.heap.size w w) := Below.refl _ _
  go_enter Try.func12, Try.ntmps12
  go_wp2_with fail
  · go_ret
    exact ⟨rfl, by ((repeat (first | refine Below.alloc ?_ (by first | omega | (simp; done) | (simp; omega)) _ | refine Below.drew ?_)); exact HB0.out)⟩
  · have hstr : True := trivial
    have hus1 : s1.size ≤ 1048576 := by have h1 : (s1.size : Int) ≤ 1048576 := (by assumption); omega
    refine (szLog_c A0_0 c0_0 n0_0 l0_0 _ _ _ _ (hrA0_0.below (by ((repeat (first | refine Below.alloc ?_ (by first | omega | (simp; done) | (simp; omega)) _ | refine Below.drew ?_)); exact HB0.out))) HNA0_0.out hlA0_0 HSA0_0.out (by omega) (by omega)).mono ?_
    rintro e w1 ⟨rfl, hb1⟩
    have hz1 : w.heap.size + 1 ≤ w1.heap.size := by have := hb1.size; first | omega | (simp at this; omega)
    have hzz1 : w.heap.size ≤ w1.heap.size := by omega
    have HB1 : Hid (Below w.heap.size w w1) := below_then (by ((repeat (first | refine Below.alloc ?_ (by first | omega | (simp; done) | (simp; omega)) _ | refine Below.drew ?_)); exact HB0.out)) hb1 (by first | omega | (simp; done) | (simp; omega))
    have HXaL : Hid (Box w1 (w.heap.size) [.slice A0_0 n0_0 c0_0]) := Box.below (Box.new0 _ _ _) hb1
    have hxaL := HXaL.out.2
    have hkaL := HXaL.out.1
    clear hb1
    go_wp2_with fail
    · go_ret
      exact ⟨rfl, HB1.out⟩
    · have hp1 : 0 ≤ szF 1048576 (((n0_0 + sumBy Ent.bulk l0_0))) := by assumption
      have hg1 := (szF_le 1048576 (((n0_0 + sumBy Ent.bulk l0_0))) (by omega)).2
      have hbk : ((n0_0 + sumBy Ent.bulk l0_0)) ≤ 1048576 := by have := (szF_pos hp1).1; omega
      have hmA0_0 : n0_0 ≤ 1048576 := by omega
      refine (toLog_c A0_0 c0_0 n0_0 l0_0 _ _ _ (hrA0_0.below (by ((repeat (first | refine Below.alloc ?_ (by first | omega | (simp; done) | (simp; omega)) _ | refine Below.drew ?_)); exact HB1.out))) HNA0_0.out hmA0_0).mono ?_
      rintro e w2 ⟨TwA0_0, rfl, le2_0, ho0, hb2⟩
      have hz2 : w1.heap.size ≤ w2.heap.size := by have := hb2.size; first | omega | (simp at this; omega)
      have hzz2 : w.heap.size ≤ w2.heap.size := by omega
      have HB2 : Hid (Below w.heap.size w w2) := below_then (by ((repeat (first | refine Below.alloc ?_ (by first | omega | (simp; done) | (simp; omega)) _ | refine Below.drew ?_)); exact HB1.out)) hb2 (by first | omega | (simp; done) | (simp; omega))
      replace HXaL : Hid (Box w2 (w.heap.size) [.slice A0_0 n0_0 c0_0]) := Box.below HXaL.out hb2
      clear hxaL hkaL
      have hxaL := HXaL.out.2
      have hkaL := HXaL.out.1
      obtain ⟨qTwA0_0, hqTwA0_0, hqqTwA0_0, HOTwA0_0⟩ : ∃ q, w1.heap.size ≤ q ∧ w2.heap.size ≤ w2.heap.size ∧ Hid (Own w2 q w2.heap.size TwA0_0 (ents l0_0)) := ⟨_, by first | omega | (simp at *; done) | (simp at *; omega), by first | omega | (simp at *; done) | (simp at *; omega), ho0⟩
      clear hb2 ho0
      go_wp2_with fail
      refine (HSP hus1 hbk _ _ _ _ _ (HOTwA0_0.out.rd) (Nat.le_refl _)).mono ?_
      rintro e w3 ⟨rfl, hb3⟩
      have hz3 : w2.heap.size ≤ w3.heap.size := by have := hb3.size; first | omega | (simp at this; omega)
      have hzz3 : w.heap.size ≤ w3.heap.size := by omega
      have HB3 : Hid (Below w.heap.size w w3) := below_then (by ((repeat (first | refine Below.alloc ?_ (by first | omega | (simp; done) | (simp; omega)) _ | refine Below.drew ?_)); exact HB2.out)) hb3 (by first | omega | (simp; done) | (simp; omega))
      replace HXaL : Hid (Box w3 (w.heap.size) [.slice A0_0 n0_0 c0_0]) := Box.below HXaL.out hb3
      clear hxaL hkaL
      have hxaL := HXaL.out.2
      have hkaL := HXaL.out.1
      replace HOTwA0_0 : Hid (Own w3 qTwA0_0 w2.heap.size TwA0_0 (ents l0_0)) := HOTwA0_0.out.below hb3
      clear hb3 
      go_wp2_with fail
      refine (toLog_c A0_0 c0_0 n0_0 l0_0 _ _ _ (hrA0_0.below (by ((repeat (first | refine Below.alloc ?_ (by first | omega | (simp; done) | (simp; omega)) _ | refine Below.drew ?_)); exact HB3.out))) HNA0_0.out hmA0_0).mono ?_
      rintro e w4 ⟨Tx0A0_0, rfl, le4_0, ho0, hb4⟩
      have hz4 : w3.heap.size ≤ w4.heap.size := by have := hb4.size; first | omega | (simp at this; omega)
      have hzz4 : w.heap.size ≤ w4.heap.size := by omega
      have HB4 : Hid (Below w.heap.size w w4) := below_then (by ((repeat (first | refine Below.alloc ?_ (by first | omega | (simp; done) | (simp; omega)) _ | refine Below.drew ?_)); exact HB3.out)) hb4 (by first | omega | (simp; done) | (simp; omega))
      replace HXaL : Hid (Box w4 (w.heap.size) [.slice A0_0 n0_0 c0_0]) := Box.below HXaL.out hb4
      clear hxaL hkaL
      have hxaL := HXaL.out.2
      have hkaL := HXaL.out.1
      replace HOTwA0_0 : Hid (Own w4 qTwA0_0 w2.heap.size TwA0_0 (ents l0_0)) := HOTwA0_0.out.below hb4
      obtain ⟨qTx0A0_0, hqTx0A0_0, hqqTx0A0_0, HOTx0A0_0⟩ : ∃ q, w3.heap.size ≤ q ∧ w4.heap.size ≤ w4.heap.size ∧ Hid (Own w4 q w4.heap.size Tx0A0_0 (ents l0_0)) := ⟨_, by first | omega | (simp at *; done) | (simp at *; omega), by first | omega | (simp at *; done) | (simp at *; omega), ho0⟩
      clear hb4 ho0
      go_wp2_with fail
      refine (HIM hus1 hbk _ _ _ _ _ ((HOTx0A0_0.out.rd).alloc _) (Nat.le_refl _)).mono ?_
      rintro e w5 ⟨rfl, hb5⟩
      have hz5 : w4.heap.size + 1 ≤ w5.heap.size := by have := hb5.size; first | omega | (simp at this; omega)
      have hzz5 : w.heap.size ≤ w5.heap.size := by omega
      have HB5 : Hid (Below w.heap.size w w5) := below_then (by ((repeat (first | refine Below.alloc ?_ (by first | omega | (simp; done) | (simp; omega)) _ | refine Below.drew ?_)); exact HB4.out)) hb5 (by first | omega | (simp; done) | (simp; omega))
      replace HXaL : Hid (Box w5 (w.heap.size) [.slice A0_0 n0_0 c0_0]) := Box.below (HXaL.out.alloc _) hb5
      clear hxaL hkaL
      have hxaL := HXaL.out.2
      have hkaL := HXaL.out.1
      have HXx0 : Hid (Box w5 (w4.heap.size) [.slice Tx0A0_0 n0_0 n0_0]) := Box.below (Box.new0 _ _ _) hb5
      have hxx0 := HXx0.out.2
      have hkx0 := HXx0.out.1
      replace HOTwA0_0 : Hid (Own w5 qTwA0_0 w2.heap.size TwA0_0 (ents l0_0)) := (HOTwA0_0.out.alloc _).below hb5
      replace HOTx0A0_0 : Hid (Own w5 qTx0A0_0 w4.heap.size Tx0A0_0 (ents l0_0)) := (HOTx0A0_0.out.alloc _).below hb5
      clear hb5 
      go_wp2_with fail
      go_region_held3 (fun w' => (∀ o, w'.cell? ⟨w4.heap.size, o, none⟩ = [.slice Tx0A0_0 n0_0 n0_0][o]?) ∧ (∀ o, w'.cell? ⟨w.heap.size, o, none⟩ = [.slice A0_0 n0_0 c0_0][o]?))
        (first | exact ⟨HXx0.out.2, HXaL.out.2⟩ | exact ⟨HPx0.out.2, HPaL.out.2⟩ | exact ⟨HQx0.out.2, HQaL.out.2⟩)
        (first
        | (go_at_call 40
           refine (toLog_c A0_0 c0_0 n0_0 l0_0 _ _ _ (hrA0_0.below (by ((repeat (first | refine Below.alloc ?_ (by first | omega | (simp; done) | (simp; omega)) _ | refine Below.drew ?_)); exact HB5.out))) HNA0_0.out hmA0_0).mono ?_
           rintro e w6 ⟨T6A0_0, rfl, le6_0, hod0, hb6⟩
           have HPx0 : Hid (Box w6 (w4.heap.size) [.slice Tx0A0_0 n0_0 n0_0]) := Box.below (HXx0.out.drew) hb6
           have HPaL : Hid (Box w6 (w.heap.size) [.slice A0_0 n0_0 c0_0]) := Box.below (HXaL.out.drew) hb6
           have HPOTwA0_0 : Hid (Own w6 qTwA0_0 w2.heap.size TwA0_0 (ents l0_0)) := (HOTwA0_0.out.drew).below hb6
           have HPOTx0A0_0 : Hid (Own w6 qTx0A0_0 w4.heap.size Tx0A0_0 (ents l0_0)) := (HOTx0A0_0.out.drew).below hb6
           have hz6 : w5.heap.size ≤ w6.heap.size := hb6.size
           have HB6 : Hid (Below w.heap.size w w6) := below_then HB5.out.drew hb6 (by first | omega | (simp; omega))
           clear hb6)
        | (go_at_call 42
           refine (eqLog_c  Tx0A0_0 n0_0 n0_0 l0_0 T6A0_0 n0_0 _ _ _ _  _ (HPOTx0A0_0.out.rd) hod0.rd HNA0_0.out (by unfold maxLen; omega)).mono ?_
           rintro e w7 ⟨rfl, hb7⟩
           have HQx0 : Hid (Box w7 (w4.heap.size) [.slice Tx0A0_0 n0_0 n0_0]) := Box.below HPx0.out hb7
           have HQaL : Hid (Box w7 (w.heap.size) [.slice A0_0 n0_0 c0_0]) := Box.below HPaL.out hb7
           have HQOTwA0_0 : Hid (Own w7 qTwA0_0 w2.heap.size TwA0_0 (ents l0_0)) := HPOTwA0_0.out.below hb7
           have HQOTx0A0_0 : Hid (Own w7 qTx0A0_0 w4.heap.size Tx0A0_0 (ents l0_0)) := HPOTx0A0_0.out.below hb7
           have hz7 : w6.heap.size ≤ w7.heap.size := hb7.size
           have HB7 : Hid (Below w.heap.size w w7) := below_then HB6.out hb7 (by first | omega | exact HB6.out.size)
           clear hb7))
      have hzz7 : w.heap.size ≤ w7.heap.size := by omega
      replace HOTwA0_0 := HQOTwA0_0
      clear HQOTwA0_0 HPOTwA0_0
      replace HOTx0A0_0 := HQOTx0A0_0
      clear HQOTx0A0_0 HPOTx0A0_0
      replace HXaL := HQaL
      clear HQaL HPaL hxaL hkaL
      have hxaL := HXaL.out.2
      have hkaL := HXaL.out.1
      replace HXx0 := HQx0
      clear HQx0 HPx0 hxx0 hkx0
      have hxx0 := HXx0.out.2
      have hkx0 := HXx0.out.1
      go_wp2
      go_ret
      exact ⟨rfl, HB7.out⟩

section
open Go.ChangeShapes Go.WideShapes Go.ChangeAt
open Go.ChangeMaps (open_string)
set_option maxRecDepth 100000 in
theorem lifted_LeafOf (f0 : (List Ent) → ByteArray → Int → Int) (hsp : ∀ (l0_0 : List Ent) (s1 : ByteArray) (z2 : Int), (∀ x ∈ l0_0, x.fits) → (I64 z2) → specLeafOf_does l0_0.length l0_0 s1 z2 (f0 l0_0 s1 z2)) (him : ∀ (l0_0 : List Ent) (s1 : ByteArray) (z2 : Int), (∀ x ∈ l0_0, x.fits) → (I64 z2) → implLeafOf_does l0_0.length l0_0 s1 z2 (f0 l0_0 s1 z2))  (os : Os) (started : os.Started) (H : Type) (enc : TypeId × Value → H) :
    ReturnsInHanded {} Try.checked os 12 .any (Rows.fnExactLeafOfSpec.pre6 enc Try.prog Try.f12 Rows.fnExactLeafOfRow.domain false) (Rows.fnExactLeafOfSpec.post enc Try.prog Try.f12 false true false false) := by
  refine returnsInHanded_of_change (C := Try.checked) Try.own started (by kernel_rfl) Try.func12
    (ChangeSpec.witness6 (enc := enc) (C := Try.checked) false ⟨#[], #[.agg #[.slice none 0 0], .string ByteArray.empty, .int .i64 0], []⟩ 8 (by kernel_rfl) (by kernel_rfl) (by kernel_rfl) (by kernel_rfl)) ?_
  intro W base args ds gs before hval0 hW hcnd _
  have hval : ∀ (j : Nat) t v, Try.f12.params[j]? = some t → args[j]? = some v → Value.okWide Try.prog W .any base t v := hval0
  have hW' := hW
  obtain ⟨p, q, hA0, hV, rfl, hfz, hnd⟩ := hW
  have hA : DataW.TrodAll enc Try.prog W 0 (fun _ => true) true Try.f12.params.toList args.toList ds p := hA0
  rw [Try.params12] at hA hval
  obtain ⟨v0, vs0, d0, ds0, p0, q0, hargs, rfl, rfl, h0, r0⟩ := trodAll_cons hA
  obtain ⟨v1, vs1, d1, ds1, p1, q1, rfl, rfl, rfl, h1, r1⟩ := trodAll_cons r0
  obtain ⟨v2, vs2, d2, ds2, p2, q2, rfl, rfl, rfl, h2, r2⟩ := trodAll_cons r1
  obtain ⟨rfl, rfl, rfl⟩ := trodAll_nil r2
  obtain rfl : args = #[v0, v1, v2] := by cases args; simp_all
  obtain ⟨rfl, rfl⟩ := trodVars_none hV
  have lt0 : ∀ x ∈ p0, x.block < W.heap.size := by obtain ⟨m, hm⟩ := h0; exact DataW.trod_lt m _ _ _ hm
  have kk0 := h0
  have lt1 : ∀ x ∈ p1, x.block < W.heap.size := by obtain ⟨m, hm⟩ := h1; exact DataW.trod_lt m _ _ _ hm
  have kk1 := h1
  have lt2 : ∀ x ∈ p2, x.block < W.heap.size := by obtain ⟨m, hm⟩ := h2; exact DataW.trod_lt m _ _ _ hm
  have kk2 := h2
  obtain ⟨A0_0, n0_0, c0_0, l0_0, rfl, o0_0, hil0_0⟩ := open_Log (hval 0 _ v0 rfl rfl) h0
  obtain ⟨rfl, o0_0b, o0_0c, o0_0d⟩ := o0_0
  obtain ⟨s1, rfl, rfl, rfl, hs1⟩ := open_string Try.underlying9 (hval 1 _ v1 rfl rfl) h1
  obtain ⟨z2, rfl, rfl, rfl, wi2⟩ := open_int Try.underlying3 (hval 2 _ v2 rfl rfl) h2
  have hiz2 : I64 z2 := i64_of_wf wi2
  clear hA0 hval0
  refine (walk_LeafOf A0_0 c0_0 _ l0_0 s1 z2 _ W o0_0d rfl (Nat.le_trans o0_0b o0_0c) hil0_0 hs1  (hsp l0_0 s1 z2 hil0_0 hiz2) (him l0_0 s1 z2 hil0_0 hiz2)).mono fun e W' ⟨he, bel⟩ => ?_
  subst he
  exact ⟨_, rfl, _, _, _, [], _, [], hW', trodAll_mk1 (shut_bool Try.underlying4 _), (trodAll_cons_mk (Below.trod Try.laidOut (by kernel_rfl) (of_decide_eq_true (by kernel_rfl)) kk0 bel lt0) (trodAll_cons_mk (Below.trod Try.laidOut (by kernel_rfl) (of_decide_eq_true (by kernel_rfl)) kk1 bel lt1) (trodAll_cons_mk (Below.trod Try.laidOut (by kernel_rfl) (of_decide_eq_true (by kernel_rfl)) kk2 bel lt2) trodAll_mk0))), rfl, bel.frame _, fun h => by cases h⟩
theorem said_LeafOf (f0 : (List Ent) → ByteArray → Int → Int) (hsp : ∀ (l0_0 : List Ent) (s1 : ByteArray) (z2 : Int), (∀ x ∈ l0_0, x.fits) → (I64 z2) → specLeafOf_does l0_0.length l0_0 s1 z2 (f0 l0_0 s1 z2)) (him : ∀ (l0_0 : List Ent) (s1 : ByteArray) (z2 : Int), (∀ x ∈ l0_0, x.fits) → (I64 z2) → implLeafOf_does l0_0.length l0_0 s1 z2 (f0 l0_0 s1 z2))  : Rows.FnExactLeafOfSaid :=
  OpenClaim.holds_of_wide 12 Try.f12 rfl rfl rfl rfl rfl rfl rfl ⟨rfl, rfl, rfl, rfl, rfl⟩ rfl rfl rfl rfl rfl (by kernel_rfl) Try.func12 (by kernel_rfl)
    (of_decide_eq_true (by kernel_rfl)) (by unfold Func.isWrapper; first | (rw [if_pos (by decide +kernel)]; kernel_rfl) | (rw [if_neg (by decide +kernel)]; exact ⟨rfl, rfl⟩))
    (fun os started H enc _ => lifted_LeafOf f0 hsp him os started H enc)
end
end Go.Proofs.Ytjmhebmjlnianaa
