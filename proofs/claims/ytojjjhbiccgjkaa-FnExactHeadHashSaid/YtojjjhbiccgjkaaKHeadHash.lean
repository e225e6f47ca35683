/- The walk of the law FnExactHeadHash; what spec.HeadHash and impl.HeadHash do comes in as hypotheses. Written by gen_law.py. -/
import Derived.Test.YtojjjhbiccgjkaaData
import Derived.Test.YtojjjhbiccgjkaaSHead
import Derived.Test.YtojjjhbiccgjkaaStr
import Derived.Test.YtojjjhbiccgjkaaOpen
import Derived.Test.YtojjjhbiccgjkaaSeat
namespace Go.Proofs.Ytojjjhbiccgjkaa
set_option linter.unusedVariables false
set_option linter.unusedSimpArgs false
open Go.RowKit
attribute [local go_sem ↓] Go.wp_at_zero Go.wp_at_succ

def specHeadHash_does (z0 : Int) (e1 : Hd) (sr0 : ByteArray) (br1 : Bool) : Prop :=
    e1.bulk ≤ 1048576 → ∀ W : World, Calls Try.prog 46 #[.int .i64 z0, .agg #[.int .i64 e1.num, .int .i64 e1.size, .string e1.root, .int .i64 e1.taken, .string e1.troot]] W fun r W' => r = .returned (.tuple #[.string sr0, .bool br1]) ∧ Below W.heap.size W W'
def implHeadHash_does (z0 : Int) (e1 : Hd) (sr0 : ByteArray) (br1 : Bool) : Prop :=
    e1.bulk ≤ 1048576 → ∀ W : World, Calls Try.prog 47 #[.int .i64 z0, .agg #[.int .i64 e1.num, .int .i64 e1.size, .string e1.root, .int .i64 e1.taken, .string e1.troot]] W fun r W' => r = .returned (.tuple #[.string sr0, .bool br1]) ∧ Below W.heap.size W W'
set_option maxRecDepth 100000 in
set_option maxHeartbeats 4000000 in
theorem walk_HeadHash (z0 : Int) (e1 : Hd) (sr0 : ByteArray) (br1 : Bool) (w : World) (hfe1 : e1.fits) (HSP : specHeadHash_does z0 e1 sr0 br1) (HIM : implHeadHash_does z0 e1 sr0 br1) :
    Calls Try.prog 10 #[.int .i64 z0, .agg #[.int .i64 e1.num, .int .i64 e1.size, .string e1.root, .int .i64 e1.taken, .string e1.troot]] w fun e w' => e = .returned (.bool true) ∧ Below w.heap.size w w' := by
  have HB0 : Hid (Below w.heap.size w w) := Below.refl _ _
  go_enter Try.func10, Try.ntmps10
  go_wp2_with fail
  refine (szHead_c e1 _ _ hfe1 (by omega) (by omega)).mono ?_
  rintro e w1 ⟨rfl, hb1⟩
  have hz1 : w.heap.size + 1 ≤ w1.heap.size := by have := hb1.size; first | omega | (simp at this; omega)
  have hzz1 : w.heap.size ≤ w1.heap.size := by omega
  have HB1 : Hid (Below w.heap.size w w1) := below_then (by ((repeat (first | refine Below.alloc ?_ (by first | omega | (simp; done) | (simp; omega)) _ | refine Below.drew ?_)); exact HB0.out)) hb1 (by first | omega | (simp; done) | (simp; omega))
  have HXaH : Hid (Box w1 (w.heap.size) [.int .i64 e1.num, .int .i64 e1.size, .string e1.root, .int .i64 e1.taken, .string e1.troot]) := Box.below (Box.new0 _ _ _) hb1
  have hxaH := HXaH.out.2
  have hkaH := HXaH.out.1
  clear hb1
  go_wp2_with fail
  · go_ret
    exact ⟨rfl, HB1.out⟩
  · have hp1 : 0 ≤ szF 1048576 (e1.bulk) := by assumption
    have hg1 := (szF_le 1048576 (e1.bulk) (by omega)).2
    have hbk : e1.bulk ≤ 1048576 := by have := (szF_pos hp1).1; omega
    refine (toHead_c e1 _).mono ?_
    rintro e w2 ⟨rfl, hb2⟩
    have hz2 : w1.heap.size ≤ w2.heap.size := by have := hb2.size; first | omega | (simp at this; omega)
    have hzz2 : w.heap.size ≤ w2.heap.size := by omega
    have HB2 : Hid (Below w.heap.size w w2) := below_then (by ((repeat (first | refine Below.alloc ?_ (by first | omega | (simp; done) | (simp; omega)) _ | refine Below.drew ?_)); exact HB1.out)) hb2 (by first | omega | (simp; done) | (simp; omega))
    replace HXaH : Hid (Box w2 (w.heap.size) [.int .i64 e1.num, .int .i64 e1.size, .string e1.root, .int .i64 e1.taken, .string e1.troot]) := Box.below HXaH.out hb2
    clear hxaH hkaH
    have hxaH := HXaH.out.2
    have hkaH := HXaH.out.1
    clear hb2
    go_wp2_with fail
    refine (HSP hbk _ ).mono ?_
    rintro e w3 ⟨rfl, hb3⟩
    have hz3 : w2.heap.size ≤ w3.heap.size := by have := hb3.size; first | omega | (simp at this; omega)
    have hzz3 : w.heap.size ≤ w3.heap.size := by omega
    have HB3 : Hid (Below w.heap.size w w3) := below_then (by ((repeat (first | refine Below.alloc ?_ (by first | omega | (simp; done) | (simp; omega)) _ | refine Below.drew ?_)); exact HB2.out)) hb3 (by first | omega | (simp; done) | (simp; omega))
    replace HXaH : Hid (Box w3 (w.heap.size) [.int .i64 e1.num, .int .i64 e1.size, .string e1.root, .int .i64 e1.taken, .string e1.troot]) := Box.below HXaH.out hb3
    clear hxaH hkaH
    have hxaH := HXaH.out.2
    have hkaH := HXaH.out.1
    clear hb3 
    go_wp2_with fail
    refine (toHead_c e1 _).mono ?_
    rintro e w4 ⟨rfl, hb4⟩
    have hz4 : w3.heap.size ≤ w4.heap.size := by have := hb4.size; first | omega | (simp at this; omega)
    have hzz4 : w.heap.size ≤ w4.heap.size := by omega
    have HB4 : Hid (Below w.heap.size w w4) := below_then (by ((repeat (first | refine Below.alloc ?_ (by first | omega | (simp; done) | (simp; omega)) _ | refine Below.drew ?_)); exact HB3.out)) hb4 (by first | omega | (simp; done) | (simp; omega))
    replace HXaH : Hid (Box w4 (w.heap.size) [.int .i64 e1.num, .int .i64 e1.size, .string e1.root, .int .i64 e1.taken, .string e1.troot]) := Box.below HXaH.out hb4
    clear hxaH hkaH
    have hxaH := HXaH.out.2
    have hkaH := HXaH.out.1
    clear hb4
    go_wp2_with fail
    refine (HIM hbk _ ).mono ?_
    rintro e w5 ⟨rfl, hb5⟩
    have hz5 : w4.heap.size ≤ w5.heap.size := by have := hb5.size; first | omega | (simp at this; omega)
    have hzz5 : w.heap.size ≤ w5.heap.size := by omega
    have HB5 : Hid (Below w.heap.size w w5) := below_then (by ((repeat (first | refine Below.alloc ?_ (by first | omega | (simp; done) | (simp; omega)) _ | refine Below.drew ?_)); exact HB4.out)) hb5 (by first | omega | (simp; done) | (simp; omega))
    replace HXaH : Hid (Box w5 (w.heap.size) [.int .i64 e1.num, .int .i64 e1.size, .string e1.root, .int .i64 e1.taken, .string e1.troot]) := Box.below HXaH.out hb5
    clear hxaH hkaH
    have hxaH := HXaH.out.2
    have hkaH := HXaH.out.1
    clear hb5 
    go_wp2
    go_ret
    exact ⟨rfl, HB5.out⟩

section
open Go.ChangeShapes Go.WideShapes Go.ChangeAt
open Go.ChangeMaps (open_string)
set_option maxRecDepth 100000 in
theorem lifted_HeadHash (f0 : Int → Hd → ByteArray) (f1 : Int → Hd → Bool) (hsp : ∀ (z0 : Int) (e1 : Hd), (I64 z0) → (e1.fits) → specHeadHash_does z0 e1 (f0 z0 e1) (f1 z0 e1)) (him : ∀ (z0 : Int) (e1 : Hd), (I64 z0) → (e1.fits) → implHeadHash_does z0 e1 (f0 z0 e1) (f1 z0 e1))  (os : Os) (started : os.Started) (H : Type) (enc : TypeId × Value → H) :
    ReturnsInHanded {} Try.checked os 10 .any (Rows.fnExactHeadHashSpec.pre6 enc Try.prog Try.f10 Rows.fnExactHeadHashRow.domain false) (Rows.fnExactHeadHashSpec.post enc Try.prog Try.f10 false true false false) := by
  refine returnsInHanded_of_change (C := Try.checked) Try.own started (by kernel_rfl) Try.func10
    (ChangeSpec.witness6 (enc := enc) (C := Try.checked) false ⟨#[], #[.int .i64 0, .agg #[.int .i64 0, .int .i64 0, .string ByteArray.empty, .int .i64 0, .string ByteArray.empty]], []⟩ 8 (by kernel_rfl) (by kernel_rfl) (by kernel_rfl) (by kernel_rfl)) ?_
  intro W base args ds gs before hval0 hW hcnd _
  have hval : ∀ (j : Nat) t v, Try.f10.params[j]? = some t → args[j]? = some v → Value.okWide Try.prog W .any base t v := hval0
  have hW' := hW
  obtain ⟨p, q, hA0, hV, rfl, hfz, hnd⟩ := hW
  have hA : DataW.TrodAll enc Try.prog W 0 (fun _ => true) true Try.f10.params.toList args.toList ds p := hA0
  rw [Try.params10] at hA hval
  obtain ⟨v0, vs0, d0, ds0, p0, q0, hargs, rfl, rfl, h0, r0⟩ := trodAll_cons hA
  obtain ⟨v1, vs1, d1, ds1, p1, q1, rfl, rfl, rfl, h1, r1⟩ := trodAll_cons r0
  obtain ⟨rfl, rfl, rfl⟩ := trodAll_nil r1
  obtain rfl : args = #[v0, v1] := by cases args; simp_all
  obtain ⟨rfl, rfl⟩ := trodVars_none hV
  have lt0 : ∀ x ∈ p0, x.block < W.heap.size := by obtain ⟨m, hm⟩ := h0; exact DataW.trod_lt m _ _ _ hm
  have kk0 := h0
  have lt1 : ∀ x ∈ p1, x.block < W.heap.size := by obtain ⟨m, hm⟩ := h1; exact DataW.trod_lt m _ _ _ hm
  have kk1 := h1
  obtain ⟨z0, rfl, rfl, rfl, wi0⟩ := open_int Try.underlying3 (hval 0 _ v0 rfl rfl) h0
  have hiz0 : I64 z0 := i64_of_wf wi0
  obtain ⟨e1, rfl, hie1⟩ := open_Head (hval 1 _ v1 rfl rfl) h1
  clear hA0 hval0
  refine (walk_HeadHash z0 e1 _ _ W hie1  (hsp z0 e1 hiz0 hie1) (him z0 e1 hiz0 hie1)).mono fun e W' ⟨he, bel⟩ => ?_
  subst he
  exact ⟨_, rfl, _, _, _, [], _, [], hW', trodAll_mk1 (shut_bool Try.underlying4 _), (trodAll_cons_mk (Below.trod Try.laidOut (by kernel_rfl) (of_decide_eq_true (by kernel_rfl)) kk0 bel lt0) (trodAll_cons_mk (Below.trod Try.laidOut (by kernel_rfl) (of_decide_eq_true (by kernel_rfl)) kk1 bel lt1) trodAll_mk0)), rfl, bel.frame _, fun h => by cases h⟩
theorem said_HeadHash (f0 : Int → Hd → ByteArray) (f1 : Int → Hd → Bool) (hsp : ∀ (z0 : Int) (e1 : Hd), (I64 z0) → (e1.fits) → specHeadHash_does z0 e1 (f0 z0 e1) (f1 z0 e1)) (him : ∀ (z0 : Int) (e1 : Hd), (I64 z0) → (e1.fits) → implHeadHash_does z0 e1 (f0 z0 e1) (f1 z0 e1))  : Rows.FnExactHeadHashSaid :=
  OpenClaim.holds_of_wide 10 Try.f10 rfl rfl rfl rfl rfl rfl rfl ⟨rfl, rfl, rfl, rfl, rfl⟩ rfl rfl rfl rfl rfl (by kernel_rfl) Try.func10 (by show joinedFacts Try.prog 10 Try.f10 Rows.fnExactHeadHashSpec Rows.fnExactHeadHashRow = true; unfold joinedFacts; rw [seat_enter, seat_final, seat_make]; kernel_rfl)
    (of_decide_eq_true (by kernel_rfl)) (by unfold Func.isWrapper; first | (rw [if_pos (by decide +kernel)]; kernel_rfl) | (rw [if_neg (by decide +kernel)]; exact ⟨rfl, rfl⟩))
    (fun os started H enc _ => lifted_HeadHash f0 f1 hsp him os started H enc)
end
end Go.Proofs.Ytojjjhbiccgjkaa
