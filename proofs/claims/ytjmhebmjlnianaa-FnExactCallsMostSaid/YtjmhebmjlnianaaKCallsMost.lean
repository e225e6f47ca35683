/- The walk of the law FnExactCallsMost; what spec.CallsMost and impl.CallsMost do comes in as hypotheses. Written by gen_law.py. -/
import Derived.Test.YtjmhebmjlnianaaData
import Derived.Test.YtjmhebmjlnianaaStr
import Derived.Test.YtjmhebmjlnianaaOpen
namespace Go.Proofs.Ytjmhebmjlnianaa
set_option linter.unusedVariables false
set_option linter.unusedSimpArgs false
open Go.RowKit
attribute [local go_sem ↓] Go.wp_at_zero Go.wp_at_succ

def specCallsMost_does (z0 : Int) (z1 : Int) (zr0 : Int) : Prop :=
    ∀ W : World, Calls Try.prog 18 #[.int .i64 z0, .int .i64 z1] W fun r W' => r = .returned (.int .i64 zr0) ∧ Below W.heap.size W W'
def implCallsMost_does (z0 : Int) (z1 : Int) (zr0 : Int) : Prop :=
    ∀ W : World, Calls Try.prog 19 #[.int .i64 z0, .int .i64 z1] W fun r W' => r = .returned (.int .i64 zr0) ∧ Below W.heap.size W W'
set_option maxRecDepth 100000 in
set_option maxHeartbeats 400000 in
theorem walk_CallsMost (z0 : Int) (z1 : Int) (zr0 : Int) (w : World)  (HSP : specCallsMost_does z0 z1 zr0) (HIM : implCallsMost_does z0 z1 zr0) :
    Calls Try.prog 3 #[.int .i64 z0, .int .i64 z1] w fun e w' => e = .returned (.bool true) ∧ Below w.heap.size w w' := by
  have HB0 : Hid (Below w.heap.size w w) := Below.refl _ _
  go_enter Try.func3, Try.ntmps3
  go_wp2_with fail
  refine (HSP _ ).mono ?_
  rintro e w1 ⟨rfl, hb1⟩
  have hz1 : w.heap.size ≤ w1.heap.size := by have := hb1.size; first | omega | (simp at this; omega)
  have hzz1 : w.heap.size ≤ w1.heap.size := by omega
  have HB1 : Hid (Below w.heap.size w w1) := below_then (by ((repeat (first | refine Below.alloc ?_ (by first | omega | (simp; done) | (simp; omega)) _ | refine Below.drew ?_)); exact HB0.out)) hb1 (by first | omega | (simp; done) | (simp; omega))
  clear hb1 
  go_wp2_with fail
  refine (HIM _ ).mono ?_
  rintro e w2 ⟨rfl, hb2⟩
  have hz2 : w1.heap.size ≤ w2.heap.size := by have := hb2.size; first | omega | (simp at this; omega)
  have hzz2 : w.heap.size ≤ w2.heap.size := by omega
  have HB2 : Hid (Below w.heap.size w w2) := below_then (by ((repeat (first | refine Below.alloc ?_ (by first | omega | (simp; done) | (simp; omega)) _ | refine Below.drew ?_)); exact HB1.out)) hb2 (by first | omega | (simp; done) | (simp; omega))
  clear hb2 
  go_wp2
  go_ret
  exact ⟨rfl, HB2.out⟩

section
open Go.ChangeShapes Go.WideShapes Go.ChangeAt
open Go.ChangeMaps (open_string)
set_option maxRecDepth 100000 in
theorem lifted_CallsMost (f0 : Int → Int → Int) (hsp : ∀ (z0 : Int) (z1 : Int), (I64 z0) → (I64 z1) → specCallsMost_does z0 z1 (f0 z0 z1)) (him : ∀ (z0 : Int) (z1 : Int), (I64 z0) → (I64 z1) → implCallsMost_does z0 z1 (f0 z0 z1))  (os : Os) (started : os.Started) (H : Type) (enc : TypeId × Value → H) :
    ReturnsInHanded {} Try.checked os 3 .any (Rows.fnExactCallsMostSpec.pre6 enc Try.prog Try.f3 Rows.fnExactCallsMostRow.domain false) (Rows.fnExactCallsMostSpec.post enc Try.prog Try.f3 false true false false) := by
  refine returnsInHanded_of_change (C := Try.checked) Try.own started (by kernel_rfl) Try.func3
    (ChangeSpec.witness6 (enc := enc) (C := Try.checked) false ⟨#[], #[.int .i64 0, .int .i64 0], []⟩ 8 (by kernel_rfl) (by kernel_rfl) (by kernel_rfl) (by kernel_rfl)) ?_
  intro W base args ds gs before hval0 hW hcnd _
  have hval : ∀ (j : Nat) t v, Try.f3.params[j]? = some t → args[j]? = some v → Value.okWide Try.prog W .any base t v := hval0
  have hW' := hW
  obtain ⟨p, q, hA0, hV, rfl, hfz, hnd⟩ := hW
  have hA : DataW.TrodAll enc Try.prog W 0 (fun _ => true) true Try.f3.params.toList args.toList ds p := hA0
  rw [Try.params3] at hA hval
  obtain ⟨v0, vs0, d0, ds0, p0, q0, hargs, rfl, rfl, h0, r0⟩ := trodAll_cons hA
  obtain ⟨v1, vs1, d1, ds1, p1, q1, rfl, rfl, rfl, h1, r1⟩ := trodAll_cons r0
  obtain ⟨rfl, rfl, rfl⟩ := trodAll_nil r1
  obtain rfl : args = #[v0, v1] := by cases args; simp_all
  obtain ⟨rfl, rfl⟩ := trodVars_none hV
  have lt0 : ∀ x ∈ p0, x.block < W.heap.size := by obtain ⟨m, hm⟩ := h0; exact DataW.trod_lt m _ _ _ hm
  have kk0 := h0
  have lt1 : ∀ x ∈ p1, x.block < W.heap.size := by obtain ⟨m, hm⟩ := h1; exact DataW.trod_lt m _ _ _ hm
  have kk1 := h1
  obtain ⟨z0, rfl, rfl, rfl, wi0⟩ := open_int Try.underlying3 (hval 0 _ v0 rfl rfl) h0
  have hiz0 : I64 z0 := i64_of_wf wi0
  obtain ⟨z1, rfl, rfl, rfl, wi1⟩ := open_int Try.underlying3 (hval 1 _ v1 rfl rfl) h1
  have hiz1 : I64 z1 := i64_of_wf wi1
  clear hA0 hval0
  refine (walk_CallsMost z0 z1 _ W   (hsp z0 z1 hiz0 hiz1) (him z0 z1 hiz0 hiz1)).mono fun e W' ⟨he, bel⟩ => ?_
  subst he
  exact ⟨_, rfl, _, _, _, [], _, [], hW', trodAll_mk1 (shut_bool Try.underlying4 _), (trodAll_cons_mk (Below.trod Try.laidOut (by kernel_rfl) (of_decide_eq_true (by kernel_rfl)) kk0 bel lt0) (trodAll_cons_mk (Below.trod Try.laidOut (by kernel_rfl) (of_decide_eq_true (by kernel_rfl)) kk1 bel lt1) trodAll_mk0)), rfl, bel.frame _, fun h => by cases h⟩
theorem said_CallsMost (f0 : Int → Int → Int) (hsp : ∀ (z0 : Int) (z1 : Int), (I64 z0) → (I64 z1) → specCallsMost_does z0 z1 (f0 z0 z1)) (him : ∀ (z0 : Int) (z1 : Int), (I64 z0) → (I64 z1) → implCallsMost_does z0 z1 (f0 z0 z1))  : Rows.FnExactCallsMostSaid :=
  OpenClaim.holds_of_wide 3 Try.f3 rfl rfl rfl rfl rfl rfl rfl ⟨rfl, rfl, rfl, rfl, rfl⟩ rfl rfl rfl rfl rfl (by kernel_rfl) Try.func3 (by kernel_rfl)
    (of_decide_eq_true (by kernel_rfl)) (by unfold Func.isWrapper; first | (rw [if_pos (by decide +kernel)]; kernel_rfl) | (rw [if_neg (by decide +kernel)]; exact ⟨rfl, rfl⟩))
    (fun os started H enc _ => lifted_CallsMost f0 hsp him os started H enc)
end
end Go.Proofs.Ytjmhebmjlnianaa
