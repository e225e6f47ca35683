/- The walk of the law FnExactHeadNew; what spec.HeadNew and impl.HeadNew do comes in as hypotheses. Written by gen_law.py. -/
import Derived.Test.YtojjjhbiccgjkaaData
import Derived.Test.YtojjjhbiccgjkaaReg
import Derived.Test.YtojjjhbiccgjkaaSHead
import Derived.Test.YtojjjhbiccgjkaaStr
import Derived.Test.YtojjjhbiccgjkaaOpen
import Derived.Test.YtojjjhbiccgjkaaSeat
namespace Go.Proofs.Ytojjjhbiccgjkaa
set_option linter.unusedVariables false
set_option linter.unusedSimpArgs false
open Go.RowKit
attribute [local go_sem ↓] Go.wp_at_zero Go.wp_at_succ

def specHeadNew_does (z0 : Int) (er0 : Hd) (br1 : Bool) : Prop :=
    ∀ W : World, Calls Try.prog 28 #[.int .i64 z0] W fun r W' => r = .returned (.tuple #[.agg #[.int .i64 er0.num, .int .i64 er0.size, .string er0.root, .int .i64 er0.taken, .string er0.troot], .bool br1]) ∧ Below W.heap.size W W'
def implHeadNew_does (z0 : Int) (er0 : Hd) (br1 : Bool) : Prop :=
    ∀ W : World, Calls Try.prog 29 #[.int .i64 z0] W fun r W' => r = .returned (.tuple #[.agg #[.int .i64 er0.num, .int .i64 er0.size, .string er0.root, .int .i64 er0.taken, .string er0.troot], .bool br1]) ∧ Below W.heap.size W W'
set_option maxRecDepth 100000 in
set_option maxHeartbeats 4000000 in
theorem walk_HeadNew (z0 : Int) (er0 : Hd) (br1 : Bool) (w : World)  (HSP : specHeadNew_does z0 er0 br1) (HIM : implHeadNew_does z0 er0 br1) :
    Calls Try.prog 4 #[.int .i64 z0] w fun e w' => e = .returned (.bool true) ∧ Below w.heap.size w w' := by
  have HB0 : Hid (Below w.heap.size w w) := Below.refl _ _
  go_enter Try.func4, Try.ntmps4
  go_wp2_with fail
  refine (HSP _ ).mono ?_
  rintro e w1 ⟨rfl, hb1⟩
  have hz1 : w.heap.size ≤ w1.heap.size := by have := hb1.size; first | omega | (simp at this; omega)
  have hzz1 : w.heap.size ≤ w1.heap.size := by omega
  have HB1 : Hid (Below w.heap.size w w1) := below_then (by ((repeat (first | refine Below.alloc ?_ (by first | omega | (simp; done) | (simp; omega)) _ | refine Below.drew ?_)); exact HB0.out)) hb1 (by first | omega | (simp; done) | (simp; omega))
  clear hb1 
  go_wp2_with fail
  refine (HIM _ ).mono ?_
  rintro e w2 ⟨rfl, hb2⟩
  have hz2 : w1.heap.size + 1 ≤ w2.heap.size := by have := hb2.size; first | omega | (simp at this; omega)
  have hzz2 : w.heap.size ≤ w2.heap.size := by omega
  have HB2 : Hid (Below w.heap.size w w2) := below_then (by ((repeat (first | refine Below.alloc ?_ (by first | omega | (simp; done) | (simp; omega)) _ | refine Below.drew ?_)); exact HB1.out)) hb2 (by first | omega | (simp; done) | (simp; omega))
  have HXw0 : Hid (Box w2 (w1.heap.size) [.int .i64 er0.num, .int .i64 er0.size, .string er0.root, .int .i64 er0.taken, .string er0.troot]) := Box.below (Box.new0 _ _ _) hb2
  have hxw0 := HXw0.out.2
  have hkw0 := HXw0.out.1
  clear hb2 
  go_wp2_with fail
  refine (eqHead_c er0 _).mono ?_
  rintro e w3 ⟨rfl, hb3⟩
  have hz3 : w2.heap.size + 1 ≤ w3.heap.size := by have := hb3.size; first | omega | (simp at this; omega)
  have hzz3 : w.heap.size ≤ w3.heap.size := by omega
  have HB3 : Hid (Below w.heap.size w w3) := below_then (by ((repeat (first | refine Below.alloc ?_ (by first | omega | (simp; done) | (simp; omega)) _ | refine Below.drew ?_)); exact HB2.out)) hb3 (by first | omega | (simp; done) | (simp; omega))
  replace HXw0 : Hid (Box w3 (w1.heap.size) [.int .i64 er0.num, .int .i64 er0.size, .string er0.root, .int .i64 er0.taken, .string er0.troot]) := Box.below (HXw0.out.alloc _) hb3
  clear hxw0 hkw0
  have hxw0 := HXw0.out.2
  have hkw0 := HXw0.out.1
  have HXg0 : Hid (Box w3 (w2.heap.size) [.int .i64 er0.num, .int .i64 er0.size, .string er0.root, .int .i64 er0.taken, .string er0.troot]) := Box.below (Box.new0 _ _ _) hb3
  have hxg0 := HXg0.out.2
  have hkg0 := HXg0.out.1
  clear hb3
  go_wp2
  go_ret
  exact ⟨rfl, HB3.out⟩

section
open Go.ChangeShapes Go.WideShapes Go.ChangeAt
open Go.ChangeMaps (open_string)
set_option maxRecDepth 100000 in
theorem lifted_HeadNew (f0 : Int → Hd) (f1 : Int → Bool) (hsp : ∀ (z0 : Int), (I64 z0) → specHeadNew_does z0 (f0 z0) (f1 z0)) (him : ∀ (z0 : Int), (I64 z0) → implHeadNew_does z0 (f0 z0) (f1 z0))  (os : Os) (started : os.Started) (H : Type) (enc : TypeId × Value → H) :
    ReturnsInHanded {} Try.checked os 4 .any (Rows.fnExactHeadNewSpec.pre6 enc Try.prog Try.f4 Rows.fnExactHeadNewRow.domain false) (Rows.fnExactHeadNewSpec.post enc Try.prog Try.f4 false true false false) := by
  refine returnsInHanded_of_change (C := Try.checked) Try.own started (by kernel_rfl) Try.func4
    (ChangeSpec.witness6 (enc := enc) (C := Try.checked) false ⟨#[], #[.int .i64 0], []⟩ 8 (by kernel_rfl) (by kernel_rfl) (by kernel_rfl) (by kernel_rfl)) ?_
  intro W base args ds gs before hval0 hW hcnd _
  have hval : ∀ (j : Nat) t v, Try.f4.params[j]? = some t → args[j]? = some v → Value.okWide Try.prog W .any base t v := hval0
  have hW' := hW
  obtain ⟨p, q, hA0, hV, rfl, hfz, hnd⟩ := hW
  have hA : DataW.TrodAll enc Try.prog W 0 (fun _ => true) true Try.f4.params.toList args.toList ds p := hA0
  rw [Try.params4] at hA hval
  obtain ⟨v0, vs0, d0, ds0, p0, q0, hargs, rfl, rfl, h0, r0⟩ := trodAll_cons hA
  obtain ⟨rfl, rfl, rfl⟩ := trodAll_nil r0
  obtain rfl : args = #[v0] := by cases args; simp_all
  obtain ⟨rfl, rfl⟩ := trodVars_none hV
  have lt0 : ∀ x ∈ p0, x.block < W.heap.size := by obtain ⟨m, hm⟩ := h0; exact DataW.trod_lt m _ _ _ hm
  have kk0 := h0
  obtain ⟨z0, rfl, rfl, rfl, wi0⟩ := open_int Try.underlying3 (hval 0 _ v0 rfl rfl) h0
  have hiz0 : I64 z0 := i64_of_wf wi0
  clear hA0 hval0
  refine (walk_HeadNew z0 _ _ W   (hsp z0 hiz0) (him z0 hiz0)).mono fun e W' ⟨he, bel⟩ => ?_
  subst he
  exact ⟨_, rfl, _, _, _, [], _, [], hW', trodAll_mk1 (shut_bool Try.underlying4 _), (trodAll_cons_mk (Below.trod Try.laidOut (by kernel_rfl) (of_decide_eq_true (by kernel_rfl)) kk0 bel lt0) trodAll_mk0), rfl, bel.frame _, fun h => by cases h⟩
theorem said_HeadNew (f0 : Int → Hd) (f1 : Int → Bool) (hsp : ∀ (z0 : Int), (I64 z0) → specHeadNew_does z0 (f0 z0) (f1 z0)) (him : ∀ (z0 : Int), (I64 z0) → implHeadNew_does z0 (f0 z0) (f1 z0))  : Rows.FnExactHeadNewSaid :=
  OpenClaim.holds_of_wide 4 Try.f4 rfl rfl rfl rfl rfl rfl rfl ⟨rfl, rfl, rfl, rfl, rfl⟩ rfl rfl rfl rfl rfl (by kernel_rfl) Try.func4 (by show joinedFacts Try.prog 4 Try.f4 Rows.fnExactHeadNewSpec Rows.fnExactHeadNewRow = true; unfold joinedFacts; rw [seat_enter, seat_final, seat_make]; kernel_rfl)
    (of_decide_eq_true (by kernel_rfl)) (by unfold Func.isWrapper; first | (rw [if_pos (by decide +kernel)]; kernel_rfl) | (rw [if_neg (by decide +kernel)]; exact ⟨rfl, rfl⟩))
    (fun os started H enc _ => lifted_HeadNew f0 f1 hsp him os started H enc)
end
end Go.Proofs.Ytojjjhbiccgjkaa
