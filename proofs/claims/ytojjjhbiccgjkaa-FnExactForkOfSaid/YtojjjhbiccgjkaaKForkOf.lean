/- The walk of the law FnExactForkOf; what spec.ForkOf and impl.ForkOf do comes in as hypotheses. Written by gen_law.py. -/
import Derived.Test.YtojjjhbiccgjkaaData
import Derived.Test.YtojjjhbiccgjkaaSHead
import Derived.Test.YtojjjhbiccgjkaaStr
import Derived.Test.YtojjjhbiccgjkaaOpen
import Derived.Test.YtojjjhbiccgjkaaSeat
namespace Go.Proofs.Ytojjjhbiccgjkaa
set_option linter.unusedVariables false
set_option linter.unusedSimpArgs false
open Go.RowKit
attribute [local go_sem ↓] Go.wp_at_zero Go.wp_at_succ

def specForkOf_does (z0 : Int) (e1 : Hd) (e2 : Hd) (br0 : Bool) : Prop :=
    e1.bulk + e2.bulk ≤ 1048576 → ∀ W : World, Calls Try.prog 35 #[.int .i64 z0, .agg #[.int .i64 e1.num, .int .i64 e1.size, .string e1.root, .int .i64 e1.taken, .string e1.troot], .agg #[.int .i64 e2.num, .int .i64 e2.size, .string e2.root, .int .i64 e2.taken, .string e2.troot]] W fun r W' => r = .returned (.bool br0) ∧ Below W.heap.size W W'
def implForkOf_does (z0 : Int) (e1 : Hd) (e2 : Hd) (br0 : Bool) : Prop :=
    e1.bulk + e2.bulk ≤ 1048576 → ∀ W : World, Calls Try.prog 36 #[.int .i64 z0, .agg #[.int .i64 e1.num, .int .i64 e1.size, .string e1.root, .int .i64 e1.taken, .string e1.troot], .agg #[.int .i64 e2.num, .int .i64 e2.size, .string e2.root, .int .i64 e2.taken, .string e2.troot]] W fun r W' => r = .returned (.bool br0) ∧ Below W.heap.size W W'
set_option maxRecDepth 100000 in
set_option maxHeartbeats 4000000 in
theorem walk_ForkOf (z0 : Int) (e1 : Hd) (e2 : Hd) (br0 : Bool) (w : World) (hfe1 : e1.fits) (hfe2 : e2.fits) (HSP : specForkOf_does z0 e1 e2 br0) (HIM : implForkOf_does z0 e1 e2 br0) :
    Calls Try.prog 6 #[.int .i64 z0, .agg #[.int .i64 e1.num, .int .i64 e1.size, .string e1.root, .int .i64 e1.taken, .string e1.troot], .agg #[.int .i64 e2.num, .int .i64 e2.size, .string e2.root, .int .i64 e2.taken, .string e2.troot]] w fun e w' => e = .returned (.bool true) ∧ Below w.heap.size w w' := by
  have HB0 : Hid (Below w.heap.size w w) := Below.refl _ _
  go_enter Try.func6, Try.ntmps6
  go_wp2_with fail
  refine (szHead_c e1 _ _ hfe1 (by omega) (by omega)).mono ?_
  rintro e w1 ⟨rfl, hb1⟩
  have hz1 : w.heap.size + 2 ≤ w1.heap.size := by have := hb1.size; first | omega | (simp at this; omega)
  have hzz1 : w.heap.size ≤ w1.heap.size := by omega
  have HB1 : Hid (Below w.heap.size w w1) := below_then (by ((repeat (first | refine Below.alloc ?_ (by first | omega | (simp; done) | (simp; omega)) _ | refine Below.drew ?_)); exact HB0.out)) hb1 (by first | omega | (simp; done) | (simp; omega))
  have HXaA : Hid (Box w1 (w.heap.size) [.int .i64 e1.num, .int .i64 e1.size, .string e1.root, .int .i64 e1.taken, .string e1.troot]) := Box.below ((Box.new0 _ _ _).alloc _) hb1
  have hxaA := HXaA.out.2
  have hkaA := HXaA.out.1
  have HXaB : Hid (Box w1 (w.heap.size + 1) [.int .i64 e2.num, .int .i64 e2.size, .string e2.root, .int .i64 e2.taken, .string e2.troot]) := Box.below (Box.new1 _ _ _ _) hb1
  have hxaB := HXaB.out.2
  have hkaB := HXaB.out.1
  clear hb1
  go_wp2_with fail
  · go_ret
    exact ⟨rfl, HB1.out⟩
  · have hp1 : 0 ≤ szF 1048576 (e1.bulk) := by assumption
    have hg1 := (szF_le 1048576 (e1.bulk) (by omega)).2
    refine (szHead_c e2 _ _ hfe2 (by omega) (by omega)).mono ?_
    rintro e w2 ⟨rfl, hb2⟩
    have hz2 : w1.heap.size ≤ w2.heap.size := by have := hb2.size; first | omega | (simp at this; omega)
    have hzz2 : w.heap.size ≤ w2.heap.size := by omega
    have HB2 : Hid (Below w.heap.size w w2) := below_then (by ((repeat (first | refine Below.alloc ?_ (by first | omega | (simp; done) | (simp; omega)) _ | refine Below.drew ?_)); exact HB1.out)) hb2 (by first | omega | (simp; done) | (simp; omega))
    replace HXaA : Hid (Box w2 (w.heap.size) [.int .i64 e1.num, .int .i64 e1.size, .string e1.root, .int .i64 e1.taken, .string e1.troot]) := Box.below HXaA.out hb2
    clear hxaA hkaA
    have hxaA := HXaA.out.2
    have hkaA := HXaA.out.1
    replace HXaB : Hid (Box w2 (w.heap.size + 1) [.int .i64 e2.num, .int .i64 e2.size, .string e2.root, .int .i64 e2.taken, .string e2.troot]) := Box.below HXaB.out hb2
    clear hxaB hkaB
    have hxaB := HXaB.out.2
    have hkaB := HXaB.out.1
    have HA2 : Hid (szF (szF 1048576 (e1.bulk)) e2.bulk = szF 1048576 (e1.bulk + e2.bulk)) := szF_add (by assumption)
    rw [HA2.out]
    clear hb2
    go_wp2_with fail
    · go_ret
      exact ⟨rfl, HB2.out⟩
    · have hp2 : 0 ≤ szF 1048576 (e1.bulk + e2.bulk) := by assumption
      have hg2 := (szF_le 1048576 (e1.bulk + e2.bulk) (by omega)).2
      have hbk : e1.bulk + e2.bulk ≤ 1048576 := by have := (szF_pos hp2).1; omega
      have la13 : ∀ (v : Later w2) (o : Nat), v.v.cell? ⟨w.heap.size, o, none⟩ = [.int .i64 e1.num, .int .i64 e1.size, .string e1.root, .int .i64 e1.taken, .string e1.troot][o]? := fun v o => (later_cell v _ _ hkaA).trans (hxaA o)
      have lb13 : ∀ (v : Later w2) (o : Nat), v.v.cell? ⟨w.heap.size + 1, o, none⟩ = [.int .i64 e2.num, .int .i64 e2.size, .string e2.root, .int .i64 e2.taken, .string e2.troot][o]? := fun v o => (later_cell v _ _ hkaB).trans (hxaB o)
      have HSP2 := Lib.hid (fun W : World => HSP hbk W)
      clear hxaA hxaB
      refine wp_region_later (by kernel_rfl) (by kernel_rfl) ?_
      repeat (go_big_quiet_step ((first | with_reducible exact later_call (toHead_c e1 _) | with_reducible exact later_call (toHead_c e2 _) | with_reducible exact later_call (HSP2.out _))))
      refine wpQuiet_nil ?_
      intro w13 hl
      have hb := later_below hl
      clear hl la13 lb13
      have HB13 : Hid (Below w.heap.size w w13) := below_then HB2.out hb HB2.out.size
      replace HXaA : Hid (Box w13 (w.heap.size) [.int .i64 e1.num, .int .i64 e1.size, .string e1.root, .int .i64 e1.taken, .string e1.troot]) := Box.below HXaA.out hb
      replace HXaB : Hid (Box w13 (w.heap.size + 1) [.int .i64 e2.num, .int .i64 e2.size, .string e2.root, .int .i64 e2.taken, .string e2.troot]) := Box.below HXaB.out hb
      clear hkaA hkaB hb
      have hxaA := HXaA.out.2
      have hxaB := HXaB.out.2
      have hkaA := HXaA.out.1
      have hkaB := HXaB.out.1
      go_wp2_with fail
      have la14 : ∀ (v : Later w13) (o : Nat), v.v.cell? ⟨w.heap.size, o, none⟩ = [.int .i64 e1.num, .int .i64 e1.size, .string e1.root, .int .i64 e1.taken, .string e1.troot][o]? := fun v o => (later_cell v _ _ hkaA).trans (hxaA o)
      have lb14 : ∀ (v : Later w13) (o : Nat), v.v.cell? ⟨w.heap.size + 1, o, none⟩ = [.int .i64 e2.num, .int .i64 e2.size, .string e2.root, .int .i64 e2.taken, .string e2.troot][o]? := fun v o => (later_cell v _ _ hkaB).trans (hxaB o)
      have HIM2 := Lib.hid (fun W : World => HIM hbk W)
      clear hxaA hxaB
      refine wp_region_later (by kernel_rfl) (by kernel_rfl) ?_
      repeat (go_big_quiet_step ((first | with_reducible exact later_call (toHead_c e1 _) | with_reducible exact later_call (toHead_c e2 _) | with_reducible exact later_call (HIM2.out _))))
      refine wpQuiet_nil ?_
      intro w14 hl
      have hb := later_below hl
      clear hl la14 lb14
      have HB14 : Hid (Below w.heap.size w w14) := below_then HB13.out hb HB13.out.size
      replace HXaA : Hid (Box w14 (w.heap.size) [.int .i64 e1.num, .int .i64 e1.size, .string e1.root, .int .i64 e1.taken, .string e1.troot]) := Box.below HXaA.out hb
      replace HXaB : Hid (Box w14 (w.heap.size + 1) [.int .i64 e2.num, .int .i64 e2.size, .string e2.root, .int .i64 e2.taken, .string e2.troot]) := Box.below HXaB.out hb
      clear hkaA hkaB hb
      have hxaA := HXaA.out.2
      have hxaB := HXaB.out.2
      have hkaA := HXaA.out.1
      have hkaB := HXaB.out.1
      clear hxaA hxaB
      go_wp2
      go_ret
      exact ⟨rfl, HB14.out⟩

section
open Go.ChangeShapes Go.WideShapes Go.ChangeAt
open Go.ChangeMaps (open_string)
set_option maxRecDepth 100000 in
theorem lifted_ForkOf (f0 : Int → Hd → Hd → Bool) (hsp : ∀ (z0 : Int) (e1 : Hd) (e2 : Hd), (I64 z0) → (e1.fits) → (e2.fits) → specForkOf_does z0 e1 e2 (f0 z0 e1 e2)) (him : ∀ (z0 : Int) (e1 : Hd) (e2 : Hd), (I64 z0) → (e1.fits) → (e2.fits) → implForkOf_does z0 e1 e2 (f0 z0 e1 e2))  (os : Os) (started : os.Started) (H : Type) (enc : TypeId × Value → H) :
    ReturnsInHanded {} Try.checked os 6 .any (Rows.fnExactForkOfSpec.pre6 enc Try.prog Try.f6 Rows.fnExactForkOfRow.domain false) (Rows.fnExactForkOfSpec.post enc Try.prog Try.f6 false true false false) := by
  refine returnsInHanded_of_change (C := Try.checked) Try.own started (by kernel_rfl) Try.func6
    (ChangeSpec.witness6 (enc := enc) (C := Try.checked) false ⟨#[], #[.int .i64 0, .agg #[.int .i64 0, .int .i64 0, .string ByteArray.empty, .int .i64 0, .string ByteArray.empty], .agg #[.int .i64 0, .int .i64 0, .string ByteArray.empty, .int .i64 0, .string ByteArray.empty]], []⟩ 8 (by kernel_rfl) (by kernel_rfl) (by kernel_rfl) (by kernel_rfl)) ?_
  intro W base args ds gs before hval0 hW hcnd _
  have hval : ∀ (j : Nat) t v, Try.f6.params[j]? = some t → args[j]? = some v → Value.okWide Try.prog W .any base t v := hval0
  have hW' := hW
  obtain ⟨p, q, hA0, hV, rfl, hfz, hnd⟩ := hW
  have hA : DataW.TrodAll enc Try.prog W 0 (fun _ => true) true Try.f6.params.toList args.toList ds p := hA0
  rw [Try.params6] at hA hval
  obtain ⟨v0, vs0, d0, ds0, p0, q0, hargs, rfl, rfl, h0, r0⟩ := trodAll_cons hA
  obtain ⟨v1, vs1, d1, ds1, p1, q1, rfl, rfl, rfl, h1, r1⟩ := trodAll_cons r0
  obtain ⟨v2, vs2, d2, ds2, p2, q2, rfl, rfl, rfl, h2, r2⟩ := trodAll_cons r1
  obtain ⟨rfl, rfl, rfl⟩ := trodAll_nil r2
  obtain rfl : args = #[v0, v1, v2] := by cases args; simp_all
  obtain ⟨rfl, rfl⟩ := trodVars_none hV
  have lt0 : ∀ x ∈ p0, x.block < W.heap.size := by obtain ⟨m, hm⟩ := h0; exact DataW.trod_lt m _ _ _ hm
  have kk0 := h0
  have lt1 : ∀ x ∈ p1, x.block < W.heap.size := by obtain ⟨m, hm⟩ := h1; exact DataW.trod_lt m _ _ _ hm
  have kk1 := h1
  have lt2 : ∀ x ∈ p2, x.block < W.heap.size := by obtain ⟨m, hm⟩ := h2; exact DataW.trod_lt m _ _ _ hm
  have kk2 := h2
  obtain ⟨z0, rfl, rfl, rfl, wi0⟩ := open_int Try.underlying3 (hval 0 _ v0 rfl rfl) h0
  have hiz0 : I64 z0 := i64_of_wf wi0
  obtain ⟨e1, rfl, hie1⟩ := open_Head (hval 1 _ v1 rfl rfl) h1
  obtain ⟨e2, rfl, hie2⟩ := open_Head (hval 2 _ v2 rfl rfl) h2
  clear hA0 hval0
  refine (walk_ForkOf z0 e1 e2 _ W hie1 hie2  (hsp z0 e1 e2 hiz0 hie1 hie2) (him z0 e1 e2 hiz0 hie1 hie2)).mono fun e W' ⟨he, bel⟩ => ?_
  subst he
  exact ⟨_, rfl, _, _, _, [], _, [], hW', trodAll_mk1 (shut_bool Try.underlying4 _), (trodAll_cons_mk (Below.trod Try.laidOut (by kernel_rfl) (of_decide_eq_true (by kernel_rfl)) kk0 bel lt0) (trodAll_cons_mk (Below.trod Try.laidOut (by kernel_rfl) (of_decide_eq_true (by kernel_rfl)) kk1 bel lt1) (trodAll_cons_mk (Below.trod Try.laidOut (by kernel_rfl) (of_decide_eq_true (by kernel_rfl)) kk2 bel lt2) trodAll_mk0))), rfl, bel.frame _, fun h => by cases h⟩
theorem said_ForkOf (f0 : Int → Hd → Hd → Bool) (hsp : ∀ (z0 : Int) (e1 : Hd) (e2 : Hd), (I64 z0) → (e1.fits) → (e2.fits) → specForkOf_does z0 e1 e2 (f0 z0 e1 e2)) (him : ∀ (z0 : Int) (e1 : Hd) (e2 : Hd), (I64 z0) → (e1.fits) → (e2.fits) → implForkOf_does z0 e1 e2 (f0 z0 e1 e2))  : Rows.FnExactForkOfSaid :=
  OpenClaim.holds_of_wide 6 Try.f6 rfl rfl rfl rfl rfl rfl rfl ⟨rfl, rfl, rfl, rfl, rfl⟩ rfl rfl rfl rfl rfl (by kernel_rfl) Try.func6 (by show joinedFacts Try.prog 6 Try.f6 Rows.fnExactForkOfSpec Rows.fnExactForkOfRow = true; unfold joinedFacts; rw [seat_enter, seat_final, seat_make]; kernel_rfl)
    (of_decide_eq_true (by kernel_rfl)) (by unfold Func.isWrapper; first | (rw [if_pos (by decide +kernel)]; kernel_rfl) | (rw [if_neg (by decide +kernel)]; exact ⟨rfl, rfl⟩))
    (fun os started H enc _ => lifted_ForkOf f0 hsp him os started H enc)
end
end Go.Proofs.Ytojjjhbiccgjkaa
