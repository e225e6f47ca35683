/- FnExactDiskOk holds: for every disk the program DiskOk answers as the reference does, and leaves its argument alone. No condition. -/
import Derived.Test.YtjmhebmjlnianaaDisk
import Derived.Test.YtjmhebmjlnianaaOpen
namespace Go.Proofs.Ytjmhebmjlnianaa
set_option linter.unusedVariables false
set_option linter.unusedSimpArgs false
open Go.RowKit
attribute [local go_sem ↓] Go.wp_at_zero Go.wp_at_succ

set_option maxRecDepth 100000 in
set_option maxHeartbeats 400000 in
theorem lawDiskOk (A : Option Addr) (c n : Nat) (l : List ByteArray) (w : World) (hr : Rd w 0 w.heap.size A (strs l)) (hn : l.length = n) (hl : n ≤ maxLen)
    (hs : ∀ (k : Nat) (s : ByteArray), l[k]? = some s → s.size ≤ maxLen) :
    Calls Try.prog 5 #[.agg #[.slice A n c]] w fun e w' => e = .returned (.bool true) ∧ Below w.heap.size w w' := by
  have HN := Lib.hid hn
  have HS := Lib.hid hs
  clear hn hs
  go_enter Try.func5, Try.ntmps5
  go_wp2_with fail
  refine (szDisk_c A c _ _ n l _ _ (hr.alloc _) HN.out hl HS.out (by omega) (by omega)).mono ?_
  rintro e w1 ⟨rfl, hb1⟩
  have hx1 : w1.cell? ⟨w.heap.size, 0, none⟩ = some (.slice A n c) := cell_later hb1 (by go_simp)
  have hq1 : w.heap.size < w1.heap.size := by have := hb1.size; simp at this; omega
  have HB1 : Hid (Below w.heap.size w w1) := ((Below.refl _ _).alloc (Nat.le_refl _) _).trans (hb1.mono (by first | omega | (simp; done) | (simp; omega)))
  clear hb1
  go_wp2_with fail
  · go_ret
    exact ⟨rfl, HB1.out⟩
  · have hpos : 0 ≤ szF 1048576 (n + bulkS l) := by assumption
    have hbk := (szF_pos hpos).1
    refine (toDisk_c A c _ _ n l _ (hr.below HB1.out) HN.out (by omega)).mono ?_
    rintro e w2 ⟨A2, rfl, ho2, hb2⟩
    have hx2 := cell_later hb2 hx1
    have hq2 : w.heap.size < w2.heap.size := by have := hb2.size; omega
    have HB2 : Hid (Below w.heap.size w w2) := below_then HB1.out hb2 (by omega)
    clear hx1 hb2
    go_wp2_with fail
    refine (specDiskOk_c A2 _ _ _ n l _ ho2.rd HN.out (by omega)).mono ?_
    rintro e w3 ⟨rfl, hb3⟩
    have hx3 := cell_later hb3 hx2
    have hq3 : w.heap.size < w3.heap.size := by have := hb3.size; omega
    have HB3 : Hid (Below w.heap.size w w3) := below_then HB2.out hb3 (by omega)
    clear hx2 hb3 ho2
    go_wp2_with fail
    refine (toDisk_c A c _ _ n l _ (hr.below HB3.out) HN.out (by omega)).mono ?_
    rintro e w4 ⟨A4, rfl, ho4, hb4⟩
    have hx4 := cell_later hb4 hx3
    have hq4 : w.heap.size < w4.heap.size := by have := hb4.size; omega
    have HB4 : Hid (Below w.heap.size w w4) := below_then HB3.out hb4 (by omega)
    have HO4 := Lib.hid ho4
    clear hx3 hb4 ho4
    go_wp2_with fail
    refine (implDiskOk_c A4 _ _ _ n l _ (HO4.out.rd.alloc _) HN.out (by omega)).mono ?_
    rintro e w5 ⟨rfl, hb5⟩
    have hx5 : w5.cell? ⟨w.heap.size, 0, none⟩ = some (.slice A n c) := cell_later hb5 (by go_simp)
    have hy5 : w5.cell? ⟨w4.heap.size, 0, none⟩ = some (.slice A4 n n) := cell_later hb5 (by go_simp)
    have hq5 : w.heap.size < w5.heap.size := by have := hb5.size; simp at this; omega
    have hp5 : w4.heap.size < w5.heap.size := by have := hb5.size; simp at this; omega
    have HB5 : Hid (Below w.heap.size w w5) := below_then (HB4.out.alloc (by omega) _) hb5 (by first | omega | (simp; done) | (simp; omega))
    have HO5 := Lib.hid ((HO4.out.rd.alloc _).below hb5)
    clear hx4 hb5 HO4
    go_wp2_with fail
    go_region_held3 (fun w' => w'.cell? ⟨w4.heap.size, 0, none⟩ = some (.slice A4 n n) ∧ w'.cell? ⟨w.heap.size, 0, none⟩ = some (.slice A n c))
      (first | exact ⟨hy5, hx5⟩ | exact ⟨hy6, hx6⟩ | exact ⟨hy7, hx7⟩)
      (first
        | (go_at_call 27
           refine (toDisk_c A c _ _ n l _ (hr.below HB5.out).drew HN.out (by omega)).mono ?_
           rintro e w6 ⟨A6, rfl, ho6, hb6⟩
           have hx6 := cell_later hb6 hx5
           have hy6 := cell_later hb6 hy5
           have HB6 : Hid (Below w.heap.size w w6) := below_then HB5.out.drew hb6 (by simp; omega)
           have HO6 : Hid (Rd w6 _ _ A4 (strs l)) := HO5.out.drew.below hb6
           clear hb6)
        | (go_at_call 22
           refine (eqDisk_c A4 A6 _ _ _ _ _ _ n n l _ HO6.out ho6.rd HN.out HN.out (by unfold maxLen; omega)).mono ?_
           rintro e w7 ⟨rfl, hb7⟩
           have hx7 := cell_later hb7 hx6
           have hy7 := cell_later hb7 hy6
           have HB7 : Hid (Below w.heap.size w w7) := below_then HB6.out hb7 HB6.out.size
           clear hb7))
    go_wp2
    go_ret
    exact ⟨rfl, HB7.out⟩

open Go.ChangeShapes Go.WideShapes Go.ChangeAt
set_option maxRecDepth 100000 in
theorem lifted (os : Os) (started : os.Started) (H : Type) (enc : TypeId × Value → H) :
    ReturnsInHanded {} Try.checked os 5 .any (Rows.fnExactDiskOkSpec.pre6 enc Try.prog Try.f5 Rows.fnExactDiskOkRow.domain false) (Rows.fnExactDiskOkSpec.post enc Try.prog Try.f5 false true false false) := by
  refine returnsInHanded_of_change (C := Try.checked) Try.own started (by kernel_rfl) Try.func5
    (ChangeSpec.witness6 (enc := enc) (C := Try.checked) false ⟨#[], #[.agg #[.slice none 0 0]], []⟩ 8 (by kernel_rfl) (by kernel_rfl) (by kernel_rfl) (by kernel_rfl)) ?_
  intro W base args ds gs before hval0 hW hcnd _
  have hval : ∀ (j : Nat) t v, Try.f5.params[j]? = some t → args[j]? = some v → Value.okWide Try.prog W .any base t v := hval0
  have hW' := hW
  obtain ⟨p, q, hA0, hV, rfl, hfz, hnd⟩ := hW
  have hA : DataW.TrodAll enc Try.prog W 0 (fun _ => true) true Try.f5.params.toList args.toList ds p := hA0
  rw [Try.params5] at hA hval
  obtain ⟨v0, vs0, d0, ds0, p0, q0, hargs, rfl, rfl, h0, r0⟩ := trodAll_cons hA
  obtain ⟨rfl, rfl, rfl⟩ := trodAll_nil r0
  obtain rfl : args = #[v0] := by cases args; simp_all
  obtain ⟨rfl, rfl⟩ := trodVars_none hV
  have lt0 : ∀ x ∈ p0, x.block < W.heap.size := by obtain ⟨m, hm⟩ := h0; exact DataW.trod_lt m _ _ _ hm
  obtain ⟨A0, n0, c0, l0, rfl, o0⟩ := open_Disk (hval 0 _ v0 rfl rfl) h0
  clear hA0 hval0
  refine (lawDiskOk A0 c0 n0 l0 W o0.2.2.2.1 o0.1 (Nat.le_trans o0.2.1 o0.2.2.1) o0.2.2.2.2).mono fun e W' ⟨he, bel⟩ => ?_
  subst he
  exact ⟨_, rfl, _, _, _, [], _, [], hW', trodAll_mk1 (shut_bool Try.underlying4 _), (trodAll_cons_mk (Below.trod Try.laidOut (by kernel_rfl) (of_decide_eq_true (by kernel_rfl)) h0 bel lt0) trodAll_mk0), rfl, bel.frame _, fun h => by cases h⟩

theorem holds_DiskOk : Rows.FnExactDiskOkSaid :=
  OpenClaim.holds_of_wide 5 Try.f5 rfl rfl rfl rfl rfl rfl rfl ⟨rfl, rfl, rfl, rfl, rfl⟩ rfl rfl rfl rfl rfl (by kernel_rfl) Try.func5 (by kernel_rfl)
    (of_decide_eq_true (by kernel_rfl)) (by unfold Func.isWrapper; first | (rw [if_pos (by decide +kernel)]; kernel_rfl) | (rw [if_neg (by decide +kernel)]; exact ⟨rfl, rfl⟩))
    (fun os started H enc _ => lifted os started H enc)
end Go.Proofs.Ytjmhebmjlnianaa
