/- FnSeals: the closing: from the walk of the law to its statement. Written by mkend.py. -/
import Derived.Test.YtoccjgcokffkbaaDraw
import Derived.Test.YtoccjgcokffkbaaOpen
import Derived.Test.YtoccjgcokffkbaaSeat
namespace Go.Proofs.Ytoccjgcokffkbaa
set_option linter.unusedVariables false
set_option linter.unusedSimpArgs false
open Go.RowKit

theorem u8s_bys (l : List Int) : u8s l = bys l := by rw [u8s, bys]; induction l with | nil => rfl | cons x l ih => rw [List.flatMap_cons, List.map_cons, ih]; rfl
section
open Go.ChangeShapes Go.WideShapes Go.ChangeAt
open Go.ChangeMaps (open_string)
set_option maxRecDepth 100000 in
theorem lifted_FnSeals (hw : ∀ (n g : Nat) (B : Option Addr) (l : List Int) (w : World), Rd w 0 w.heap.size B (bys l) → l.length = n → n ≤ g → n ≤ maxLen → (∀ x ∈ l, 0 ≤ x ∧ x ≤ 255) → Calls Try.prog 5 #[.slice B n g] w fun e w' => e = .returned (.bool true) ∧ Below w.heap.size w w')
  (os : Os) (started : os.Started) (H : Type) (enc : TypeId × Value → H) :
  ReturnsInHanded {} Try.checked os 5 .any (Rows.fnSealsSpec.pre6 enc Try.prog Try.f5 Rows.fnSealsRow.domain false) (Rows.fnSealsSpec.post enc Try.prog Try.f5 false true false false) := by
 refine returnsInHanded_of_change (C := Try.checked) Try.own started (by kernel_rfl) Try.func5
  (ChangeSpec.witness6 (enc := enc) (C := Try.checked) false ⟨#[], #[.slice none 0 0], []⟩ 8 (by kernel_rfl) (by kernel_rfl) (by kernel_rfl) (by kernel_rfl)) ?_
 intro W base args ds gs before hval0 hW hcnd _
 have hval : ∀ (j : Nat) t v, Try.f5.params[j]? = some t → args[j]? = some v → Value.okWide Try.prog W .any base t v := hval0
 have hW' := hW
 obtain ⟨p, q, hA0, hV, rfl, hfz, hnd⟩ := hW
 have hA : DataW.TrodAll enc Try.prog W 0 (fun _ => true) true Try.f5.params.toList args.toList ds p := hA0
 rw [Try.params5] at hA hval
 obtain ⟨v0, vs0, d0, ds0, p0, q0, hargs, rfl, rfl, h0, r0⟩ := trodAll_cons hA
 obtain ⟨rfl, rfl, rfl⟩ := trodAll_nil r0
 obtain rfl : args = #[v0] := by cases args; simp_all
 obtain ⟨rfl, rfl⟩ := trodVars_none hV
 have lt0 : ∀ x ∈ p0, x.block < W.heap.size := by obtain ⟨m, hm⟩ := h0; exact DataW.trod_lt m _ _ _ hm
 have kk0 := h0
 obtain ⟨A0, n0, c0, l0, rfl, o0, hil0⟩ := open_u8s (hval 0 _ v0 rfl rfl) h0
 obtain ⟨rfl, o0b, o0c, o0d⟩ := o0
 clear hA0 hval0
 refine (hw _ c0 A0 l0 W (u8s_bys l0 ▸ o0d) rfl o0b (Nat.le_trans o0b o0c) hil0).mono fun e W' ⟨he, bel⟩ => ?_
 subst he
 exact ⟨_, rfl, _, _, _, [], _, [], hW', trodAll_mk1 (shut_bool Try.underlying4 _), (trodAll_cons_mk (Below.trod Try.laidOut (by kernel_rfl) (of_decide_eq_true (by kernel_rfl)) kk0 bel lt0) trodAll_mk0), rfl, bel.frame _, fun h => by cases h⟩
theorem said_FnSeals (hw : ∀ (n g : Nat) (B : Option Addr) (l : List Int) (w : World), Rd w 0 w.heap.size B (bys l) → l.length = n → n ≤ g → n ≤ maxLen → (∀ x ∈ l, 0 ≤ x ∧ x ≤ 255) → Calls Try.prog 5 #[.slice B n g] w fun e w' => e = .returned (.bool true) ∧ Below w.heap.size w w') : Rows.FnSealsSaid :=
 OpenClaim.holds_of_wide 5 Try.f5 rfl rfl rfl rfl rfl rfl rfl ⟨rfl, rfl, rfl, rfl, rfl⟩ rfl rfl rfl rfl rfl (by kernel_rfl) Try.func5 (by show joinedFacts Try.prog 5 Try.f5 Rows.fnSealsSpec Rows.fnSealsRow = true; unfold joinedFacts; rw [seat_enter, seat_final, seat_make]; kernel_rfl)
  (of_decide_eq_true (by kernel_rfl)) (by unfold Func.isWrapper; first | (rw [if_pos (by decide +kernel)]; kernel_rfl) | (rw [if_neg (by decide +kernel)]; exact ⟨rfl, rfl⟩))
  (fun os started H enc _ => lifted_FnSeals hw os started H enc)
end
end Go.Proofs.Ytoccjgcokffkbaa
