/- DrawPlaces: twelve numbers. -/
import Derived.Test.YtoccjgcokffkbaaDraw
namespace Go.Proofs.Ytoccjgcokffkbaa
set_option linter.unusedVariables false
set_option linter.unusedSimpArgs false
open Go.RowKit

theorem row_mono' {w : World} {b b' : Nat} {e : TypeId} {size n : Nat} {v : Value} {xs : List Value} (h : w.ownsRow b e size v n xs) (hb : b' ≤ b) : w.ownsRow b' e size v n xs :=
 ⟨h.1, h.2.elim .inl (fun ⟨g, cap, cur, h1, h2, h3⟩ => .inr ⟨g, cap, cur, h1, Nat.le_trans hb h2, h3⟩)⟩
theorem ints_app (a b : List Int) : ints (a ++ b) = ints a ++ ints b := by simp [ints]
set_option maxRecDepth 100000 in
set_option maxHeartbeats 400000 in
theorem DrawPlaces_c (n g lo hi : Nat) (B : Option Addr) (l : List Int) (w : World) (hr : Rd w lo hi B (bys l)) (hl : l.length = n) (hn : n ≤ 1048576) (hb : ∀ x ∈ l, 0 ≤ x ∧ x ≤ 255) :
  Calls Try.prog 9 #[.slice B n g] w fun e w' => ∃ (A : Option Addr) (c : Nat) (xs : List Int), e = .returned (.slice A 12 c) ∧ xs.length = 12 ∧ (∀ x ∈ xs, 0 ≤ x ∧ x < 10000) ∧ w'.ownsRow w.heap.size 3 1 (.slice A 12 c) 12 (ints xs) ∧ Below w.heap.size w w' := by
 have HNEW := Lib.hid (l01New_c n g lo hi B l w hr hl hn hb)
 clear hr hl hb
 go_enter Try.func9, Try.ntmps9
 go_wp2_with fail
 refine HNEW.out.mono ?_
 rintro e w1 ⟨rfl, hc1, hp1, hb1⟩
 have HC1 := Lib.hid hc1
 have HB1 := Lib.hid hb1
 clear hc1 hb1 HNEW
 go_wp2_with fail
 refine (byte_c HC1.out).mono ?_
 rintro e w2 ⟨x, rfl, x0, x1, hc2, ho2⟩
 have HC2 := Lib.hid hc2
 have HB2 := Lib.hid (below_only HB1.out ho2 (Nat.le_refl _) (by omega))
 have hs2 := ho2.size
 have HROW : Hid ((w2.alloc (.cells #[] 3)).ownsRow (w.heap.size + 1) 3 1 (.slice (some ⟨w2.heap.size, 0, none⟩) 0 0) 0 []) := Lib.hid (World.ownsRow_made w2 #[] 0 (by omega) (Nat.zero_le _) (by simp))
 clear hc2 ho2 HC1 HB1
 go_wp2
 go_loopw [4, 5] (fun v i wx => ∃ (k : Nat) (A0 : Option Addr) (c0 : Nat) (xs : List Int), k ≤ 12 ∧ i = .int .i64 k ∧ v = .slice A0 k c0 ∧ xs.length = k ∧ (∀ x ∈ xs, 0 ≤ x ∧ x < 10000) ∧ wx.ownsRow (w.heap.size + 1) 3 1 (.slice A0 k c0) k (ints xs) ∧ Code wx w.heap.size B n g 0 w.heap.size l ∧ Below w.heap.size w wx ∧ w.heap.size < wx.heap.size) (fun _ i _ => 12 - (intOf i).toNat)
 case atStart => exact ⟨0, _, 0, [], by omega, rfl, rfl, rfl, (fun x hx => by cases hx), HROW.out, HC2.out.below ((Below.refl _ _).alloc (Nat.le_refl _) _), HB2.out.alloc (by omega) _, by simp; omega⟩
 case round =>
  clear HROW HC2 HB2 hs2 hp1
  obtain ⟨k, A0, c0, xs, hk, rfl, rfl, hxs, hxb, how, hcd, hbl, hpw⟩ := hrel
  have HOW := Lib.hid how
  have HCD := Lib.hid hcd
  have HBL := Lib.hid hbl
  have HXS := Lib.hid hxs
  have HXB := Lib.hid hxb
  clear how hcd hbl hxs hxb
  by_cases hlt : k < 12
  ·have hI : (k : Int) < 12 := by omega
   go_wp2_with fail
   refine (l01Below_c _ _ _ _ _ _ _ 10000 _ HCD.out (by omega) (by omega)).mono ?_
   rintro e w3 ⟨y, rfl, y0, y1, hc3, ho3⟩
   have HC3 := Lib.hid hc3
   have HB3 := Lib.hid (below_only HBL.out ho3 (Nat.le_refl _) (by omega))
   have HW3 := Lib.hid (row_onlyP HOW.out ho3 (Nat.le_refl _))
   have hs3 := ho3.size
   clear hc3 ho3 HCD HBL HOW
   go_wp2_with (at_builtin; refine app1Int rfl _ _ rfl (w.heap.size + 1) _ _ _ rfl (HW3.out.alloc _) w3.heap.size y rfl (NewBox.new w3 _ _) (by omega) (by simp; omega) ?_)
   intro v4 w4 hown4 hg4
   obtain ⟨g4, c4, hge⟩ := row_formD hown4 (Nat.succ_pos k)
   subst hge
   have hon4 := grown_only (HW3.out.alloc _) hg4
   rw [← ints_app] at hown4
   have HW4 := Lib.hid hown4
   have hA : Only (w.heap.size + 1) (w3.heap.size + 1) w3 w4 := (Only.of_below ((Below.refl _ _).alloc (Nat.le_refl _) _)).trans (by simpa using hon4)
   have HC4 := Lib.hid (HC3.out.only hA (Nat.lt_succ_self _))
   have HB4 := Lib.hid (below_only HB3.out hA (by omega) (by omega))
   have hs4 := hA.size
   have HLB : Hid ((xs ++ [y]).length = k + 1 ∧ ∀ x ∈ xs ++ [y], 0 ≤ x ∧ x < 10000) := Lib.hid ⟨by rw [List.length_append, HXS.out]; rfl, fun x hx => by
    rcases List.mem_append.1 hx with h | h
    ·exact HXB.out x h
    ·rw [List.mem_singleton.1 h]; exact ⟨y0, y1⟩⟩
   clear hown4 hg4 hon4 hA HB3 HC3 HW3
   go_wp2
   go_roundw
   case rel => exact ⟨k + 1, _, c4, xs ++ [y], by omega, by go_num, rfl, HLB.out.1, HLB.out.2, HW4.out, HC4.out, HB4.out, by omega⟩
   case measure => simp [intOf]; omega
  ·obtain rfl : k = 12 := by omega
   go_wp2
   go_ret
   exact ⟨A0, c0, xs, rfl, HXS.out, HXB.out, row_mono' HOW.out (Nat.le_succ _), HBL.out⟩
end Go.Proofs.Ytoccjgcokffkbaa
