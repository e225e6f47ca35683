/- What the laws' helpers do to a Range. Written by gen_wrap.py. -/
import Derived.Test.YtmmepogjocfefaaGreatStr
import Derived.Test.YtmmepogjocfefaaGreatData
namespace Go.Proofs.YtmmepogjocfefaaGreat
set_option linter.unusedVariables false
set_option linter.unusedSimpArgs false
open Go.RowKit

set_option maxRecDepth 100000 in
set_option maxHeartbeats 400000 in
theorem szRange_c (z0 : Int) (A0 : Option Addr) (c0 : Nat) (n0 : Nat) (l0 : List ByteArray) (lo0 hi0 : Nat) (left : Int) (w : World) (hr0 : Rd w lo0 hi0 A0 (strs l0)) (hn0 : l0.length = n0) (hl0 : n0 ≤ maxLen) (hs0 : ∀ x ∈ l0, x.size ≤ maxLen) (h0 : 0 ≤ left) (h1 : left ≤ 1048576) :
  Calls Tryz.prog 82 #[.agg #[.int .i64 z0, .slice A0 n0 c0], .int .i64 left] w fun r w' => r = .returned (.int .i64 (szF left ((n0 + bulkS l0)))) ∧ Below w.heap.size w w' := by
 have HN0 := Lib.hid hn0
 have HS0 := Lib.hid hs0
 clear hn0 hs0
 have HB0 : Hid (Below w.heap.size w (w.alloc _)) := (Below.refl _ _).alloc (Nat.le_refl _) (.cells #[.int .i64 z0, .slice A0 n0 c0] 29)
 go_enter Tryz.func82, Tryz.ntmps82
 go_wp2_with fail
 refine (szStringS_c' A0 _ _ _ n0 l0 _ _ (hr0.below HB0.out) HN0.out hl0 HS0.out (by omega) (by omega)).mono ?_
 rintro e w1 ⟨rfl, hb1⟩
 obtain ⟨hc1, _⟩ := bcell hb1
 have hq1 : w.heap.size < w1.heap.size := by have := hb1.size; first | omega | (simp at this; omega)
 have HB1 : Hid (Below w.heap.size w w1) := below_then HB0.out hb1 (by first | omega | (simp; done) | (simp; omega))
 have HA1 : Hid (szF left (n0 + bulkS l0) = szF left ((n0 + bulkS l0))) := rfl
 clear hb1
 go_wp2_with fail
 ·go_ret
  exact ⟨ret_int (szF_neg_more (b := ((n0 + bulkS l0))) (by omega) (by assumption) (by omega)), HB1.out⟩
 ·go_ret
  exact ⟨rfl, HB1.out⟩

set_option maxRecDepth 100000 in
set_option maxHeartbeats 400000 in
theorem toRange_c (z0 : Int) (A0 : Option Addr) (c0 : Nat) (n0 : Nat) (l0 : List ByteArray) (lo0 hi0 : Nat) (w : World) (hr0 : Rd w lo0 hi0 A0 (strs l0)) (hn0 : l0.length = n0) (hl0 : n0 ≤ 1048576) :
  Calls Tryz.prog 87 #[.agg #[.int .i64 z0, .slice A0 n0 c0]] w fun r w' => ∃ A0', r = .returned (.agg #[.int .i64 z0, .slice A0' n0 n0]) ∧ w.heap.size ≤ w'.heap.size ∧ Own w' w.heap.size w'.heap.size A0' (strs l0) ∧ Below w.heap.size w w' := by
 have HN0 := Lib.hid hn0
 clear hn0
 go_enter Tryz.func87, Tryz.ntmps87
 go_wp2_with fail
 refine (toStringS_c' A0 _ _ _ n0 l0 _ (hr0.below (by ((repeat (first | refine Below.setCell ?_ (by first | omega | (simp; done) | (simp; omega)) _ | refine Below.alloc ?_ (by first | omega | (simp; done) | (simp; omega)) _)); exact Below.refl _ _))) HN0.out hl0).mono ?_
 rintro e w1 ⟨A0', rfl, ho0, hb1⟩
 obtain ⟨hc1, hf1⟩ := bcell hb1
 have hq1 : w.heap.size + 2 < w1.heap.size := by have := hb1.size; simp [World.setCell] at this; omega
 have hqa1 : w.heap.size < w1.heap.size := by omega
 have hqb1 : w.heap.size + 1 < w1.heap.size := by omega
 have hqc1 : w.heap.size + 1 + 1 < w1.heap.size := by omega
 have hz1 := hb1.size
 simp [World.setCell] at hz1
 have HB1 : Hid (Below w.heap.size w w1) := below_then (by ((repeat (first | refine Below.setCell ?_ (by first | omega | (simp; done) | (simp; omega)) _ | refine Below.alloc ?_ (by first | omega | (simp; done) | (simp; omega)) _)); exact Below.refl _ _)) hb1 (by first | omega | (simp [World.setCell]; done) | (simp [World.setCell]; omega))
 obtain ⟨q0, hw0, hm0, HO0⟩ : ∃ q, w.heap.size + 2 < q ∧ w.heap.size ≤ q ∧ Hid (Own w1 q w1.heap.size A0' (strs l0)) := ⟨_, by first | omega | (simp [World.setCell] at *; done) | (simp [World.setCell] at *; omega), by first | omega | (simp [World.setCell] at *; done) | (simp [World.setCell] at *; omega), ho0⟩
 clear hb1 ho0
 go_wp2
 refine bodyPost_ret (v := .agg #[.int .i64 z0, .slice A0' n0 n0]) (by simp [results, Tryz.results87, go_sem, hc1, hqa1, hqb1, hqc1]) rfl ?_
 refine ⟨A0', rfl, ?_, ?_, ?_⟩
 ·first | omega | (simp [World.setCell] at *; done) | (simp [World.setCell] at *; omega)
 ·refine Own.mono (lo := q0) (hi := w1.heap.size) (by (repeat (refine Own.setCell ?_ (Or.inl (by simp; omega)) _)); exact HO0.out) (by first | omega | (simp [World.setCell] at *; done) | (simp [World.setCell] at *; omega)) (by first | omega | (simp [World.setCell] at *; done) | (simp [World.setCell] at *; omega)) (by first | omega | (simp [World.setCell] at *; done) | (simp [World.setCell] at *; omega))
 ·((repeat (first | refine Below.setCell ?_ (by first | omega | (simp; done) | (simp; omega)) _ | refine Below.alloc ?_ (by first | omega | (simp; done) | (simp; omega)) _)); exact HB1.out)

set_option maxRecDepth 100000 in
set_option maxHeartbeats 400000 in
theorem eqRange_c (z0 : Int) (A0 : Option Addr) (c0 : Nat) (n0 : Nat) (l0 : List ByteArray) (A0' : Option Addr) (c0' : Nat) (lo0 hi0 : Nat) (lo0' hi0' : Nat) (w : World) (hr0 : Rd w lo0 hi0 A0 (strs l0)) (hr0' : Rd w lo0' hi0' A0' (strs l0)) (hn0 : l0.length = n0) (hl0 : n0 ≤ maxLen) :
  Calls Tryz.prog 95 #[.agg #[.int .i64 z0, .slice A0 n0 c0], .agg #[.int .i64 z0, .slice A0' n0 c0']] w fun r w' => r = .returned (.bool true) ∧ Below w.heap.size w w' := by
 have HN0 := Lib.hid hn0
 clear hn0
 go_enter Tryz.func95, Tryz.ntmps95
 go_wp2_with fail
 refine (eqStringS_c' A0 A0' _ _ _ _ _ _ n0 n0 l0 _ (hr0.below (by ((repeat (first | refine Below.setCell ?_ (by first | omega | (simp; done) | (simp; omega)) _ | refine Below.alloc ?_ (by first | omega | (simp; done) | (simp; omega)) _)); exact Below.refl _ _))) (hr0'.below (by ((repeat (first | refine Below.setCell ?_ (by first | omega | (simp; done) | (simp; omega)) _ | refine Below.alloc ?_ (by first | omega | (simp; done) | (simp; omega)) _)); exact Below.refl _ _))) HN0.out HN0.out hl0).mono ?_
 rintro e w1 ⟨rfl, hb1⟩
 obtain ⟨hc1, _⟩ := bcell hb1
 have hq1 : w.heap.size + 1 < w1.heap.size := by have := hb1.size; first | omega | (simp at this; omega)
 have hp1 : w.heap.size < w1.heap.size := by omega
 have HB1 : Hid (Below w.heap.size w w1) := below_then (by ((repeat (first | refine Below.setCell ?_ (by first | omega | (simp; done) | (simp; omega)) _ | refine Below.alloc ?_ (by first | omega | (simp; done) | (simp; omega)) _)); exact Below.refl _ _)) hb1 (by first | omega | (simp; done) | (simp; omega))
 clear hb1
 go_wp2
 go_ret
 exact ⟨rfl, HB1.out⟩

set_option maxRecDepth 100000 in
set_option maxHeartbeats 400000 in
theorem markRange_c (z0 : Int) (A0 : Option Addr) (c0 : Nat) (n0 : Nat) (lo0 hi0 : Nat) (k0 : Nat) (x : Int) (xs0 : List Value) (w : World) (hx : x = (k0 : Int)) (hr0 : Own w lo0 hi0 A0 xs0) (hn0 : xs0.length = n0) (hH0 : hi0 ≤ w.heap.size)  (hk : k0 + n0 ≤ 100000000) :
  Calls Tryz.prog 97 #[.agg #[.int .i64 z0, .slice A0 n0 c0], .int .i64 x] w fun r w' => r = .returned (.int .i64 (k0 + n0 : Nat)) ∧ (Only lo0 hi0 w w') ∧ Own w' lo0 hi0 A0 (strs (marks (k0) n0)) := by
 subst hx
 have HN0 := Lib.hid hn0
 clear hn0
 have HZ : Hid (∀ lo hi : Nat, Only lo hi w (w.alloc _)) := fun lo hi => (Only.refl lo hi w).alloc (.cells #[.int .i64 z0, .slice A0 n0 c0] 47)
 have HO0 := Lib.hid (hr0.alloc (.cells #[.int .i64 z0, .slice A0 n0 c0] 47))
 clear hr0
 go_enter Tryz.func97, Tryz.ntmps97
 go_wp2_with fail
 refine (markStringS_c A0 _ lo0 hi0 (k0) n0 _ xs0 _ (by omega) HO0.out HN0.out (by omega)).mono ?_
 rintro e w1 ⟨rfl, hp1_0, ho0⟩
 have HO0 := Lib.hid ho0
 have hc1_0 := only_at hp1_0 (b := w.heap.size) (by first | omega | (simp; done) | (simp; omega)) (.inr (by omega))
 have hq1_0 : w.heap.size < w1.heap.size := by have := hp1_0.size; first | omega | (simp at this; omega)
 have HP0 := Lib.hid ((HZ.out _ _).trans hp1_0)
 clear hp1_0 ho0
 go_wp2
 go_ret
 exact ⟨by first | rfl | (congr 2; push_cast; omega), HP0.out, HO0.out⟩


end Go.Proofs.YtmmepogjocfefaaGreat
