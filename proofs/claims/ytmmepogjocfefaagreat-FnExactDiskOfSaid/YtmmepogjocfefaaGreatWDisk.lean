/- What the laws' helpers do to a Disk. Written by gen_wrap.py. -/
import Derived.Test.YtmmepogjocfefaaGreatStr
import Derived.Test.YtmmepogjocfefaaGreatData
namespace Go.Proofs.YtmmepogjocfefaaGreat
set_option linter.unusedVariables false
set_option linter.unusedSimpArgs false
open Go.RowKit



set_option maxRecDepth 100000 in
set_option maxHeartbeats 400000 in
theorem eqDisk_c (A0 : Option Addr) (c0 : Nat) (n0 : Nat) (l0 : List ByteArray) (A0' : Option Addr) (c0' : Nat) (lo0 hi0 : Nat) (lo0' hi0' : Nat) (w : World) (hr0 : Rd w lo0 hi0 A0 (strs l0)) (hr0' : Rd w lo0' hi0' A0' (strs l0)) (hn0 : l0.length = n0) (hl0 : n0 ≤ maxLen) :
  Calls Tryz.prog 23 #[.agg #[.slice A0 n0 c0], .agg #[.slice A0' n0 c0']] w fun r w' => r = .returned (.bool true) ∧ Below w.heap.size w w' := by
 have HN0 := Lib.hid hn0
 clear hn0
 go_enter Tryz.func23, Tryz.ntmps23
 go_wp2_with fail
 refine (eqStringS_c' A0 A0' _ _ _ _ _ _ n0 n0 l0 _ (hr0.below (by ((repeat (first | refine Below.setCell ?_ (by first | omega | (simp; done) | (simp; omega)) _ | refine Below.alloc ?_ (by first | omega | (simp; done) | (simp; omega)) _)); exact Below.refl _ _))) (hr0'.below (by ((repeat (first | refine Below.setCell ?_ (by first | omega | (simp; done) | (simp; omega)) _ | refine Below.alloc ?_ (by first | omega | (simp; done) | (simp; omega)) _)); exact Below.refl _ _))) HN0.out HN0.out hl0).mono ?_
 rintro e w1 ⟨rfl, hb1⟩
 obtain ⟨hc1, _⟩ := bcell hb1
 have hq1 : w.heap.size + 1 < w1.heap.size := by have := hb1.size; first | omega | (simp at this; omega)
 have hp1 : w.heap.size < w1.heap.size := by omega
 have HB1 : Hid (Below w.heap.size w w1) := below_then (by ((repeat (first | refine Below.setCell ?_ (by first | omega | (simp; done) | (simp; omega)) _ | refine Below.alloc ?_ (by first | omega | (simp; done) | (simp; omega)) _)); exact Below.refl _ _)) hb1 (by first | omega | (simp; done) | (simp; omega))
 clear hb1
 go_wp2
 go_ret
 exact ⟨rfl, HB1.out⟩

set_option maxRecDepth 100000 in
set_option maxHeartbeats 400000 in
theorem markDisk_c (A0 : Option Addr) (c0 : Nat) (n0 : Nat) (lo0 hi0 : Nat) (k0 : Nat) (x : Int) (xs0 : List Value) (w : World) (hx : x = (k0 : Int)) (hr0 : Own w lo0 hi0 A0 xs0) (hn0 : xs0.length = n0) (hH0 : hi0 ≤ w.heap.size)  (hk : k0 + n0 ≤ 100000000) :
  Calls Tryz.prog 24 #[.agg #[.slice A0 n0 c0], .int .i64 x] w fun r w' => r = .returned (.int .i64 (k0 + n0 : Nat)) ∧ (Only lo0 hi0 w w') ∧ Own w' lo0 hi0 A0 (strs (marks (k0) n0)) := by
 subst hx
 have HN0 := Lib.hid hn0
 clear hn0
 have HZ : Hid (∀ lo hi : Nat, Only lo hi w (w.alloc _)) := fun lo hi => (Only.refl lo hi w).alloc (.cells #[.slice A0 n0 c0] 62)
 have HO0 := Lib.hid (hr0.alloc (.cells #[.slice A0 n0 c0] 62))
 clear hr0
 go_enter Tryz.func24, Tryz.ntmps24
 go_wp2_with fail
 refine (markStringS_c A0 _ lo0 hi0 (k0) n0 _ xs0 _ (by omega) HO0.out HN0.out (by omega)).mono ?_
 rintro e w1 ⟨rfl, hp1_0, ho0⟩
 have HO0 := Lib.hid ho0
 have hc1_0 := only_at hp1_0 (b := w.heap.size) (by first | omega | (simp; done) | (simp; omega)) (.inr (by omega))
 have hq1_0 : w.heap.size < w1.heap.size := by have := hp1_0.size; first | omega | (simp at this; omega)
 have HP0 := Lib.hid ((HZ.out _ _).trans hp1_0)
 clear hp1_0 ho0
 go_wp2
 go_ret
 exact ⟨by first | rfl | (congr 2; push_cast; omega), HP0.out, HO0.out⟩

set_option maxRecDepth 100000 in
set_option maxHeartbeats 400000 in
theorem heldDisk_c (A0 : Option Addr) (c0 : Nat) (n0 : Nat) (lo0 hi0 : Nat) (k0 : Nat) (x : Int) (w : World) (hx : x = (k0 : Int)) (hr0 : Rd w lo0 hi0 A0 (strs (marks (k0) n0))) (hk : k0 + n0 ≤ 100000000) :
  Calls Tryz.prog 25 #[.agg #[.slice A0 n0 c0], .int .i64 x] w fun r w' => r = .returned (.int .i64 (k0 + n0 : Nat)) ∧ Below w.heap.size w w' := by
 subst hx
 go_enter Tryz.func25, Tryz.ntmps25
 go_wp2_with fail
 refine (heldStringS_c A0 _ _ _ (k0) n0 _ _ (by omega) (hr0.below (by ((repeat (first | refine Below.setCell ?_ (by first | omega | (simp; done) | (simp; omega)) _ | refine Below.alloc ?_ (by first | omega | (simp; done) | (simp; omega)) _)); exact Below.refl _ _))) (by omega)).mono ?_
 rintro e w1 ⟨rfl, hb1⟩
 obtain ⟨hc1, _⟩ := bcell hb1
 have hq1 : w.heap.size < w1.heap.size := by have := hb1.size; first | omega | (simp at this; omega)
 have HB1 : Hid (Below w.heap.size w w1) := below_then (by ((repeat (first | refine Below.setCell ?_ (by first | omega | (simp; done) | (simp; omega)) _ | refine Below.alloc ?_ (by first | omega | (simp; done) | (simp; omega)) _)); exact Below.refl _ _)) hb1 (by first | omega | (simp; done) | (simp; omega))
 clear hb1
 go_wp2
 go_ret
 exact ⟨by first | rfl | (congr 2; push_cast; omega), HB1.out⟩

end Go.Proofs.YtmmepogjocfefaaGreat
