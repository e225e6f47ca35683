/- Texts and ranges that are alike: the laws' helpers. -/
import Derived.Test.YtoccjgcokffkbaaWk2
import Derived.BigQuiet
import Derived.Deep.QuietTactic
namespace Go.Proofs.Ytoccjgcokffkbaa
set_option linter.unusedVariables false
set_option linter.unusedSimpArgs false
open Go.RowKit

set_option maxRecDepth 100000 in
set_option maxHeartbeats 400000 in
theorem sameTexts_c (A1 A2 : Option Addr) (c1 c2 lo1 hi1 lo2 hi2 n : Nat) (l : List ByteArray) (w : World) (hr1 : Rd w lo1 hi1 A1 (strs l)) (hr2 : Rd w lo2 hi2 A2 (strs l)) (hn : l.length = n) (h1 : n ≤ 1048576) :
  Calls Try.prog 43 #[.slice A1 n c1, .slice A2 n c2] w fun e w' => e = .returned (.bool true) ∧ Below w.heap.size w w' := by
 have HN := Lib.hid hn
 have HR1 := Lib.hid hr1
 have HR2 := Lib.hid hr2
 clear hn hr1 hr2
 go_enter Try.func43, Try.ntmps43
 go_wp2
 go_loopw [5] (fun i wr => ∃ k : Nat, k ≤ n ∧ i = .int .i64 k ∧ Below w.heap.size w wr) (fun i _ => n - (intOf i).toNat)
 case atStart => exact ⟨0, Nat.zero_le _, rfl, Below.refl _ _⟩
 case round =>
  obtain ⟨k, hk, rfl, hb0⟩ := hrel
  have HB0 := Lib.hid hb0
  clear hb0
  by_cases hlt : k < n
  ·obtain ⟨b, off, s, rfl, hb, hks, hc⟩ := (HR1.out.below HB0.out).str (k := k) (by rw [HN.out]; exact hlt)
   obtain ⟨b2, off2, t, rfl, hb2, hks2, hc2⟩ := (HR2.out.below HB0.out).str (k := k) (by rw [HN.out]; exact hlt)
   obtain rfl : s = t := Option.some.inj (hks.symm.trans hks2)
   have hI : (k : Int) < n := by omega
   have hne : (s.toList != s.toList) = false := by simp
   clear hks hks2
   go_wp2_with fail
   go_quiet (fail)
   generalize hw5 : wr.drewN _ = w5
   have HB5 : Hid (Below w.heap.size w w5) := by rw [Hid, ← hw5]; exact below_then HB0.out (below_drewN _ _) HB0.out.size
   clear hw5 hc hc2
   go_wp2
   go_roundw
   case rel => exact ⟨k + 1, by omega, by go_num, HB5.out⟩
   case measure => simp [intOf]; omega
  ·obtain rfl : k = n := by omega
   go_wp2
   go_ret
   exact ⟨rfl, HB0.out⟩
set_option maxRecDepth 100000 in
set_option maxHeartbeats 400000 in
theorem lawsSameRange_c (z : Int) (A1 A2 : Option Addr) (c1 c2 lo1 hi1 lo2 hi2 n : Nat) (l : List ByteArray) (w : World) (hr1 : Rd w lo1 hi1 A1 (strs l)) (hr2 : Rd w lo2 hi2 A2 (strs l)) (hn : l.length = n) (h1 : n ≤ 1048576) :
  Calls Try.prog 26 #[.agg #[.int .i64 z, .slice A1 n c1], .agg #[.int .i64 z, .slice A2 n c2]] w fun e w' => e = .returned (.bool true) ∧ Below w.heap.size w w' := by
 have HC := Lib.hid (fun W (r1 : Rd W 0 W.heap.size A1 (strs l)) (r2 : Rd W 0 W.heap.size A2 (strs l)) => sameTexts_c A1 A2 c1 c2 0 W.heap.size 0 W.heap.size n l W r1 r2 hn h1)
 have HB : Hid (Below w.heap.size w w) := Below.refl _ _
 have HOX : Hid (Rd w (0) (w.heap.size) (A1) (strs l)) := Rd.base hr1
 have HOY : Hid (Rd w (0) (w.heap.size) (A2) (strs l)) := Rd.base hr2
 clear hr1 hr2 hn h1
 go_enter Try.func26, Try.ntmps26
 go_wp2_with fail
 refine calls_named (fun w1 hw => ?_)
 have hz1 : w.heap.size + 2 ≤ w1.heap.size := by rw [hw]; first | omega | (simp [World.setCell]; done) | (simp [World.setCell]; omega)
 have hzz1 : w.heap.size ≤ w1.heap.size := by omega
 have hbn : Below w.heap.size w w1 := by rw [hw]; exact (by ((repeat (first | ((with_reducible refine Below.alloc ?_ ?_ _); rotate_left 1; (focus (first | omega | (simp; done) | (simp; omega)))) | (with_reducible refine Below.drew ?_) | ((with_reducible refine Below.setCell ?_ ?_ _); rotate_left 1; (focus (first | omega | (simp; done) | (simp; omega)))))); exact Below.refl _ _))
 replace HB := Lib.hid (below_then HB.out hbn HB.out.size)
 replace HOX := Lib.hid (HOX.out.below hbn)
 replace HOY := Lib.hid (HOY.out.below hbn)
 clear hbn
 have HXa : Hid (NewBox w1 (w.heap.size) [.int .i64 z, .slice A1 n c1]) := by rw [Hid, hw]; exact ⟨by first | omega | (simp [World.setCell]; done) | (simp [World.setCell]; omega), fun o => by rcases o with _ | _ | o <;> go_simp, fun o => by go_simp⟩
 have hxa := HXa.out.2.1
 have hfa := HXa.out.2.2
 have hka := HXa.out.1
 have HXb : Hid (NewBox w1 (w.heap.size + 1) [.int .i64 z, .slice A2 n c2]) := by rw [Hid, hw]; exact ⟨by first | omega | (simp [World.setCell]; done) | (simp [World.setCell]; omega), fun o => by rcases o with _ | _ | o <;> go_simp, fun o => by go_simp⟩
 have hxb := HXb.out.2.1
 have hfb := HXb.out.2.2
 have hkb := HXb.out.1
 clear hw
 refine (HC.out _ HOX.out.base HOY.out.base).mono ?_
 rintro e w2 ⟨rfl, hb⟩
 have hzw2 : w1.heap.size ≤ w2.heap.size := hb.size
 have hzzw2 : w.heap.size ≤ w2.heap.size := by omega
 replace HB := Lib.hid (below_then HB.out hb HB.out.size)
 replace HOX := Lib.hid (HOX.out.below hb)
 replace HOY := Lib.hid (HOY.out.below hb)
 replace HXa := Lib.hid (HXa.out.below hb)
 clear hxa hfa hka
 have hxa := HXa.out.2.1
 have hfa := HXa.out.2.2
 have hka := HXa.out.1
 replace HXb := Lib.hid (HXb.out.below hb)
 clear hxb hfb hkb
 have hxb := HXb.out.2.1
 have hfb := HXb.out.2.2
 have hkb := HXb.out.1
 clear hb
 go_wp2
 go_ret
 exact ⟨rfl, HB.out⟩
end Go.Proofs.Ytoccjgcokffkbaa
