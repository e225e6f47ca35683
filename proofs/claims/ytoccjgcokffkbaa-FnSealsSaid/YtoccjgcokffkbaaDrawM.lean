/- DrawSealMore: a drawn seal, and what is sealed: bounds. -/
import Derived.Test.YtoccjgcokffkbaaDrawL
import Derived.Test.YtoccjgcokffkbaaReg
import Derived.Test.YtoccjgcokffkbaaRowB
namespace Go.Proofs.Ytoccjgcokffkbaa
set_option linter.unusedVariables false
set_option linter.unusedSimpArgs false
open Go.RowKit

set_option maxRecDepth 100000 in
set_option maxHeartbeats 4000000 in
theorem DrawSealMore_c (n g : Nat) (B : Option Addr) (l : List Int) (w : World) (hr : Rd w 0 w.heap.size B (bys l)) (hl : l.length = n) (hn : n ≤ 1048576) (hb : ∀ x ∈ l, 0 ≤ x ∧ x ≤ 255) :
  Calls Try.prog 22 #[.slice B n g] w fun e w' => ∃ (wd : Int) (z1 z2 : Int) (A1 A2 : Option Addr) (m1 c1 m2 c2 : Nat) (l1 l2 : List ByteArray) (x : Hd) (X1 X2 : Option Addr) (g1 g2 k1 k2 : Nat) (L T : List ByteArray), e = .returned (.tuple #[.int .i64 wd, .agg #[.int .i64 z1, .slice A1 m1 c1, .int .i64 z2, .slice A2 m2 c2, .int .i64 x.num, .int .i64 x.size, .string x.root, .int .i64 x.taken, .string x.troot], .slice X1 k1 g1, .slice X2 k2 g2]) ∧
   (I64 wd ∧ SealV w' w.heap.size z1 z2 A1 A2 m1 c1 m2 c2 l1 l2 x ∧ Lst40 w' w.heap.size X1 k1 g1 513 L ∧ Lst40 w' w.heap.size X2 k2 g2 6 T) ∧ Below w.heap.size w w' := by
 have HNEW := Lib.hid (fun W (r : Rd W 0 W.heap.size B (bys l)) => l01New_c n g 0 W.heap.size B l W r hl hn hb)
 have HB : Hid (Below w.heap.size w w) := Below.refl _ _
 have HOQ : Hid (Rd w (0) (w.heap.size) (B) (bys l)) := Rd.base hr
 clear hr hl hb
 go_enter Try.func22, Try.ntmps22
 go_wp2_with fail
 refine calls_named (fun w1 hw => ?_)
 have hz1 : w.heap.size + 1 ≤ w1.heap.size := by rw [hw]; first | omega | (simp [World.setCell]; done) | (simp [World.setCell]; omega)
 have hzz1 : w.heap.size ≤ w1.heap.size := by omega
 have hbn : Below w.heap.size w w1 := by rw [hw]; exact (by ((repeat (first | ((with_reducible refine Below.alloc ?_ ?_ _); rotate_left 1; (focus (first | omega | (simp; done) | (simp; omega)))) | (with_reducible refine Below.drew ?_) | ((with_reducible refine Below.setCell ?_ ?_ _); rotate_left 1; (focus (first | omega | (simp; done) | (simp; omega)))))); exact Below.refl _ _))
 replace HB := Lib.hid (below_then HB.out hbn HB.out.size)
 replace HOQ := Lib.hid (HOQ.out.below hbn)
 clear hbn
 have HXr : Hid (NewBox w1 (w.heap.size) [.int .i64 0, .slice none 0 0, .int .i64 0, .slice none 0 0, .int .i64 0, .int .i64 0, .string ⟨#[]⟩, .int .i64 0, .string ⟨#[]⟩]) := by rw [Hid, hw]; exact ⟨by first | omega | (simp [World.setCell]; done) | (simp [World.setCell]; omega), fun o => by rcases o with _ | _ | _ | _ | _ | _ | _ | _ | _ | o <;> go_simp, fun o => by go_simp⟩
 have hxr := HXr.out.2.1
 have hfr := HXr.out.2.2
 have hkr := HXr.out.1
 clear hw
 refine (HNEW.out _ HOQ.out.base).mono ?_
 rintro e w2 ⟨rfl, hcd, hpz, hb⟩
 have hzw2 : w1.heap.size ≤ w2.heap.size := hb.size
 have hzzw2 : w.heap.size ≤ w2.heap.size := by omega
 replace HB := Lib.hid (below_then HB.out hb HB.out.size)
 replace HOQ := Lib.hid (HOQ.out.below hb)
 replace HXr := Lib.hid (HXr.out.below hb)
 clear hxr hfr hkr
 have hxr := HXr.out.2.1
 have hfr := HXr.out.2.2
 have hkr := HXr.out.1
 clear hb
 have HOC : Hid (CodeK w2 (0) (w1.heap.size + 1) ((B, n, g)) (l)) := Lib.hid (CodeK.mk_ hcd)
 clear hcd HNEW
 clear HOQ
 go_wp2_with fail
 refine calls_named (fun w3 hw => ?_)
 have hz3 : w2.heap.size + 0 ≤ w3.heap.size := by rw [hw]; first | omega | (simp [World.setCell]; done) | (simp [World.setCell]; omega)
 have hzz3 : w.heap.size ≤ w3.heap.size := by omega
 have hbn : Below w2.heap.size w2 w3 := by rw [hw]; exact (by ((repeat (first | ((with_reducible refine Below.alloc ?_ ?_ _); rotate_left 1; (focus (first | omega | (simp; done) | (simp; omega)))) | (with_reducible refine Below.drew ?_) | ((with_reducible refine Below.setCell ?_ ?_ _); rotate_left 1; (focus (first | omega | (simp; done) | (simp; omega)))))); exact Below.refl _ _))
 replace HB := Lib.hid (below_then HB.out hbn HB.out.size)
 replace HOC := Lib.hid (HOC.out.below hbn)
 replace HXr := Lib.hid (HXr.out.below hbn)
 clear hxr hfr hkr
 have hxr := HXr.out.2.1
 have hfr := HXr.out.2.2
 have hkr := HXr.out.1
 clear hbn
 clear hw
 refine (l01Width_c (CodeK.get HOC.out) (by omega)).mono ?_
 rintro e w4 ⟨wd, rfl, hwd, hc, hb⟩
 have hzw4 : w3.heap.size ≤ w4.heap.size := hb.size
 have hzzw4 : w.heap.size ≤ w4.heap.size := by omega
 replace HB := Lib.hid (below_only HB.out hb (by omega) HB.out.size)
 replace HXr := Lib.hid (HXr.out.only hb (by first | omega | (simp; omega)))
 clear hxr hfr hkr
 have hxr := HXr.out.2.1
 have hfr := HXr.out.2.2
 have hkr := HXr.out.1
 clear hb
 clear HOC
 have HOC : Hid (CodeK w4 (0) (w1.heap.size + 1) ((B, n, g)) (l)) := Lib.hid (CodeK.mk_ hc)
 clear hc
 have HWD := Lib.hid hwd
 clear hwd
 go_wp2_with fail
 refine calls_named (fun w5 hw => ?_)
 have hz5 : w4.heap.size + 0 ≤ w5.heap.size := by rw [hw]; first | omega | (simp [World.setCell]; done) | (simp [World.setCell]; omega)
 have hzz5 : w.heap.size ≤ w5.heap.size := by omega
 have hbn : Below w4.heap.size w4 w5 := by rw [hw]; exact (by ((repeat (first | ((with_reducible refine Below.alloc ?_ ?_ _); rotate_left 1; (focus (first | omega | (simp; done) | (simp; omega)))) | (with_reducible refine Below.drew ?_) | ((with_reducible refine Below.setCell ?_ ?_ _); rotate_left 1; (focus (first | omega | (simp; done) | (simp; omega)))))); exact Below.refl _ _))
 replace HB := Lib.hid (below_then HB.out hbn HB.out.size)
 replace HOC := Lib.hid (HOC.out.below hbn)
 replace HXr := Lib.hid (HXr.out.below hbn)
 clear hxr hfr hkr
 have hxr := HXr.out.2.1
 have hfr := HXr.out.2.2
 have hkr := HXr.out.1
 clear hbn
 clear hw
 refine (l11Seal_c (CodeK.get HOC.out) (by omega) wd).mono ?_
 rintro e w6 ⟨z1, z2, A1, A2, m1, c1, m2, c2, l1, l2, x, rfl, ⟨i1, i2, hxx, ⟨q1, q2, q3, q4⟩, ⟨q5, q6, q7, q8⟩⟩, hc, hb⟩
 have hzw6 : w5.heap.size ≤ w6.heap.size := hb.size
 have hzzw6 : w.heap.size ≤ w6.heap.size := by omega
 replace HB := Lib.hid (below_only HB.out hb (by omega) HB.out.size)
 replace HXr := Lib.hid (HXr.out.only hb (by first | omega | (simp; omega)))
 clear hxr hfr hkr
 have hxr := HXr.out.2.1
 have hfr := HXr.out.2.2
 have hkr := HXr.out.1
 clear hb
 clear HOC
 have HOC : Hid (CodeK w6 (0) (w1.heap.size + 1) ((B, n, g)) (l)) := Lib.hid (CodeK.mk_ hc)
 clear hc
 have HI1 := Lib.hid i1
 have HI2 := Lib.hid i2
 have HXX := Lib.hid hxx
 have HN1 := Lib.hid (And.intro q1 (And.intro q2 q3))
 have HN2 := Lib.hid (And.intro q5 (And.intro q6 q7))
 obtain ⟨lo1, hlo1, hle1⟩ : ∃ n, n ≤ w5.heap.size ∧ w5.heap.size ≤ n := ⟨_, Nat.le_refl _, Nat.le_refl _⟩
 obtain ⟨hi1, hhi1, hhe1⟩ : ∃ n, n ≤ w6.heap.size ∧ w6.heap.size ≤ n := ⟨_, Nat.le_refl _, Nat.le_refl _⟩
 have HOS1 : Hid (Own w6 (lo1) (hi1) (A1) (strs l1)) := Lib.hid (q4.mono hlo1 hhe1 hhi1)
 have HOS2 : Hid (Own w6 (lo1) (hi1) (A2) (strs l2)) := Lib.hid (q8.mono hlo1 hhe1 hhi1)
 clear i1 i2 hxx q1 q2 q3 q4 q5 q6 q7 q8
 go_wp2_with fail
 refine calls_named (fun w7 hw => ?_)
 have hz7 : w6.heap.size + 1 ≤ w7.heap.size := by rw [hw]; first | omega | (simp [World.setCell]; done) | (simp [World.setCell]; omega)
 have hzz7 : w.heap.size ≤ w7.heap.size := by omega
 have hbn : Below w6.heap.size w6 w7 := by rw [hw]; exact (by ((repeat (first | ((with_reducible refine Below.alloc ?_ ?_ _); rotate_left 1; (focus (first | omega | (simp; done) | (simp; omega)))) | (with_reducible refine Below.drew ?_) | ((with_reducible refine Below.setCell ?_ ?_ _); rotate_left 1; (focus (first | omega | (simp; done) | (simp; omega)))))); exact Below.refl _ _))
 replace HB := Lib.hid (below_then HB.out hbn HB.out.size)
 replace HOC := Lib.hid (HOC.out.below hbn)
 replace HOS1 := Lib.hid (HOS1.out.below hbn)
 replace HOS2 := Lib.hid (HOS2.out.below hbn)
 replace HXr := Lib.hid (HXr.out.below hbn)
 clear hxr hfr hkr
 have hxr := HXr.out.2.1
 have hfr := HXr.out.2.2
 have hkr := HXr.out.1
 clear hbn
 have HXs : Hid (NewBox w7 (w6.heap.size) [.int .i64 z1, .slice A1 m1 c1, .int .i64 z2, .slice A2 m2 c2, .int .i64 x.num, .int .i64 x.size, .string x.root, .int .i64 x.taken, .string x.troot]) := by rw [Hid, hw]; exact ⟨by first | omega | (simp [World.setCell]; done) | (simp [World.setCell]; omega), fun o => by rcases o with _ | _ | _ | _ | _ | _ | _ | _ | _ | o <;> go_simp, fun o => by go_simp⟩
 have hxs := HXs.out.2.1
 have hfs := HXs.out.2.2
 have hks := HXs.out.1
 clear hw
 refine (l04Leaves_c (CodeK.get HOC.out) (by omega) wd).mono ?_
 rintro e w8 ⟨X1, g1, k1, L, rfl, ⟨u1, u2, u3, u4, u5, u6⟩, hc, hb⟩
 have hzw8 : w7.heap.size ≤ w8.heap.size := hb.size
 have hzzw8 : w.heap.size ≤ w8.heap.size := by omega
 replace HB := Lib.hid (below_only HB.out hb (by omega) HB.out.size)
 replace HOS1 := Lib.hid (HOS1.out.only hb (by first | omega | (simp; omega)))
 replace HOS2 := Lib.hid (HOS2.out.only hb (by first | omega | (simp; omega)))
 replace HXr := Lib.hid (HXr.out.only hb (by first | omega | (simp; omega)))
 clear hxr hfr hkr
 have hxr := HXr.out.2.1
 have hfr := HXr.out.2.2
 have hkr := HXr.out.1
 replace HXs := Lib.hid (HXs.out.only hb (by first | omega | (simp; omega)))
 clear hxs hfs hks
 have hxs := HXs.out.2.1
 have hfs := HXs.out.2.2
 have hks := HXs.out.1
 clear hb
 clear HOC
 have HOC : Hid (CodeK w8 (0) (w1.heap.size + 1) ((B, n, g)) (l)) := Lib.hid (CodeK.mk_ hc)
 clear hc
 have HL := Lib.hid (And.intro u1 (And.intro u2 (And.intro u3 (And.intro u4 u5))))
 obtain ⟨lo2, hlo2, hle2⟩ : ∃ n, n ≤ w7.heap.size ∧ w7.heap.size ≤ n := ⟨_, Nat.le_refl _, Nat.le_refl _⟩
 obtain ⟨hi2, hhi2, hhe2⟩ : ∃ n, n ≤ w8.heap.size ∧ w8.heap.size ≤ n := ⟨_, Nat.le_refl _, Nat.le_refl _⟩
 have HOU : Hid (Own w8 (lo2) (hi2) (X1) (strs L)) := Lib.hid (u6.mono hlo2 hhe2 hhi2)
 clear u1 u2 u3 u4 u5 u6
 go_wp2_with fail
 refine calls_named (fun w9 hw => ?_)
 have hz9 : w8.heap.size + 0 ≤ w9.heap.size := by rw [hw]; first | omega | (simp [World.setCell]; done) | (simp [World.setCell]; omega)
 have hzz9 : w.heap.size ≤ w9.heap.size := by omega
 have hbn : Below w8.heap.size w8 w9 := by rw [hw]; exact (by ((repeat (first | ((with_reducible refine Below.alloc ?_ ?_ _); rotate_left 1; (focus (first | omega | (simp; done) | (simp; omega)))) | (with_reducible refine Below.drew ?_) | ((with_reducible refine Below.setCell ?_ ?_ _); rotate_left 1; (focus (first | omega | (simp; done) | (simp; omega)))))); exact Below.refl _ _))
 replace HB := Lib.hid (below_then HB.out hbn HB.out.size)
 replace HOS1 := Lib.hid (HOS1.out.below hbn)
 replace HOS2 := Lib.hid (HOS2.out.below hbn)
 replace HOC := Lib.hid (HOC.out.below hbn)
 replace HOU := Lib.hid (HOU.out.below hbn)
 replace HXr := Lib.hid (HXr.out.below hbn)
 clear hxr hfr hkr
 have hxr := HXr.out.2.1
 have hfr := HXr.out.2.2
 have hkr := HXr.out.1
 replace HXs := Lib.hid (HXs.out.below hbn)
 clear hxs hfs hks
 have hxs := HXs.out.2.1
 have hfs := HXs.out.2.2
 have hks := HXs.out.1
 clear hbn
 clear hw
 refine (l01Below_c w1.heap.size n g 0 w1.heap.size B l 5 _ (CodeK.get HOC.out) (by omega) (by omega)).mono ?_
 rintro e w10 ⟨k5, rfl, k50, k51, hc, hb⟩
 have hzw10 : w9.heap.size ≤ w10.heap.size := hb.size
 have hzzw10 : w.heap.size ≤ w10.heap.size := by omega
 replace HB := Lib.hid (below_only HB.out hb (by omega) HB.out.size)
 replace HOS1 := Lib.hid (HOS1.out.only hb (by first | omega | (simp; omega)))
 replace HOS2 := Lib.hid (HOS2.out.only hb (by first | omega | (simp; omega)))
 replace HOU := Lib.hid (HOU.out.only hb (by first | omega | (simp; omega)))
 replace HXr := Lib.hid (HXr.out.only hb (by first | omega | (simp; omega)))
 clear hxr hfr hkr
 have hxr := HXr.out.2.1
 have hfr := HXr.out.2.2
 have hkr := HXr.out.1
 replace HXs := Lib.hid (HXs.out.only hb (by first | omega | (simp; omega)))
 clear hxs hfs hks
 have hxs := HXs.out.2.1
 have hfs := HXs.out.2.2
 have hks := HXs.out.1
 clear hb
 clear HOC
 have HOC : Hid (CodeK w10 (0) (w1.heap.size + 1) ((B, n, g)) (l)) := Lib.hid (CodeK.mk_ hc)
 clear hc
 obtain ⟨k2, rfl⟩ : ∃ k : Nat, k5 = k := ⟨k5.toNat, by omega⟩
 go_wp2_with fail
 refine calls_named (fun w11 hw => ?_)
 have hz11 : w10.heap.size + 0 ≤ w11.heap.size := by rw [hw]; first | omega | (simp [World.setCell]; done) | (simp [World.setCell]; omega)
 have hzz11 : w.heap.size ≤ w11.heap.size := by omega
 have hbn : Below w10.heap.size w10 w11 := by rw [hw]; exact (by ((repeat (first | ((with_reducible refine Below.alloc ?_ ?_ _); rotate_left 1; (focus (first | omega | (simp; done) | (simp; omega)))) | (with_reducible refine Below.drew ?_) | ((with_reducible refine Below.setCell ?_ ?_ _); rotate_left 1; (focus (first | omega | (simp; done) | (simp; omega)))))); exact Below.refl _ _))
 replace HB := Lib.hid (below_then HB.out hbn HB.out.size)
 replace HOS1 := Lib.hid (HOS1.out.below hbn)
 replace HOS2 := Lib.hid (HOS2.out.below hbn)
 replace HOU := Lib.hid (HOU.out.below hbn)
 replace HOC := Lib.hid (HOC.out.below hbn)
 replace HXr := Lib.hid (HXr.out.below hbn)
 clear hxr hfr hkr
 have hxr := HXr.out.2.1
 have hfr := HXr.out.2.2
 have hkr := HXr.out.1
 replace HXs := Lib.hid (HXs.out.below hbn)
 clear hxs hfs hks
 have hxs := HXs.out.2.1
 have hfs := HXs.out.2.2
 have hks := HXs.out.1
 clear hbn
 clear hw
 refine (l04List_c (CodeK.get HOC.out) (by omega) wd k2 (by omega)).mono ?_
 rintro e w12 ⟨X2, g2, T, rfl, ⟨t1, t2, t3⟩, hc, hb⟩
 have hzw12 : w11.heap.size ≤ w12.heap.size := hb.size
 have hzzw12 : w.heap.size ≤ w12.heap.size := by omega
 replace HB := Lib.hid (below_only HB.out hb (by omega) HB.out.size)
 replace HOS1 := Lib.hid (HOS1.out.only hb (by first | omega | (simp; omega)))
 replace HOS2 := Lib.hid (HOS2.out.only hb (by first | omega | (simp; omega)))
 replace HOU := Lib.hid (HOU.out.only hb (by first | omega | (simp; omega)))
 replace HXr := Lib.hid (HXr.out.only hb (by first | omega | (simp; omega)))
 clear hxr hfr hkr
 have hxr := HXr.out.2.1
 have hfr := HXr.out.2.2
 have hkr := HXr.out.1
 replace HXs := Lib.hid (HXs.out.only hb (by first | omega | (simp; omega)))
 clear hxs hfs hks
 have hxs := HXs.out.2.1
 have hfs := HXs.out.2.2
 have hks := HXs.out.1
 clear hb
 clear HOC
 have HOC : Hid (CodeK w12 (0) (w1.heap.size + 1) ((B, n, g)) (l)) := Lib.hid (CodeK.mk_ hc)
 clear hc
 have HT := Lib.hid (And.intro t1 t2)
 obtain ⟨lo3, hlo3, hle3⟩ : ∃ n, n ≤ w11.heap.size ∧ w11.heap.size ≤ n := ⟨_, Nat.le_refl _, Nat.le_refl _⟩
 obtain ⟨hi3, hhi3, hhe3⟩ : ∃ n, n ≤ w12.heap.size ∧ w12.heap.size ≤ n := ⟨_, Nat.le_refl _, Nat.le_refl _⟩
 have HOR : Hid (RowB w12 (lo3) (hi3) ((.slice X2 k2 g2, k2)) (strs T)) := Lib.hid ((RowB.of t3).mono hlo3 hhe3)
 clear t1 t2 t3
 go_wp2_with fail
 refine calls_named (fun w13 hw => ?_)
 have hz13 : w12.heap.size + 0 ≤ w13.heap.size := by rw [hw]; first | omega | (simp [World.setCell]; done) | (simp [World.setCell]; omega)
 have hzz13 : w.heap.size ≤ w13.heap.size := by omega
 have hbn : Below w12.heap.size w12 w13 := by rw [hw]; exact (by ((repeat (first | ((with_reducible refine Below.alloc ?_ ?_ _); rotate_left 1; (focus (first | omega | (simp; done) | (simp; omega)))) | (with_reducible refine Below.drew ?_) | ((with_reducible refine Below.setCell ?_ ?_ _); rotate_left 1; (focus (first | omega | (simp; done) | (simp; omega)))))); exact Below.refl _ _))
 replace HB := Lib.hid (below_then HB.out hbn HB.out.size)
 replace HOS1 := Lib.hid (HOS1.out.below hbn)
 replace HOS2 := Lib.hid (HOS2.out.below hbn)
 replace HOU := Lib.hid (HOU.out.below hbn)
 replace HOC := Lib.hid (HOC.out.below hbn)
 replace HOR := Lib.hid (HOR.out.below hbn)
 replace HXr := Lib.hid (HXr.out.below hbn)
 clear hxr hfr hkr
 have hxr := HXr.out.2.1
 have hfr := HXr.out.2.2
 have hkr := HXr.out.1
 replace HXs := Lib.hid (HXs.out.below hbn)
 clear hxs hfs hks
 have hxs := HXs.out.2.1
 have hfs := HXs.out.2.2
 have hks := HXs.out.1
 clear hbn
 clear hw
 refine (l01Once_c (CodeK.get HOC.out) 20 (by omega) (by omega)).mono ?_
 rintro e w14 ⟨b, rfl, hc, hb⟩
 have hzw14 : w13.heap.size ≤ w14.heap.size := hb.size
 have hzzw14 : w.heap.size ≤ w14.heap.size := by omega
 replace HB := Lib.hid (below_only HB.out hb (by omega) HB.out.size)
 replace HOS1 := Lib.hid (HOS1.out.only hb (by first | omega | (simp; omega)))
 replace HOS2 := Lib.hid (HOS2.out.only hb (by first | omega | (simp; omega)))
 replace HOU := Lib.hid (HOU.out.only hb (by first | omega | (simp; omega)))
 replace HOR := Lib.hid (HOR.out.only hb (by first | omega | (simp; omega)))
 replace HXr := Lib.hid (HXr.out.only hb (by first | omega | (simp; omega)))
 clear hxr hfr hkr
 have hxr := HXr.out.2.1
 have hfr := HXr.out.2.2
 have hkr := HXr.out.1
 replace HXs := Lib.hid (HXs.out.only hb (by first | omega | (simp; omega)))
 clear hxs hfs hks
 have hxs := HXs.out.2.1
 have hfs := HXs.out.2.2
 have hks := HXs.out.1
 clear hb
 clear HOC
 have HOC : Hid (CodeK w14 (0) (w1.heap.size + 1) ((B, n, g)) (l)) := Lib.hid (CodeK.mk_ hc)
 clear hc
 cases b
 ·skip
  clear HOC
  go_wp2_with fail
  refine wp_named (fun w15 hw => ?_)
  have hz15 : w14.heap.size + 0 ≤ w15.heap.size := by rw [hw]; first | omega | (simp [World.setCell]; done) | (simp [World.setCell]; omega)
  have hzz15 : w.heap.size ≤ w15.heap.size := by omega
  have hbn : Below w14.heap.size w14 w15 := by rw [hw]; exact (by ((repeat (first | ((with_reducible refine Below.alloc ?_ ?_ _); rotate_left 1; (focus (first | omega | (simp; done) | (simp; omega)))) | (with_reducible refine Below.drew ?_) | ((with_reducible refine Below.setCell ?_ ?_ _); rotate_left 1; (focus (first | omega | (simp; done) | (simp; omega)))))); exact Below.refl _ _))
  replace HB := Lib.hid (below_then HB.out hbn HB.out.size)
  replace HOS1 := Lib.hid (HOS1.out.below hbn)
  replace HOS2 := Lib.hid (HOS2.out.below hbn)
  replace HOU := Lib.hid (HOU.out.below hbn)
  replace HOR := Lib.hid (HOR.out.below hbn)
  replace HXr := Lib.hid (HXr.out.below hbn)
  clear hxr hfr hkr
  have hxr := HXr.out.2.1
  have hfr := HXr.out.2.2
  have hkr := HXr.out.1
  replace HXs := Lib.hid (HXs.out.below hbn)
  clear hxs hfs hks
  have hxs := HXs.out.2.1
  have hfs := HXs.out.2.2
  have hks := HXs.out.1
  clear hbn
  clear hw
  obtain ⟨F, HF⟩ : ∃ F : Facts, Hid (F = fun iq xq tqs dsq uq => match iq with
   | 0 => xq.v = .int .i64 wd
   | 1 => xq.v = .agg #[.int .i64 z1, .slice A1 m1 c1, .int .i64 z2, .slice A2 m2 c2, .int .i64 x.num, .int .i64 x.size, .string x.root, .int .i64 x.taken, .string x.troot]
   | 2 => xq.v = .slice X1 k1 g1
   | 3 => xq.v = .slice X2 k2 g2
   | 4 => xq.v = .int .i64 wd
   | 5 => NewBox uq (w.heap.size) [.int .i64 z1, .slice A1 m1 c1, .int .i64 z2, .slice A2 m2 c2, .int .i64 x.num, .int .i64 x.size, .string x.root, .int .i64 x.taken, .string x.troot]
   | 6 => xq.v = .slice X1 k1 g1
   | 7 => xq.v = .slice X2 k2 g2
   | _ => False) := ⟨_, rfl⟩
  refine wp_region_facts [[], [], [], [], [], [], [], []] [[], [], [], [], [], [], [], []] [some 31, some 32, some 33, some 34, some 2, none, some 4, some 5] (some 5) (w.heap.size) (w.heap.size + 1) (.inr (by omega)) F (by kernel_rfl) (by kernel_rfl) (by kernel_rfl) ?_ ⟨?_, ?_, ?_, ?_, ?_, ?_, ?_, ?_, trivial⟩ ?_
  ·rw [HF.out]; intro iq xq tqs dsq uq u' hi hf hs hW hx hbk
   have kx : ∀ b, xq.s ≤ b → b < xq.e → u'.heap[b]? = uq.heap[b]? := fun b h1 h2 => hbk b (.inr (.inl ⟨h1, h2⟩))
   have kt : ∀ t ∈ tqs, ∀ b, t.s ≤ b → b < t.e → u'.heap[b]? = uq.heap[b]? := fun t ht b h1 h2 => hbk b (.inr (.inr ⟨t, ht, h1, h2⟩))
   match iq with
   | 0 => exact hf
   | 1 => exact hf
   | 2 => exact hf
   | 3 => exact hf
   | 4 => exact hf
   | 5 => exact NewBox.keep hf hs (hbk _ (.inl ⟨hkr, .inr (.inr rfl)⟩))
   | 6 => exact hf
   | 7 => exact hf
  ·intro gh ρ u hc hf1 hg1 hd h0 hb he ha hF
   have r7 : ρ (.tmp 7) = .int .i64 wd := (h0 7 (by decide +kernel)).trans rfl
   clear  hd h0 he ha hF
   go_simp
   rw [HF.out]
   exact ⟨OnlyL.refl _ _, rfl⟩
  ·intro gh ρ u hc hf1 hg1 hd h0 hb he ha hF
   first | (replace hb : Below w15.heap.size w15 u := hb.drew.below (by decide +kernel)) | (replace hb : Only (w.heap.size) (w.heap.size + 1) w15 u := hb.drew.only)
   have hbz : w15.heap.size ≤ u.heap.size := hb.size
   have r8 : ρ (.tmp 8) = .pointer (some ⟨w6.heap.size, 0, none⟩) := (h0 8 (by decide +kernel)).trans rfl
   have q_s : ∀ o, u.cell? ⟨w6.heap.size, o, none⟩ = [.int .i64 z1, .slice A1 m1 c1, .int .i64 z2, .slice A2 m2 c2, .int .i64 x.num, .int .i64 x.size, .string x.root, .int .i64 x.taken, .string x.troot][o]? := by first | exact (HXs.out.below hb).2.1 | exact (HXs.out.only hb (by omega)).2.1
   have k_s : w6.heap.size < u.heap.size := by have := HXs.out.1; omega
   have q_r : ∀ o, u.cell? ⟨w.heap.size, o, none⟩ = [.int .i64 0, .slice none 0 0, .int .i64 0, .slice none 0 0, .int .i64 0, .int .i64 0, .string ⟨#[]⟩, .int .i64 0, .string ⟨#[]⟩][o]? := by first | exact (HXr.out.below hb).2.1 | exact (HXr.out.only hb (by omega)).2.1
   have k_r : w.heap.size < u.heap.size := by have := HXr.out.1; omega
   clear  hd h0 he ha hF
   go_simp
   rw [HF.out]
   exact ⟨OnlyL.refl _ _, rfl⟩
  ·intro gh ρ u hc hf1 hg1 hd h0 hb he ha hF
   have r9 : ρ (.tmp 9) = .slice X1 k1 g1 := (h0 9 (by decide +kernel)).trans rfl
   clear  hd h0 he ha hF
   go_simp
   rw [HF.out]
   exact ⟨OnlyL.refl _ _, rfl⟩
  ·intro gh ρ u hc hf1 hg1 hd h0 hb he ha hF
   have r10 : ρ (.tmp 10) = .slice X2 k2 g2 := (h0 10 (by decide +kernel)).trans rfl
   clear  hd h0 he ha hF
   go_simp
   rw [HF.out]
   exact ⟨OnlyL.refl _ _, rfl⟩
  ·intro gh ρ u hc hf1 hg1 hd h0 hb he ha hF
   have r31 : ρ (.tmp 31) = .int .i64 wd := by have h := hF 0 (by decide +kernel) (by decide +kernel); rw [HF.out] at h; exact (hd 0 (by decide +kernel) 31 (by kernel_rfl)).trans h
   clear  hd h0 he ha hF
   go_simp
   rw [HF.out]
   exact ⟨OnlyL.refl _ _, rfl⟩
  ·intro gh ρ u hc hf1 hg1 hd h0 hb he ha hF
   first | (replace hb : Below w15.heap.size w15 u := hb.drew.below (by decide +kernel)) | (replace hb : Only (w.heap.size) (w.heap.size + 1) w15 u := hb.drew.only)
   have hbz : w15.heap.size ≤ u.heap.size := hb.size
   have r3 : ρ (.tmp 3) = .pointer (some ⟨w.heap.size, 0, none⟩) := (h0 3 (by decide +kernel)).trans rfl
   have r32 : ρ (.tmp 32) = .agg #[.int .i64 z1, .slice A1 m1 c1, .int .i64 z2, .slice A2 m2 c2, .int .i64 x.num, .int .i64 x.size, .string x.root, .int .i64 x.taken, .string x.troot] := by have h := hF 1 (by decide +kernel) (by decide +kernel); rw [HF.out] at h; exact (hd 1 (by decide +kernel) 32 (by kernel_rfl)).trans h
   obtain ⟨hzk, hzc, hzf⟩ := HXr.out.below hb
   clear  hd h0 he ha hF
   go_simp
   rw [HF.out]
   refine ⟨?_, ?_⟩
   ·refine OnlyL.of_z (lo := w.heap.size) (hi := w.heap.size + 1) ?_ rfl; refine Only.setCell ?_ (by exact Nat.le_refl _) (by exact Nat.lt_succ_self _) _; refine Only.setCell ?_ (by exact Nat.le_refl _) (by exact Nat.lt_succ_self _) _; refine Only.setCell ?_ (by exact Nat.le_refl _) (by exact Nat.lt_succ_self _) _; refine Only.setCell ?_ (by exact Nat.le_refl _) (by exact Nat.lt_succ_self _) _; refine Only.setCell ?_ (by exact Nat.le_refl _) (by exact Nat.lt_succ_self _) _; refine Only.setCell ?_ (by exact Nat.le_refl _) (by exact Nat.lt_succ_self _) _; refine Only.setCell ?_ (by exact Nat.le_refl _) (by exact Nat.lt_succ_self _) _; refine Only.setCell ?_ (by exact Nat.le_refl _) (by exact Nat.lt_succ_self _) _; refine Only.setCell ?_ (by exact Nat.le_refl _) (by exact Nat.lt_succ_self _) _; exact Only.refl _ _ _
   ·show NewBox _ (w.heap.size) _
    exact ⟨by simpa [World.setCell] using hzk, fun o => by rcases o with _ | _ | _ | _ | _ | _ | _ | _ | _ | o <;> go_simp, fun o => by go_simp⟩
  ·intro gh ρ u hc hf1 hg1 hd h0 hb he ha hF
   have r33 : ρ (.tmp 33) = .slice X1 k1 g1 := by have h := hF 2 (by decide +kernel) (by decide +kernel); rw [HF.out] at h; exact (hd 2 (by decide +kernel) 33 (by kernel_rfl)).trans h
   clear  hd h0 he ha hF
   go_simp
   rw [HF.out]
   exact ⟨OnlyL.refl _ _, rfl⟩
  ·intro gh ρ u hc hf1 hg1 hd h0 hb he ha hF
   have r34 : ρ (.tmp 34) = .slice X2 k2 g2 := by have h := hF 3 (by decide +kernel) (by decide +kernel); rw [HF.out] at h; exact (hd 3 (by decide +kernel) 34 (by kernel_rfl)).trans h
   clear  hd h0 he ha hF
   go_simp
   rw [HF.out]
   exact ⟨OnlyL.refl _ _, rfl⟩
  intro gh w16 hB hE hA hF
  replace hB : Only (w.heap.size) (w.heap.size + 1) w15 w16 := hB.only
  have f0 : (gh 0).v = .int .i64 wd := by have h := hF 0 (by decide +kernel) (by decide +kernel); rw [HF.out] at h; exact h
  have f1 : (gh 1).v = .agg #[.int .i64 z1, .slice A1 m1 c1, .int .i64 z2, .slice A2 m2 c2, .int .i64 x.num, .int .i64 x.size, .string x.root, .int .i64 x.taken, .string x.troot] := by have h := hF 1 (by decide +kernel) (by decide +kernel); rw [HF.out] at h; exact h
  have f2 : (gh 2).v = .slice X1 k1 g1 := by have h := hF 2 (by decide +kernel) (by decide +kernel); rw [HF.out] at h; exact h
  have f3 : (gh 3).v = .slice X2 k2 g2 := by have h := hF 3 (by decide +kernel) (by decide +kernel); rw [HF.out] at h; exact h
  have f4 : (gh 4).v = .int .i64 wd := by have h := hF 4 (by decide +kernel) (by decide +kernel); rw [HF.out] at h; exact h
  have f5 : NewBox w16 (w.heap.size) [.int .i64 z1, .slice A1 m1 c1, .int .i64 z2, .slice A2 m2 c2, .int .i64 x.num, .int .i64 x.size, .string x.root, .int .i64 x.taken, .string x.troot] := by have h := hF 5 (by decide +kernel) (by decide +kernel); rw [HF.out] at h; exact h
  have f6 : (gh 6).v = .slice X1 k1 g1 := by have h := hF 6 (by decide +kernel) (by decide +kernel); rw [HF.out] at h; exact h
  have f7 : (gh 7).v = .slice X2 k2 g2 := by have h := hF 7 (by decide +kernel) (by decide +kernel); rw [HF.out] at h; exact h
  have hv0 := f0
  have hv1 := f1
  have hv2 := f2
  have hv3 := f3
  have hv4 := f4
  have hx5 := f5
  have hv6 := f6
  have hv7 := f7
  clear hE hA hF
  simp only [putDs, Nat.reduceAdd, hv0, hv1, hv2, hv3, hv4, hv6, hv7]
  clear hv0 hv1 hv2 hv3 hv4 hv6 hv7
  clear HF
  have hb := hB
  clear hB
  have hzw16 : w15.heap.size ≤ w16.heap.size := hb.size
  have hzzw16 : w.heap.size ≤ w16.heap.size := by omega
  replace HB := Lib.hid (below_only HB.out hb (by omega) HB.out.size)
  replace HOS1 := Lib.hid (HOS1.out.only hb (by first | omega | (simp; omega)))
  replace HOS2 := Lib.hid (HOS2.out.only hb (by first | omega | (simp; omega)))
  replace HOU := Lib.hid (HOU.out.only hb (by first | omega | (simp; omega)))
  replace HOR := Lib.hid (HOR.out.only hb (by first | omega | (simp; omega)))
  clear hxr hfr hkr HXr
  replace HXs := Lib.hid (HXs.out.only hb (by first | omega | (simp; omega)))
  clear hxs hfs hks
  have hxs := HXs.out.2.1
  have hfs := HXs.out.2.2
  have hks := HXs.out.1
  clear hb
  have HXr : Hid (NewBox w16 (w.heap.size) [.int .i64 z1, .slice A1 m1 c1, .int .i64 z2, .slice A2 m2 c2, .int .i64 x.num, .int .i64 x.size, .string x.root, .int .i64 x.taken, .string x.troot]) := hx5
  have hxr := HXr.out.2.1
  have hfr := HXr.out.2.2
  have hkr := HXr.out.1
  clear hx5
  go_wp2
  refine bodyPost_named (fun w17 hw => ?_)
  have hz17 : w16.heap.size + 0 ≤ w17.heap.size := by rw [hw]; first | omega | (simp [World.setCell]; done) | (simp [World.setCell]; omega)
  have hzz17 : w.heap.size ≤ w17.heap.size := by omega
  have hbn : Below w16.heap.size w16 w17 := by rw [hw]; exact (by ((repeat (first | ((with_reducible refine Below.alloc ?_ ?_ _); rotate_left 1; (focus (first | omega | (simp; done) | (simp; omega)))) | (with_reducible refine Below.drew ?_) | ((with_reducible refine Below.setCell ?_ ?_ _); rotate_left 1; (focus (first | omega | (simp; done) | (simp; omega)))))); exact Below.refl _ _))
  replace HB := Lib.hid (below_then HB.out hbn HB.out.size)
  replace HOS1 := Lib.hid (HOS1.out.below hbn)
  replace HOS2 := Lib.hid (HOS2.out.below hbn)
  replace HOU := Lib.hid (HOU.out.below hbn)
  replace HOR := Lib.hid (HOR.out.below hbn)
  replace HXs := Lib.hid (HXs.out.below hbn)
  clear hxs hfs hks
  have hxs := HXs.out.2.1
  have hfs := HXs.out.2.2
  have hks := HXs.out.1
  replace HXr := Lib.hid (HXr.out.below hbn)
  clear hxr hfr hkr
  have hxr := HXr.out.2.1
  have hfr := HXr.out.2.2
  have hkr := HXr.out.1
  clear hbn
  clear hw
  refine bodyPost_ret (v := .tuple #[.int .i64 wd, .agg #[.int .i64 z1, .slice A1 m1 c1, .int .i64 z2, .slice A2 m2 c2, .int .i64 x.num, .int .i64 x.size, .string x.root, .int .i64 x.taken, .string x.troot], .slice X1 k1 g1, .slice X2 k2 g2]) (by simp [results, Try.results22, go_sem, hxr]) rfl ?_
  exact ⟨wd, z1, z2, A1, A2, m1, c1, m2, c2, l1, l2, x, X1, X2, g1, g2, k1, k2, L, T, rfl, ⟨HWD.out, ⟨HI1.out, HI2.out, HXX.out, ⟨HN1.out.1, HN1.out.2.1, HN1.out.2.2, HOS1.out.mono (by omega) (by omega) (by omega)⟩, ⟨HN2.out.1, HN2.out.2.1, HN2.out.2.2, HOS2.out.mono (by omega) (by omega) (by omega)⟩⟩, ⟨HL.out.1, HL.out.2.1, HL.out.2.2.1, HL.out.2.2.2.1, HL.out.2.2.2.2, HOU.out.mono (by omega) (by omega) (by omega)⟩, Lst40.of HT.out.1 (by omega) (fun s hs => Nat.le_trans (HT.out.2 s hs) (by omega)) (row_mono HOR.out.1 (by omega))⟩, HB.out⟩
 ·skip
  go_wp2_with (at_builtin; refine appStrL rfl _ _ rfl lo3 hi3 w14.heap.size 1 _ k2 _ [⟨#[33, 33, 33]⟩] rfl (HOR.out.alloc _) rfl rfl (NewBox.new w14 _ _) (by omega) (by omega) (by first | omega | (simp; done) | (simp; omega)) (w14.heap.size + 1) (by simp) ?_)
  intro g3 c3 wa_ hg1 hg2 hg3 hrw hon0
  have hon := (Only.of_below ((Below.refl _ _).alloc (Nat.le_refl _) _)).trans hon0
  rw [← strs_appD] at hrw
  have hzwa_ : w14.heap.size ≤ wa_.heap.size := hon.size
  have hzzwa_ : w.heap.size ≤ wa_.heap.size := by omega
  replace HB := Lib.hid (below_only HB.out hon (by omega) HB.out.size)
  replace HOS1 := Lib.hid (HOS1.out.only hon (by first | omega | (simp; omega)))
  replace HOS2 := Lib.hid (HOS2.out.only hon (by first | omega | (simp; omega)))
  replace HOU := Lib.hid (HOU.out.only hon (by first | omega | (simp; omega)))
  replace HOC := Lib.hid (HOC.out.only hon (by first | omega | (simp; omega)))
  replace HXr := Lib.hid (HXr.out.only hon (by first | omega | (simp; omega)))
  clear hxr hfr hkr
  have hxr := HXr.out.2.1
  have hfr := HXr.out.2.2
  have hkr := HXr.out.1
  replace HXs := Lib.hid (HXs.out.only hon (by first | omega | (simp; omega)))
  clear hxs hfs hks
  have hxs := HXs.out.2.1
  have hfs := HXs.out.2.2
  have hks := HXs.out.1
  clear HOR hon hon0
  have HOR : Hid (RowB wa_ (g3) (g3 + 1) ((.slice (some ⟨g3, 0, none⟩) (k2 + 1) c3, k2 + 1)) (strs (T ++ [⟨#[33, 33, 33]⟩]))) := Lib.hid hrw
  clear hrw
  clear HOC
  go_wp2_with fail
  refine wp_named (fun w15 hw => ?_)
  have hz15 : wa_.heap.size + 0 ≤ w15.heap.size := by rw [hw]; first | omega | (simp [World.setCell]; done) | (simp [World.setCell]; omega)
  have hzz15 : w.heap.size ≤ w15.heap.size := by omega
  have hbn : Below wa_.heap.size wa_ w15 := by rw [hw]; exact (by ((repeat (first | ((with_reducible refine Below.alloc ?_ ?_ _); rotate_left 1; (focus (first | omega | (simp; done) | (simp; omega)))) | (with_reducible refine Below.drew ?_) | ((with_reducible refine Below.setCell ?_ ?_ _); rotate_left 1; (focus (first | omega | (simp; done) | (simp; omega)))))); exact Below.refl _ _))
  replace HB := Lib.hid (below_then HB.out hbn HB.out.size)
  replace HOS1 := Lib.hid (HOS1.out.below hbn)
  replace HOS2 := Lib.hid (HOS2.out.below hbn)
  replace HOU := Lib.hid (HOU.out.below hbn)
  replace HOR := Lib.hid (HOR.out.below hbn)
  replace HXr := Lib.hid (HXr.out.below hbn)
  clear hxr hfr hkr
  have hxr := HXr.out.2.1
  have hfr := HXr.out.2.2
  have hkr := HXr.out.1
  replace HXs := Lib.hid (HXs.out.below hbn)
  clear hxs hfs hks
  have hxs := HXs.out.2.1
  have hfs := HXs.out.2.2
  have hks := HXs.out.1
  clear hbn
  clear hw
  obtain ⟨F, HF⟩ : ∃ F : Facts, Hid (F = fun iq xq tqs dsq uq => match iq with
   | 0 => xq.v = .int .i64 wd
   | 1 => xq.v = .agg #[.int .i64 z1, .slice A1 m1 c1, .int .i64 z2, .slice A2 m2 c2, .int .i64 x.num, .int .i64 x.size, .string x.root, .int .i64 x.taken, .string x.troot]
   | 2 => xq.v = .slice X1 k1 g1
   | 3 => xq.v = .slice (some ⟨g3, 0, none⟩) (k2 + 1) c3
   | 4 => xq.v = .int .i64 wd
   | 5 => NewBox uq (w.heap.size) [.int .i64 z1, .slice A1 m1 c1, .int .i64 z2, .slice A2 m2 c2, .int .i64 x.num, .int .i64 x.size, .string x.root, .int .i64 x.taken, .string x.troot]
   | 6 => xq.v = .slice X1 k1 g1
   | 7 => xq.v = .slice (some ⟨g3, 0, none⟩) (k2 + 1) c3
   | _ => False) := ⟨_, rfl⟩
  refine wp_region_facts [[], [], [], [], [], [], [], []] [[], [], [], [], [], [], [], []] [some 31, some 32, some 33, some 34, some 2, none, some 4, some 5] (some 5) (w.heap.size) (w.heap.size + 1) (.inr (by omega)) F (by kernel_rfl) (by kernel_rfl) (by kernel_rfl) ?_ ⟨?_, ?_, ?_, ?_, ?_, ?_, ?_, ?_, trivial⟩ ?_
  ·rw [HF.out]; intro iq xq tqs dsq uq u' hi hf hs hW hx hbk
   have kx : ∀ b, xq.s ≤ b → b < xq.e → u'.heap[b]? = uq.heap[b]? := fun b h1 h2 => hbk b (.inr (.inl ⟨h1, h2⟩))
   have kt : ∀ t ∈ tqs, ∀ b, t.s ≤ b → b < t.e → u'.heap[b]? = uq.heap[b]? := fun t ht b h1 h2 => hbk b (.inr (.inr ⟨t, ht, h1, h2⟩))
   match iq with
   | 0 => exact hf
   | 1 => exact hf
   | 2 => exact hf
   | 3 => exact hf
   | 4 => exact hf
   | 5 => exact NewBox.keep hf hs (hbk _ (.inl ⟨hkr, .inr (.inr rfl)⟩))
   | 6 => exact hf
   | 7 => exact hf
  ·intro gh ρ u hc hf1 hg1 hd h0 hb he ha hF
   have r7 : ρ (.tmp 7) = .int .i64 wd := (h0 7 (by decide +kernel)).trans rfl
   clear  hd h0 he ha hF
   go_simp
   rw [HF.out]
   exact ⟨OnlyL.refl _ _, rfl⟩
  ·intro gh ρ u hc hf1 hg1 hd h0 hb he ha hF
   first | (replace hb : Below w15.heap.size w15 u := hb.drew.below (by decide +kernel)) | (replace hb : Only (w.heap.size) (w.heap.size + 1) w15 u := hb.drew.only)
   have hbz : w15.heap.size ≤ u.heap.size := hb.size
   have r8 : ρ (.tmp 8) = .pointer (some ⟨w6.heap.size, 0, none⟩) := (h0 8 (by decide +kernel)).trans rfl
   have q_s : ∀ o, u.cell? ⟨w6.heap.size, o, none⟩ = [.int .i64 z1, .slice A1 m1 c1, .int .i64 z2, .slice A2 m2 c2, .int .i64 x.num, .int .i64 x.size, .string x.root, .int .i64 x.taken, .string x.troot][o]? := by first | exact (HXs.out.below hb).2.1 | exact (HXs.out.only hb (by omega)).2.1
   have k_s : w6.heap.size < u.heap.size := by have := HXs.out.1; omega
   have q_r : ∀ o, u.cell? ⟨w.heap.size, o, none⟩ = [.int .i64 0, .slice none 0 0, .int .i64 0, .slice none 0 0, .int .i64 0, .int .i64 0, .string ⟨#[]⟩, .int .i64 0, .string ⟨#[]⟩][o]? := by first | exact (HXr.out.below hb).2.1 | exact (HXr.out.only hb (by omega)).2.1
   have k_r : w.heap.size < u.heap.size := by have := HXr.out.1; omega
   clear  hd h0 he ha hF
   go_simp
   rw [HF.out]
   exact ⟨OnlyL.refl _ _, rfl⟩
  ·intro gh ρ u hc hf1 hg1 hd h0 hb he ha hF
   have r9 : ρ (.tmp 9) = .slice X1 k1 g1 := (h0 9 (by decide +kernel)).trans rfl
   clear  hd h0 he ha hF
   go_simp
   rw [HF.out]
   exact ⟨OnlyL.refl _ _, rfl⟩
  ·intro gh ρ u hc hf1 hg1 hd h0 hb he ha hF
   have r10 : ρ (.tmp 10) = .slice (some ⟨g3, 0, none⟩) (k2 + 1) c3 := (h0 10 (by decide +kernel)).trans rfl
   clear  hd h0 he ha hF
   go_simp
   rw [HF.out]
   exact ⟨OnlyL.refl _ _, rfl⟩
  ·intro gh ρ u hc hf1 hg1 hd h0 hb he ha hF
   have r31 : ρ (.tmp 31) = .int .i64 wd := by have h := hF 0 (by decide +kernel) (by decide +kernel); rw [HF.out] at h; exact (hd 0 (by decide +kernel) 31 (by kernel_rfl)).trans h
   clear  hd h0 he ha hF
   go_simp
   rw [HF.out]
   exact ⟨OnlyL.refl _ _, rfl⟩
  ·intro gh ρ u hc hf1 hg1 hd h0 hb he ha hF
   first | (replace hb : Below w15.heap.size w15 u := hb.drew.below (by decide +kernel)) | (replace hb : Only (w.heap.size) (w.heap.size + 1) w15 u := hb.drew.only)
   have hbz : w15.heap.size ≤ u.heap.size := hb.size
   have r3 : ρ (.tmp 3) = .pointer (some ⟨w.heap.size, 0, none⟩) := (h0 3 (by decide +kernel)).trans rfl
   have r32 : ρ (.tmp 32) = .agg #[.int .i64 z1, .slice A1 m1 c1, .int .i64 z2, .slice A2 m2 c2, .int .i64 x.num, .int .i64 x.size, .string x.root, .int .i64 x.taken, .string x.troot] := by have h := hF 1 (by decide +kernel) (by decide +kernel); rw [HF.out] at h; exact (hd 1 (by decide +kernel) 32 (by kernel_rfl)).trans h
   obtain ⟨hzk, hzc, hzf⟩ := HXr.out.below hb
   clear  hd h0 he ha hF
   go_simp
   rw [HF.out]
   refine ⟨?_, ?_⟩
   ·refine OnlyL.of_z (lo := w.heap.size) (hi := w.heap.size + 1) ?_ rfl; refine Only.setCell ?_ (by exact Nat.le_refl _) (by exact Nat.lt_succ_self _) _; refine Only.setCell ?_ (by exact Nat.le_refl _) (by exact Nat.lt_succ_self _) _; refine Only.setCell ?_ (by exact Nat.le_refl _) (by exact Nat.lt_succ_self _) _; refine Only.setCell ?_ (by exact Nat.le_refl _) (by exact Nat.lt_succ_self _) _; refine Only.setCell ?_ (by exact Nat.le_refl _) (by exact Nat.lt_succ_self _) _; refine Only.setCell ?_ (by exact Nat.le_refl _) (by exact Nat.lt_succ_self _) _; refine Only.setCell ?_ (by exact Nat.le_refl _) (by exact Nat.lt_succ_self _) _; refine Only.setCell ?_ (by exact Nat.le_refl _) (by exact Nat.lt_succ_self _) _; refine Only.setCell ?_ (by exact Nat.le_refl _) (by exact Nat.lt_succ_self _) _; exact Only.refl _ _ _
   ·show NewBox _ (w.heap.size) _
    exact ⟨by simpa [World.setCell] using hzk, fun o => by rcases o with _ | _ | _ | _ | _ | _ | _ | _ | _ | o <;> go_simp, fun o => by go_simp⟩
  ·intro gh ρ u hc hf1 hg1 hd h0 hb he ha hF
   have r33 : ρ (.tmp 33) = .slice X1 k1 g1 := by have h := hF 2 (by decide +kernel) (by decide +kernel); rw [HF.out] at h; exact (hd 2 (by decide +kernel) 33 (by kernel_rfl)).trans h
   clear  hd h0 he ha hF
   go_simp
   rw [HF.out]
   exact ⟨OnlyL.refl _ _, rfl⟩
  ·intro gh ρ u hc hf1 hg1 hd h0 hb he ha hF
   have r34 : ρ (.tmp 34) = .slice (some ⟨g3, 0, none⟩) (k2 + 1) c3 := by have h := hF 3 (by decide +kernel) (by decide +kernel); rw [HF.out] at h; exact (hd 3 (by decide +kernel) 34 (by kernel_rfl)).trans h
   clear  hd h0 he ha hF
   go_simp
   rw [HF.out]
   exact ⟨OnlyL.refl _ _, rfl⟩
  intro gh w16 hB hE hA hF
  replace hB : Only (w.heap.size) (w.heap.size + 1) w15 w16 := hB.only
  have f0 : (gh 0).v = .int .i64 wd := by have h := hF 0 (by decide +kernel) (by decide +kernel); rw [HF.out] at h; exact h
  have f1 : (gh 1).v = .agg #[.int .i64 z1, .slice A1 m1 c1, .int .i64 z2, .slice A2 m2 c2, .int .i64 x.num, .int .i64 x.size, .string x.root, .int .i64 x.taken, .string x.troot] := by have h := hF 1 (by decide +kernel) (by decide +kernel); rw [HF.out] at h; exact h
  have f2 : (gh 2).v = .slice X1 k1 g1 := by have h := hF 2 (by decide +kernel) (by decide +kernel); rw [HF.out] at h; exact h
  have f3 : (gh 3).v = .slice (some ⟨g3, 0, none⟩) (k2 + 1) c3 := by have h := hF 3 (by decide +kernel) (by decide +kernel); rw [HF.out] at h; exact h
  have f4 : (gh 4).v = .int .i64 wd := by have h := hF 4 (by decide +kernel) (by decide +kernel); rw [HF.out] at h; exact h
  have f5 : NewBox w16 (w.heap.size) [.int .i64 z1, .slice A1 m1 c1, .int .i64 z2, .slice A2 m2 c2, .int .i64 x.num, .int .i64 x.size, .string x.root, .int .i64 x.taken, .string x.troot] := by have h := hF 5 (by decide +kernel) (by decide +kernel); rw [HF.out] at h; exact h
  have f6 : (gh 6).v = .slice X1 k1 g1 := by have h := hF 6 (by decide +kernel) (by decide +kernel); rw [HF.out] at h; exact h
  have f7 : (gh 7).v = .slice (some ⟨g3, 0, none⟩) (k2 + 1) c3 := by have h := hF 7 (by decide +kernel) (by decide +kernel); rw [HF.out] at h; exact h
  have hv0 := f0
  have hv1 := f1
  have hv2 := f2
  have hv3 := f3
  have hv4 := f4
  have hx5 := f5
  have hv6 := f6
  have hv7 := f7
  clear hE hA hF
  simp only [putDs, Nat.reduceAdd, hv0, hv1, hv2, hv3, hv4, hv6, hv7]
  clear hv0 hv1 hv2 hv3 hv4 hv6 hv7
  clear HF
  have hb := hB
  clear hB
  have hzw16 : w15.heap.size ≤ w16.heap.size := hb.size
  have hzzw16 : w.heap.size ≤ w16.heap.size := by omega
  replace HB := Lib.hid (below_only HB.out hb (by omega) HB.out.size)
  replace HOS1 := Lib.hid (HOS1.out.only hb (by first | omega | (simp; omega)))
  replace HOS2 := Lib.hid (HOS2.out.only hb (by first | omega | (simp; omega)))
  replace HOU := Lib.hid (HOU.out.only hb (by first | omega | (simp; omega)))
  replace HOR := Lib.hid (HOR.out.only hb (by first | omega | (simp; omega)))
  clear hxr hfr hkr HXr
  replace HXs := Lib.hid (HXs.out.only hb (by first | omega | (simp; omega)))
  clear hxs hfs hks
  have hxs := HXs.out.2.1
  have hfs := HXs.out.2.2
  have hks := HXs.out.1
  clear hb
  have HXr : Hid (NewBox w16 (w.heap.size) [.int .i64 z1, .slice A1 m1 c1, .int .i64 z2, .slice A2 m2 c2, .int .i64 x.num, .int .i64 x.size, .string x.root, .int .i64 x.taken, .string x.troot]) := hx5
  have hxr := HXr.out.2.1
  have hfr := HXr.out.2.2
  have hkr := HXr.out.1
  clear hx5
  go_wp2
  refine bodyPost_named (fun w17 hw => ?_)
  have hz17 : w16.heap.size + 0 ≤ w17.heap.size := by rw [hw]; first | omega | (simp [World.setCell]; done) | (simp [World.setCell]; omega)
  have hzz17 : w.heap.size ≤ w17.heap.size := by omega
  have hbn : Below w16.heap.size w16 w17 := by rw [hw]; exact (by ((repeat (first | ((with_reducible refine Below.alloc ?_ ?_ _); rotate_left 1; (focus (first | omega | (simp; done) | (simp; omega)))) | (with_reducible refine Below.drew ?_) | ((with_reducible refine Below.setCell ?_ ?_ _); rotate_left 1; (focus (first | omega | (simp; done) | (simp; omega)))))); exact Below.refl _ _))
  replace HB := Lib.hid (below_then HB.out hbn HB.out.size)
  replace HOS1 := Lib.hid (HOS1.out.below hbn)
  replace HOS2 := Lib.hid (HOS2.out.below hbn)
  replace HOU := Lib.hid (HOU.out.below hbn)
  replace HOR := Lib.hid (HOR.out.below hbn)
  replace HXs := Lib.hid (HXs.out.below hbn)
  clear hxs hfs hks
  have hxs := HXs.out.2.1
  have hfs := HXs.out.2.2
  have hks := HXs.out.1
  replace HXr := Lib.hid (HXr.out.below hbn)
  clear hxr hfr hkr
  have hxr := HXr.out.2.1
  have hfr := HXr.out.2.2
  have hkr := HXr.out.1
  clear hbn
  clear hw
  refine bodyPost_ret (v := .tuple #[.int .i64 wd, .agg #[.int .i64 z1, .slice A1 m1 c1, .int .i64 z2, .slice A2 m2 c2, .int .i64 x.num, .int .i64 x.size, .string x.root, .int .i64 x.taken, .string x.troot], .slice X1 k1 g1, .slice (some ⟨g3, 0, none⟩) (k2 + 1) c3]) (by simp [results, Try.results22, go_sem, hxr]) rfl ?_
  exact ⟨wd, z1, z2, A1, A2, m1, c1, m2, c2, l1, l2, x, X1, (some ⟨g3, 0, none⟩), g1, c3, k1, (k2 + 1), L, (T ++ [⟨#[33, 33, 33]⟩]), rfl, ⟨HWD.out, ⟨HI1.out, HI2.out, HXX.out, ⟨HN1.out.1, HN1.out.2.1, HN1.out.2.2, HOS1.out.mono (by omega) (by omega) (by omega)⟩, ⟨HN2.out.1, HN2.out.2.1, HN2.out.2.2, HOS2.out.mono (by omega) (by omega) (by omega)⟩⟩, ⟨HL.out.1, HL.out.2.1, HL.out.2.2.1, HL.out.2.2.2.1, HL.out.2.2.2.2, HOU.out.mono (by omega) (by omega) (by omega)⟩, Lst40.of (by rw [List.length_append, HT.out.1]; rfl) (by omega) (fun s hs => (List.mem_append.1 hs).elim (fun h => Nat.le_trans (HT.out.2 s h) (by omega)) (fun h => by rw [List.mem_singleton.1 h]; decide)) (row_mono HOR.out.1 (by omega))⟩, HB.out⟩
end Go.Proofs.Ytoccjgcokffkbaa
