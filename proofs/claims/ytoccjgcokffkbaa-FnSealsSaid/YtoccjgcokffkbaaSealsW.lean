/- FnSeals: the walk. -/
import Derived.Test.YtoccjgcokffkbaaDrawM
import Derived.Test.YtoccjgcokffkbaaDrawP
import Derived.Test.YtoccjgcokffkbaaBegin
import Derived.Test.YtoccjgcokffkbaaSealJ
import Derived.Test.YtoccjgcokffkbaaSame
import Derived.Test.YtoccjgcokffkbaaSlx
import Derived.Deep.DeepCutAuto
namespace Go.Proofs.Ytoccjgcokffkbaa
set_option linter.unusedVariables false
set_option linter.unusedSimpArgs false
open Go.RowKit

set_option maxRecDepth 100000 in
set_option maxHeartbeats 20000000 in
theorem walk_FnSeals (n g : Nat) (B : Option Addr) (l0 : List Int) (w : World) (hr : Rd w 0 w.heap.size B (bys l0)) (hl : l0.length = n) (hng : n ≤ g) (hn : n ≤ maxLen) (hb : ∀ x ∈ l0, 0 ≤ x ∧ x ≤ 255) :
  Calls Try.prog 5 #[.slice B n g] w fun e w' => e = .returned (.bool true) ∧ Below w.heap.size w w' := by
 by_cases h20 : 1048576 < n
 ·have hd : decide (1048576 < n) = true := decide_eq_true h20
  go_enter Try.func5, Try.ntmps5
  go_wp2_with fail
  refine (big_c n g B _ hn).mono ?_
  rintro e w1 ⟨rfl, rfl⟩
  rw [hd]
  go_wp2
  go_ret
  exact ⟨rfl, Below.refl _ _⟩
 ·have hd : decide (1048576 < n) = false := decide_eq_false h20
  have HDA := Lib.hid (fun W (r : Rd W 0 W.heap.size B (bys l0)) => DrawSealMore_c n g B l0 W r hl (by omega) hb)
  have HDP := Lib.hid (fun W (r : Rd W 0 W.heap.size B (bys l0)) => DrawPlaces_c n g 0 W.heap.size B l0 W r hl (by omega) hb)
  have HB : Hid (Below w.heap.size w w) := Below.refl _ _
  have HOQ : Hid (Rd w (0) (w.heap.size) (B) (bys l0)) := Rd.base hr
  clear hr hl hb hng
  go_enter Try.func5, Try.ntmps5
  go_wp2_with fail
  refine (big_c n g B _ hn).mono ?_
  rintro e w0_ ⟨rfl, rfl⟩
  rw [hd]
  clear hd hn
  go_wp2_with fail
  refine calls_named (fun w1 hw => ?_)
  have hz1 : w.heap.size + 0 ≤ w1.heap.size := by rw [hw]; first | omega | (simp [World.setCell]; done) | (simp [World.setCell]; omega)
  have hbn : Below w.heap.size w w1 := by rw [hw]; exact (by ((repeat (first | ((with_reducible refine Below.alloc ?_ ?_ _); rotate_left 1; (focus (first | omega | (simp; done) | (simp; omega)))) | (with_reducible refine Below.drew ?_) | ((with_reducible refine Below.setCell ?_ ?_ _); rotate_left 1; (focus (first | omega | (simp; done) | (simp; omega)))))); exact Below.refl _ _))
  replace HB := Lib.hid (below_then HB.out hbn HB.out.size)
  replace HOQ := Lib.hid (HOQ.out.below hbn)
  clear hbn
  clear hw
  refine (HDA.out _ HOQ.out.base).mono ?_
  rintro e w2 ⟨wd, z1, z2, A1, A2, m1, c1, m2, c2, l1, l2, x, X1, X2, g1, g2, k1, k2, L, T, rfl, ⟨iw, ⟨i1, i2, ⟨j1, j2, j3, j4, j5⟩, ⟨q1, q2, q3, q4⟩, ⟨q5, q6, q7, q8⟩⟩, ⟨u1, u2, u3, u4, u5, u6⟩, ⟨t1, t2, t3, t4, t5, t6⟩⟩, hb⟩
  have hzw2 : w1.heap.size ≤ w2.heap.size := hb.size
  have hzzw2 : w.heap.size ≤ w2.heap.size := by omega
  replace HB := Lib.hid (below_then HB.out hb HB.out.size)
  replace HOQ := Lib.hid (HOQ.out.below hb)
  clear hb
  have HLN : Hid (l1.length = m1 ∧ l2.length = m2 ∧ L.length = k1 ∧ T.length = k2 ∧ m1 ≤ 30 ∧ m2 ≤ 30 ∧ k1 ≤ 513 ∧ k2 ≤ 6 ∧ k1 ≤ g1 ∧ k2 ≤ g2 ∧ (A1 = none → c1 = 0) ∧ (A2 = none → c2 = 0) ∧ (X1 = none → g1 = 0) ∧ (X2 = none → g2 = 0) ∧ I64 z1 ∧ I64 z2 ∧ x.bulk ≤ 100) := Lib.hid ⟨q1, q5, u1, t1, q2, q6, u2, t2, u4, t4, q3, q7, u5, t5, i1, i2, by show x.root.size + x.troot.size ≤ 100; omega⟩
  have HOS1 : Hid (Rd w2 (0) (w2.heap.size) (A1) (strs l1)) := Lib.hid q4.rd.base
  have HOS2 : Hid (Rd w2 (0) (w2.heap.size) (A2) (strs l2)) := Lib.hid q8.rd.base
  have HOU : Hid (Rd w2 (0) (w2.heap.size) (X1) (strs L)) := Lib.hid u6.rd.base
  have HOV : Hid (Rd w2 (0) (w2.heap.size) (X2) (strs T)) := Lib.hid t6.rd.base
  have HSM := Lib.hid (fun W r1 r2 r3 r4 => specSealMore_c wd z1 z2 A1 A2 c1 c2 0 W.heap.size 0 W.heap.size m1 m2 l1 l2 x X1 X2 g1 g2 0 W.heap.size 0 W.heap.size k1 k2 L T W r1 r2 r3 r4 q1 q5 u1 t1 (by omega) (by omega) (by omega) (by omega) q3 q7 i1 i2 (by show x.root.size + x.troot.size ≤ 1048576; omega))
  clear HDA iw i1 i2 j1 j2 j3 j4 j5 q1 q2 q3 q4 q5 q6 q7 q8 u1 u2 u3 u4 u5 u6 t1 t2 t3 t4 t5 t6
  go_wp2_with fail
  refine calls_named (fun w3 hw => ?_)
  have hz3 : w2.heap.size + 1 ≤ w3.heap.size := by rw [hw]; first | omega | (simp [World.setCell]; done) | (simp [World.setCell]; omega)
  have hzz3 : w.heap.size ≤ w3.heap.size := by omega
  have hbn : Below w2.heap.size w2 w3 := by rw [hw]; exact (by ((repeat (first | ((with_reducible refine Below.alloc ?_ ?_ _); rotate_left 1; (focus (first | omega | (simp; done) | (simp; omega)))) | (with_reducible refine Below.drew ?_) | ((with_reducible refine Below.setCell ?_ ?_ _); rotate_left 1; (focus (first | omega | (simp; done) | (simp; omega)))))); exact Below.refl _ _))
  replace HB := Lib.hid (below_then HB.out hbn HB.out.size)
  replace HOQ := Lib.hid (HOQ.out.below hbn)
  replace HOS1 := Lib.hid (HOS1.out.below hbn)
  replace HOS2 := Lib.hid (HOS2.out.below hbn)
  replace HOU := Lib.hid (HOU.out.below hbn)
  replace HOV := Lib.hid (HOV.out.below hbn)
  clear hbn
  have HXs : Hid (NewBox w3 (w2.heap.size) [.int .i64 z1, .slice A1 m1 c1, .int .i64 z2, .slice A2 m2 c2, .int .i64 x.num, .int .i64 x.size, .string x.root, .int .i64 x.taken, .string x.troot]) := by rw [Hid, hw]; exact ⟨by first | omega | (simp [World.setCell]; done) | (simp [World.setCell]; omega), fun o => by rcases o with _ | _ | _ | _ | _ | _ | _ | _ | _ | o <;> go_simp, fun o => by go_simp⟩
  have hxs := HXs.out.2.1
  have hfs := HXs.out.2.2
  have hks := HXs.out.1
  clear hw
  refine (HSM.out _ HOS1.out.base HOS2.out.base HOU.out.base HOV.out.base).mono ?_
  rintro e w4 ⟨B1, e1, a1, b1, B2, e2, a2, b2, rfl, hv1, hv2, hdis, hb⟩
  have hzw4 : w3.heap.size ≤ w4.heap.size := hb.size
  have hzzw4 : w.heap.size ≤ w4.heap.size := by omega
  replace HB := Lib.hid (below_then HB.out hb HB.out.size)
  replace HOQ := Lib.hid (HOQ.out.below hb)
  replace HOS1 := Lib.hid (HOS1.out.below hb)
  replace HOS2 := Lib.hid (HOS2.out.below hb)
  replace HOU := Lib.hid (HOU.out.below hb)
  replace HOV := Lib.hid (HOV.out.below hb)
  replace HXs := Lib.hid (HXs.out.below hb)
  clear hxs hfs hks
  have hxs := HXs.out.2.1
  have hfs := HXs.out.2.2
  have hks := HXs.out.1
  clear hb
  clear hv1 hv2 hdis HSM
  have HCD : Hid (smCode wd z1 l1 z2 l2 x L T = 0 → smOk wd z1 l1 z2 l2 x L T = true) := Lib.hid smCode_0
  generalize smZ1 wd z1 l1 z2 l2 x L T = y1 at *
  generalize smZ2 wd z1 l1 z2 l2 x L T = y2 at *
  generalize smL1 wd z1 l1 z2 l2 x L T = p1 at *
  generalize smL2 wd z1 l1 z2 l2 x L T = p2 at *
  generalize smH wd z1 l1 z2 l2 x L T = hh at *
  generalize smN wd z1 l1 z2 l2 x L T = nn at *
  generalize smCode wd z1 l1 z2 l2 x L T = cd at *
  go_upto_region 5 with fail
  refine wp_named (fun w5 hw => ?_)
  have hz5 : w4.heap.size + 1 ≤ w5.heap.size := by rw [hw]; first | omega | (simp [World.setCell]; done) | (simp [World.setCell]; omega)
  have hzz5 : w.heap.size ≤ w5.heap.size := by omega
  have hbn : Below w4.heap.size w4 w5 := by rw [hw]; exact (by ((repeat (first | ((with_reducible refine Below.alloc ?_ ?_ _); rotate_left 1; (focus (first | omega | (simp; done) | (simp; omega)))) | (with_reducible refine Below.drew ?_) | ((with_reducible refine Below.setCell ?_ ?_ _); rotate_left 1; (focus (first | omega | (simp; done) | (simp; omega)))))); exact Below.refl _ _))
  replace HB := Lib.hid (below_then HB.out hbn HB.out.size)
  replace HOQ := Lib.hid (HOQ.out.below hbn)
  replace HOS1 := Lib.hid (HOS1.out.below hbn)
  replace HOS2 := Lib.hid (HOS2.out.below hbn)
  replace HOU := Lib.hid (HOU.out.below hbn)
  replace HOV := Lib.hid (HOV.out.below hbn)
  replace HXs := Lib.hid (HXs.out.below hbn)
  clear hxs hfs hks
  have hxs := HXs.out.2.1
  have hfs := HXs.out.2.2
  have hks := HXs.out.1
  clear hbn
  have HXo : Hid (NewBox w5 (w4.heap.size) [.int .i64 y1, .slice B1 p1.length e1, .int .i64 y2, .slice B2 p2.length e2, .int .i64 hh.num, .int .i64 hh.size, .string hh.root, .int .i64 hh.taken, .string hh.troot]) := by rw [Hid, hw]; exact ⟨by first | omega | (simp [World.setCell]; done) | (simp [World.setCell]; omega), fun o => by rcases o with _ | _ | _ | _ | _ | _ | _ | _ | _ | o <;> go_simp, fun o => by go_simp⟩
  have hxo := HXo.out.2.1
  have hfo := HXo.out.2.2
  have hko := HXo.out.1
  clear hw
  go_cut [47] (fun v wx => ∃ b : Bool, v = .bool b ∧ (b = false → cd = 0 ∧ x.num ≤ 300) ∧ w5 = wx)
  case first =>
   by_cases hc0 : cd = 0
   ·subst hc0
    by_cases hn0 : x.num ≤ 300
    ·have hgt : decide (300 < x.num) = false := decide_eq_false (by omega)
     have hgp : ¬ 300 < x.num := by omega
     go_wp2_with fail
     go_meet
     exact ⟨false, (by first | rfl | simp), (fun _ => ⟨(by first | rfl | trivial), hn0⟩), rfl⟩
    ·have hgt : decide (300 < x.num) = true := decide_eq_true (by omega)
     have hgp : 300 < x.num := by omega
     go_wp2_with fail
     go_meet
     exact ⟨true, rfl, (fun e => by cases e), rfl⟩
   ·have hcd2 : (cd == 0) = false := beq_eq_false_iff_ne.2 hc0
    go_wp2_with fail
    go_meet
    exact ⟨true, rfl, (fun e => by cases e), rfl⟩
  case rest =>
   obtain ⟨b, rfl, hbk, hwc⟩ := hcut
   subst hwc
   have HBK := Lib.hid hbk
   clear hbk
   clear hxo hfo hko HXo
   go_upto_if 47 with fail
   go_cut [3, 5, 6] (fun v3 v5 v6 wx => ∃ (wd : Int) (z1 z2 : Int) (A1 A2 : Option Addr) (m1 c1 m2 c2 : Nat) (l1 l2 : List ByteArray) (x : Hd) (X1 X2 : Option Addr) (g1 g2 k1 k2 : Nat) (L T : List ByteArray), v3 = .int .i64 wd ∧ v5 = .slice X1 k1 g1 ∧ v6 = .slice X2 k2 g2 ∧ (smOk wd z1 l1 z2 l2 x L T = true ∧ x.num ≤ 300) ∧ (l1.length = m1 ∧ l2.length = m2 ∧ L.length = k1 ∧ T.length = k2 ∧ m1 ≤ 30 ∧ m2 ≤ 30 ∧ k1 ≤ 513 ∧ k2 ≤ 6 ∧ k1 ≤ g1 ∧ k2 ≤ g2 ∧ (A1 = none → c1 = 0) ∧ (A2 = none → c2 = 0) ∧ (X1 = none → g1 = 0) ∧ (X2 = none → g2 = 0) ∧ I64 z1 ∧ I64 z2 ∧ x.bulk ≤ 100) ∧ NewBox wx ((w2.heap.size)) [.int .i64 z1, .slice A1 m1 c1, .int .i64 z2, .slice A2 m2 c2, .int .i64 x.num, .int .i64 x.size, .string x.root, .int .i64 x.taken, .string x.troot] ∧ (Rd wx 0 wx.heap.size A1 (strs l1) ∧ Rd wx 0 wx.heap.size A2 (strs l2) ∧ Rd wx 0 wx.heap.size X1 (strs L) ∧ Rd wx 0 wx.heap.size X2 (strs T)) ∧ Rd wx 0 wx.heap.size B (bys l0) ∧ Below w.heap.size w wx)
   case first =>
    cases b
    ·go_wp2_with fail
     go_meet
     have hb2 := HBK.out (by first | rfl | trivial)
     exact ⟨wd, z1, z2, A1, A2, m1, c1, m2, c2, l1, l2, x, X1, X2, g1, g2, k1, k2, L, T, rfl, rfl, rfl, ⟨HCD.out hb2.1, hb2.2⟩, HLN.out, HXs.out, ⟨HOS1.out.base, HOS2.out.base, HOU.out.base, HOV.out.base⟩, HOQ.out.base, HB.out⟩
    ·skip
     clear HOS1
     clear HOS2
     clear HOU
     clear HOV
     go_wp2_with fail
     refine calls_named (fun w6 hw => ?_)
     have hz6 : w5.heap.size + 0 ≤ w6.heap.size := by rw [hw]; first | omega | (simp [World.setCell]; done) | (simp [World.setCell]; omega)
     have hzz6 : w.heap.size ≤ w6.heap.size := by omega
     have hbn : Below w5.heap.size w5 w6 := by rw [hw]; exact (by ((repeat (first | ((with_reducible refine Below.alloc ?_ ?_ _); rotate_left 1; (focus (first | omega | (simp; done) | (simp; omega)))) | (with_reducible refine Below.drew ?_) | ((with_reducible refine Below.setCell ?_ ?_ _); rotate_left 1; (focus (first | omega | (simp; done) | (simp; omega)))))); exact Below.refl _ _))
     replace HB := Lib.hid (below_then HB.out hbn HB.out.size)
     replace HOQ := Lib.hid (HOQ.out.below hbn)
     replace HXs := Lib.hid (HXs.out.below hbn)
     clear hxs hfs hks
     have hxs := HXs.out.2.1
     have hfs := HXs.out.2.2
     have hks := HXs.out.1
     clear hbn
     clear hw
     refine (specSealNew_c 2 _).mono ?_
     rintro e w7 ⟨rfl, hb⟩
     have hzw7 : w6.heap.size ≤ w7.heap.size := hb.size
     have hzzw7 : w.heap.size ≤ w7.heap.size := by omega
     replace HB := Lib.hid (below_then HB.out hb HB.out.size)
     replace HOQ := Lib.hid (HOQ.out.below hb)
     replace HXs := Lib.hid (HXs.out.below hb)
     clear hxs hfs hks
     have hxs := HXs.out.2.1
     have hfs := HXs.out.2.2
     have hks := HXs.out.1
     clear hb
     generalize inR 2 1 32 = q9
     go_upto_region 9 with fail
     refine wp_named (fun w8 hw => ?_)
     have hz8 : w7.heap.size + 1 ≤ w8.heap.size := by rw [hw]; first | omega | (simp [World.setCell]; done) | (simp [World.setCell]; omega)
     have hzz8 : w.heap.size ≤ w8.heap.size := by omega
     replace HB : Hid (Below w.heap.size w w8) := by rw [Hid, hw]; exact (by ((repeat (first | ((with_reducible refine Below.alloc ?_ ?_ _); rotate_left 1; (focus (first | omega | (simp; done) | (simp; omega)))) | (with_reducible refine Below.drew ?_) | ((with_reducible refine Below.setCell ?_ ?_ _); rotate_left 1; (focus (first | omega | (simp; done) | (simp; omega)))))); exact HB.out))
     replace HOQ : Hid (Rd w8 (0) (w.heap.size) (B) (bys l0)) := by rw [Hid, hw]; (repeat (first | (with_reducible refine Rd.alloc ?_ _) | (with_reducible refine Rd.drew ?_) | ((with_reducible refine Rd.setCell ?_ ?_ _); rotate_left 1; (focus (first | omega | (simp; done) | (simp; omega)))))); exact HOQ.out
     replace HXs : Hid (NewBox w8 (w2.heap.size) [.int .i64 0, .slice none 0 0, .int .i64 0, .slice none 0 0, .int .i64 0, .int .i64 0, .string (emptyT 2), .int .i64 0, .string (emptyT 2)]) := by rw [Hid, hw]; apply NewBox.cast; (focus ((repeat (first | (with_reducible apply NewBox.alloc) | (with_reducible apply NewBox.drew) | (with_reducible apply NewBox.set1) | ((with_reducible apply NewBox.far); (focus (first | omega | (simp; done) | (simp; omega)))))); exact HXs.out)); rfl
     clear hxs hfs hks
     have hxs := HXs.out.2.1
     have hfs := HXs.out.2.2
     have hks := HXs.out.1
     have HXv : Hid (NewBox w8 (w7.heap.size) [.string ⟨#[97, 98]⟩, .string ⟨#[99, 100]⟩, .string ⟨#[101, 102]⟩]) := by rw [Hid, hw]; exact ⟨by first | omega | (simp [World.setCell]; done) | (simp [World.setCell]; omega), fun o => by rcases o with _ | _ | _ | o <;> go_simp, fun o => by go_simp⟩
     have hxv := HXv.out.2.1
     have hfv := HXv.out.2.2
     have hkv := HXv.out.1
     clear hw
     go_wp2_with fail
     go_meet
     have hem : (emptyT 2).size = 2 := by have h := emptyT_size (width := 2) (by decide); omega
     have hxu : NewBox (w8.alloc (.cells #[.string ⟨#[103, 104]⟩] 9)) w8.heap.size [.string ⟨#[103, 104]⟩] := NewBox.new _ _ _
     exact ⟨2, 0, 0, none, none, 0, 0, 0, 0, [], [], ⟨0, 0, emptyT 2, 0, emptyT 2⟩, some ⟨(w7.heap.size), 0, none⟩, some ⟨w8.heap.size, 0, none⟩, 3, 1, 3, 1, [⟨#[97, 98]⟩, ⟨#[99, 100]⟩, ⟨#[101, 102]⟩], [⟨#[103, 104]⟩], rfl, rfl, rfl,
      ⟨seals_two _ _ _ _ rfl rfl rfl rfl, by decide⟩, ⟨rfl, rfl, rfl, rfl, by decide, by decide, by decide, by decide, by decide, by decide, fun _ => rfl, fun _ => rfl, (fun e => by cases e), (fun e => by cases e), ⟨by decide, by decide⟩, ⟨by decide, by decide⟩, by show (emptyT 2).size + (emptyT 2).size ≤ 100; omega⟩,
      HXs.out.alloc _, ⟨Rd.nil, Rd.nil, NewBox.rd (HXv.out.alloc _), NewBox.rd hxu⟩, (HOQ.out.alloc _).base, (by ((repeat (first | ((with_reducible refine Below.alloc ?_ ?_ _); rotate_left 1; (focus (first | omega | (simp; done) | (simp; omega)))) | (with_reducible refine Below.drew ?_) | ((with_reducible refine Below.setCell ?_ ?_ _); rotate_left 1; (focus (first | omega | (simp; done) | (simp; omega)))))); exact HB.out))⟩
   case rest =>
    clear HLN HBK HCD
    obtain ⟨wd, z1, z2, A1, A2, m1, c1, m2, c2, l1, l2, x, X1, X2, g1, g2, k1, k2, L, T, rfl, rfl, rfl, ⟨hsm, hn3⟩, ⟨hl1, hl2, hL, hT, hm1, hm2, hk1, hk2, hg1, hg2, hA1, hA2, hX1, hX2, i1, i2, hxb⟩, hbx, ⟨r1, r2, r3, r4⟩, r5, hbel⟩ := hcut
    replace HB : Hid (Below w.heap.size w wc) := Lib.hid hbel
    replace HXs : Hid (NewBox wc (w2.heap.size) [.int .i64 z1, .slice A1 m1 c1, .int .i64 z2, .slice A2 m2 c2, .int .i64 x.num, .int .i64 x.size, .string x.root, .int .i64 x.taken, .string x.troot]) := Lib.hid hbx
    clear hxs hfs hks
    have hxs := HXs.out.2.1
    have hfs := HXs.out.2.2
    have hks := HXs.out.1
    replace HOQ : Hid (Rd wc (0) (wc.heap.size) (B) (bys l0)) := Lib.hid r5
    replace HOS1 : Hid (Rd wc (0) (wc.heap.size) (A1) (strs l1)) := Lib.hid r1
    replace HOS2 : Hid (Rd wc (0) (wc.heap.size) (A2) (strs l2)) := Lib.hid r2
    replace HOU : Hid (Rd wc (0) (wc.heap.size) (X1) (strs L)) := Lib.hid r3
    replace HOV : Hid (Rd wc (0) (wc.heap.size) (X2) (strs T)) := Lib.hid r4
    have hzz_wc : w.heap.size ≤ wc.heap.size := HB.out.size
    clear hbx r1 r2 r3 r4 r5 hbel
    go_wp2_with fail
    refine calls_named (fun w6 hw => ?_)
    have hz6 : wc.heap.size + 0 ≤ w6.heap.size := by rw [hw]; first | omega | (simp [World.setCell]; done) | (simp [World.setCell]; omega)
    have hzz6 : w.heap.size ≤ w6.heap.size := by omega
    have hbn : Below wc.heap.size wc w6 := by rw [hw]; exact (by ((repeat (first | ((with_reducible refine Below.alloc ?_ ?_ _); rotate_left 1; (focus (first | omega | (simp; done) | (simp; omega)))) | (with_reducible refine Below.drew ?_) | ((with_reducible refine Below.setCell ?_ ?_ _); rotate_left 1; (focus (first | omega | (simp; done) | (simp; omega)))))); exact Below.refl _ _))
    replace HB := Lib.hid (below_then HB.out hbn HB.out.size)
    replace HOQ := Lib.hid (HOQ.out.below hbn)
    replace HOS1 := Lib.hid (HOS1.out.below hbn)
    replace HOS2 := Lib.hid (HOS2.out.below hbn)
    replace HOU := Lib.hid (HOU.out.below hbn)
    replace HOV := Lib.hid (HOV.out.below hbn)
    replace HXs := Lib.hid (HXs.out.below hbn)
    clear hxs hfs hks
    have hxs := HXs.out.2.1
    have hfs := HXs.out.2.2
    have hks := HXs.out.1
    clear hbn
    clear hw
    refine (HDP.out _ HOQ.out.base).mono ?_
    rintro e w7 ⟨A9, c9, xs, rfl, hxl, hxs9, hxo, hb⟩
    have hzw7 : w6.heap.size ≤ w7.heap.size := hb.size
    have hzzw7 : w.heap.size ≤ w7.heap.size := by omega
    replace HB := Lib.hid (below_then HB.out hb HB.out.size)
    replace HOQ := Lib.hid (HOQ.out.below hb)
    replace HOS1 := Lib.hid (HOS1.out.below hb)
    replace HOS2 := Lib.hid (HOS2.out.below hb)
    replace HOU := Lib.hid (HOU.out.below hb)
    replace HOV := Lib.hid (HOV.out.below hb)
    replace HXs := Lib.hid (HXs.out.below hb)
    clear hxs hfs hks
    have hxs := HXs.out.2.1
    have hfs := HXs.out.2.2
    have hks := HXs.out.1
    clear hb
    clear HOQ
    obtain ⟨x0, hx0⟩ : ∃ x, xs[0]? = some x := ⟨_, List.getElem?_eq_getElem (by omega)⟩
    obtain ⟨x1, hx1⟩ : ∃ x, xs[1]? = some x := ⟨_, List.getElem?_eq_getElem (by omega)⟩
    obtain ⟨b9, o9, hA9, _, hb9, _, hcell⟩ := (Own.of_ownsRow hxo).rd (by intro e; have h := hxl; rw [ints, List.map_eq_nil_iff] at e; rw [e] at h; cases h)
    have hp0 : w7.cell? ⟨b9, o9, none⟩ = some (.int .i64 x0) := by have h := hcell 0 _ (ints_get hx0); rwa [Nat.add_zero] at h
    have hp1 : w7.cell? ⟨b9, o9 + 1, none⟩ = some (.int .i64 x1) := hcell 1 _ (ints_get hx1)
    have x00 := hxs9 x0 (List.mem_of_getElem? hx0)
    have x11 := hxs9 x1 (List.mem_of_getElem? hx1)
    subst hA9
    clear hcell hx0 hx1 hxs9 hxo hxl HDP
    have EM1 : IntKind.i64.wrap ((k1 : Int) + 1) = (k1 : Int) + 1 := by rw [IntKind.wrap_i64]; omega
    have EM2 : IntKind.i64.wrap ((k2 : Int) + 1) = (k2 : Int) + 1 := by rw [IntKind.wrap_i64]; omega
    have hq1 : ((k1 : Int) + 1 == 0) = false := beq_eq_false_iff_ne.2 (by omega)
    have hq2 : ((k2 : Int) + 1 == 0) = false := beq_eq_false_iff_ne.2 (by omega)
    obtain ⟨i, E1, hik⟩ : ∃ k : Nat, x0.tmod ((k1 : Int) + 1) = (k : Int) ∧ k ≤ k1 := by
     have h1 := Int.emod_nonneg x0 (show (k1 : Int) + 1 ≠ 0 by omega)
     have h2 := Int.emod_lt_of_pos x0 (show 0 < (k1 : Int) + 1 by omega)
     exact ⟨(x0 % ((k1 : Int) + 1)).toNat, by rw [Int.tmod_eq_emod_of_nonneg x00.1]; omega, by omega⟩
    obtain ⟨k, E2, hkk⟩ : ∃ k : Nat, x1.tmod ((k2 : Int) + 1) = (k : Int) ∧ k ≤ k2 := by
     have h1 := Int.emod_nonneg x1 (show (k2 : Int) + 1 ≠ 0 by omega)
     have h2 := Int.emod_lt_of_pos x1 (show 0 < (k2 : Int) + 1 by omega)
     exact ⟨(x1 % ((k2 : Int) + 1)).toNat, by rw [Int.tmod_eq_emod_of_nonneg x11.1]; omega, by omega⟩
    have HSA := fun W r1 r2 r3 r4 => implSealMore_c wd z1 z2 A1 A2 c1 c2 0 W.heap.size 0 W.heap.size m1 m2 l1 l2 x X1 X2 g1 g2 0 W.heap.size 0 W.heap.size k1 k2 L T W r1 r2 r3 r4 hl1 hl2 hL hT (by omega) (by omega) (by omega) (by omega) hA1 hA2 i1 i2 (by omega)
    have HSB := fun W r1 r2 r3 r4 => implSealMore_c wd z1 z2 A1 A2 c1 c2 0 W.heap.size 0 W.heap.size m1 m2 l1 l2 x X1 X2 g1 g2 0 W.heap.size 0 W.heap.size i k (L.take i) (T.take k) W r1 r2 r3 r4 hl1 hl2 (by rw [List.length_take]; omega) (by rw [List.length_take]; omega) (by omega) (by omega) (by omega) (by omega) hA1 hA2 i1 i2 (by omega)
    obtain ⟨P1, P2, Q1, Q2, R, S, H, ha, hb, hHn, hc, n0, hL5, hT5⟩ := seals_law (i := i) (k := k) hsm hn3 (by omega) (by omega)
    rw [hL, hT] at ha hc
    rw [ha.a1, ha.a2, ha.a3, ha.a4, ha.a5, ha.a6] at HSA
    rw [hb.a1, hb.a2, hb.a3, hb.a4, hb.a5, hb.a6] at HSB
    obtain ⟨hp3, hp4, hp5, hp6, hp7⟩ := ha.a9
    obtain ⟨hq3, hq4, hq5, hq6, hq7⟩ := hb.a9
    have HSC := fun A3 c3 A4 c4 hA3 hA4 W r1 r2 r3 r4 => implSealMore_c wd (z1 + i) (z2 + k) A3 A4 c3 c4 0 W.heap.size 0 W.heap.size Q1.length Q2.length Q1 Q2 H (cutT X1 i g1) (cutT X2 k g2) (g1 - i) (g2 - k) 0 W.heap.size 0 W.heap.size (k1 - i) (k2 - k) (L.drop i) (T.drop k) W r1 r2 r3 r4 rfl rfl (by rw [List.length_drop, hL]) (by rw [List.length_drop, hT]) (by omega) (by omega) (by omega) (by omega) hA3 hA4 hq5 hq6 (by omega)
    rw [hc.a1, hc.a2, hc.a3, hc.a4, hc.a5, hc.a6] at HSC
    have HOA := fun A3 c3 A4 c4 W r1 r2 => implSealOk_c wd (z1 + k1) (z2 + k2) A3 A4 c3 c4 0 W.heap.size 0 W.heap.size P1.length P2.length P1 P2 ⟨x.num + 1, z1 + k1, R, z2 + k2, S⟩ W r1 r2 rfl rfl (by omega) (by omega) (by omega)
    have HOB := fun A3 c3 A4 c4 W r1 r2 => implSealOk_c wd (z1 + k1) (z2 + k2) A3 A4 c3 c4 0 W.heap.size 0 W.heap.size P1.length P2.length P1 P2 ⟨x.num + 2, z1 + k1, R, z2 + k2, S⟩ W r1 r2 rfl rfl (by omega) (by omega) (by have := hc.a9; omega)
    rw [ha.a8] at HOA
    rw [hc.a8] at HOB
    have n1 := ha.a7
    have n2 := hb.a7
    have n3 := hc.a7
    generalize smN wd z1 l1 z2 l2 x L T = na at *
    generalize smN wd z1 l1 z2 l2 x (L.take i) (T.take k) = nb at *
    generalize smN wd (z1 + i) Q1 (z2 + k) Q2 H (L.drop i) (T.drop k) = nc at *
    replace HSA := Lib.hid HSA
    replace HSB := Lib.hid HSB
    replace HSC := Lib.hid HSC
    replace HOA := Lib.hid HOA
    replace HOB := Lib.hid HOB
    have HC1 := Lib.hid (fun W => implCallsMost_c (k1 : Int) (k2 : Int) W (by constructor <;> omega) (by constructor <;> omega))
    have HC2 := Lib.hid (fun W => implCallsMost_c (i : Int) (k : Int) W (by constructor <;> omega) (by constructor <;> omega))
    have HC3 := Lib.hid (fun W => implCallsMost_c ((k1 : Int) - i) ((k2 : Int) - k) W (by constructor <;> omega) (by constructor <;> omega))
    rw [callsMost, inR_true.2 ⟨by omega, by omega⟩, inR_true.2 ⟨by omega, by omega⟩, Bool.and_true, if_pos rfl] at HC1 HC2 HC3
    have HRT := Lib.hid (fun W A3 c3 A4 c4 (r1 : Rd W 0 W.heap.size A3 (strs P1)) (r2 : Rd W 0 W.heap.size A4 (strs P1)) => lawsSameRange_c (z1 + k1) A3 A4 c3 c4 0 W.heap.size 0 W.heap.size P1.length P1 W r1 r2 rfl (by omega))
    have HRU := Lib.hid (fun W A3 c3 A4 c4 (r1 : Rd W 0 W.heap.size A3 (strs P2)) (r2 : Rd W 0 W.heap.size A4 (strs P2)) => lawsSameRange_c (z2 + k2) A3 A4 c3 c4 0 W.heap.size 0 W.heap.size P2.length P2 W r1 r2 rfl (by omega))
    have ES1 := fun W => slicePT X1 k1 g1 i (by omega) W
    have ES2 := fun W => slicePT X2 k2 g2 k (by omega) W
    have ES3 := fun W => sliceST X1 k1 g1 i hik hg1 W
    have ES4 := fun W => sliceST X2 k2 g2 k hkk hg2 W
    have EN1 : IntKind.i64.wrap (x.num + 1) = x.num + 1 := by rw [IntKind.wrap_i64]; omega
    have EN2 : IntKind.i64.wrap (x.num + 2) = x.num + 2 := by rw [IntKind.wrap_i64]; omega
    have ED1 : IntKind.i64.wrap ((k1 : Int) - i) = (k1 : Int) - i := by rw [IntKind.wrap_i64]; omega
    have ED2 : IntKind.i64.wrap ((k2 : Int) - k) = (k2 : Int) - k := by rw [IntKind.wrap_i64]; omega
    have EL1 : decide (na ≤ (k1 : Int) + k2 + 36) = true := decide_eq_true (by omega)
    have EL2 : decide (nb ≤ (i : Int) + k + 36) = true := decide_eq_true (by omega)
    have EL3 : decide (nc ≤ (k1 : Int) - i + ((k2 : Int) - k) + 36) = true := decide_eq_true (by omega)
    have HRD1 := Lib.hid (fun W (r : Rd W 0 W.heap.size X1 (strs L)) => (cutT_rd r i g1 (by omega)).base)
    have HRD2 := Lib.hid (fun W (r : Rd W 0 W.heap.size X2 (strs T)) => (cutT_rd r k g2 (by omega)).base)
    clear hHn ha hb hc hsm hxb hL hT hl1 hl2 hA1 hA2 hX1 hX2 hp5 hp6 hp7 hq5 hq6 hq7 n1 n2 n3 hL5 hT5
    generalize cutT X1 i g1 = Y1 at *
    generalize cutT X2 k g2 = Y2 at *
    generalize k1 - i = d1 at *
    generalize k2 - k = d2 at *
    generalize g1 - i = gy1 at *
    generalize g2 - k = gy2 at *
    go_wp2_with fail
    refine calls_named (fun w8 hw => ?_)
    have hz8 : w7.heap.size + 0 ≤ w8.heap.size := by rw [hw]; first | omega | (simp [World.setCell]; done) | (simp [World.setCell]; omega)
    have hzz8 : w.heap.size ≤ w8.heap.size := by omega
    have hbn : Below w7.heap.size w7 w8 := by rw [hw]; exact (by ((repeat (first | ((with_reducible refine Below.alloc ?_ ?_ _); rotate_left 1; (focus (first | omega | (simp; done) | (simp; omega)))) | (with_reducible refine Below.drew ?_) | ((with_reducible refine Below.setCell ?_ ?_ _); rotate_left 1; (focus (first | omega | (simp; done) | (simp; omega)))))); exact Below.refl _ _))
    replace HB := Lib.hid (below_then HB.out hbn HB.out.size)
    replace HOS1 := Lib.hid (HOS1.out.below hbn)
    replace HOS2 := Lib.hid (HOS2.out.below hbn)
    replace HOU := Lib.hid (HOU.out.below hbn)
    replace HOV := Lib.hid (HOV.out.below hbn)
    replace HXs := Lib.hid (HXs.out.below hbn)
    clear hxs hfs hks
    have hxs := HXs.out.2.1
    have hfs := HXs.out.2.2
    have hks := HXs.out.1
    clear hbn
    clear hw
    refine (HSA.out _ HOS1.out.base HOS2.out.base HOU.out.base HOV.out.base).mono ?_
    rintro e w9 ⟨B1, e1, a1, b1, B2, e2, a2, b2, rfl, ⟨ha1, hb1, ho1, hn1⟩, ⟨ha2, hb2, ho2, hn2⟩, hdis, hb⟩
    have hzw9 : w8.heap.size ≤ w9.heap.size := hb.size
    have hzzw9 : w.heap.size ≤ w9.heap.size := by omega
    replace HB := Lib.hid (below_then HB.out hb HB.out.size)
    replace HOS1 := Lib.hid (HOS1.out.below hb)
    replace HOS2 := Lib.hid (HOS2.out.below hb)
    replace HOU := Lib.hid (HOU.out.below hb)
    replace HOV := Lib.hid (HOV.out.below hb)
    replace HXs := Lib.hid (HXs.out.below hb)
    clear hxs hfs hks
    have hxs := HXs.out.2.1
    have hfs := HXs.out.2.2
    have hks := HXs.out.1
    clear hb
    have HOD1 : Hid (Rd w9 (0) (w9.heap.size) (B1) (strs P1)) := Lib.hid ho1.rd.base
    have HOD2 : Hid (Rd w9 (0) (w9.heap.size) (B2) (strs P2)) := Lib.hid ho2.rd.base
    clear ha1 hb1 ho1 hn1 ha2 hb2 ho2 hn2 hdis HSA
    go_wp2_with fail
    refine wp_named (fun w10 hw => ?_)
    have hz10 : w9.heap.size + 1 ≤ w10.heap.size := by rw [hw]; first | omega | (simp [World.setCell]; done) | (simp [World.setCell]; omega)
    have hzz10 : w.heap.size ≤ w10.heap.size := by omega
    have hbn : Below w9.heap.size w9 w10 := by rw [hw]; exact (by ((repeat (first | ((with_reducible refine Below.alloc ?_ ?_ _); rotate_left 1; (focus (first | omega | (simp; done) | (simp; omega)))) | (with_reducible refine Below.drew ?_) | ((with_reducible refine Below.setCell ?_ ?_ _); rotate_left 1; (focus (first | omega | (simp; done) | (simp; omega)))))); exact Below.refl _ _))
    replace HB := Lib.hid (below_then HB.out hbn HB.out.size)
    replace HOS1 := Lib.hid (HOS1.out.below hbn)
    replace HOS2 := Lib.hid (HOS2.out.below hbn)
    replace HOU := Lib.hid (HOU.out.below hbn)
    replace HOV := Lib.hid (HOV.out.below hbn)
    replace HOD1 := Lib.hid (HOD1.out.below hbn)
    replace HOD2 := Lib.hid (HOD2.out.below hbn)
    replace HXs := Lib.hid (HXs.out.below hbn)
    clear hxs hfs hks
    have hxs := HXs.out.2.1
    have hfs := HXs.out.2.2
    have hks := HXs.out.1
    clear hbn
    have HXa : Hid (NewBox w10 (w9.heap.size) [.int .i64 (z1 + k1), .slice B1 P1.length e1, .int .i64 (z2 + k2), .slice B2 P2.length e2, .int .i64 (x.num + 1), .int .i64 (z1 + k1), .string R, .int .i64 (z2 + k2), .string S]) := by rw [Hid, hw]; exact ⟨by first | omega | (simp [World.setCell]; done) | (simp [World.setCell]; omega), fun o => by rcases o with _ | _ | _ | _ | _ | _ | _ | _ | _ | o <;> go_simp, fun o => by go_simp⟩
    have hxa := HXa.out.2.1
    have hfa := HXa.out.2.2
    have hka := HXa.out.1
    clear hw
    obtain ⟨F, HF⟩ : ∃ F : Facts, Hid (F = fun iq xq tqs dsq uq => match iq with
     | 0 => xq.v = .int .i64 wd
     | 1 => xq.v = .agg #[.int .i64 z1, .slice A1 m1 c1, .int .i64 z2, .slice A2 m2 c2, .int .i64 x.num, .int .i64 x.size, .string x.root, .int .i64 x.taken, .string x.troot]
     | 2 => xq.v = .slice X1 k1 g1
     | 3 => xq.v = .int .i64 (i : Int)
     | 4 => xq.v = .slice X1 i g1
     | 5 => xq.v = .slice X2 k2 g2
     | 6 => xq.v = .int .i64 (k : Int)
     | 7 => xq.v = .slice X2 k g2
     | 8 => ∃ (B3 : Option Addr) (e3 : Nat) (B4 : Option Addr) (e4 : Nat), xq.v = .tuple #[.agg #[.int .i64 (z1 + i), .slice B3 Q1.length e3, .int .i64 (z2 + k), .slice B4 Q2.length e4, .int .i64 H.num, .int .i64 H.size, .string H.root, .int .i64 H.taken, .string H.troot], .int .i64 nb, .int .i64 0] ∧ (Own uq xq.s xq.e B3 (strs Q1)) ∧ (Own uq xq.s xq.e B4 (strs Q2)) ∧ ((B3 = none → e3 = 0) ∧ (B4 = none → e4 = 0))
     | 9 => (match tqs, dsq with | [], [yq0] => ∃ (B3 : Option Addr) (e3 : Nat) (B4 : Option Addr) (e4 : Nat), yq0.v = .tuple #[.agg #[.int .i64 (z1 + i), .slice B3 Q1.length e3, .int .i64 (z2 + k), .slice B4 Q2.length e4, .int .i64 H.num, .int .i64 H.size, .string H.root, .int .i64 H.taken, .string H.troot], .int .i64 nb, .int .i64 0] ∧ xq.v = .tuple #[.agg #[.int .i64 (z1 + i), .slice B3 Q1.length e3, .int .i64 (z2 + k), .slice B4 Q2.length e4, .int .i64 H.num, .int .i64 H.size, .string H.root, .int .i64 H.taken, .string H.troot], .int .i64 nb, .int .i64 0] | _, _ => False)
     | 10 => (match tqs, dsq with | [], [yq0] => ∃ (B3 : Option Addr) (e3 : Nat) (B4 : Option Addr) (e4 : Nat), yq0.v = .tuple #[.agg #[.int .i64 (z1 + i), .slice B3 Q1.length e3, .int .i64 (z2 + k), .slice B4 Q2.length e4, .int .i64 H.num, .int .i64 H.size, .string H.root, .int .i64 H.taken, .string H.troot], .int .i64 nb, .int .i64 0] ∧ xq.v = .agg #[.int .i64 (z1 + i), .slice B3 Q1.length e3, .int .i64 (z2 + k), .slice B4 Q2.length e4, .int .i64 H.num, .int .i64 H.size, .string H.root, .int .i64 H.taken, .string H.troot] | _, _ => False)
     | 11 => (match tqs, dsq with | [], [yq0] => ∃ (B3 : Option Addr) (e3 : Nat) (B4 : Option Addr) (e4 : Nat), yq0.v = .tuple #[.agg #[.int .i64 (z1 + i), .slice B3 Q1.length e3, .int .i64 (z2 + k), .slice B4 Q2.length e4, .int .i64 H.num, .int .i64 H.size, .string H.root, .int .i64 H.taken, .string H.troot], .int .i64 nb, .int .i64 0] ∧ xq.v = .int .i64 nb | _, _ => False)
     | 12 => (match tqs, dsq with | [], [yq0] => ∃ (B3 : Option Addr) (e3 : Nat) (B4 : Option Addr) (e4 : Nat), yq0.v = .tuple #[.agg #[.int .i64 (z1 + i), .slice B3 Q1.length e3, .int .i64 (z2 + k), .slice B4 Q2.length e4, .int .i64 H.num, .int .i64 H.size, .string H.root, .int .i64 H.taken, .string H.troot], .int .i64 nb, .int .i64 0] ∧ xq.v = .int .i64 0 | _, _ => False)
     | 13 => xq.v = .pointer (some ⟨xq.s, 0, none⟩) ∧ xq.s < xq.e ∧ NewBox uq xq.s [.int .i64 0, .slice none 0 0, .int .i64 0, .slice none 0 0, .int .i64 0, .int .i64 0, .string ⟨#[]⟩, .int .i64 0, .string ⟨#[]⟩]
     | 14 => (match tqs, dsq with | [tq0], [yq0] => tq0.v = .pointer (some ⟨tq0.s, 0, none⟩) ∧ tq0.s < tq0.e ∧ ∃ (B3 : Option Addr) (e3 : Nat) (B4 : Option Addr) (e4 : Nat), yq0.v = .tuple #[.agg #[.int .i64 (z1 + i), .slice B3 Q1.length e3, .int .i64 (z2 + k), .slice B4 Q2.length e4, .int .i64 H.num, .int .i64 H.size, .string H.root, .int .i64 H.taken, .string H.troot], .int .i64 nb, .int .i64 0] ∧ NewBox uq tq0.s [.int .i64 (z1 + i), .slice B3 Q1.length e3, .int .i64 (z2 + k), .slice B4 Q2.length e4, .int .i64 H.num, .int .i64 H.size, .string H.root, .int .i64 H.taken, .string H.troot] | _, _ => False)
     | 15 => (match tqs, dsq with | [], [yq0] => ∃ (B3 : Option Addr) (e3 : Nat) (B4 : Option Addr) (e4 : Nat), yq0.v = .tuple #[.agg #[.int .i64 (z1 + i), .slice B3 Q1.length e3, .int .i64 (z2 + k), .slice B4 Q2.length e4, .int .i64 H.num, .int .i64 H.size, .string H.root, .int .i64 H.taken, .string H.troot], .int .i64 nb, .int .i64 0] ∧ xq.v = .int .i64 nb | _, _ => False)
     | 16 => (match tqs, dsq with | [], [yq0] => ∃ (B3 : Option Addr) (e3 : Nat) (B4 : Option Addr) (e4 : Nat), yq0.v = .tuple #[.agg #[.int .i64 (z1 + i), .slice B3 Q1.length e3, .int .i64 (z2 + k), .slice B4 Q2.length e4, .int .i64 H.num, .int .i64 H.size, .string H.root, .int .i64 H.taken, .string H.troot], .int .i64 nb, .int .i64 0] ∧ xq.v = .int .i64 0 | _, _ => False)
     | _ => False) := ⟨_, rfl⟩
    refine wp_region_facts [[], [], [], [], [], [], [], [], [], [8], [8], [8], [8], [], [8], [8], [8]] [[], [], [], [], [], [], [], [], [], [], [], [], [], [], [13], [], []] [some 81, some 82, some 83, some 84, some 85, some 86, some 87, some 88, some 89, some 80, some 90, some 91, some 92, some 16, none, some 17, some 18] none 0 0 (.inl rfl) F (by kernel_rfl) (by kernel_rfl) (by kernel_rfl) ?_ ⟨?_, ?_, ?_, ?_, ?_, ?_, ?_, ?_, ?_, ?_, ?_, ?_, ?_, ?_, ?_, ?_, ?_, trivial⟩ ?_
    ·rw [HF.out]; intro iq xq tqs dsq uq u' hi hf hs hW hx hbk
     have kx : ∀ b, xq.s ≤ b → b < xq.e → u'.heap[b]? = uq.heap[b]? := fun b h1 h2 => hbk b (.inr (.inl ⟨h1, h2⟩))
     have kt : ∀ t ∈ tqs, ∀ b, t.s ≤ b → b < t.e → u'.heap[b]? = uq.heap[b]? := fun t ht b h1 h2 => hbk b (.inr (.inr ⟨t, ht, h1, h2⟩))
     match iq with
     | 0 => exact hf
     | 1 => exact hf
     | 2 => exact hf
     | 3 => exact hf
     | 4 => exact hf
     | 5 => exact hf
     | 6 => exact hf
     | 7 => exact hf
     | 8 => obtain ⟨B3, e3, B4, e4, hv, p0, p1, p2⟩ := hf; exact ⟨B3, e3, B4, e4, hv, p0.keep hs kx, p1.keep hs kx, p2⟩
     | 9 => exact hf
     | 10 => exact hf
     | 11 => exact hf
     | 12 => exact hf
     | 13 => exact ⟨hf.1, hf.2.1, hf.2.2.keep hs (kx _ (Nat.le_refl _) hf.2.1)⟩
     | 14 => match tqs, dsq, hf with | [tq0], [yq0], hf => obtain ⟨h1, h2, B3, e3, B4, e4, hvr8, hb⟩ := hf; exact ⟨h1, h2, B3, e3, B4, e4, hvr8, hb.keep hs (kt tq0 List.mem_cons_self _ (Nat.le_refl _) h2)⟩
     | 15 => exact hf
     | 16 => exact hf
    ·intro gh ρ u hc hf1 hg1 hd h0 hb he ha hF
     have r3 : ρ (.tmp 3) = .int .i64 wd := (h0 3 (by decide +kernel)).trans rfl
     clear  hd h0 he ha hF
     go_simp
     rw [HF.out]
     exact ⟨OnlyL.refl _ _, rfl⟩
    ·intro gh ρ u hc hf1 hg1 hd h0 hb he ha hF
     replace hb : Below w10.heap.size w10 u := hb.drew.below (by decide +kernel)
     have hbz : w10.heap.size ≤ u.heap.size := hb.size
     have r4 : ρ (.tmp 4) = .pointer (some ⟨w2.heap.size, 0, none⟩) := (h0 4 (by decide +kernel)).trans rfl
     have q_s := (HXs.out.below hb).2.1
     have k_s : w2.heap.size < u.heap.size := by have := HXs.out.1; omega
     clear  hd h0 he ha hF
     go_simp
     rw [HF.out]
     exact ⟨OnlyL.refl _ _, rfl⟩
    ·intro gh ρ u hc hf1 hg1 hd h0 hb he ha hF
     have r5 : ρ (.tmp 5) = .slice X1 k1 g1 := (h0 5 (by decide +kernel)).trans rfl
     clear  hd h0 he ha hF
     go_simp
     rw [HF.out]
     exact ⟨OnlyL.refl _ _, rfl⟩
    ·intro gh ρ u hc hf1 hg1 hd h0 hb he ha hF
     have r11 : ρ (.tmp 11) = .int .i64 (i : Int) := (h0 11 (by decide +kernel)).trans rfl
     clear  hd h0 he ha hF
     go_simp
     rw [HF.out]
     exact ⟨OnlyL.refl _ _, rfl⟩
    ·intro gh ρ u hc hf1 hg1 hd h0 hb he ha hF
     have r83 : ρ (.tmp 83) = .slice X1 k1 g1 := by have h := hF 2 (by decide +kernel) (by decide +kernel); rw [HF.out] at h; exact (hd 2 (by decide +kernel) 83 (by kernel_rfl)).trans h
     have r84 : ρ (.tmp 84) = .int .i64 (i : Int) := by have h := hF 3 (by decide +kernel) (by decide +kernel); rw [HF.out] at h; exact (hd 3 (by decide +kernel) 84 (by kernel_rfl)).trans h
     clear  hd h0 he ha hF
     go_simp
     rw [HF.out]
     exact ⟨OnlyL.refl _ _, rfl⟩
    ·intro gh ρ u hc hf1 hg1 hd h0 hb he ha hF
     have r6 : ρ (.tmp 6) = .slice X2 k2 g2 := (h0 6 (by decide +kernel)).trans rfl
     clear  hd h0 he ha hF
     go_simp
     rw [HF.out]
     exact ⟨OnlyL.refl _ _, rfl⟩
    ·intro gh ρ u hc hf1 hg1 hd h0 hb he ha hF
     have r12 : ρ (.tmp 12) = .int .i64 (k : Int) := (h0 12 (by decide +kernel)).trans rfl
     clear  hd h0 he ha hF
     go_simp
     rw [HF.out]
     exact ⟨OnlyL.refl _ _, rfl⟩
    ·intro gh ρ u hc hf1 hg1 hd h0 hb he ha hF
     have r86 : ρ (.tmp 86) = .slice X2 k2 g2 := by have h := hF 5 (by decide +kernel) (by decide +kernel); rw [HF.out] at h; exact (hd 5 (by decide +kernel) 86 (by kernel_rfl)).trans h
     have r87 : ρ (.tmp 87) = .int .i64 (k : Int) := by have h := hF 6 (by decide +kernel) (by decide +kernel); rw [HF.out] at h; exact (hd 6 (by decide +kernel) 87 (by kernel_rfl)).trans h
     clear  hd h0 he ha hF
     go_simp
     rw [HF.out]
     exact ⟨OnlyL.refl _ _, rfl⟩
    ·intro gh ρ u hc hf1 hg1 hd h0 hb he ha hF
     replace hb : Below w10.heap.size w10 u := hb.drew.below (by decide +kernel)
     have hbz : w10.heap.size ≤ u.heap.size := hb.size
     have r81 : ρ (.tmp 81) = .int .i64 wd := by have h := hF 0 (by decide +kernel) (by decide +kernel); rw [HF.out] at h; exact (hd 0 (by decide +kernel) 81 (by kernel_rfl)).trans h
     have r82 : ρ (.tmp 82) = .agg #[.int .i64 z1, .slice A1 m1 c1, .int .i64 z2, .slice A2 m2 c2, .int .i64 x.num, .int .i64 x.size, .string x.root, .int .i64 x.taken, .string x.troot] := by have h := hF 1 (by decide +kernel) (by decide +kernel); rw [HF.out] at h; exact (hd 1 (by decide +kernel) 82 (by kernel_rfl)).trans h
     have r85 : ρ (.tmp 85) = .slice X1 i g1 := by have h := hF 4 (by decide +kernel) (by decide +kernel); rw [HF.out] at h; exact (hd 4 (by decide +kernel) 85 (by kernel_rfl)).trans h
     have r88 : ρ (.tmp 88) = .slice X2 k g2 := by have h := hF 7 (by decide +kernel) (by decide +kernel); rw [HF.out] at h; exact (hd 7 (by decide +kernel) 88 (by kernel_rfl)).trans h
     clear  hd h0 he ha hF
     go_simp
     have q_s := (HXs.out.below hb)
     refine (HSB.out _ (HOS1.out.below hb).base (HOS2.out.below hb).base (Rd.takeT (HOU.out.below hb) i).base (Rd.takeT (HOV.out.below hb) k).base).mono ?_
     rintro e u1 ⟨B3, e3, av, bv, B4, e4, aw, bw, rfl, ⟨hv1, hv2, hv3, hv4⟩, ⟨hw1, hw2, hw3, hw4⟩, hdv, hb1⟩
     rw [HF.out]
     exact ⟨_, rfl, OnlyL.of_below hb1, B3, e3, B4, e4, rfl, hv3.mono hv1 hv2 (Nat.le_refl _), hw3.mono hw1 hw2 (Nat.le_refl _), ⟨hv4, hw4⟩⟩
    ·intro gh ρ u hc hf1 hg1 hd h0 hb he ha hF
     have f8 : ∃ (B3 : Option Addr) (e3 : Nat) (B4 : Option Addr) (e4 : Nat), (gh 8).v = .tuple #[.agg #[.int .i64 (z1 + i), .slice B3 Q1.length e3, .int .i64 (z2 + k), .slice B4 Q2.length e4, .int .i64 H.num, .int .i64 H.size, .string H.root, .int .i64 H.taken, .string H.troot], .int .i64 nb, .int .i64 0] ∧ (Own u (gh 8).s (gh 8).e B3 (strs Q1)) ∧ (Own u (gh 8).s (gh 8).e B4 (strs Q2)) ∧ ((B3 = none → e3 = 0) ∧ (B4 = none → e4 = 0)) := by have h := hF 8 (by decide +kernel) (by decide +kernel); rw [HF.out] at h; exact h
     obtain ⟨B3, e3, B4, e4, hv8, g8_0, g8_1, g8_2⟩ := f8
     have hrt8 := hv8
     have r89 : ρ (.tmp 89) = .tuple #[.agg #[.int .i64 (z1 + i), .slice B3 Q1.length e3, .int .i64 (z2 + k), .slice B4 Q2.length e4, .int .i64 H.num, .int .i64 H.size, .string H.root, .int .i64 H.taken, .string H.troot], .int .i64 nb, .int .i64 0] := (hd 8 (by decide +kernel) 89 (by kernel_rfl)).trans hv8
     have HRT8 := Lib.hid hrt8
     clear hv8 hrt8 hd h0 he ha hF
     go_simp
     rw [HF.out]
     exact ⟨OnlyL.refl _ _, B3, e3, B4, e4, HRT8.out, rfl⟩
    ·intro gh ρ u hc hf1 hg1 hd h0 hb he ha hF
     have f9 : ∃ (B3 : Option Addr) (e3 : Nat) (B4 : Option Addr) (e4 : Nat), (gh 8).v = .tuple #[.agg #[.int .i64 (z1 + i), .slice B3 Q1.length e3, .int .i64 (z2 + k), .slice B4 Q2.length e4, .int .i64 H.num, .int .i64 H.size, .string H.root, .int .i64 H.taken, .string H.troot], .int .i64 nb, .int .i64 0] ∧ (gh 9).v = .tuple #[.agg #[.int .i64 (z1 + i), .slice B3 Q1.length e3, .int .i64 (z2 + k), .slice B4 Q2.length e4, .int .i64 H.num, .int .i64 H.size, .string H.root, .int .i64 H.taken, .string H.troot], .int .i64 nb, .int .i64 0] := by have h := hF 9 (by decide +kernel) (by decide +kernel); rw [HF.out] at h; exact h
     obtain ⟨B3, e3, B4, e4, hrt8, hv9⟩ := f9
     have r80 : ρ (.tmp 80) = .tuple #[.agg #[.int .i64 (z1 + i), .slice B3 Q1.length e3, .int .i64 (z2 + k), .slice B4 Q2.length e4, .int .i64 H.num, .int .i64 H.size, .string H.root, .int .i64 H.taken, .string H.troot], .int .i64 nb, .int .i64 0] := (hd 9 (by decide +kernel) 80 (by kernel_rfl)).trans hv9
     have HRT8 := Lib.hid hrt8
     clear hv9 hrt8 hd h0 he ha hF
     go_simp
     rw [HF.out]
     exact ⟨OnlyL.refl _ _, B3, e3, B4, e4, HRT8.out, rfl⟩
    ·intro gh ρ u hc hf1 hg1 hd h0 hb he ha hF
     have f9 : ∃ (B3 : Option Addr) (e3 : Nat) (B4 : Option Addr) (e4 : Nat), (gh 8).v = .tuple #[.agg #[.int .i64 (z1 + i), .slice B3 Q1.length e3, .int .i64 (z2 + k), .slice B4 Q2.length e4, .int .i64 H.num, .int .i64 H.size, .string H.root, .int .i64 H.taken, .string H.troot], .int .i64 nb, .int .i64 0] ∧ (gh 9).v = .tuple #[.agg #[.int .i64 (z1 + i), .slice B3 Q1.length e3, .int .i64 (z2 + k), .slice B4 Q2.length e4, .int .i64 H.num, .int .i64 H.size, .string H.root, .int .i64 H.taken, .string H.troot], .int .i64 nb, .int .i64 0] := by have h := hF 9 (by decide +kernel) (by decide +kernel); rw [HF.out] at h; exact h
     obtain ⟨B3, e3, B4, e4, hrt8, hv9⟩ := f9
     have r80 : ρ (.tmp 80) = .tuple #[.agg #[.int .i64 (z1 + i), .slice B3 Q1.length e3, .int .i64 (z2 + k), .slice B4 Q2.length e4, .int .i64 H.num, .int .i64 H.size, .string H.root, .int .i64 H.taken, .string H.troot], .int .i64 nb, .int .i64 0] := (hd 9 (by decide +kernel) 80 (by kernel_rfl)).trans hv9
     have HRT8 := Lib.hid hrt8
     clear hv9 hrt8 hd h0 he ha hF
     go_simp
     rw [HF.out]
     exact ⟨OnlyL.refl _ _, B3, e3, B4, e4, HRT8.out, rfl⟩
    ·intro gh ρ u hc hf1 hg1 hd h0 hb he ha hF
     have f9 : ∃ (B3 : Option Addr) (e3 : Nat) (B4 : Option Addr) (e4 : Nat), (gh 8).v = .tuple #[.agg #[.int .i64 (z1 + i), .slice B3 Q1.length e3, .int .i64 (z2 + k), .slice B4 Q2.length e4, .int .i64 H.num, .int .i64 H.size, .string H.root, .int .i64 H.taken, .string H.troot], .int .i64 nb, .int .i64 0] ∧ (gh 9).v = .tuple #[.agg #[.int .i64 (z1 + i), .slice B3 Q1.length e3, .int .i64 (z2 + k), .slice B4 Q2.length e4, .int .i64 H.num, .int .i64 H.size, .string H.root, .int .i64 H.taken, .string H.troot], .int .i64 nb, .int .i64 0] := by have h := hF 9 (by decide +kernel) (by decide +kernel); rw [HF.out] at h; exact h
     obtain ⟨B3, e3, B4, e4, hrt8, hv9⟩ := f9
     have r80 : ρ (.tmp 80) = .tuple #[.agg #[.int .i64 (z1 + i), .slice B3 Q1.length e3, .int .i64 (z2 + k), .slice B4 Q2.length e4, .int .i64 H.num, .int .i64 H.size, .string H.root, .int .i64 H.taken, .string H.troot], .int .i64 nb, .int .i64 0] := (hd 9 (by decide +kernel) 80 (by kernel_rfl)).trans hv9
     have HRT8 := Lib.hid hrt8
     clear hv9 hrt8 hd h0 he ha hF
     go_simp
     rw [HF.out]
     exact ⟨OnlyL.refl _ _, B3, e3, B4, e4, HRT8.out, rfl⟩
    ·intro gh ρ u hc hf1 hg1 hd h0 hb he ha hF
     replace hb : Below w10.heap.size w10 u := hb.drew.below (by decide +kernel)
     have hbz : w10.heap.size ≤ u.heap.size := hb.size
     clear  hd h0 he ha hF
     go_simp
     rw [HF.out]
     exact ⟨OnlyL.of_below ((Below.refl _ _).alloc (Nat.le_refl _) _), rfl, by simp, NewBox.new _ _ _⟩
    ·intro gh ρ u hc hf1 hg1 hd h0 hb he ha hF
     replace hb : Below w10.heap.size w10 u := hb.drew.below (by decide +kernel)
     have hbz : w10.heap.size ≤ u.heap.size := hb.size
     have f13 : (gh 13).v = .pointer (some ⟨(gh 13).s, 0, none⟩) ∧ (gh 13).s < (gh 13).e ∧ NewBox u (gh 13).s [.int .i64 0, .slice none 0 0, .int .i64 0, .slice none 0 0, .int .i64 0, .int .i64 0, .string ⟨#[]⟩, .int .i64 0, .string ⟨#[]⟩] := by have h := hF 13 (by decide +kernel) (by decide +kernel); rw [HF.out] at h; exact h
     obtain ⟨hv13, hpl, hpz, hpc, hpf⟩ := f13
     have r16 : ρ (.tmp 16) = .pointer (some ⟨(gh 13).s, 0, none⟩) := (hd 13 (by decide +kernel) 16 (by kernel_rfl)).trans hv13
     have HP := Lib.hid hv13
     have f10 : ∃ (B3 : Option Addr) (e3 : Nat) (B4 : Option Addr) (e4 : Nat), (gh 8).v = .tuple #[.agg #[.int .i64 (z1 + i), .slice B3 Q1.length e3, .int .i64 (z2 + k), .slice B4 Q2.length e4, .int .i64 H.num, .int .i64 H.size, .string H.root, .int .i64 H.taken, .string H.troot], .int .i64 nb, .int .i64 0] ∧ (gh 10).v = .agg #[.int .i64 (z1 + i), .slice B3 Q1.length e3, .int .i64 (z2 + k), .slice B4 Q2.length e4, .int .i64 H.num, .int .i64 H.size, .string H.root, .int .i64 H.taken, .string H.troot] := by have h := hF 10 (by decide +kernel) (by decide +kernel); rw [HF.out] at h; exact h
     obtain ⟨B3, e3, B4, e4, hrt8, hv10⟩ := f10
     have r90 : ρ (.tmp 90) = .agg #[.int .i64 (z1 + i), .slice B3 Q1.length e3, .int .i64 (z2 + k), .slice B4 Q2.length e4, .int .i64 H.num, .int .i64 H.size, .string H.root, .int .i64 H.taken, .string H.troot] := (hd 10 (by decide +kernel) 90 (by kernel_rfl)).trans hv10
     have HRT8 := Lib.hid hrt8
     obtain ⟨_, _, _⟩ := he 13 (by decide +kernel)
     clear hv13 hv10 hrt8 hd h0 he ha hF
     go_simp
     rw [HF.out]
     refine ⟨?_, HP.out, hpl, B3, e3, B4, e4, HRT8.out, ?_⟩
     ·refine OnlyL.of_only (t := gh 13) ?_; refine Only.setCell ?_ (by exact Nat.le_refl _) (by exact hpl) _; refine Only.setCell ?_ (by exact Nat.le_refl _) (by exact hpl) _; refine Only.setCell ?_ (by exact Nat.le_refl _) (by exact hpl) _; refine Only.setCell ?_ (by exact Nat.le_refl _) (by exact hpl) _; refine Only.setCell ?_ (by exact Nat.le_refl _) (by exact hpl) _; refine Only.setCell ?_ (by exact Nat.le_refl _) (by exact hpl) _; refine Only.setCell ?_ (by exact Nat.le_refl _) (by exact hpl) _; refine Only.setCell ?_ (by exact Nat.le_refl _) (by exact hpl) _; refine Only.setCell ?_ (by exact Nat.le_refl _) (by exact hpl) _; exact Only.refl _ _ _
     ·show NewBox _ (gh 13).s _
      exact ⟨by simpa [World.setCell] using hpz, fun o => by rcases o with _ | _ | _ | _ | _ | _ | _ | _ | _ | o <;> go_simp, fun o => by go_simp⟩
    ·intro gh ρ u hc hf1 hg1 hd h0 hb he ha hF
     have f11 : ∃ (B3 : Option Addr) (e3 : Nat) (B4 : Option Addr) (e4 : Nat), (gh 8).v = .tuple #[.agg #[.int .i64 (z1 + i), .slice B3 Q1.length e3, .int .i64 (z2 + k), .slice B4 Q2.length e4, .int .i64 H.num, .int .i64 H.size, .string H.root, .int .i64 H.taken, .string H.troot], .int .i64 nb, .int .i64 0] ∧ (gh 11).v = .int .i64 nb := by have h := hF 11 (by decide +kernel) (by decide +kernel); rw [HF.out] at h; exact h
     obtain ⟨B3, e3, B4, e4, hrt8, hv11⟩ := f11
     have r91 : ρ (.tmp 91) = .int .i64 nb := (hd 11 (by decide +kernel) 91 (by kernel_rfl)).trans hv11
     have HRT8 := Lib.hid hrt8
     clear hv11 hrt8 hd h0 he ha hF
     go_simp
     rw [HF.out]
     exact ⟨OnlyL.refl _ _, B3, e3, B4, e4, HRT8.out, rfl⟩
    ·intro gh ρ u hc hf1 hg1 hd h0 hb he ha hF
     have f12 : ∃ (B3 : Option Addr) (e3 : Nat) (B4 : Option Addr) (e4 : Nat), (gh 8).v = .tuple #[.agg #[.int .i64 (z1 + i), .slice B3 Q1.length e3, .int .i64 (z2 + k), .slice B4 Q2.length e4, .int .i64 H.num, .int .i64 H.size, .string H.root, .int .i64 H.taken, .string H.troot], .int .i64 nb, .int .i64 0] ∧ (gh 12).v = .int .i64 0 := by have h := hF 12 (by decide +kernel) (by decide +kernel); rw [HF.out] at h; exact h
     obtain ⟨B3, e3, B4, e4, hrt8, hv12⟩ := f12
     have r92 : ρ (.tmp 92) = .int .i64 0 := (hd 12 (by decide +kernel) 92 (by kernel_rfl)).trans hv12
     have HRT8 := Lib.hid hrt8
     clear hv12 hrt8 hd h0 he ha hF
     go_simp
     rw [HF.out]
     exact ⟨OnlyL.refl _ _, B3, e3, B4, e4, HRT8.out, rfl⟩
    intro gh w11 hB hE hA hF
    replace hB : Below w10.heap.size w10 w11 := hB.below rfl
    have f0 : (gh 0).v = .int .i64 wd := by have h := hF 0 (by decide +kernel) (by decide +kernel); rw [HF.out] at h; exact h
    have f1 : (gh 1).v = .agg #[.int .i64 z1, .slice A1 m1 c1, .int .i64 z2, .slice A2 m2 c2, .int .i64 x.num, .int .i64 x.size, .string x.root, .int .i64 x.taken, .string x.troot] := by have h := hF 1 (by decide +kernel) (by decide +kernel); rw [HF.out] at h; exact h
    have f2 : (gh 2).v = .slice X1 k1 g1 := by have h := hF 2 (by decide +kernel) (by decide +kernel); rw [HF.out] at h; exact h
    have f3 : (gh 3).v = .int .i64 (i : Int) := by have h := hF 3 (by decide +kernel) (by decide +kernel); rw [HF.out] at h; exact h
    have f4 : (gh 4).v = .slice X1 i g1 := by have h := hF 4 (by decide +kernel) (by decide +kernel); rw [HF.out] at h; exact h
    have f5 : (gh 5).v = .slice X2 k2 g2 := by have h := hF 5 (by decide +kernel) (by decide +kernel); rw [HF.out] at h; exact h
    have f6 : (gh 6).v = .int .i64 (k : Int) := by have h := hF 6 (by decide +kernel) (by decide +kernel); rw [HF.out] at h; exact h
    have f7 : (gh 7).v = .slice X2 k g2 := by have h := hF 7 (by decide +kernel) (by decide +kernel); rw [HF.out] at h; exact h
    have f8 : ∃ (B3 : Option Addr) (e3 : Nat) (B4 : Option Addr) (e4 : Nat), (gh 8).v = .tuple #[.agg #[.int .i64 (z1 + i), .slice B3 Q1.length e3, .int .i64 (z2 + k), .slice B4 Q2.length e4, .int .i64 H.num, .int .i64 H.size, .string H.root, .int .i64 H.taken, .string H.troot], .int .i64 nb, .int .i64 0] ∧ (Own w11 (gh 8).s (gh 8).e B3 (strs Q1)) ∧ (Own w11 (gh 8).s (gh 8).e B4 (strs Q2)) ∧ ((B3 = none → e3 = 0) ∧ (B4 = none → e4 = 0)) := by have h := hF 8 (by decide +kernel) (by decide +kernel); rw [HF.out] at h; exact h
    have f9 : ∃ (B3 : Option Addr) (e3 : Nat) (B4 : Option Addr) (e4 : Nat), (gh 8).v = .tuple #[.agg #[.int .i64 (z1 + i), .slice B3 Q1.length e3, .int .i64 (z2 + k), .slice B4 Q2.length e4, .int .i64 H.num, .int .i64 H.size, .string H.root, .int .i64 H.taken, .string H.troot], .int .i64 nb, .int .i64 0] ∧ (gh 9).v = .tuple #[.agg #[.int .i64 (z1 + i), .slice B3 Q1.length e3, .int .i64 (z2 + k), .slice B4 Q2.length e4, .int .i64 H.num, .int .i64 H.size, .string H.root, .int .i64 H.taken, .string H.troot], .int .i64 nb, .int .i64 0] := by have h := hF 9 (by decide +kernel) (by decide +kernel); rw [HF.out] at h; exact h
    have f10 : ∃ (B3 : Option Addr) (e3 : Nat) (B4 : Option Addr) (e4 : Nat), (gh 8).v = .tuple #[.agg #[.int .i64 (z1 + i), .slice B3 Q1.length e3, .int .i64 (z2 + k), .slice B4 Q2.length e4, .int .i64 H.num, .int .i64 H.size, .string H.root, .int .i64 H.taken, .string H.troot], .int .i64 nb, .int .i64 0] ∧ (gh 10).v = .agg #[.int .i64 (z1 + i), .slice B3 Q1.length e3, .int .i64 (z2 + k), .slice B4 Q2.length e4, .int .i64 H.num, .int .i64 H.size, .string H.root, .int .i64 H.taken, .string H.troot] := by have h := hF 10 (by decide +kernel) (by decide +kernel); rw [HF.out] at h; exact h
    have f11 : ∃ (B3 : Option Addr) (e3 : Nat) (B4 : Option Addr) (e4 : Nat), (gh 8).v = .tuple #[.agg #[.int .i64 (z1 + i), .slice B3 Q1.length e3, .int .i64 (z2 + k), .slice B4 Q2.length e4, .int .i64 H.num, .int .i64 H.size, .string H.root, .int .i64 H.taken, .string H.troot], .int .i64 nb, .int .i64 0] ∧ (gh 11).v = .int .i64 nb := by have h := hF 11 (by decide +kernel) (by decide +kernel); rw [HF.out] at h; exact h
    have f12 : ∃ (B3 : Option Addr) (e3 : Nat) (B4 : Option Addr) (e4 : Nat), (gh 8).v = .tuple #[.agg #[.int .i64 (z1 + i), .slice B3 Q1.length e3, .int .i64 (z2 + k), .slice B4 Q2.length e4, .int .i64 H.num, .int .i64 H.size, .string H.root, .int .i64 H.taken, .string H.troot], .int .i64 nb, .int .i64 0] ∧ (gh 12).v = .int .i64 0 := by have h := hF 12 (by decide +kernel) (by decide +kernel); rw [HF.out] at h; exact h
    have f14 : (gh 13).v = .pointer (some ⟨(gh 13).s, 0, none⟩) ∧ (gh 13).s < (gh 13).e ∧ ∃ (B3 : Option Addr) (e3 : Nat) (B4 : Option Addr) (e4 : Nat), (gh 8).v = .tuple #[.agg #[.int .i64 (z1 + i), .slice B3 Q1.length e3, .int .i64 (z2 + k), .slice B4 Q2.length e4, .int .i64 H.num, .int .i64 H.size, .string H.root, .int .i64 H.taken, .string H.troot], .int .i64 nb, .int .i64 0] ∧ NewBox w11 (gh 13).s [.int .i64 (z1 + i), .slice B3 Q1.length e3, .int .i64 (z2 + k), .slice B4 Q2.length e4, .int .i64 H.num, .int .i64 H.size, .string H.root, .int .i64 H.taken, .string H.troot] := by have h := hF 14 (by decide +kernel) (by decide +kernel); rw [HF.out] at h; exact h
    have f15 : ∃ (B3 : Option Addr) (e3 : Nat) (B4 : Option Addr) (e4 : Nat), (gh 8).v = .tuple #[.agg #[.int .i64 (z1 + i), .slice B3 Q1.length e3, .int .i64 (z2 + k), .slice B4 Q2.length e4, .int .i64 H.num, .int .i64 H.size, .string H.root, .int .i64 H.taken, .string H.troot], .int .i64 nb, .int .i64 0] ∧ (gh 15).v = .int .i64 nb := by have h := hF 15 (by decide +kernel) (by decide +kernel); rw [HF.out] at h; exact h
    have f16 : ∃ (B3 : Option Addr) (e3 : Nat) (B4 : Option Addr) (e4 : Nat), (gh 8).v = .tuple #[.agg #[.int .i64 (z1 + i), .slice B3 Q1.length e3, .int .i64 (z2 + k), .slice B4 Q2.length e4, .int .i64 H.num, .int .i64 H.size, .string H.root, .int .i64 H.taken, .string H.troot], .int .i64 nb, .int .i64 0] ∧ (gh 16).v = .int .i64 0 := by have h := hF 16 (by decide +kernel) (by decide +kernel); rw [HF.out] at h; exact h
    obtain ⟨B3, e3, B4, e4, hv8, ho3, ho4, hnn3⟩ := f8
    have hv0 := f0
    have hv1 := f1
    have hv2 := f2
    have hv3 := f3
    have hv4 := f4
    have hv5 := f5
    have hv6 := f6
    have hv7 := f7
    obtain ⟨B3_9, e3_9, B4_9, e4_9, hu8, hv9⟩ := f9
    replace hu8 := hv8.symm.trans hu8
    simp at hu8
    try simp only [and_assoc] at hu8
    obtain ⟨rfl, rfl, rfl, rfl⟩ := hu8
    obtain ⟨B3_10, e3_10, B4_10, e4_10, hu8, hv10⟩ := f10
    replace hu8 := hv8.symm.trans hu8
    simp at hu8
    try simp only [and_assoc] at hu8
    obtain ⟨rfl, rfl, rfl, rfl⟩ := hu8
    obtain ⟨B3_11, e3_11, B4_11, e4_11, hu8, hv11⟩ := f11
    replace hu8 := hv8.symm.trans hu8
    simp at hu8
    try simp only [and_assoc] at hu8
    obtain ⟨rfl, rfl, rfl, rfl⟩ := hu8
    obtain ⟨B3_12, e3_12, B4_12, e4_12, hu8, hv12⟩ := f12
    replace hu8 := hv8.symm.trans hu8
    simp at hu8
    try simp only [and_assoc] at hu8
    obtain ⟨rfl, rfl, rfl, rfl⟩ := hu8
    obtain ⟨hv13, hl13, f14⟩ := f14
    obtain ⟨B3_14, e3_14, B4_14, e4_14, hu8, hx14⟩ := f14
    replace hu8 := hv8.symm.trans hu8
    simp at hu8
    try simp only [and_assoc] at hu8
    obtain ⟨rfl, rfl, rfl, rfl⟩ := hu8
    obtain ⟨B3_15, e3_15, B4_15, e4_15, hu8, hv15⟩ := f15
    replace hu8 := hv8.symm.trans hu8
    simp at hu8
    try simp only [and_assoc] at hu8
    obtain ⟨rfl, rfl, rfl, rfl⟩ := hu8
    obtain ⟨B3_16, e3_16, B4_16, e4_16, hu8, hv16⟩ := f16
    replace hu8 := hv8.symm.trans hu8
    simp at hu8
    try simp only [and_assoc] at hu8
    obtain ⟨rfl, rfl, rfl, rfl⟩ := hu8
    obtain ⟨hs8, hse8, he8⟩ := hE 8 (by decide +kernel)
    obtain ⟨hs13, hse13, he13⟩ := hE 13 (by decide +kernel)
    have hdj11_8_13 := hA 8 (by decide +kernel) 13 (by decide +kernel) (by decide)
    change w10.heap.size ≤ _ at hs8 hs13
    clear hE hA hF
    simp only [putDs, Nat.reduceAdd, hv0, hv1, hv2, hv3, hv4, hv5, hv6, hv7, hv8, hv9, hv10, hv11, hv12, hv13, hv15, hv16]
    clear hv0 hv1 hv2 hv3 hv4 hv5 hv6 hv7 hv8 hv9 hv10 hv11 hv12 hv13 hv15 hv16
    generalize (gh 8).s = s11_8 at *
    generalize (gh 8).e = e11_8 at *
    generalize (gh 13).s = s11_13 at *
    generalize (gh 13).e = e11_13 at *
    clear HF
    have hb := hB
    clear hB
    have hzw11 : w10.heap.size ≤ w11.heap.size := hb.size
    have hzzw11 : w.heap.size ≤ w11.heap.size := by omega
    replace HB := Lib.hid (below_then HB.out hb HB.out.size)
    replace HOS1 := Lib.hid (HOS1.out.below hb)
    replace HOS2 := Lib.hid (HOS2.out.below hb)
    replace HOU := Lib.hid (HOU.out.below hb)
    replace HOV := Lib.hid (HOV.out.below hb)
    replace HOD1 := Lib.hid (HOD1.out.below hb)
    replace HOD2 := Lib.hid (HOD2.out.below hb)
    replace HXs := Lib.hid (HXs.out.below hb)
    clear hxs hfs hks
    have hxs := HXs.out.2.1
    have hfs := HXs.out.2.2
    have hks := HXs.out.1
    replace HXa := Lib.hid (HXa.out.below hb)
    clear hxa hfa hka
    have hxa := HXa.out.2.1
    have hfa := HXa.out.2.2
    have hka := HXa.out.1
    clear hb
    have HXb : Hid (NewBox w11 (s11_13) [.int .i64 (z1 + i), .slice B3 Q1.length e3, .int .i64 (z2 + k), .slice B4 Q2.length e4, .int .i64 H.num, .int .i64 H.size, .string H.root, .int .i64 H.taken, .string H.troot]) := hx14
    have hxb := HXb.out.2.1
    have hfb := HXb.out.2.2
    have hkb := HXb.out.1
    clear hx14
    have HNN := Lib.hid hnn3
    have HOF1 : Hid (Rd w11 (0) (w11.heap.size) (B3) (strs Q1)) := Lib.hid ho3.rd.base
    have HOF2 : Hid (Rd w11 (0) (w11.heap.size) (B4) (strs Q2)) := Lib.hid ho4.rd.base
    clear ho3 ho4 hnn3 HSB ES1 ES2
    simp only [Act.put, List.setIfInBounds_toArray, List.set_cons_zero, List.set_cons_succ]
    go_wp2_with fail
    refine wp_named (fun w12 hw => ?_)
    have hz12 : w11.heap.size + 0 ≤ w12.heap.size := by rw [hw]; first | omega | (simp [World.setCell]; done) | (simp [World.setCell]; omega)
    have hzz12 : w.heap.size ≤ w12.heap.size := by omega
    have hbn : Below w11.heap.size w11 w12 := by rw [hw]; exact (by ((repeat (first | ((with_reducible refine Below.alloc ?_ ?_ _); rotate_left 1; (focus (first | omega | (simp; done) | (simp; omega)))) | (with_reducible refine Below.drew ?_) | ((with_reducible refine Below.setCell ?_ ?_ _); rotate_left 1; (focus (first | omega | (simp; done) | (simp; omega)))))); exact Below.refl _ _))
    replace HB := Lib.hid (below_then HB.out hbn HB.out.size)
    replace HOS1 := Lib.hid (HOS1.out.below hbn)
    replace HOS2 := Lib.hid (HOS2.out.below hbn)
    replace HOU := Lib.hid (HOU.out.below hbn)
    replace HOV := Lib.hid (HOV.out.below hbn)
    replace HOD1 := Lib.hid (HOD1.out.below hbn)
    replace HOD2 := Lib.hid (HOD2.out.below hbn)
    replace HOF1 := Lib.hid (HOF1.out.below hbn)
    replace HOF2 := Lib.hid (HOF2.out.below hbn)
    replace HXs := Lib.hid (HXs.out.below hbn)
    clear hxs hfs hks
    have hxs := HXs.out.2.1
    have hfs := HXs.out.2.2
    have hks := HXs.out.1
    replace HXa := Lib.hid (HXa.out.below hbn)
    clear hxa hfa hka
    have hxa := HXa.out.2.1
    have hfa := HXa.out.2.2
    have hka := HXa.out.1
    replace HXb := Lib.hid (HXb.out.below hbn)
    clear hxb hfb hkb
    have hxb := HXb.out.2.1
    have hfb := HXb.out.2.2
    have hkb := HXb.out.1
    clear hbn
    clear hw
    obtain ⟨F, HF⟩ : ∃ F : Facts, Hid (F = fun iq xq tqs dsq uq => match iq with
     | 0 => xq.v = .int .i64 wd
     | 1 => xq.v = .agg #[.int .i64 (z1 + i), .slice B3 Q1.length e3, .int .i64 (z2 + k), .slice B4 Q2.length e4, .int .i64 H.num, .int .i64 H.size, .string H.root, .int .i64 H.taken, .string H.troot]
     | 2 => xq.v = .slice X1 k1 g1
     | 3 => xq.v = .int .i64 (i : Int)
     | 4 => xq.v = .slice Y1 d1 gy1
     | 5 => xq.v = .slice X2 k2 g2
     | 6 => xq.v = .int .i64 (k : Int)
     | 7 => xq.v = .slice Y2 d2 gy2
     | 8 => ∃ (B5 : Option Addr) (e5 : Nat) (B6 : Option Addr) (e6 : Nat), xq.v = .tuple #[.agg #[.int .i64 (z1 + k1), .slice B5 P1.length e5, .int .i64 (z2 + k2), .slice B6 P2.length e6, .int .i64 (x.num + 2), .int .i64 (z1 + k1), .string R, .int .i64 (z2 + k2), .string S], .int .i64 nc, .int .i64 0] ∧ (Own uq xq.s xq.e B5 (strs P1)) ∧ (Own uq xq.s xq.e B6 (strs P2)) ∧ ((B5 = none → e5 = 0) ∧ (B6 = none → e6 = 0))
     | 9 => (match tqs, dsq with | [], [yq0] => ∃ (B5 : Option Addr) (e5 : Nat) (B6 : Option Addr) (e6 : Nat), yq0.v = .tuple #[.agg #[.int .i64 (z1 + k1), .slice B5 P1.length e5, .int .i64 (z2 + k2), .slice B6 P2.length e6, .int .i64 (x.num + 2), .int .i64 (z1 + k1), .string R, .int .i64 (z2 + k2), .string S], .int .i64 nc, .int .i64 0] ∧ xq.v = .tuple #[.agg #[.int .i64 (z1 + k1), .slice B5 P1.length e5, .int .i64 (z2 + k2), .slice B6 P2.length e6, .int .i64 (x.num + 2), .int .i64 (z1 + k1), .string R, .int .i64 (z2 + k2), .string S], .int .i64 nc, .int .i64 0] | _, _ => False)
     | 10 => (match tqs, dsq with | [], [yq0] => ∃ (B5 : Option Addr) (e5 : Nat) (B6 : Option Addr) (e6 : Nat), yq0.v = .tuple #[.agg #[.int .i64 (z1 + k1), .slice B5 P1.length e5, .int .i64 (z2 + k2), .slice B6 P2.length e6, .int .i64 (x.num + 2), .int .i64 (z1 + k1), .string R, .int .i64 (z2 + k2), .string S], .int .i64 nc, .int .i64 0] ∧ xq.v = .agg #[.int .i64 (z1 + k1), .slice B5 P1.length e5, .int .i64 (z2 + k2), .slice B6 P2.length e6, .int .i64 (x.num + 2), .int .i64 (z1 + k1), .string R, .int .i64 (z2 + k2), .string S] | _, _ => False)
     | 11 => (match tqs, dsq with | [], [yq0] => ∃ (B5 : Option Addr) (e5 : Nat) (B6 : Option Addr) (e6 : Nat), yq0.v = .tuple #[.agg #[.int .i64 (z1 + k1), .slice B5 P1.length e5, .int .i64 (z2 + k2), .slice B6 P2.length e6, .int .i64 (x.num + 2), .int .i64 (z1 + k1), .string R, .int .i64 (z2 + k2), .string S], .int .i64 nc, .int .i64 0] ∧ xq.v = .int .i64 nc | _, _ => False)
     | 12 => (match tqs, dsq with | [], [yq0] => ∃ (B5 : Option Addr) (e5 : Nat) (B6 : Option Addr) (e6 : Nat), yq0.v = .tuple #[.agg #[.int .i64 (z1 + k1), .slice B5 P1.length e5, .int .i64 (z2 + k2), .slice B6 P2.length e6, .int .i64 (x.num + 2), .int .i64 (z1 + k1), .string R, .int .i64 (z2 + k2), .string S], .int .i64 nc, .int .i64 0] ∧ xq.v = .int .i64 0 | _, _ => False)
     | 13 => xq.v = .pointer (some ⟨xq.s, 0, none⟩) ∧ xq.s < xq.e ∧ NewBox uq xq.s [.int .i64 0, .slice none 0 0, .int .i64 0, .slice none 0 0, .int .i64 0, .int .i64 0, .string ⟨#[]⟩, .int .i64 0, .string ⟨#[]⟩]
     | 14 => (match tqs, dsq with | [tq0], [yq0] => tq0.v = .pointer (some ⟨tq0.s, 0, none⟩) ∧ tq0.s < tq0.e ∧ ∃ (B5 : Option Addr) (e5 : Nat) (B6 : Option Addr) (e6 : Nat), yq0.v = .tuple #[.agg #[.int .i64 (z1 + k1), .slice B5 P1.length e5, .int .i64 (z2 + k2), .slice B6 P2.length e6, .int .i64 (x.num + 2), .int .i64 (z1 + k1), .string R, .int .i64 (z2 + k2), .string S], .int .i64 nc, .int .i64 0] ∧ NewBox uq tq0.s [.int .i64 (z1 + k1), .slice B5 P1.length e5, .int .i64 (z2 + k2), .slice B6 P2.length e6, .int .i64 (x.num + 2), .int .i64 (z1 + k1), .string R, .int .i64 (z2 + k2), .string S] | _, _ => False)
     | 15 => (match tqs, dsq with | [], [yq0] => ∃ (B5 : Option Addr) (e5 : Nat) (B6 : Option Addr) (e6 : Nat), yq0.v = .tuple #[.agg #[.int .i64 (z1 + k1), .slice B5 P1.length e5, .int .i64 (z2 + k2), .slice B6 P2.length e6, .int .i64 (x.num + 2), .int .i64 (z1 + k1), .string R, .int .i64 (z2 + k2), .string S], .int .i64 nc, .int .i64 0] ∧ xq.v = .int .i64 nc | _, _ => False)
     | 16 => (match tqs, dsq with | [], [yq0] => ∃ (B5 : Option Addr) (e5 : Nat) (B6 : Option Addr) (e6 : Nat), yq0.v = .tuple #[.agg #[.int .i64 (z1 + k1), .slice B5 P1.length e5, .int .i64 (z2 + k2), .slice B6 P2.length e6, .int .i64 (x.num + 2), .int .i64 (z1 + k1), .string R, .int .i64 (z2 + k2), .string S], .int .i64 nc, .int .i64 0] ∧ xq.v = .int .i64 0 | _, _ => False)
     | _ => False) := ⟨_, rfl⟩
    refine wp_region_facts [[], [], [], [], [], [], [], [], [], [8], [8], [8], [8], [], [8], [8], [8]] [[], [], [], [], [], [], [], [], [], [], [], [], [], [], [13], [], []] [some 94, some 95, some 96, some 97, some 98, some 99, some 100, some 101, some 102, some 93, some 103, some 104, some 105, some 19, none, some 20, some 21] none 0 0 (.inl rfl) F (by kernel_rfl) (by kernel_rfl) (by kernel_rfl) ?_ ⟨?_, ?_, ?_, ?_, ?_, ?_, ?_, ?_, ?_, ?_, ?_, ?_, ?_, ?_, ?_, ?_, ?_, trivial⟩ ?_
    ·rw [HF.out]; intro iq xq tqs dsq uq u' hi hf hs hW hx hbk
     have kx : ∀ b, xq.s ≤ b → b < xq.e → u'.heap[b]? = uq.heap[b]? := fun b h1 h2 => hbk b (.inr (.inl ⟨h1, h2⟩))
     have kt : ∀ t ∈ tqs, ∀ b, t.s ≤ b → b < t.e → u'.heap[b]? = uq.heap[b]? := fun t ht b h1 h2 => hbk b (.inr (.inr ⟨t, ht, h1, h2⟩))
     match iq with
     | 0 => exact hf
     | 1 => exact hf
     | 2 => exact hf
     | 3 => exact hf
     | 4 => exact hf
     | 5 => exact hf
     | 6 => exact hf
     | 7 => exact hf
     | 8 => obtain ⟨B5, e5, B6, e6, hv, p0, p1, p2⟩ := hf; exact ⟨B5, e5, B6, e6, hv, p0.keep hs kx, p1.keep hs kx, p2⟩
     | 9 => exact hf
     | 10 => exact hf
     | 11 => exact hf
     | 12 => exact hf
     | 13 => exact ⟨hf.1, hf.2.1, hf.2.2.keep hs (kx _ (Nat.le_refl _) hf.2.1)⟩
     | 14 => match tqs, dsq, hf with | [tq0], [yq0], hf => obtain ⟨h1, h2, B5, e5, B6, e6, hvr8, hb⟩ := hf; exact ⟨h1, h2, B5, e5, B6, e6, hvr8, hb.keep hs (kt tq0 List.mem_cons_self _ (Nat.le_refl _) h2)⟩
     | 15 => exact hf
     | 16 => exact hf
    ·intro gh ρ u hc hf1 hg1 hd h0 hb he ha hF
     have r3 : ρ (.tmp 3) = .int .i64 wd := (h0 3 (by decide +kernel)).trans rfl
     clear  hd h0 he ha hF
     go_simp
     rw [HF.out]
     exact ⟨OnlyL.refl _ _, rfl⟩
    ·intro gh ρ u hc hf1 hg1 hd h0 hb he ha hF
     replace hb : Below w12.heap.size w12 u := hb.drew.below (by decide +kernel)
     have hbz : w12.heap.size ≤ u.heap.size := hb.size
     have r16 : ρ (.tmp 16) = .pointer (some ⟨s11_13, 0, none⟩) := (h0 16 (by decide +kernel)).trans rfl
     have q_b := (HXb.out.below hb).2.1
     have k_b : s11_13 < u.heap.size := by have := HXb.out.1; omega
     clear  hd h0 he ha hF
     go_simp
     rw [HF.out]
     exact ⟨OnlyL.refl _ _, rfl⟩
    ·intro gh ρ u hc hf1 hg1 hd h0 hb he ha hF
     have r5 : ρ (.tmp 5) = .slice X1 k1 g1 := (h0 5 (by decide +kernel)).trans rfl
     clear  hd h0 he ha hF
     go_simp
     rw [HF.out]
     exact ⟨OnlyL.refl _ _, rfl⟩
    ·intro gh ρ u hc hf1 hg1 hd h0 hb he ha hF
     have r11 : ρ (.tmp 11) = .int .i64 (i : Int) := (h0 11 (by decide +kernel)).trans rfl
     clear  hd h0 he ha hF
     go_simp
     rw [HF.out]
     exact ⟨OnlyL.refl _ _, rfl⟩
    ·intro gh ρ u hc hf1 hg1 hd h0 hb he ha hF
     have r96 : ρ (.tmp 96) = .slice X1 k1 g1 := by have h := hF 2 (by decide +kernel) (by decide +kernel); rw [HF.out] at h; exact (hd 2 (by decide +kernel) 96 (by kernel_rfl)).trans h
     have r97 : ρ (.tmp 97) = .int .i64 (i : Int) := by have h := hF 3 (by decide +kernel) (by decide +kernel); rw [HF.out] at h; exact (hd 3 (by decide +kernel) 97 (by kernel_rfl)).trans h
     clear  hd h0 he ha hF
     go_simp
     rw [HF.out]
     exact ⟨OnlyL.refl _ _, rfl⟩
    ·intro gh ρ u hc hf1 hg1 hd h0 hb he ha hF
     have r6 : ρ (.tmp 6) = .slice X2 k2 g2 := (h0 6 (by decide +kernel)).trans rfl
     clear  hd h0 he ha hF
     go_simp
     rw [HF.out]
     exact ⟨OnlyL.refl _ _, rfl⟩
    ·intro gh ρ u hc hf1 hg1 hd h0 hb he ha hF
     have r12 : ρ (.tmp 12) = .int .i64 (k : Int) := (h0 12 (by decide +kernel)).trans rfl
     clear  hd h0 he ha hF
     go_simp
     rw [HF.out]
     exact ⟨OnlyL.refl _ _, rfl⟩
    ·intro gh ρ u hc hf1 hg1 hd h0 hb he ha hF
     have r99 : ρ (.tmp 99) = .slice X2 k2 g2 := by have h := hF 5 (by decide +kernel) (by decide +kernel); rw [HF.out] at h; exact (hd 5 (by decide +kernel) 99 (by kernel_rfl)).trans h
     have r100 : ρ (.tmp 100) = .int .i64 (k : Int) := by have h := hF 6 (by decide +kernel) (by decide +kernel); rw [HF.out] at h; exact (hd 6 (by decide +kernel) 100 (by kernel_rfl)).trans h
     clear  hd h0 he ha hF
     go_simp
     rw [HF.out]
     exact ⟨OnlyL.refl _ _, rfl⟩
    ·intro gh ρ u hc hf1 hg1 hd h0 hb he ha hF
     replace hb : Below w12.heap.size w12 u := hb.drew.below (by decide +kernel)
     have hbz : w12.heap.size ≤ u.heap.size := hb.size
     have r94 : ρ (.tmp 94) = .int .i64 wd := by have h := hF 0 (by decide +kernel) (by decide +kernel); rw [HF.out] at h; exact (hd 0 (by decide +kernel) 94 (by kernel_rfl)).trans h
     have r95 : ρ (.tmp 95) = .agg #[.int .i64 (z1 + i), .slice B3 Q1.length e3, .int .i64 (z2 + k), .slice B4 Q2.length e4, .int .i64 H.num, .int .i64 H.size, .string H.root, .int .i64 H.taken, .string H.troot] := by have h := hF 1 (by decide +kernel) (by decide +kernel); rw [HF.out] at h; exact (hd 1 (by decide +kernel) 95 (by kernel_rfl)).trans h
     have r98 : ρ (.tmp 98) = .slice Y1 d1 gy1 := by have h := hF 4 (by decide +kernel) (by decide +kernel); rw [HF.out] at h; exact (hd 4 (by decide +kernel) 98 (by kernel_rfl)).trans h
     have r101 : ρ (.tmp 101) = .slice Y2 d2 gy2 := by have h := hF 7 (by decide +kernel) (by decide +kernel); rw [HF.out] at h; exact (hd 7 (by decide +kernel) 101 (by kernel_rfl)).trans h
     clear  hd h0 he ha hF
     go_simp
     have q_b := (HXb.out.below hb)
     refine (HSC.out B3 e3 B4 e4 HNN.out.1 HNN.out.2 _ (HOF1.out.below hb).base (HOF2.out.below hb).base (HRD1.out _ (HOU.out.below hb).base) (HRD2.out _ (HOV.out.below hb).base)).mono ?_
     rintro e u1 ⟨B5, e5, av, bv, B6, e6, aw, bw, rfl, ⟨hv1, hv2, hv3, hv4⟩, ⟨hw1, hw2, hw3, hw4⟩, hdv, hb1⟩
     rw [HF.out]
     exact ⟨_, rfl, OnlyL.of_below hb1, B5, e5, B6, e6, rfl, hv3.mono hv1 hv2 (Nat.le_refl _), hw3.mono hw1 hw2 (Nat.le_refl _), ⟨hv4, hw4⟩⟩
    ·intro gh ρ u hc hf1 hg1 hd h0 hb he ha hF
     have f8 : ∃ (B5 : Option Addr) (e5 : Nat) (B6 : Option Addr) (e6 : Nat), (gh 8).v = .tuple #[.agg #[.int .i64 (z1 + k1), .slice B5 P1.length e5, .int .i64 (z2 + k2), .slice B6 P2.length e6, .int .i64 (x.num + 2), .int .i64 (z1 + k1), .string R, .int .i64 (z2 + k2), .string S], .int .i64 nc, .int .i64 0] ∧ (Own u (gh 8).s (gh 8).e B5 (strs P1)) ∧ (Own u (gh 8).s (gh 8).e B6 (strs P2)) ∧ ((B5 = none → e5 = 0) ∧ (B6 = none → e6 = 0)) := by have h := hF 8 (by decide +kernel) (by decide +kernel); rw [HF.out] at h; exact h
     obtain ⟨B5, e5, B6, e6, hv8, g8_0, g8_1, g8_2⟩ := f8
     have hrt8 := hv8
     have r102 : ρ (.tmp 102) = .tuple #[.agg #[.int .i64 (z1 + k1), .slice B5 P1.length e5, .int .i64 (z2 + k2), .slice B6 P2.length e6, .int .i64 (x.num + 2), .int .i64 (z1 + k1), .string R, .int .i64 (z2 + k2), .string S], .int .i64 nc, .int .i64 0] := (hd 8 (by decide +kernel) 102 (by kernel_rfl)).trans hv8
     have HRT8 := Lib.hid hrt8
     clear hv8 hrt8 hd h0 he ha hF
     go_simp
     rw [HF.out]
     exact ⟨OnlyL.refl _ _, B5, e5, B6, e6, HRT8.out, rfl⟩
    ·intro gh ρ u hc hf1 hg1 hd h0 hb he ha hF
     have f9 : ∃ (B5 : Option Addr) (e5 : Nat) (B6 : Option Addr) (e6 : Nat), (gh 8).v = .tuple #[.agg #[.int .i64 (z1 + k1), .slice B5 P1.length e5, .int .i64 (z2 + k2), .slice B6 P2.length e6, .int .i64 (x.num + 2), .int .i64 (z1 + k1), .string R, .int .i64 (z2 + k2), .string S], .int .i64 nc, .int .i64 0] ∧ (gh 9).v = .tuple #[.agg #[.int .i64 (z1 + k1), .slice B5 P1.length e5, .int .i64 (z2 + k2), .slice B6 P2.length e6, .int .i64 (x.num + 2), .int .i64 (z1 + k1), .string R, .int .i64 (z2 + k2), .string S], .int .i64 nc, .int .i64 0] := by have h := hF 9 (by decide +kernel) (by decide +kernel); rw [HF.out] at h; exact h
     obtain ⟨B5, e5, B6, e6, hrt8, hv9⟩ := f9
     have r93 : ρ (.tmp 93) = .tuple #[.agg #[.int .i64 (z1 + k1), .slice B5 P1.length e5, .int .i64 (z2 + k2), .slice B6 P2.length e6, .int .i64 (x.num + 2), .int .i64 (z1 + k1), .string R, .int .i64 (z2 + k2), .string S], .int .i64 nc, .int .i64 0] := (hd 9 (by decide +kernel) 93 (by kernel_rfl)).trans hv9
     have HRT8 := Lib.hid hrt8
     clear hv9 hrt8 hd h0 he ha hF
     go_simp
     rw [HF.out]
     exact ⟨OnlyL.refl _ _, B5, e5, B6, e6, HRT8.out, rfl⟩
    ·intro gh ρ u hc hf1 hg1 hd h0 hb he ha hF
     have f9 : ∃ (B5 : Option Addr) (e5 : Nat) (B6 : Option Addr) (e6 : Nat), (gh 8).v = .tuple #[.agg #[.int .i64 (z1 + k1), .slice B5 P1.length e5, .int .i64 (z2 + k2), .slice B6 P2.length e6, .int .i64 (x.num + 2), .int .i64 (z1 + k1), .string R, .int .i64 (z2 + k2), .string S], .int .i64 nc, .int .i64 0] ∧ (gh 9).v = .tuple #[.agg #[.int .i64 (z1 + k1), .slice B5 P1.length e5, .int .i64 (z2 + k2), .slice B6 P2.length e6, .int .i64 (x.num + 2), .int .i64 (z1 + k1), .string R, .int .i64 (z2 + k2), .string S], .int .i64 nc, .int .i64 0] := by have h := hF 9 (by decide +kernel) (by decide +kernel); rw [HF.out] at h; exact h
     obtain ⟨B5, e5, B6, e6, hrt8, hv9⟩ := f9
     have r93 : ρ (.tmp 93) = .tuple #[.agg #[.int .i64 (z1 + k1), .slice B5 P1.length e5, .int .i64 (z2 + k2), .slice B6 P2.length e6, .int .i64 (x.num + 2), .int .i64 (z1 + k1), .string R, .int .i64 (z2 + k2), .string S], .int .i64 nc, .int .i64 0] := (hd 9 (by decide +kernel) 93 (by kernel_rfl)).trans hv9
     have HRT8 := Lib.hid hrt8
     clear hv9 hrt8 hd h0 he ha hF
     go_simp
     rw [HF.out]
     exact ⟨OnlyL.refl _ _, B5, e5, B6, e6, HRT8.out, rfl⟩
    ·intro gh ρ u hc hf1 hg1 hd h0 hb he ha hF
     have f9 : ∃ (B5 : Option Addr) (e5 : Nat) (B6 : Option Addr) (e6 : Nat), (gh 8).v = .tuple #[.agg #[.int .i64 (z1 + k1), .slice B5 P1.length e5, .int .i64 (z2 + k2), .slice B6 P2.length e6, .int .i64 (x.num + 2), .int .i64 (z1 + k1), .string R, .int .i64 (z2 + k2), .string S], .int .i64 nc, .int .i64 0] ∧ (gh 9).v = .tuple #[.agg #[.int .i64 (z1 + k1), .slice B5 P1.length e5, .int .i64 (z2 + k2), .slice B6 P2.length e6, .int .i64 (x.num + 2), .int .i64 (z1 + k1), .string R, .int .i64 (z2 + k2), .string S], .int .i64 nc, .int .i64 0] := by have h := hF 9 (by decide +kernel) (by decide +kernel); rw [HF.out] at h; exact h
     obtain ⟨B5, e5, B6, e6, hrt8, hv9⟩ := f9
     have r93 : ρ (.tmp 93) = .tuple #[.agg #[.int .i64 (z1 + k1), .slice B5 P1.length e5, .int .i64 (z2 + k2), .slice B6 P2.length e6, .int .i64 (x.num + 2), .int .i64 (z1 + k1), .string R, .int .i64 (z2 + k2), .string S], .int .i64 nc, .int .i64 0] := (hd 9 (by decide +kernel) 93 (by kernel_rfl)).trans hv9
     have HRT8 := Lib.hid hrt8
     clear hv9 hrt8 hd h0 he ha hF
     go_simp
     rw [HF.out]
     exact ⟨OnlyL.refl _ _, B5, e5, B6, e6, HRT8.out, rfl⟩
    ·intro gh ρ u hc hf1 hg1 hd h0 hb he ha hF
     replace hb : Below w12.heap.size w12 u := hb.drew.below (by decide +kernel)
     have hbz : w12.heap.size ≤ u.heap.size := hb.size
     clear  hd h0 he ha hF
     go_simp
     rw [HF.out]
     exact ⟨OnlyL.of_below ((Below.refl _ _).alloc (Nat.le_refl _) _), rfl, by simp, NewBox.new _ _ _⟩
    ·intro gh ρ u hc hf1 hg1 hd h0 hb he ha hF
     replace hb : Below w12.heap.size w12 u := hb.drew.below (by decide +kernel)
     have hbz : w12.heap.size ≤ u.heap.size := hb.size
     have f13 : (gh 13).v = .pointer (some ⟨(gh 13).s, 0, none⟩) ∧ (gh 13).s < (gh 13).e ∧ NewBox u (gh 13).s [.int .i64 0, .slice none 0 0, .int .i64 0, .slice none 0 0, .int .i64 0, .int .i64 0, .string ⟨#[]⟩, .int .i64 0, .string ⟨#[]⟩] := by have h := hF 13 (by decide +kernel) (by decide +kernel); rw [HF.out] at h; exact h
     obtain ⟨hv13, hpl, hpz, hpc, hpf⟩ := f13
     have r19 : ρ (.tmp 19) = .pointer (some ⟨(gh 13).s, 0, none⟩) := (hd 13 (by decide +kernel) 19 (by kernel_rfl)).trans hv13
     have HP := Lib.hid hv13
     have f10 : ∃ (B5 : Option Addr) (e5 : Nat) (B6 : Option Addr) (e6 : Nat), (gh 8).v = .tuple #[.agg #[.int .i64 (z1 + k1), .slice B5 P1.length e5, .int .i64 (z2 + k2), .slice B6 P2.length e6, .int .i64 (x.num + 2), .int .i64 (z1 + k1), .string R, .int .i64 (z2 + k2), .string S], .int .i64 nc, .int .i64 0] ∧ (gh 10).v = .agg #[.int .i64 (z1 + k1), .slice B5 P1.length e5, .int .i64 (z2 + k2), .slice B6 P2.length e6, .int .i64 (x.num + 2), .int .i64 (z1 + k1), .string R, .int .i64 (z2 + k2), .string S] := by have h := hF 10 (by decide +kernel) (by decide +kernel); rw [HF.out] at h; exact h
     obtain ⟨B5, e5, B6, e6, hrt8, hv10⟩ := f10
     have r103 : ρ (.tmp 103) = .agg #[.int .i64 (z1 + k1), .slice B5 P1.length e5, .int .i64 (z2 + k2), .slice B6 P2.length e6, .int .i64 (x.num + 2), .int .i64 (z1 + k1), .string R, .int .i64 (z2 + k2), .string S] := (hd 10 (by decide +kernel) 103 (by kernel_rfl)).trans hv10
     have HRT8 := Lib.hid hrt8
     obtain ⟨_, _, _⟩ := he 13 (by decide +kernel)
     clear hv13 hv10 hrt8 hd h0 he ha hF
     go_simp
     rw [HF.out]
     refine ⟨?_, HP.out, hpl, B5, e5, B6, e6, HRT8.out, ?_⟩
     ·refine OnlyL.of_only (t := gh 13) ?_; refine Only.setCell ?_ (by exact Nat.le_refl _) (by exact hpl) _; refine Only.setCell ?_ (by exact Nat.le_refl _) (by exact hpl) _; refine Only.setCell ?_ (by exact Nat.le_refl _) (by exact hpl) _; refine Only.setCell ?_ (by exact Nat.le_refl _) (by exact hpl) _; refine Only.setCell ?_ (by exact Nat.le_refl _) (by exact hpl) _; refine Only.setCell ?_ (by exact Nat.le_refl _) (by exact hpl) _; refine Only.setCell ?_ (by exact Nat.le_refl _) (by exact hpl) _; refine Only.setCell ?_ (by exact Nat.le_refl _) (by exact hpl) _; refine Only.setCell ?_ (by exact Nat.le_refl _) (by exact hpl) _; exact Only.refl _ _ _
     ·show NewBox _ (gh 13).s _
      exact ⟨by simpa [World.setCell] using hpz, fun o => by rcases o with _ | _ | _ | _ | _ | _ | _ | _ | _ | o <;> go_simp, fun o => by go_simp⟩
    ·intro gh ρ u hc hf1 hg1 hd h0 hb he ha hF
     have f11 : ∃ (B5 : Option Addr) (e5 : Nat) (B6 : Option Addr) (e6 : Nat), (gh 8).v = .tuple #[.agg #[.int .i64 (z1 + k1), .slice B5 P1.length e5, .int .i64 (z2 + k2), .slice B6 P2.length e6, .int .i64 (x.num + 2), .int .i64 (z1 + k1), .string R, .int .i64 (z2 + k2), .string S], .int .i64 nc, .int .i64 0] ∧ (gh 11).v = .int .i64 nc := by have h := hF 11 (by decide +kernel) (by decide +kernel); rw [HF.out] at h; exact h
     obtain ⟨B5, e5, B6, e6, hrt8, hv11⟩ := f11
     have r104 : ρ (.tmp 104) = .int .i64 nc := (hd 11 (by decide +kernel) 104 (by kernel_rfl)).trans hv11
     have HRT8 := Lib.hid hrt8
     clear hv11 hrt8 hd h0 he ha hF
     go_simp
     rw [HF.out]
     exact ⟨OnlyL.refl _ _, B5, e5, B6, e6, HRT8.out, rfl⟩
    ·intro gh ρ u hc hf1 hg1 hd h0 hb he ha hF
     have f12 : ∃ (B5 : Option Addr) (e5 : Nat) (B6 : Option Addr) (e6 : Nat), (gh 8).v = .tuple #[.agg #[.int .i64 (z1 + k1), .slice B5 P1.length e5, .int .i64 (z2 + k2), .slice B6 P2.length e6, .int .i64 (x.num + 2), .int .i64 (z1 + k1), .string R, .int .i64 (z2 + k2), .string S], .int .i64 nc, .int .i64 0] ∧ (gh 12).v = .int .i64 0 := by have h := hF 12 (by decide +kernel) (by decide +kernel); rw [HF.out] at h; exact h
     obtain ⟨B5, e5, B6, e6, hrt8, hv12⟩ := f12
     have r105 : ρ (.tmp 105) = .int .i64 0 := (hd 12 (by decide +kernel) 105 (by kernel_rfl)).trans hv12
     have HRT8 := Lib.hid hrt8
     clear hv12 hrt8 hd h0 he ha hF
     go_simp
     rw [HF.out]
     exact ⟨OnlyL.refl _ _, B5, e5, B6, e6, HRT8.out, rfl⟩
    intro gh w13 hB hE hA hF
    replace hB : Below w12.heap.size w12 w13 := hB.below rfl
    have f0 : (gh 0).v = .int .i64 wd := by have h := hF 0 (by decide +kernel) (by decide +kernel); rw [HF.out] at h; exact h
    have f1 : (gh 1).v = .agg #[.int .i64 (z1 + i), .slice B3 Q1.length e3, .int .i64 (z2 + k), .slice B4 Q2.length e4, .int .i64 H.num, .int .i64 H.size, .string H.root, .int .i64 H.taken, .string H.troot] := by have h := hF 1 (by decide +kernel) (by decide +kernel); rw [HF.out] at h; exact h
    have f2 : (gh 2).v = .slice X1 k1 g1 := by have h := hF 2 (by decide +kernel) (by decide +kernel); rw [HF.out] at h; exact h
    have f3 : (gh 3).v = .int .i64 (i : Int) := by have h := hF 3 (by decide +kernel) (by decide +kernel); rw [HF.out] at h; exact h
    have f4 : (gh 4).v = .slice Y1 d1 gy1 := by have h := hF 4 (by decide +kernel) (by decide +kernel); rw [HF.out] at h; exact h
    have f5 : (gh 5).v = .slice X2 k2 g2 := by have h := hF 5 (by decide +kernel) (by decide +kernel); rw [HF.out] at h; exact h
    have f6 : (gh 6).v = .int .i64 (k : Int) := by have h := hF 6 (by decide +kernel) (by decide +kernel); rw [HF.out] at h; exact h
    have f7 : (gh 7).v = .slice Y2 d2 gy2 := by have h := hF 7 (by decide +kernel) (by decide +kernel); rw [HF.out] at h; exact h
    have f8 : ∃ (B5 : Option Addr) (e5 : Nat) (B6 : Option Addr) (e6 : Nat), (gh 8).v = .tuple #[.agg #[.int .i64 (z1 + k1), .slice B5 P1.length e5, .int .i64 (z2 + k2), .slice B6 P2.length e6, .int .i64 (x.num + 2), .int .i64 (z1 + k1), .string R, .int .i64 (z2 + k2), .string S], .int .i64 nc, .int .i64 0] ∧ (Own w13 (gh 8).s (gh 8).e B5 (strs P1)) ∧ (Own w13 (gh 8).s (gh 8).e B6 (strs P2)) ∧ ((B5 = none → e5 = 0) ∧ (B6 = none → e6 = 0)) := by have h := hF 8 (by decide +kernel) (by decide +kernel); rw [HF.out] at h; exact h
    have f9 : ∃ (B5 : Option Addr) (e5 : Nat) (B6 : Option Addr) (e6 : Nat), (gh 8).v = .tuple #[.agg #[.int .i64 (z1 + k1), .slice B5 P1.length e5, .int .i64 (z2 + k2), .slice B6 P2.length e6, .int .i64 (x.num + 2), .int .i64 (z1 + k1), .string R, .int .i64 (z2 + k2), .string S], .int .i64 nc, .int .i64 0] ∧ (gh 9).v = .tuple #[.agg #[.int .i64 (z1 + k1), .slice B5 P1.length e5, .int .i64 (z2 + k2), .slice B6 P2.length e6, .int .i64 (x.num + 2), .int .i64 (z1 + k1), .string R, .int .i64 (z2 + k2), .string S], .int .i64 nc, .int .i64 0] := by have h := hF 9 (by decide +kernel) (by decide +kernel); rw [HF.out] at h; exact h
    have f10 : ∃ (B5 : Option Addr) (e5 : Nat) (B6 : Option Addr) (e6 : Nat), (gh 8).v = .tuple #[.agg #[.int .i64 (z1 + k1), .slice B5 P1.length e5, .int .i64 (z2 + k2), .slice B6 P2.length e6, .int .i64 (x.num + 2), .int .i64 (z1 + k1), .string R, .int .i64 (z2 + k2), .string S], .int .i64 nc, .int .i64 0] ∧ (gh 10).v = .agg #[.int .i64 (z1 + k1), .slice B5 P1.length e5, .int .i64 (z2 + k2), .slice B6 P2.length e6, .int .i64 (x.num + 2), .int .i64 (z1 + k1), .string R, .int .i64 (z2 + k2), .string S] := by have h := hF 10 (by decide +kernel) (by decide +kernel); rw [HF.out] at h; exact h
    have f11 : ∃ (B5 : Option Addr) (e5 : Nat) (B6 : Option Addr) (e6 : Nat), (gh 8).v = .tuple #[.agg #[.int .i64 (z1 + k1), .slice B5 P1.length e5, .int .i64 (z2 + k2), .slice B6 P2.length e6, .int .i64 (x.num + 2), .int .i64 (z1 + k1), .string R, .int .i64 (z2 + k2), .string S], .int .i64 nc, .int .i64 0] ∧ (gh 11).v = .int .i64 nc := by have h := hF 11 (by decide +kernel) (by decide +kernel); rw [HF.out] at h; exact h
    have f12 : ∃ (B5 : Option Addr) (e5 : Nat) (B6 : Option Addr) (e6 : Nat), (gh 8).v = .tuple #[.agg #[.int .i64 (z1 + k1), .slice B5 P1.length e5, .int .i64 (z2 + k2), .slice B6 P2.length e6, .int .i64 (x.num + 2), .int .i64 (z1 + k1), .string R, .int .i64 (z2 + k2), .string S], .int .i64 nc, .int .i64 0] ∧ (gh 12).v = .int .i64 0 := by have h := hF 12 (by decide +kernel) (by decide +kernel); rw [HF.out] at h; exact h
    have f14 : (gh 13).v = .pointer (some ⟨(gh 13).s, 0, none⟩) ∧ (gh 13).s < (gh 13).e ∧ ∃ (B5 : Option Addr) (e5 : Nat) (B6 : Option Addr) (e6 : Nat), (gh 8).v = .tuple #[.agg #[.int .i64 (z1 + k1), .slice B5 P1.length e5, .int .i64 (z2 + k2), .slice B6 P2.length e6, .int .i64 (x.num + 2), .int .i64 (z1 + k1), .string R, .int .i64 (z2 + k2), .string S], .int .i64 nc, .int .i64 0] ∧ NewBox w13 (gh 13).s [.int .i64 (z1 + k1), .slice B5 P1.length e5, .int .i64 (z2 + k2), .slice B6 P2.length e6, .int .i64 (x.num + 2), .int .i64 (z1 + k1), .string R, .int .i64 (z2 + k2), .string S] := by have h := hF 14 (by decide +kernel) (by decide +kernel); rw [HF.out] at h; exact h
    have f15 : ∃ (B5 : Option Addr) (e5 : Nat) (B6 : Option Addr) (e6 : Nat), (gh 8).v = .tuple #[.agg #[.int .i64 (z1 + k1), .slice B5 P1.length e5, .int .i64 (z2 + k2), .slice B6 P2.length e6, .int .i64 (x.num + 2), .int .i64 (z1 + k1), .string R, .int .i64 (z2 + k2), .string S], .int .i64 nc, .int .i64 0] ∧ (gh 15).v = .int .i64 nc := by have h := hF 15 (by decide +kernel) (by decide +kernel); rw [HF.out] at h; exact h
    have f16 : ∃ (B5 : Option Addr) (e5 : Nat) (B6 : Option Addr) (e6 : Nat), (gh 8).v = .tuple #[.agg #[.int .i64 (z1 + k1), .slice B5 P1.length e5, .int .i64 (z2 + k2), .slice B6 P2.length e6, .int .i64 (x.num + 2), .int .i64 (z1 + k1), .string R, .int .i64 (z2 + k2), .string S], .int .i64 nc, .int .i64 0] ∧ (gh 16).v = .int .i64 0 := by have h := hF 16 (by decide +kernel) (by decide +kernel); rw [HF.out] at h; exact h
    obtain ⟨B5, e5, B6, e6, hv8, ho5, ho6, hnn5⟩ := f8
    have hv0 := f0
    have hv1 := f1
    have hv2 := f2
    have hv3 := f3
    have hv4 := f4
    have hv5 := f5
    have hv6 := f6
    have hv7 := f7
    obtain ⟨B5_9, e5_9, B6_9, e6_9, hu8, hv9⟩ := f9
    replace hu8 := hv8.symm.trans hu8
    simp at hu8
    try simp only [and_assoc] at hu8
    obtain ⟨rfl, rfl, rfl, rfl⟩ := hu8
    obtain ⟨B5_10, e5_10, B6_10, e6_10, hu8, hv10⟩ := f10
    replace hu8 := hv8.symm.trans hu8
    simp at hu8
    try simp only [and_assoc] at hu8
    obtain ⟨rfl, rfl, rfl, rfl⟩ := hu8
    obtain ⟨B5_11, e5_11, B6_11, e6_11, hu8, hv11⟩ := f11
    replace hu8 := hv8.symm.trans hu8
    simp at hu8
    try simp only [and_assoc] at hu8
    obtain ⟨rfl, rfl, rfl, rfl⟩ := hu8
    obtain ⟨B5_12, e5_12, B6_12, e6_12, hu8, hv12⟩ := f12
    replace hu8 := hv8.symm.trans hu8
    simp at hu8
    try simp only [and_assoc] at hu8
    obtain ⟨rfl, rfl, rfl, rfl⟩ := hu8
    obtain ⟨hv13, hl13, f14⟩ := f14
    obtain ⟨B5_14, e5_14, B6_14, e6_14, hu8, hx14⟩ := f14
    replace hu8 := hv8.symm.trans hu8
    simp at hu8
    try simp only [and_assoc] at hu8
    obtain ⟨rfl, rfl, rfl, rfl⟩ := hu8
    obtain ⟨B5_15, e5_15, B6_15, e6_15, hu8, hv15⟩ := f15
    replace hu8 := hv8.symm.trans hu8
    simp at hu8
    try simp only [and_assoc] at hu8
    obtain ⟨rfl, rfl, rfl, rfl⟩ := hu8
    obtain ⟨B5_16, e5_16, B6_16, e6_16, hu8, hv16⟩ := f16
    replace hu8 := hv8.symm.trans hu8
    simp at hu8
    try simp only [and_assoc] at hu8
    obtain ⟨rfl, rfl, rfl, rfl⟩ := hu8
    obtain ⟨hs8, hse8, he8⟩ := hE 8 (by decide +kernel)
    obtain ⟨hs13, hse13, he13⟩ := hE 13 (by decide +kernel)
    have hdj13_8_13 := hA 8 (by decide +kernel) 13 (by decide +kernel) (by decide)
    change w12.heap.size ≤ _ at hs8 hs13
    clear hE hA hF
    simp only [putDs, Nat.reduceAdd, hv0, hv1, hv2, hv3, hv4, hv5, hv6, hv7, hv8, hv9, hv10, hv11, hv12, hv13, hv15, hv16]
    clear hv0 hv1 hv2 hv3 hv4 hv5 hv6 hv7 hv8 hv9 hv10 hv11 hv12 hv13 hv15 hv16
    generalize (gh 8).s = s13_8 at *
    generalize (gh 8).e = e13_8 at *
    generalize (gh 13).s = s13_13 at *
    generalize (gh 13).e = e13_13 at *
    clear HF
    have hb := hB
    clear hB
    have hzw13 : w12.heap.size ≤ w13.heap.size := hb.size
    have hzzw13 : w.heap.size ≤ w13.heap.size := by omega
    replace HB := Lib.hid (below_then HB.out hb HB.out.size)
    replace HOS1 := Lib.hid (HOS1.out.below hb)
    replace HOS2 := Lib.hid (HOS2.out.below hb)
    replace HOU := Lib.hid (HOU.out.below hb)
    replace HOV := Lib.hid (HOV.out.below hb)
    replace HOD1 := Lib.hid (HOD1.out.below hb)
    replace HOD2 := Lib.hid (HOD2.out.below hb)
    replace HOF1 := Lib.hid (HOF1.out.below hb)
    replace HOF2 := Lib.hid (HOF2.out.below hb)
    replace HXs := Lib.hid (HXs.out.below hb)
    clear hxs hfs hks
    have hxs := HXs.out.2.1
    have hfs := HXs.out.2.2
    have hks := HXs.out.1
    replace HXa := Lib.hid (HXa.out.below hb)
    clear hxa hfa hka
    have hxa := HXa.out.2.1
    have hfa := HXa.out.2.2
    have hka := HXa.out.1
    replace HXb := Lib.hid (HXb.out.below hb)
    clear hxb hfb hkb
    have hxb := HXb.out.2.1
    have hfb := HXb.out.2.2
    have hkb := HXb.out.1
    clear hb
    have HXc : Hid (NewBox w13 (s13_13) [.int .i64 (z1 + k1), .slice B5 P1.length e5, .int .i64 (z2 + k2), .slice B6 P2.length e6, .int .i64 (x.num + 2), .int .i64 (z1 + k1), .string R, .int .i64 (z2 + k2), .string S]) := hx14
    have hxc := HXc.out.2.1
    have hfc := HXc.out.2.2
    have hkc := HXc.out.1
    clear hx14
    have HOG1 : Hid (Rd w13 (0) (w13.heap.size) (B5) (strs P1)) := Lib.hid ho5.rd.base
    have HOG2 : Hid (Rd w13 (0) (w13.heap.size) (B6) (strs P2)) := Lib.hid ho6.rd.base
    clear ho5 ho6 hnn5 HSC ES3 ES4 HNN
    clear HOS1
    clear HOS2
    clear HOU
    clear HOV
    clear HOF1
    clear HOF2
    clear hxb hfb hkb HXb
    go_wp2_with fail
    refine calls_named (fun w14 hw => ?_)
    have hz14 : w13.heap.size + 0 ≤ w14.heap.size := by rw [hw]; first | omega | (simp [World.setCell]; done) | (simp [World.setCell]; omega)
    have hzz14 : w.heap.size ≤ w14.heap.size := by omega
    have hbn : Below w13.heap.size w13 w14 := by rw [hw]; exact (by ((repeat (first | ((with_reducible refine Below.alloc ?_ ?_ _); rotate_left 1; (focus (first | omega | (simp; done) | (simp; omega)))) | (with_reducible refine Below.drew ?_) | ((with_reducible refine Below.setCell ?_ ?_ _); rotate_left 1; (focus (first | omega | (simp; done) | (simp; omega)))))); exact Below.refl _ _))
    replace HB := Lib.hid (below_then HB.out hbn HB.out.size)
    replace HOD1 := Lib.hid (HOD1.out.below hbn)
    replace HOD2 := Lib.hid (HOD2.out.below hbn)
    replace HOG1 := Lib.hid (HOG1.out.below hbn)
    replace HOG2 := Lib.hid (HOG2.out.below hbn)
    replace HXs := Lib.hid (HXs.out.below hbn)
    clear hxs hfs hks
    have hxs := HXs.out.2.1
    have hfs := HXs.out.2.2
    have hks := HXs.out.1
    replace HXa := Lib.hid (HXa.out.below hbn)
    clear hxa hfa hka
    have hxa := HXa.out.2.1
    have hfa := HXa.out.2.2
    have hka := HXa.out.1
    replace HXc := Lib.hid (HXc.out.below hbn)
    clear hxc hfc hkc
    have hxc := HXc.out.2.1
    have hfc := HXc.out.2.2
    have hkc := HXc.out.1
    clear hbn
    clear hw
    refine (HRT.out _ B1 e1 B5 e5 HOD1.out.base HOG1.out.base).mono ?_
    rintro e w15 ⟨rfl, hb⟩
    have hzw15 : w14.heap.size ≤ w15.heap.size := hb.size
    have hzzw15 : w.heap.size ≤ w15.heap.size := by omega
    replace HB := Lib.hid (below_then HB.out hb HB.out.size)
    replace HOD1 := Lib.hid (HOD1.out.below hb)
    replace HOD2 := Lib.hid (HOD2.out.below hb)
    replace HOG1 := Lib.hid (HOG1.out.below hb)
    replace HOG2 := Lib.hid (HOG2.out.below hb)
    replace HXs := Lib.hid (HXs.out.below hb)
    clear hxs hfs hks
    have hxs := HXs.out.2.1
    have hfs := HXs.out.2.2
    have hks := HXs.out.1
    replace HXa := Lib.hid (HXa.out.below hb)
    clear hxa hfa hka
    have hxa := HXa.out.2.1
    have hfa := HXa.out.2.2
    have hka := HXa.out.1
    replace HXc := Lib.hid (HXc.out.below hb)
    clear hxc hfc hkc
    have hxc := HXc.out.2.1
    have hfc := HXc.out.2.2
    have hkc := HXc.out.1
    clear hb
    go_wp2_with fail
    refine calls_named (fun w16 hw => ?_)
    have hz16 : w15.heap.size + 0 ≤ w16.heap.size := by rw [hw]; first | omega | (simp [World.setCell]; done) | (simp [World.setCell]; omega)
    have hzz16 : w.heap.size ≤ w16.heap.size := by omega
    have hbn : Below w15.heap.size w15 w16 := by rw [hw]; exact (by ((repeat (first | ((with_reducible refine Below.alloc ?_ ?_ _); rotate_left 1; (focus (first | omega | (simp; done) | (simp; omega)))) | (with_reducible refine Below.drew ?_) | ((with_reducible refine Below.setCell ?_ ?_ _); rotate_left 1; (focus (first | omega | (simp; done) | (simp; omega)))))); exact Below.refl _ _))
    replace HB := Lib.hid (below_then HB.out hbn HB.out.size)
    replace HOD1 := Lib.hid (HOD1.out.below hbn)
    replace HOD2 := Lib.hid (HOD2.out.below hbn)
    replace HOG1 := Lib.hid (HOG1.out.below hbn)
    replace HOG2 := Lib.hid (HOG2.out.below hbn)
    replace HXs := Lib.hid (HXs.out.below hbn)
    clear hxs hfs hks
    have hxs := HXs.out.2.1
    have hfs := HXs.out.2.2
    have hks := HXs.out.1
    replace HXa := Lib.hid (HXa.out.below hbn)
    clear hxa hfa hka
    have hxa := HXa.out.2.1
    have hfa := HXa.out.2.2
    have hka := HXa.out.1
    replace HXc := Lib.hid (HXc.out.below hbn)
    clear hxc hfc hkc
    have hxc := HXc.out.2.1
    have hfc := HXc.out.2.2
    have hkc := HXc.out.1
    clear hbn
    clear hw
    refine (HRU.out _ B2 e2 B6 e6 HOD2.out.base HOG2.out.base).mono ?_
    rintro e w17 ⟨rfl, hb⟩
    have hzw17 : w16.heap.size ≤ w17.heap.size := hb.size
    have hzzw17 : w.heap.size ≤ w17.heap.size := by omega
    replace HB := Lib.hid (below_then HB.out hb HB.out.size)
    replace HOD1 := Lib.hid (HOD1.out.below hb)
    replace HOD2 := Lib.hid (HOD2.out.below hb)
    replace HOG1 := Lib.hid (HOG1.out.below hb)
    replace HOG2 := Lib.hid (HOG2.out.below hb)
    replace HXs := Lib.hid (HXs.out.below hb)
    clear hxs hfs hks
    have hxs := HXs.out.2.1
    have hfs := HXs.out.2.2
    have hks := HXs.out.1
    replace HXa := Lib.hid (HXa.out.below hb)
    clear hxa hfa hka
    have hxa := HXa.out.2.1
    have hfa := HXa.out.2.2
    have hka := HXa.out.1
    replace HXc := Lib.hid (HXc.out.below hb)
    clear hxc hfc hkc
    have hxc := HXc.out.2.1
    have hfc := HXc.out.2.2
    have hkc := HXc.out.1
    clear hb
    clear HRT HRU
    go_wp2_with fail
    refine calls_named (fun w18 hw => ?_)
    have hz18 : w17.heap.size + 0 ≤ w18.heap.size := by rw [hw]; first | omega | (simp [World.setCell]; done) | (simp [World.setCell]; omega)
    have hzz18 : w.heap.size ≤ w18.heap.size := by omega
    have hbn : Below w17.heap.size w17 w18 := by rw [hw]; exact (by ((repeat (first | ((with_reducible refine Below.alloc ?_ ?_ _); rotate_left 1; (focus (first | omega | (simp; done) | (simp; omega)))) | (with_reducible refine Below.drew ?_) | ((with_reducible refine Below.setCell ?_ ?_ _); rotate_left 1; (focus (first | omega | (simp; done) | (simp; omega)))))); exact Below.refl _ _))
    replace HB := Lib.hid (below_then HB.out hbn HB.out.size)
    replace HOD1 := Lib.hid (HOD1.out.below hbn)
    replace HOD2 := Lib.hid (HOD2.out.below hbn)
    replace HOG1 := Lib.hid (HOG1.out.below hbn)
    replace HOG2 := Lib.hid (HOG2.out.below hbn)
    replace HXs := Lib.hid (HXs.out.below hbn)
    clear hxs hfs hks
    have hxs := HXs.out.2.1
    have hfs := HXs.out.2.2
    have hks := HXs.out.1
    replace HXa := Lib.hid (HXa.out.below hbn)
    clear hxa hfa hka
    have hxa := HXa.out.2.1
    have hfa := HXa.out.2.2
    have hka := HXa.out.1
    replace HXc := Lib.hid (HXc.out.below hbn)
    clear hxc hfc hkc
    have hxc := HXc.out.2.1
    have hfc := HXc.out.2.2
    have hkc := HXc.out.1
    clear hbn
    clear hw
    refine (HC1.out _).mono ?_
    rintro e w19 ⟨rfl, hb⟩
    have hzw19 : w18.heap.size ≤ w19.heap.size := hb.size
    have hzzw19 : w.heap.size ≤ w19.heap.size := by omega
    replace HB := Lib.hid (below_then HB.out hb HB.out.size)
    replace HOD1 := Lib.hid (HOD1.out.below hb)
    replace HOD2 := Lib.hid (HOD2.out.below hb)
    replace HOG1 := Lib.hid (HOG1.out.below hb)
    replace HOG2 := Lib.hid (HOG2.out.below hb)
    replace HXs := Lib.hid (HXs.out.below hb)
    clear hxs hfs hks
    have hxs := HXs.out.2.1
    have hfs := HXs.out.2.2
    have hks := HXs.out.1
    replace HXa := Lib.hid (HXa.out.below hb)
    clear hxa hfa hka
    have hxa := HXa.out.2.1
    have hfa := HXa.out.2.2
    have hka := HXa.out.1
    replace HXc := Lib.hid (HXc.out.below hb)
    clear hxc hfc hkc
    have hxc := HXc.out.2.1
    have hfc := HXc.out.2.2
    have hkc := HXc.out.1
    clear hb
    go_wp2_with fail
    refine calls_named (fun w20 hw => ?_)
    have hz20 : w19.heap.size + 0 ≤ w20.heap.size := by rw [hw]; first | omega | (simp [World.setCell]; done) | (simp [World.setCell]; omega)
    have hzz20 : w.heap.size ≤ w20.heap.size := by omega
    have hbn : Below w19.heap.size w19 w20 := by rw [hw]; exact (by ((repeat (first | ((with_reducible refine Below.alloc ?_ ?_ _); rotate_left 1; (focus (first | omega | (simp; done) | (simp; omega)))) | (with_reducible refine Below.drew ?_) | ((with_reducible refine Below.setCell ?_ ?_ _); rotate_left 1; (focus (first | omega | (simp; done) | (simp; omega)))))); exact Below.refl _ _))
    replace HB := Lib.hid (below_then HB.out hbn HB.out.size)
    replace HOD1 := Lib.hid (HOD1.out.below hbn)
    replace HOD2 := Lib.hid (HOD2.out.below hbn)
    replace HOG1 := Lib.hid (HOG1.out.below hbn)
    replace HOG2 := Lib.hid (HOG2.out.below hbn)
    replace HXs := Lib.hid (HXs.out.below hbn)
    clear hxs hfs hks
    have hxs := HXs.out.2.1
    have hfs := HXs.out.2.2
    have hks := HXs.out.1
    replace HXa := Lib.hid (HXa.out.below hbn)
    clear hxa hfa hka
    have hxa := HXa.out.2.1
    have hfa := HXa.out.2.2
    have hka := HXa.out.1
    replace HXc := Lib.hid (HXc.out.below hbn)
    clear hxc hfc hkc
    have hxc := HXc.out.2.1
    have hfc := HXc.out.2.2
    have hkc := HXc.out.1
    clear hbn
    clear hw
    refine (HC2.out _).mono ?_
    rintro e w21 ⟨rfl, hb⟩
    have hzw21 : w20.heap.size ≤ w21.heap.size := hb.size
    have hzzw21 : w.heap.size ≤ w21.heap.size := by omega
    replace HB := Lib.hid (below_then HB.out hb HB.out.size)
    replace HOD1 := Lib.hid (HOD1.out.below hb)
    replace HOD2 := Lib.hid (HOD2.out.below hb)
    replace HOG1 := Lib.hid (HOG1.out.below hb)
    replace HOG2 := Lib.hid (HOG2.out.below hb)
    replace HXs := Lib.hid (HXs.out.below hb)
    clear hxs hfs hks
    have hxs := HXs.out.2.1
    have hfs := HXs.out.2.2
    have hks := HXs.out.1
    replace HXa := Lib.hid (HXa.out.below hb)
    clear hxa hfa hka
    have hxa := HXa.out.2.1
    have hfa := HXa.out.2.2
    have hka := HXa.out.1
    replace HXc := Lib.hid (HXc.out.below hb)
    clear hxc hfc hkc
    have hxc := HXc.out.2.1
    have hfc := HXc.out.2.2
    have hkc := HXc.out.1
    clear hb
    go_wp2_with fail
    refine calls_named (fun w22 hw => ?_)
    have hz22 : w21.heap.size + 0 ≤ w22.heap.size := by rw [hw]; first | omega | (simp [World.setCell]; done) | (simp [World.setCell]; omega)
    have hzz22 : w.heap.size ≤ w22.heap.size := by omega
    have hbn : Below w21.heap.size w21 w22 := by rw [hw]; exact (by ((repeat (first | ((with_reducible refine Below.alloc ?_ ?_ _); rotate_left 1; (focus (first | omega | (simp; done) | (simp; omega)))) | (with_reducible refine Below.drew ?_) | ((with_reducible refine Below.setCell ?_ ?_ _); rotate_left 1; (focus (first | omega | (simp; done) | (simp; omega)))))); exact Below.refl _ _))
    replace HB := Lib.hid (below_then HB.out hbn HB.out.size)
    replace HOD1 := Lib.hid (HOD1.out.below hbn)
    replace HOD2 := Lib.hid (HOD2.out.below hbn)
    replace HOG1 := Lib.hid (HOG1.out.below hbn)
    replace HOG2 := Lib.hid (HOG2.out.below hbn)
    replace HXs := Lib.hid (HXs.out.below hbn)
    clear hxs hfs hks
    have hxs := HXs.out.2.1
    have hfs := HXs.out.2.2
    have hks := HXs.out.1
    replace HXa := Lib.hid (HXa.out.below hbn)
    clear hxa hfa hka
    have hxa := HXa.out.2.1
    have hfa := HXa.out.2.2
    have hka := HXa.out.1
    replace HXc := Lib.hid (HXc.out.below hbn)
    clear hxc hfc hkc
    have hxc := HXc.out.2.1
    have hfc := HXc.out.2.2
    have hkc := HXc.out.1
    clear hbn
    clear hw
    refine (HC3.out _).mono ?_
    rintro e w23 ⟨rfl, hb⟩
    have hzw23 : w22.heap.size ≤ w23.heap.size := hb.size
    have hzzw23 : w.heap.size ≤ w23.heap.size := by omega
    replace HB := Lib.hid (below_then HB.out hb HB.out.size)
    replace HOD1 := Lib.hid (HOD1.out.below hb)
    replace HOD2 := Lib.hid (HOD2.out.below hb)
    replace HOG1 := Lib.hid (HOG1.out.below hb)
    replace HOG2 := Lib.hid (HOG2.out.below hb)
    replace HXs := Lib.hid (HXs.out.below hb)
    clear hxs hfs hks
    have hxs := HXs.out.2.1
    have hfs := HXs.out.2.2
    have hks := HXs.out.1
    replace HXa := Lib.hid (HXa.out.below hb)
    clear hxa hfa hka
    have hxa := HXa.out.2.1
    have hfa := HXa.out.2.2
    have hka := HXa.out.1
    replace HXc := Lib.hid (HXc.out.below hb)
    clear hxc hfc hkc
    have hxc := HXc.out.2.1
    have hfc := HXc.out.2.2
    have hkc := HXc.out.1
    clear hb
    go_wp2_with fail
    refine calls_named (fun w24 hw => ?_)
    have hz24 : w23.heap.size + 0 ≤ w24.heap.size := by rw [hw]; first | omega | (simp [World.setCell]; done) | (simp [World.setCell]; omega)
    have hzz24 : w.heap.size ≤ w24.heap.size := by omega
    have hbn : Below w23.heap.size w23 w24 := by rw [hw]; exact (by ((repeat (first | ((with_reducible refine Below.alloc ?_ ?_ _); rotate_left 1; (focus (first | omega | (simp; done) | (simp; omega)))) | (with_reducible refine Below.drew ?_) | ((with_reducible refine Below.setCell ?_ ?_ _); rotate_left 1; (focus (first | omega | (simp; done) | (simp; omega)))))); exact Below.refl _ _))
    replace HB := Lib.hid (below_then HB.out hbn HB.out.size)
    replace HOD1 := Lib.hid (HOD1.out.below hbn)
    replace HOD2 := Lib.hid (HOD2.out.below hbn)
    replace HOG1 := Lib.hid (HOG1.out.below hbn)
    replace HOG2 := Lib.hid (HOG2.out.below hbn)
    replace HXs := Lib.hid (HXs.out.below hbn)
    clear hxs hfs hks
    have hxs := HXs.out.2.1
    have hfs := HXs.out.2.2
    have hks := HXs.out.1
    replace HXa := Lib.hid (HXa.out.below hbn)
    clear hxa hfa hka
    have hxa := HXa.out.2.1
    have hfa := HXa.out.2.2
    have hka := HXa.out.1
    replace HXc := Lib.hid (HXc.out.below hbn)
    clear hxc hfc hkc
    have hxc := HXc.out.2.1
    have hfc := HXc.out.2.2
    have hkc := HXc.out.1
    clear hbn
    clear hw
    refine (HOA.out B1 e1 B2 e2 _ HOD1.out.base HOD2.out.base).mono ?_
    rintro e w25 ⟨rfl, hb⟩
    have hzw25 : w24.heap.size ≤ w25.heap.size := hb.size
    have hzzw25 : w.heap.size ≤ w25.heap.size := by omega
    replace HB := Lib.hid (below_then HB.out hb HB.out.size)
    replace HOD1 := Lib.hid (HOD1.out.below hb)
    replace HOD2 := Lib.hid (HOD2.out.below hb)
    replace HOG1 := Lib.hid (HOG1.out.below hb)
    replace HOG2 := Lib.hid (HOG2.out.below hb)
    replace HXs := Lib.hid (HXs.out.below hb)
    clear hxs hfs hks
    have hxs := HXs.out.2.1
    have hfs := HXs.out.2.2
    have hks := HXs.out.1
    replace HXa := Lib.hid (HXa.out.below hb)
    clear hxa hfa hka
    have hxa := HXa.out.2.1
    have hfa := HXa.out.2.2
    have hka := HXa.out.1
    replace HXc := Lib.hid (HXc.out.below hb)
    clear hxc hfc hkc
    have hxc := HXc.out.2.1
    have hfc := HXc.out.2.2
    have hkc := HXc.out.1
    clear hb
    go_wp2_with fail
    refine calls_named (fun w26 hw => ?_)
    have hz26 : w25.heap.size + 0 ≤ w26.heap.size := by rw [hw]; first | omega | (simp [World.setCell]; done) | (simp [World.setCell]; omega)
    have hzz26 : w.heap.size ≤ w26.heap.size := by omega
    have hbn : Below w25.heap.size w25 w26 := by rw [hw]; exact (by ((repeat (first | ((with_reducible refine Below.alloc ?_ ?_ _); rotate_left 1; (focus (first | omega | (simp; done) | (simp; omega)))) | (with_reducible refine Below.drew ?_) | ((with_reducible refine Below.setCell ?_ ?_ _); rotate_left 1; (focus (first | omega | (simp; done) | (simp; omega)))))); exact Below.refl _ _))
    replace HB := Lib.hid (below_then HB.out hbn HB.out.size)
    replace HOD1 := Lib.hid (HOD1.out.below hbn)
    replace HOD2 := Lib.hid (HOD2.out.below hbn)
    replace HOG1 := Lib.hid (HOG1.out.below hbn)
    replace HOG2 := Lib.hid (HOG2.out.below hbn)
    replace HXs := Lib.hid (HXs.out.below hbn)
    clear hxs hfs hks
    have hxs := HXs.out.2.1
    have hfs := HXs.out.2.2
    have hks := HXs.out.1
    replace HXa := Lib.hid (HXa.out.below hbn)
    clear hxa hfa hka
    have hxa := HXa.out.2.1
    have hfa := HXa.out.2.2
    have hka := HXa.out.1
    replace HXc := Lib.hid (HXc.out.below hbn)
    clear hxc hfc hkc
    have hxc := HXc.out.2.1
    have hfc := HXc.out.2.2
    have hkc := HXc.out.1
    clear hbn
    clear hw
    refine (HOB.out B5 e5 B6 e6 _ HOG1.out.base HOG2.out.base).mono ?_
    rintro e w27 ⟨rfl, hb⟩
    have hzw27 : w26.heap.size ≤ w27.heap.size := hb.size
    have hzzw27 : w.heap.size ≤ w27.heap.size := by omega
    replace HB := Lib.hid (below_then HB.out hb HB.out.size)
    replace HOD1 := Lib.hid (HOD1.out.below hb)
    replace HOD2 := Lib.hid (HOD2.out.below hb)
    replace HOG1 := Lib.hid (HOG1.out.below hb)
    replace HOG2 := Lib.hid (HOG2.out.below hb)
    replace HXs := Lib.hid (HXs.out.below hb)
    clear hxs hfs hks
    have hxs := HXs.out.2.1
    have hfs := HXs.out.2.2
    have hks := HXs.out.1
    replace HXa := Lib.hid (HXa.out.below hb)
    clear hxa hfa hka
    have hxa := HXa.out.2.1
    have hfa := HXa.out.2.2
    have hka := HXa.out.1
    replace HXc := Lib.hid (HXc.out.below hb)
    clear hxc hfc hkc
    have hxc := HXc.out.2.1
    have hfc := HXc.out.2.2
    have hkc := HXc.out.1
    clear hb
    go_wp2
    go_ret
    exact ⟨rfl, HB.out⟩
end Go.Proofs.Ytoccjgcokffkbaa
