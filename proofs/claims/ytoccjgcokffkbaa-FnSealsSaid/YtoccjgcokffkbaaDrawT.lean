/- Draws of lists and of ranges. -/
import Derived.Test.YtoccjgcokffkbaaDrawK
import Derived.Test.YtoccjgcokffkbaaRowB
import Derived.Test.YtoccjgcokffkbaaPks
import Derived.Deep.RegionLaw
import Derived.StillTailTactics
namespace Go.Proofs.Ytoccjgcokffkbaa
set_option linter.unusedVariables false
set_option linter.unusedSimpArgs false
open Go.RowKit

theorem rowB_tight {w : World} {lo g n cap m : Nat} {xs : List Value} (h : w.ownsRow lo 9 1 (.slice (some ⟨g, 0, none⟩) n cap) m xs) : RowB w g (g + 1) (.slice (some ⟨g, 0, none⟩) n cap, m) xs ∧ lo ≤ g := by
 refine ⟨⟨⟨h.1, ?_⟩, fun k hk => by have hk' : g = k := (by injection hk); show k < g + 1; omega⟩, (h.lt g rfl).1⟩
 rcases h.2 with ⟨e, _⟩ | ⟨g', cap', cur, e, h5, h6⟩
 ·cases e
 ·cases e; exact .inr ⟨g, cap, cur, rfl, Nat.le_refl _, h6⟩
def Lst40 (w : World) (lo : Nat) (A : Option Addr) (m c N : Nat) (ss : List ByteArray) : Prop := ss.length = m ∧ m ≤ N ∧ (∀ s ∈ ss, s.size ≤ 100) ∧ m ≤ c ∧ (A = none → c = 0) ∧ Own w lo w.heap.size A (strs ss)
theorem Lst40.of {w : World} {lo : Nat} {A : Option Addr} {m c N : Nat} {ss : List ByteArray} (h1 : ss.length = m) (h2 : m ≤ N) (h3 : ∀ s ∈ ss, s.size ≤ 100) (h : w.ownsRow lo 9 1 (.slice A m c) m (strs ss)) : Lst40 w lo A m c N ss := by
 obtain ⟨_, _, he, k1, k2, k3⟩ := ownsRow_slice h
 cases he
 exact ⟨h1, h2, h3, k1, k2, k3⟩
set_option maxRecDepth 100000 in
set_option maxHeartbeats 400000 in
theorem l04Leaves_c {w : World} {p n g : Nat} {B : Option Addr} {l : List Int} (h : Code w p B n g 0 p l) (hp : p < w.heap.size) (wd : Int) :
  Calls Try.prog 55 #[.pointer (some ⟨p, 0, none⟩), .int .i64 wd] w fun e w' => ∃ (A : Option Addr) (c m : Nat) (ss : List ByteArray), e = .returned (.slice A m c) ∧ Lst40 w' w.heap.size A m c 513 ss ∧ Code w' p B n g 0 p l ∧ Only p (p + 1) w w' := by
 have HB : Hid (Only (p) (p + 1) w w) := Only.refl _ _ _
 have HOC : Hid (CodeK w (0) (p + 1) ((B, n, g)) (l)) := Lib.hid (CodeK.mk_ h)
 clear h
 go_enter Try.func55, Try.ntmps55
 go_wp2_with fail
 refine calls_named (fun w1 hw => ?_)
 have hz1 : w.heap.size + 0 ≤ w1.heap.size := by rw [hw]; first | omega | (simp [World.setCell]; done) | (simp [World.setCell]; omega)
 have hbn : Below w.heap.size w w1 := by rw [hw]; exact (by ((repeat (first | ((with_reducible refine Below.alloc ?_ ?_ _); rotate_left 1; (focus (first | omega | (simp; done) | (simp; omega)))) | (with_reducible refine Below.drew ?_) | ((with_reducible refine Below.setCell ?_ ?_ _); rotate_left 1; (focus (first | omega | (simp; done) | (simp; omega)))))); exact Below.refl _ _))
 replace HB := Lib.hid (HB.out.trans (Only.of_below hbn))
 replace HOC := Lib.hid (HOC.out.below hbn)
 clear hbn
 clear hw
 refine (l04Few_c (CodeK.get HOC.out)).mono ?_
 rintro e w2 ⟨k, rfl, hk, hc, hb⟩
 have hzw2 : w1.heap.size ≤ w2.heap.size := hb.size
 have hzzw2 : w.heap.size ≤ w2.heap.size := by omega
 replace HB : Hid (Only (p) (p + 1) w w2) := Lib.hid (by first | exact HB.out.trans hb | exact only_two HB.out hb (by omega))
 clear hb
 clear HOC
 have HOC : Hid (CodeK w2 (0) (p + 1) ((B, n, g)) (l)) := Lib.hid (CodeK.mk_ hc)
 clear hc
 go_wp2_with fail
 refine calls_named (fun w3 hw => ?_)
 have hz3 : w2.heap.size + 0 ≤ w3.heap.size := by rw [hw]; first | omega | (simp [World.setCell]; done) | (simp [World.setCell]; omega)
 have hzz3 : w.heap.size ≤ w3.heap.size := by omega
 have hbn : Below w2.heap.size w2 w3 := by rw [hw]; exact (by ((repeat (first | ((with_reducible refine Below.alloc ?_ ?_ _); rotate_left 1; (focus (first | omega | (simp; done) | (simp; omega)))) | (with_reducible refine Below.drew ?_) | ((with_reducible refine Below.setCell ?_ ?_ _); rotate_left 1; (focus (first | omega | (simp; done) | (simp; omega)))))); exact Below.refl _ _))
 replace HB := Lib.hid (HB.out.trans (Only.of_below hbn))
 replace HOC := Lib.hid (HOC.out.below hbn)
 clear hbn
 clear hw
 refine (l01Once_c (CodeK.get HOC.out) 40 (by omega) (by omega)).mono ?_
 rintro e w4 ⟨b, rfl, hc, hb⟩
 have hzw4 : w3.heap.size ≤ w4.heap.size := hb.size
 have hzzw4 : w.heap.size ≤ w4.heap.size := by omega
 replace HB : Hid (Only (p) (p + 1) w w4) := Lib.hid (by first | exact HB.out.trans hb | exact only_two HB.out hb (by omega))
 clear hb
 clear HOC
 have HOC : Hid (CodeK w4 (0) (p + 1) ((B, n, g)) (l)) := Lib.hid (CodeK.mk_ hc)
 clear hc
 rcases b with _ | _
 ·skip
  go_wp2_with fail
  refine calls_named (fun w5 hw => ?_)
  have hz5 : w4.heap.size + 0 ≤ w5.heap.size := by rw [hw]; first | omega | (simp [World.setCell]; done) | (simp [World.setCell]; omega)
  have hzz5 : w.heap.size ≤ w5.heap.size := by omega
  have hbn : Below w4.heap.size w4 w5 := by rw [hw]; exact (by ((repeat (first | ((with_reducible refine Below.alloc ?_ ?_ _); rotate_left 1; (focus (first | omega | (simp; done) | (simp; omega)))) | (with_reducible refine Below.drew ?_) | ((with_reducible refine Below.setCell ?_ ?_ _); rotate_left 1; (focus (first | omega | (simp; done) | (simp; omega)))))); exact Below.refl _ _))
  replace HB := Lib.hid (HB.out.trans (Only.of_below hbn))
  replace HOC := Lib.hid (HOC.out.below hbn)
  clear hbn
  clear hw
  refine (l04List_c (CodeK.get HOC.out) (by omega) wd k (by omega)).mono ?_
  rintro e w6 ⟨A, c, ss, rfl, ⟨hsl, hss, how⟩, hc, hb⟩
  have hzw6 : w5.heap.size ≤ w6.heap.size := hb.size
  have hzzw6 : w.heap.size ≤ w6.heap.size := by omega
  replace HB : Hid (Only (p) (p + 1) w w6) := Lib.hid (by first | exact HB.out.trans hb | exact only_two HB.out hb (by omega))
  clear hb
  clear HOC
  have HOC : Hid (CodeK w6 (0) (p + 1) ((B, n, g)) (l)) := Lib.hid (CodeK.mk_ hc)
  clear hc
  have HOR : Hid (RowB w6 (w5.heap.size) (w6.heap.size) ((.slice A k c, k)) (strs ss)) := Lib.hid (RowB.of how)
  have HSL := Lib.hid hsl
  have HSS := Lib.hid hss
  clear hsl hss how
  go_wp2_with fail
  refine calls_named (fun w7 hw => ?_)
  have hz7 : w6.heap.size + 0 ≤ w7.heap.size := by rw [hw]; first | omega | (simp [World.setCell]; done) | (simp [World.setCell]; omega)
  have hzz7 : w.heap.size ≤ w7.heap.size := by omega
  have hbn : Below w6.heap.size w6 w7 := by rw [hw]; exact (by ((repeat (first | ((with_reducible refine Below.alloc ?_ ?_ _); rotate_left 1; (focus (first | omega | (simp; done) | (simp; omega)))) | (with_reducible refine Below.drew ?_) | ((with_reducible refine Below.setCell ?_ ?_ _); rotate_left 1; (focus (first | omega | (simp; done) | (simp; omega)))))); exact Below.refl _ _))
  replace HB := Lib.hid (HB.out.trans (Only.of_below hbn))
  replace HOC := Lib.hid (HOC.out.below hbn)
  replace HOR := Lib.hid (HOR.out.below hbn)
  clear hbn
  clear hw
  refine (l01Once_c (CodeK.get HOC.out) 25 (by omega) (by omega)).mono ?_
  rintro e w8 ⟨b2, rfl, hc, hb⟩
  have hzw8 : w7.heap.size ≤ w8.heap.size := hb.size
  have hzzw8 : w.heap.size ≤ w8.heap.size := by omega
  replace HB : Hid (Only (p) (p + 1) w w8) := Lib.hid (by first | exact HB.out.trans hb | exact only_two HB.out hb (by omega))
  replace HOR := Lib.hid (HOR.out.only hb (by first | omega | (simp; omega)))
  clear hb
  clear HOC
  have HOC : Hid (CodeK w8 (0) (p + 1) ((B, n, g)) (l)) := Lib.hid (CodeK.mk_ hc)
  clear hc
  rcases b2 with _ | _
  ·skip
   go_wp2
   go_ret
   exact ⟨A, c, k, ss, rfl, Lst40.of HSL.out (by omega) (fun s hs => Nat.le_trans (HSS.out s hs) (by omega)) (row_mono HOR.out.1 (by omega)), CodeK.get HOC.out, HB.out⟩
  ·rcases Nat.eq_zero_or_pos k with h0 | h0
   ·have hd : decide ((0 : Int) < (k : Int)) = false := decide_eq_false (by omega)
    have hd2 : decide (0 < k) = false := decide_eq_false (by omega)
    have hd3 : ¬ 0 < k := by omega
    clear h0
    go_wp2
    go_ret
    exact ⟨A, c, k, ss, rfl, Lst40.of HSL.out (by omega) (fun s hs => Nat.le_trans (HSS.out s hs) (by omega)) (row_mono HOR.out.1 (by omega)), CodeK.get HOC.out, HB.out⟩
   ·have hd : decide ((0 : Int) < (k : Int)) = true := decide_eq_true (by omega)
    go_wp2_with fail
    refine calls_named (fun w9 hw => ?_)
    have hz9 : w8.heap.size + 0 ≤ w9.heap.size := by rw [hw]; first | omega | (simp [World.setCell]; done) | (simp [World.setCell]; omega)
    have hzz9 : w.heap.size ≤ w9.heap.size := by omega
    have hbn : Below w8.heap.size w8 w9 := by rw [hw]; exact (by ((repeat (first | ((with_reducible refine Below.alloc ?_ ?_ _); rotate_left 1; (focus (first | omega | (simp; done) | (simp; omega)))) | (with_reducible refine Below.drew ?_) | ((with_reducible refine Below.setCell ?_ ?_ _); rotate_left 1; (focus (first | omega | (simp; done) | (simp; omega)))))); exact Below.refl _ _))
    replace HB := Lib.hid (HB.out.trans (Only.of_below hbn))
    replace HOR := Lib.hid (HOR.out.below hbn)
    replace HOC := Lib.hid (HOC.out.below hbn)
    clear hbn
    clear hw
    refine (l01Below_c p n g 0 p B l (k : Nat) _ (CodeK.get HOC.out) (by omega) (by omega)).mono ?_
    rintro e w10 ⟨j, rfl, j0, j1, hc, hb⟩
    have hzw10 : w9.heap.size ≤ w10.heap.size := hb.size
    have hzzw10 : w.heap.size ≤ w10.heap.size := by omega
    replace HB : Hid (Only (p) (p + 1) w w10) := Lib.hid (by first | exact HB.out.trans hb | exact only_two HB.out hb (by omega))
    replace HOR := Lib.hid (HOR.out.only hb (by first | omega | (simp; omega)))
    clear hb
    clear HOC
    have HOC : Hid (CodeK w10 (0) (p + 1) ((B, n, g)) (l)) := Lib.hid (CodeK.mk_ hc)
    clear hc
    obtain ⟨q, rfl⟩ : ∃ q : Nat, j = q := ⟨j.toNat, by omega⟩
    have hql : q < (strs ss).length := by rw [strs, List.length_map, HSL.out]; omega
    obtain ⟨_, _, he, hmc, hAn, hown⟩ := ownsRow_slice HOR.out.1
    cases he
    obtain ⟨b, off, hA, hb1, hb2, hb3, hcell, hfz⟩ := hown (List.ne_nil_of_length_pos (by omega))
    obtain ⟨sq, hsq⟩ : ∃ s, ss[q]? = some s := ⟨ss[q]'(by rw [HSL.out]; omega), List.getElem?_eq_getElem _⟩
    have hc0 := hcell q _ (strs_get hsq)
    have hf0 := hfz q
    have HOW := Lib.hid hown
    have HQL := Lib.hid hql
    have HAN := Lib.hid hAn
    have hI : (q : Int) < (k : Int) := by omega
    subst hA
    clear hcell hfz hql hown hAn hsq
    go_wp2
    go_ret
    refine ⟨_, c, k, ss.set q ⟨#[63, 33]⟩, rfl, ⟨by rw [List.length_set]; exact HSL.out, by omega, fun s hs => (List.mem_or_eq_of_mem_set hs).elim (fun h => Nat.le_trans (HSS.out s h) (by omega)) (fun e => by rw [e]; decide), hmc, (fun e => by cases e), ?_⟩, CodeK.get (HOC.out.setCell (by simp; omega) _), only_new HB.out (by simp; omega) _⟩
    rw [← strs_set]
    exact (HOW.out.set HQL.out _).mono (by omega) (by simp [World.setCell]) (by simp [World.setCell])
 ·skip
  go_wp2_with fail
  refine calls_named (fun w5 hw => ?_)
  have hz5 : w4.heap.size + 0 ≤ w5.heap.size := by rw [hw]; first | omega | (simp [World.setCell]; done) | (simp [World.setCell]; omega)
  have hzz5 : w.heap.size ≤ w5.heap.size := by omega
  have hbn : Below w4.heap.size w4 w5 := by rw [hw]; exact (by ((repeat (first | ((with_reducible refine Below.alloc ?_ ?_ _); rotate_left 1; (focus (first | omega | (simp; done) | (simp; omega)))) | (with_reducible refine Below.drew ?_) | ((with_reducible refine Below.setCell ?_ ?_ _); rotate_left 1; (focus (first | omega | (simp; done) | (simp; omega)))))); exact Below.refl _ _))
  replace HB := Lib.hid (HB.out.trans (Only.of_below hbn))
  replace HOC := Lib.hid (HOC.out.below hbn)
  clear hbn
  clear hw
  refine (l01Below_c p n g 0 p B l 2 _ (CodeK.get HOC.out) (by omega) (by omega)).mono ?_
  rintro e w6 ⟨y, rfl, y0, y1, hc, hb⟩
  have hzw6 : w5.heap.size ≤ w6.heap.size := hb.size
  have hzzw6 : w.heap.size ≤ w6.heap.size := by omega
  replace HB : Hid (Only (p) (p + 1) w w6) := Lib.hid (by first | exact HB.out.trans hb | exact only_two HB.out hb (by omega))
  clear hb
  clear HOC
  have HOC : Hid (CodeK w6 (0) (p + 1) ((B, n, g)) (l)) := Lib.hid (CodeK.mk_ hc)
  clear hc
  obtain ⟨m, hm⟩ : ∃ m : Nat, 512 + y = m := ⟨(512 + y).toNat, by omega⟩
  have E1 : IntKind.i64.wrap (512 + y) = m := by rw [IntKind.wrap_i64]; omega
  have hm5 : m ≤ 513 := by omega
  clear hm y0 y1
  go_wp2_with fail
  refine calls_named (fun w7 hw => ?_)
  have hz7 : w6.heap.size + 0 ≤ w7.heap.size := by rw [hw]; first | omega | (simp [World.setCell]; done) | (simp [World.setCell]; omega)
  have hzz7 : w.heap.size ≤ w7.heap.size := by omega
  have hbn : Below w6.heap.size w6 w7 := by rw [hw]; exact (by ((repeat (first | ((with_reducible refine Below.alloc ?_ ?_ _); rotate_left 1; (focus (first | omega | (simp; done) | (simp; omega)))) | (with_reducible refine Below.drew ?_) | ((with_reducible refine Below.setCell ?_ ?_ _); rotate_left 1; (focus (first | omega | (simp; done) | (simp; omega)))))); exact Below.refl _ _))
  replace HB := Lib.hid (HB.out.trans (Only.of_below hbn))
  replace HOC := Lib.hid (HOC.out.below hbn)
  clear hbn
  clear hw
  refine (l04List_c (CodeK.get HOC.out) (by omega) wd m (by omega)).mono ?_
  rintro e w8 ⟨A, c, ss, rfl, ⟨hsl, hss, how⟩, hc, hb⟩
  have hzw8 : w7.heap.size ≤ w8.heap.size := hb.size
  have hzzw8 : w.heap.size ≤ w8.heap.size := by omega
  replace HB : Hid (Only (p) (p + 1) w w8) := Lib.hid (by first | exact HB.out.trans hb | exact only_two HB.out hb (by omega))
  clear hb
  clear HOC
  have HOC : Hid (CodeK w8 (0) (p + 1) ((B, n, g)) (l)) := Lib.hid (CodeK.mk_ hc)
  clear hc
  have HOR : Hid (RowB w8 (w7.heap.size) (w8.heap.size) ((.slice A m c, m)) (strs ss)) := Lib.hid (RowB.of how)
  have HSL := Lib.hid hsl
  have HSS := Lib.hid hss
  clear hsl hss how
  go_wp2_with fail
  refine calls_named (fun w9 hw => ?_)
  have hz9 : w8.heap.size + 0 ≤ w9.heap.size := by rw [hw]; first | omega | (simp [World.setCell]; done) | (simp [World.setCell]; omega)
  have hzz9 : w.heap.size ≤ w9.heap.size := by omega
  have hbn : Below w8.heap.size w8 w9 := by rw [hw]; exact (by ((repeat (first | ((with_reducible refine Below.alloc ?_ ?_ _); rotate_left 1; (focus (first | omega | (simp; done) | (simp; omega)))) | (with_reducible refine Below.drew ?_) | ((with_reducible refine Below.setCell ?_ ?_ _); rotate_left 1; (focus (first | omega | (simp; done) | (simp; omega)))))); exact Below.refl _ _))
  replace HB := Lib.hid (HB.out.trans (Only.of_below hbn))
  replace HOC := Lib.hid (HOC.out.below hbn)
  replace HOR := Lib.hid (HOR.out.below hbn)
  clear hbn
  clear hw
  refine (l01Once_c (CodeK.get HOC.out) 25 (by omega) (by omega)).mono ?_
  rintro e w10 ⟨b2, rfl, hc, hb⟩
  have hzw10 : w9.heap.size ≤ w10.heap.size := hb.size
  have hzzw10 : w.heap.size ≤ w10.heap.size := by omega
  replace HB : Hid (Only (p) (p + 1) w w10) := Lib.hid (by first | exact HB.out.trans hb | exact only_two HB.out hb (by omega))
  replace HOR := Lib.hid (HOR.out.only hb (by first | omega | (simp; omega)))
  clear hb
  clear HOC
  have HOC : Hid (CodeK w10 (0) (p + 1) ((B, n, g)) (l)) := Lib.hid (CodeK.mk_ hc)
  clear hc
  rcases b2 with _ | _
  ·skip
   go_wp2
   go_ret
   exact ⟨A, c, m, ss, rfl, Lst40.of HSL.out (by omega) (fun s hs => Nat.le_trans (HSS.out s hs) (by omega)) (row_mono HOR.out.1 (by omega)), CodeK.get HOC.out, HB.out⟩
  ·rcases Nat.eq_zero_or_pos m with h0 | h0
   ·have hd : decide ((0 : Int) < (m : Int)) = false := decide_eq_false (by omega)
    have hd2 : decide (0 < m) = false := decide_eq_false (by omega)
    have hd3 : ¬ 0 < m := by omega
    clear h0
    go_wp2
    go_ret
    exact ⟨A, c, m, ss, rfl, Lst40.of HSL.out (by omega) (fun s hs => Nat.le_trans (HSS.out s hs) (by omega)) (row_mono HOR.out.1 (by omega)), CodeK.get HOC.out, HB.out⟩
   ·have hd : decide ((0 : Int) < (m : Int)) = true := decide_eq_true (by omega)
    go_wp2_with fail
    refine calls_named (fun w11 hw => ?_)
    have hz11 : w10.heap.size + 0 ≤ w11.heap.size := by rw [hw]; first | omega | (simp [World.setCell]; done) | (simp [World.setCell]; omega)
    have hzz11 : w.heap.size ≤ w11.heap.size := by omega
    have hbn : Below w10.heap.size w10 w11 := by rw [hw]; exact (by ((repeat (first | ((with_reducible refine Below.alloc ?_ ?_ _); rotate_left 1; (focus (first | omega | (simp; done) | (simp; omega)))) | (with_reducible refine Below.drew ?_) | ((with_reducible refine Below.setCell ?_ ?_ _); rotate_left 1; (focus (first | omega | (simp; done) | (simp; omega)))))); exact Below.refl _ _))
    replace HB := Lib.hid (HB.out.trans (Only.of_below hbn))
    replace HOR := Lib.hid (HOR.out.below hbn)
    replace HOC := Lib.hid (HOC.out.below hbn)
    clear hbn
    clear hw
    refine (l01Below_c p n g 0 p B l (m : Nat) _ (CodeK.get HOC.out) (by omega) (by omega)).mono ?_
    rintro e w12 ⟨j, rfl, j0, j1, hc, hb⟩
    have hzw12 : w11.heap.size ≤ w12.heap.size := hb.size
    have hzzw12 : w.heap.size ≤ w12.heap.size := by omega
    replace HB : Hid (Only (p) (p + 1) w w12) := Lib.hid (by first | exact HB.out.trans hb | exact only_two HB.out hb (by omega))
    replace HOR := Lib.hid (HOR.out.only hb (by first | omega | (simp; omega)))
    clear hb
    clear HOC
    have HOC : Hid (CodeK w12 (0) (p + 1) ((B, n, g)) (l)) := Lib.hid (CodeK.mk_ hc)
    clear hc
    obtain ⟨q, rfl⟩ : ∃ q : Nat, j = q := ⟨j.toNat, by omega⟩
    have hql : q < (strs ss).length := by rw [strs, List.length_map, HSL.out]; omega
    obtain ⟨_, _, he, hmc, hAn, hown⟩ := ownsRow_slice HOR.out.1
    cases he
    obtain ⟨b, off, hA, hb1, hb2, hb3, hcell, hfz⟩ := hown (List.ne_nil_of_length_pos (by omega))
    obtain ⟨sq, hsq⟩ : ∃ s, ss[q]? = some s := ⟨ss[q]'(by rw [HSL.out]; omega), List.getElem?_eq_getElem _⟩
    have hc0 := hcell q _ (strs_get hsq)
    have hf0 := hfz q
    have HOW := Lib.hid hown
    have HQL := Lib.hid hql
    have HAN := Lib.hid hAn
    have hI : (q : Int) < (m : Int) := by omega
    subst hA
    clear hcell hfz hql hown hAn hsq
    go_wp2
    go_ret
    refine ⟨_, c, m, ss.set q ⟨#[63, 33]⟩, rfl, ⟨by rw [List.length_set]; exact HSL.out, by omega, fun s hs => (List.mem_or_eq_of_mem_set hs).elim (fun h => Nat.le_trans (HSS.out s h) (by omega)) (fun e => by rw [e]; decide), hmc, (fun e => by cases e), ?_⟩, CodeK.get (HOC.out.setCell (by simp; omega) _), only_new HB.out (by simp; omega) _⟩
    rw [← strs_set]
    exact (HOW.out.set HQL.out _).mono (by omega) (by simp [World.setCell]) (by simp [World.setCell])
set_option maxRecDepth 100000 in
set_option maxHeartbeats 400000 in
theorem l04Range_c {w : World} {p n g : Nat} {B : Option Addr} {l : List Int} (h : Code w p B n g 0 p l) (hp : p < w.heap.size) (wd : Int) :
  Calls Try.prog 88 #[.pointer (some ⟨p, 0, none⟩), .int .i64 wd] w fun e w' => ∃ (z : Int) (A : Option Addr) (c m : Nat) (ss : List ByteArray), e = .returned (.agg #[.int .i64 z, .slice A m c]) ∧ I64 z ∧ Lst40 w' w.heap.size A m c 20 ss ∧ Code w' p B n g 0 p l ∧ Only p (p + 1) w w' := by
 have HB : Hid (Only (p) (p + 1) w w) := Only.refl _ _ _
 have HOC : Hid (CodeK w (0) (p + 1) ((B, n, g)) (l)) := Lib.hid (CodeK.mk_ h)
 clear h
 go_enter Try.func88, Try.ntmps88
 go_wp2_with fail
 refine calls_named (fun w1 hw => ?_)
 have hz1 : w.heap.size + 1 ≤ w1.heap.size := by rw [hw]; first | omega | (simp [World.setCell]; done) | (simp [World.setCell]; omega)
 have hzz1 : w.heap.size ≤ w1.heap.size := by omega
 have hbn : Below w.heap.size w w1 := by rw [hw]; exact (by ((repeat (first | ((with_reducible refine Below.alloc ?_ ?_ _); rotate_left 1; (focus (first | omega | (simp; done) | (simp; omega)))) | (with_reducible refine Below.drew ?_) | ((with_reducible refine Below.setCell ?_ ?_ _); rotate_left 1; (focus (first | omega | (simp; done) | (simp; omega)))))); exact Below.refl _ _))
 replace HB := Lib.hid (HB.out.trans (Only.of_below hbn))
 replace HOC := Lib.hid (HOC.out.below hbn)
 clear hbn
 have HXr : Hid (NewBox w1 (w.heap.size) [.int .i64 0, .slice none 0 0]) := by rw [Hid, hw]; exact ⟨by first | omega | (simp [World.setCell]; done) | (simp [World.setCell]; omega), fun o => by rcases o with _ | _ | o <;> go_simp, fun o => by go_simp⟩
 have hxr := HXr.out.2.1
 have hfr := HXr.out.2.2
 have hkr := HXr.out.1
 clear hw
 refine (l04Few_c (CodeK.get HOC.out)).mono ?_
 rintro e w2 ⟨k, rfl, hk, hc, hb⟩
 have hzw2 : w1.heap.size ≤ w2.heap.size := hb.size
 have hzzw2 : w.heap.size ≤ w2.heap.size := by omega
 replace HB : Hid (Only (p) (p + 1) w w2) := Lib.hid (by first | exact HB.out.trans hb | exact only_two HB.out hb (by omega))
 replace HXr := Lib.hid (HXr.out.only hb (by first | omega | (simp; omega)))
 clear hxr hfr hkr
 have hxr := HXr.out.2.1
 have hfr := HXr.out.2.2
 have hkr := HXr.out.1
 clear hb
 clear HOC
 have HOC : Hid (CodeK w2 (0) (p + 1) ((B, n, g)) (l)) := Lib.hid (CodeK.mk_ hc)
 clear hc
 go_wp2_with fail
 refine calls_named (fun w3 hw => ?_)
 have hz3 : w2.heap.size + 0 ≤ w3.heap.size := by rw [hw]; first | omega | (simp [World.setCell]; done) | (simp [World.setCell]; omega)
 have hzz3 : w.heap.size ≤ w3.heap.size := by omega
 have hbn : Below w2.heap.size w2 w3 := by rw [hw]; exact (by ((repeat (first | ((with_reducible refine Below.alloc ?_ ?_ _); rotate_left 1; (focus (first | omega | (simp; done) | (simp; omega)))) | (with_reducible refine Below.drew ?_) | ((with_reducible refine Below.setCell ?_ ?_ _); rotate_left 1; (focus (first | omega | (simp; done) | (simp; omega)))))); exact Below.refl _ _))
 replace HB := Lib.hid (HB.out.trans (Only.of_below hbn))
 replace HOC := Lib.hid (HOC.out.below hbn)
 replace HXr := Lib.hid (HXr.out.below hbn)
 clear hxr hfr hkr
 have hxr := HXr.out.2.1
 have hfr := HXr.out.2.2
 have hkr := HXr.out.1
 clear hbn
 clear hw
 refine (specPeaksOf_c k _ hk).mono ?_
 rintro e w4 ⟨A0, c0, rfl, hb⟩
 have hzw4 : w3.heap.size ≤ w4.heap.size := hb.size
 have hzzw4 : w.heap.size ≤ w4.heap.size := by omega
 replace HB := Lib.hid (HB.out.trans (Only.of_below hb))
 replace HOC := Lib.hid (HOC.out.below hb)
 replace HXr := Lib.hid (HXr.out.below hb)
 clear hxr hfr hkr
 have hxr := HXr.out.2.1
 have hfr := HXr.out.2.2
 have hkr := HXr.out.1
 clear hb
 have hq : popC (k : Int) ≤ 10 := popC_le _
 generalize popC (k : Int) = q at *
 go_wp2_with fail
 refine calls_named (fun w5 hw => ?_)
 have hz5 : w4.heap.size + 0 ≤ w5.heap.size := by rw [hw]; first | omega | (simp [World.setCell]; done) | (simp [World.setCell]; omega)
 have hzz5 : w.heap.size ≤ w5.heap.size := by omega
 have hbn : Below w4.heap.size w4 w5 := by rw [hw]; exact (by ((repeat (first | ((with_reducible refine Below.alloc ?_ ?_ _); rotate_left 1; (focus (first | omega | (simp; done) | (simp; omega)))) | (with_reducible refine Below.drew ?_) | ((with_reducible refine Below.setCell ?_ ?_ _); rotate_left 1; (focus (first | omega | (simp; done) | (simp; omega)))))); exact Below.refl _ _))
 replace HB := Lib.hid (HB.out.trans (Only.of_below hbn))
 replace HOC := Lib.hid (HOC.out.below hbn)
 replace HXr := Lib.hid (HXr.out.below hbn)
 clear hxr hfr hkr
 have hxr := HXr.out.2.1
 have hfr := HXr.out.2.2
 have hkr := HXr.out.1
 clear hbn
 clear hw
 refine (l04List_c (CodeK.get HOC.out) (by omega) wd q (by omega)).mono ?_
 rintro e w6 ⟨A, c, ss, rfl, ⟨hsl, hss, how⟩, hc, hb⟩
 have hzw6 : w5.heap.size ≤ w6.heap.size := hb.size
 have hzzw6 : w.heap.size ≤ w6.heap.size := by omega
 replace HB : Hid (Only (p) (p + 1) w w6) := Lib.hid (by first | exact HB.out.trans hb | exact only_two HB.out hb (by omega))
 replace HXr := Lib.hid (HXr.out.only hb (by first | omega | (simp; omega)))
 clear hxr hfr hkr
 have hxr := HXr.out.2.1
 have hfr := HXr.out.2.2
 have hkr := HXr.out.1
 clear hb
 clear HOC
 have HOC : Hid (CodeK w6 (0) (p + 1) ((B, n, g)) (l)) := Lib.hid (CodeK.mk_ hc)
 clear hc
 obtain ⟨lo0, hlo0, hle0⟩ : ∃ n, n ≤ w5.heap.size ∧ w5.heap.size ≤ n := ⟨_, Nat.le_refl _, Nat.le_refl _⟩
 have HOR : Hid (RowB w6 (lo0) (w6.heap.size) ((.slice A q c, q)) (strs ss)) := Lib.hid ((RowB.of how).mono hlo0 (Nat.le_refl _))
 have HSL := Lib.hid hsl
 have HSS := Lib.hid hss
 clear hsl hss how
 go_wp2_with fail
 refine calls_named (fun w7 hw => ?_)
 have hz7 : w6.heap.size + 1 ≤ w7.heap.size := by rw [hw]; first | omega | (simp [World.setCell]; done) | (simp [World.setCell]; omega)
 have hzz7 : w.heap.size ≤ w7.heap.size := by omega
 have hbn : Below w6.heap.size w6 w7 := by rw [hw]; exact (by ((repeat (first | ((with_reducible refine Below.alloc ?_ ?_ _); rotate_left 1; (focus (first | omega | (simp; done) | (simp; omega)))) | (with_reducible refine Below.drew ?_) | ((with_reducible refine Below.setCell ?_ ?_ _); rotate_left 1; (focus (first | omega | (simp; done) | (simp; omega)))))); exact Below.refl _ _))
 replace HB := Lib.hid (HB.out.trans (Only.of_below hbn))
 replace HOC := Lib.hid (HOC.out.below hbn)
 replace HOR := Lib.hid (HOR.out.below hbn)
 replace HXr := Lib.hid (HXr.out.below hbn)
 clear hxr hfr hkr
 have hxr := HXr.out.2.1
 have hfr := HXr.out.2.2
 have hkr := HXr.out.1
 clear hbn
 have HXt : Hid (NewBox w7 (w6.heap.size) [.int .i64 k, .slice A q c]) := by rw [Hid, hw]; exact ⟨by first | omega | (simp [World.setCell]; done) | (simp [World.setCell]; omega), fun o => by rcases o with _ | _ | o <;> go_simp, fun o => by go_simp⟩
 have hxt := HXt.out.2.1
 have hft := HXt.out.2.2
 have hkt := HXt.out.1
 clear hw
 refine (l01Below_c p n g 0 p B l 30 _ (CodeK.get HOC.out) (by omega) (by omega)).mono ?_
 rintro e w8 ⟨x, rfl, x0, x1, hc, hb⟩
 have hzw8 : w7.heap.size ≤ w8.heap.size := hb.size
 have hzzw8 : w.heap.size ≤ w8.heap.size := by omega
 replace HB : Hid (Only (p) (p + 1) w w8) := Lib.hid (by first | exact HB.out.trans hb | exact only_two HB.out hb (by omega))
 replace HOR := Lib.hid (HOR.out.only hb (by first | omega | (simp; omega)))
 replace HXr := Lib.hid (HXr.out.only hb (by first | omega | (simp; omega)))
 clear hxr hfr hkr
 have hxr := HXr.out.2.1
 have hfr := HXr.out.2.2
 have hkr := HXr.out.1
 replace HXt := Lib.hid (HXt.out.only hb (by first | omega | (simp; omega)))
 clear hxt hft hkt
 have hxt := HXt.out.2.1
 have hft := HXt.out.2.2
 have hkt := HXt.out.1
 clear hb
 clear HOC
 have HOC : Hid (CodeK w8 (0) (p + 1) ((B, n, g)) (l)) := Lib.hid (CodeK.mk_ hc)
 clear hc
 rcases (show x = 0 ∨ x = 1 ∨ x = 2 ∨ 3 ≤ x by omega) with rfl | rfl | rfl | hx3
 ·skip
  have E1 : IntKind.i64.wrap ((k : Int) + 1) = (k : Int) + 1 := by rw [IntKind.wrap_i64]; omega
  have E2 : IntKind.i64.wrap ((k : Int) + 2) = (k : Int) + 2 := by rw [IntKind.wrap_i64]; omega
  go_wp2_with fail
  refine calls_named (fun w9 hw => ?_)
  have hz9 : w8.heap.size + 1 ≤ w9.heap.size := by rw [hw]; first | omega | (simp [World.setCell]; done) | (simp [World.setCell]; omega)
  have hzz9 : w.heap.size ≤ w9.heap.size := by omega
  have hbn : Below w8.heap.size w8 w9 := by rw [hw]; exact (by ((repeat (first | ((with_reducible refine Below.alloc ?_ ?_ _); rotate_left 1; (focus (first | omega | (simp; done) | (simp; omega)))) | (with_reducible refine Below.drew ?_) | ((with_reducible refine Below.setCell ?_ ?_ _); rotate_left 1; (focus (first | omega | (simp; done) | (simp; omega)))))); exact Below.refl _ _))
  replace HB := Lib.hid (HB.out.trans (Only.of_below hbn))
  replace HOR := Lib.hid (HOR.out.below hbn)
  replace HOC := Lib.hid (HOC.out.below hbn)
  replace HXr := Lib.hid (HXr.out.below hbn)
  clear hxr hfr hkr
  have hxr := HXr.out.2.1
  have hfr := HXr.out.2.2
  have hkr := HXr.out.1
  replace HXt := Lib.hid (HXt.out.below hbn)
  clear hxt hft hkt
  have hxt := HXt.out.2.1
  have hft := HXt.out.2.2
  have hkt := HXt.out.1
  clear hbn
  have HXz : Hid (NewBox w9 (w8.heap.size) [.int .i64 (-1), .int .i64 ((k : Int) + 1), .int .i64 ((k : Int) + 2), .int .i64 513]) := by rw [Hid, hw]; exact ⟨by first | omega | (simp [World.setCell]; done) | (simp [World.setCell]; omega), fun o => by rcases o with _ | _ | _ | _ | o <;> go_simp, fun o => by go_simp⟩
  have hxz := HXz.out.2.1
  have hfz := HXz.out.2.2
  have hkz := HXz.out.1
  clear hw
  refine (l01PickInt_c (CodeK.get HOC.out) _ 4 4 _ _ [-1, (k : Int) + 1, (k : Int) + 2, 513] (rd_ints HXz.out rfl) rfl (by omega) (by omega) (by omega)).mono ?_
  rintro e w10 ⟨y, rfl, hy, hc, hb⟩
  have hzw10 : w9.heap.size ≤ w10.heap.size := hb.size
  have hzzw10 : w.heap.size ≤ w10.heap.size := by omega
  replace HB : Hid (Only (p) (p + 1) w w10) := Lib.hid (by first | exact HB.out.trans hb | exact only_two HB.out hb (by omega))
  replace HOR := Lib.hid (HOR.out.only hb (by first | omega | (simp; omega)))
  replace HXr := Lib.hid (HXr.out.only hb (by first | omega | (simp; omega)))
  clear hxr hfr hkr
  have hxr := HXr.out.2.1
  have hfr := HXr.out.2.2
  have hkr := HXr.out.1
  replace HXt := Lib.hid (HXt.out.only hb (by first | omega | (simp; omega)))
  clear hxt hft hkt
  have hxt := HXt.out.2.1
  have hft := HXt.out.2.2
  have hkt := HXt.out.1
  replace HXz := Lib.hid (HXz.out.only hb (by first | omega | (simp; omega)))
  clear hxz hfz hkz
  have hxz := HXz.out.2.1
  have hfz := HXz.out.2.2
  have hkz := HXz.out.1
  clear hb
  clear HOC
  have HOC : Hid (CodeK w10 (0) (p + 1) ((B, n, g)) (l)) := Lib.hid (CodeK.mk_ hc)
  clear hc
  have HY : Hid (I64 y) := Lib.hid (by
   simp only [List.mem_cons, List.not_mem_nil, or_false] at hy
   rcases hy with rfl | rfl | rfl | rfl <;> (constructor <;> omega))
  clear hy E1 E2
  clear hxz hfz hkz HXz
  go_wp2
  refine bodyPost_named (fun w11 hw => ?_)
  have hz11 : w10.heap.size + 0 ≤ w11.heap.size := by rw [hw]; first | omega | (simp [World.setCell]; done) | (simp [World.setCell]; omega)
  have hzz11 : w.heap.size ≤ w11.heap.size := by omega
  replace HB : Hid (Only (p) (p + 1) w w11) := by rw [Hid, hw]; exact (by ((repeat (first | (with_reducible refine only_alloc ?_ _) | (with_reducible refine only_drew ?_) | ((with_reducible refine only_new ?_ ?_ _); rotate_left 1; (focus (first | omega | (simp; done) | (simp; omega)))))); exact HB.out))
  replace HOR : Hid (RowB w11 (lo0) (w6.heap.size) ((.slice A q c, q)) (strs ss)) := by rw [Hid, hw]; (repeat (first | (with_reducible refine RowB.alloc ?_ _) | (with_reducible refine RowB.drew ?_) | ((with_reducible refine RowB.setCell ?_ ?_ _); rotate_left 1; (focus (first | omega | (simp; done) | (simp; omega)))))); exact HOR.out
  replace HOC : Hid (CodeK w11 (0) (p + 1) ((B, n, g)) (l)) := by rw [Hid, hw]; (repeat (first | (with_reducible refine CodeK.alloc ?_ _) | (with_reducible refine CodeK.drew ?_) | ((with_reducible refine CodeK.setCell ?_ ?_ _); rotate_left 1; (focus (first | omega | (simp; done) | (simp; omega)))))); exact HOC.out
  replace HXr : Hid (NewBox w11 (w.heap.size) [.int .i64 y, .slice A q c]) := by rw [Hid, hw]; apply NewBox.cast; (focus ((repeat (first | (with_reducible apply NewBox.alloc) | (with_reducible apply NewBox.drew) | (with_reducible apply NewBox.set1) | ((with_reducible apply NewBox.far); (focus (first | omega | (simp; done) | (simp; omega)))))); exact HXr.out)); rfl
  clear hxr hfr hkr
  have hxr := HXr.out.2.1
  have hfr := HXr.out.2.2
  have hkr := HXr.out.1
  replace HXt : Hid (NewBox w11 (w6.heap.size) [.int .i64 y, .slice A q c]) := by rw [Hid, hw]; exact ⟨by first | omega | (simp [World.setCell]; omega), fun o => by rcases o with _ | _ | o <;> go_simp, fun o => by go_simp⟩
  clear hxt hft hkt
  have hxt := HXt.out.2.1
  have hft := HXt.out.2.2
  have hkt := HXt.out.1
  clear hw
  refine bodyPost_ret (v := .agg #[.int .i64 y, .slice A q c]) (by simp [results, Try.results88, go_sem, hxr]) rfl ?_
  exact ⟨y, A, c, q, ss, rfl, HY.out, Lst40.of HSL.out (by omega) (fun s hs => Nat.le_trans (HSS.out s hs) (by omega)) (row_mono HOR.out.1 (by omega)), CodeK.get HOC.out, HB.out⟩
 ·skip
  obtain ⟨i0, hi0, hiA, hiB, hiC⟩ := info_parts info_string
  go_wp2_with fail
  go_region_law (first | (go_simp; go_at_call 118; refine (l03Hash_c (CodeK.get HOC.out.drew) (by show p < _; simp; omega) wd).mono ?_; rintro e w5_ ⟨s, rfl, hs5, hc5, ho5⟩; have HC5 := Lib.hid hc5; have HO5 := Lib.hid ho5.drew1; have hz5 := HO5.out.size; have HT5 := Lib.hid (HXt.out.only HO5.out (by omega)); have HR5 := Lib.hid (HOR.out.only HO5.out (by omega)); have hxt5 := HT5.out.2.1; have hft5 := HT5.out.2.2; have HAL5 := Lib.hid (fun o => HT5.out.alloc o); have hal5 : ∀ o, (w5_.alloc o).cell? ⟨(w6.heap.size), 1, none⟩ = some (.slice A q c) := fun o => (HAL5.out o).cell (o := 1) rfl; clear hc5 ho5) | (refine step_append_lies _ (by rfl) _ _ _ (by rfl) lo0 9 i0 _ 1 16 Try.underlying24 hi0 hiA hiB hiC rfl (by omega) (.slice A q c) q (strs ss) (by rfl) (HR5.out.1.alloc _) ⟨w5_.heap.size, 0, none⟩ 1 1 (strs [s]) (by rfl) (by rfl) (World.news_of_block (heap_alloc_new w5_ _)) (cloneStr_one _) (by omega) (by unfold maxLen; omega) (by omega) (by simp; omega) (w5_.heap.size + 1) (by simp) ?_; intro gg cap w6_ hown6 hgrow hat hlt6; obtain ⟨hrb, hon⟩ := rowB_app HR5.out.1 _ hown6 hgrow; have HR6 := Lib.hid (rowB_tight hown6).1; have hgl := (rowB_tight hown6).2; have hgt : gg < (w6.heap.size) ∨ w5_.heap.size ≤ gg := hat.elim (fun e => Or.inl (by have h9 := HR5.out.2 _ e; omega)) (fun e => Or.inr (by omega)); have HT6 := Lib.hid ((HT5.out.alloc (.cells #[.string s] 9)).keep hgrow.size (hgrow.block _ (by simp; omega) (fun e => by have h9 := HR5.out.2 _ e.symm; omega))); have hxt6 := HT6.out.2.1; have hft6 := HT6.out.2.2; have HON := Lib.hid hon; have hz6 := hon.size; clear hrb hon hown6 hgrow hat))
  all_goals
   have hzw5_ : w8.heap.size ≤ w5_.heap.size := HO5.out.size
   have hzzw5_ : w.heap.size ≤ w5_.heap.size := by omega
   replace HB : Hid (Only (p) (p + 1) w w5_) := Lib.hid (by first | exact HB.out.trans HO5.out | exact only_two HB.out HO5.out (by omega))
   replace HXr := Lib.hid (HXr.out.only HO5.out (by first | omega | (simp; omega)))
   clear hxr hfr hkr
   have hxr := HXr.out.2.1
   have hfr := HXr.out.2.2
   have hkr := HXr.out.1
   replace HXt := Lib.hid (HXt.out.only HO5.out (by first | omega | (simp; omega)))
   clear hxt hft hkt
   have hxt := HXt.out.2.1
   have hft := HXt.out.2.2
   have hkt := HXt.out.1
   clear HOC HOR HT5 HR5 HAL5 hal5 hxt5 hft5
   have hzw6_ : w5_.heap.size ≤ w6_.heap.size := HON.out.size
   have hzzw6_ : w.heap.size ≤ w6_.heap.size := by omega
   replace HB : Hid (Only (p) (p + 1) w w6_) := Lib.hid (by first | exact HB.out.trans HON.out | exact only_two HB.out HON.out (by omega))
   replace HXr := Lib.hid (HXr.out.only HON.out (by first | omega | (simp; omega)))
   clear hxr hfr hkr
   have hxr := HXr.out.2.1
   have hfr := HXr.out.2.2
   have hkr := HXr.out.1
   clear hxt hft hkt HXt
   have HOC : Hid (CodeK w6_ (0) (p + 1) ((B, n, g)) (l)) := Lib.hid (CodeK.mk_ (HC5.out.only HON.out (by omega)))
   have HXt : Hid (NewBox w6_ (w6.heap.size) [.int .i64 k, .slice A q c]) := HT6.out
   have hxt := HXt.out.2.1
   have hft := HXt.out.2.2
   have hkt := HXt.out.1
   clear HC5 HT6 hxt6 hft6 HO5 HON
   have HOR : Hid (RowB w6_ (gg) (gg + 1) ((.slice (some ⟨gg, 0, none⟩) (q + 1) cap, q + 1)) (strs ss ++ strs [s])) := Lib.hid HR6.out
   clear HR6
   go_wp2
   refine bodyPost_named (fun w9 hw => ?_)
   have hz9 : w6_.heap.size + 0 ≤ w9.heap.size := by rw [hw]; first | omega | (simp [World.setCell]; done) | (simp [World.setCell]; omega)
   have hzz9 : w.heap.size ≤ w9.heap.size := by omega
   replace HB : Hid (Only (p) (p + 1) w w9) := by rw [Hid, hw]; exact (by ((repeat (first | (with_reducible refine only_alloc ?_ _) | (with_reducible refine only_drew ?_) | ((with_reducible refine only_new ?_ ?_ _); rotate_left 1; (focus (first | omega | (simp; done) | (simp; omega)))))); exact HB.out))
   replace HOC : Hid (CodeK w9 (0) (p + 1) ((B, n, g)) (l)) := by rw [Hid, hw]; (repeat (first | (with_reducible refine CodeK.alloc ?_ _) | (with_reducible refine CodeK.drew ?_) | ((with_reducible refine CodeK.setCell ?_ ?_ _); rotate_left 1; (focus (first | omega | (simp; done) | (simp; omega)))))); exact HOC.out
   replace HOR : Hid (RowB w9 (gg) (gg + 1) ((.slice (some ⟨gg, 0, none⟩) (q + 1) cap, q + 1)) (strs ss ++ strs [s])) := by rw [Hid, hw]; (repeat (first | (with_reducible refine RowB.alloc ?_ _) | (with_reducible refine RowB.drew ?_) | ((with_reducible refine RowB.setCell ?_ ?_ _); rotate_left 1; (focus (first | omega | (simp; done) | (simp; omega)))))); exact HOR.out
   replace HXr : Hid (NewBox w9 (w.heap.size) [.int .i64 k, .slice (some ⟨gg, 0, none⟩) (q + 1) cap]) := by rw [Hid, hw]; apply NewBox.cast; (focus ((repeat (first | (with_reducible apply NewBox.alloc) | (with_reducible apply NewBox.drew) | (with_reducible apply NewBox.set1) | ((with_reducible apply NewBox.far); (focus (first | omega | (simp; done) | (simp; omega)))))); exact HXr.out)); rfl
   clear hxr hfr hkr
   have hxr := HXr.out.2.1
   have hfr := HXr.out.2.2
   have hkr := HXr.out.1
   replace HXt : Hid (NewBox w9 (w6.heap.size) [.int .i64 k, .slice (some ⟨gg, 0, none⟩) (q + 1) cap]) := by rw [Hid, hw]; exact ⟨by first | omega | (simp [World.setCell]; omega), fun o => by rcases o with _ | _ | o <;> go_simp, fun o => by go_simp⟩
   clear hxt hft hkt
   have hxt := HXt.out.2.1
   have hft := HXt.out.2.2
   have hkt := HXt.out.1
   clear hw
   refine bodyPost_ret (v := .agg #[.int .i64 k, .slice (some ⟨gg, 0, none⟩) (q + 1) cap]) (by simp [results, Try.results88, go_sem, hxr]) rfl ?_
   exact ⟨k, some ⟨gg, 0, none⟩, cap, q + 1, ss ++ [s], rfl, by constructor <;> omega, Lst40.of (by rw [List.length_append, HSL.out]; rfl) (by omega) (fun t ht => (List.mem_append.1 ht).elim (fun h => Nat.le_trans (HSS.out t h) (by omega)) (fun h => by rw [List.mem_singleton.1 h]; omega)) (by rw [strs_appD]; exact row_mono HOR.out.1 (by omega)), CodeK.get HOC.out, HB.out⟩
 ·skip
  rcases Nat.eq_zero_or_pos q with h0 | h0
  ·have hd : decide ((0 : Int) < (q : Int)) = false := decide_eq_false (by omega)
   have hd2 : decide (0 < q) = false := decide_eq_false (by omega)
   have hd3 : ¬ 0 < q := by omega
   clear h0
   go_wp2
   refine bodyPost_named (fun w9 hw => ?_)
   have hz9 : w8.heap.size + 0 ≤ w9.heap.size := by rw [hw]; first | omega | (simp [World.setCell]; done) | (simp [World.setCell]; omega)
   have hzz9 : w.heap.size ≤ w9.heap.size := by omega
   replace HB : Hid (Only (p) (p + 1) w w9) := by rw [Hid, hw]; exact (by ((repeat (first | (with_reducible refine only_alloc ?_ _) | (with_reducible refine only_drew ?_) | ((with_reducible refine only_new ?_ ?_ _); rotate_left 1; (focus (first | omega | (simp; done) | (simp; omega)))))); exact HB.out))
   replace HOR : Hid (RowB w9 (lo0) (w6.heap.size) ((.slice A q c, q)) (strs ss)) := by rw [Hid, hw]; (repeat (first | (with_reducible refine RowB.alloc ?_ _) | (with_reducible refine RowB.drew ?_) | ((with_reducible refine RowB.setCell ?_ ?_ _); rotate_left 1; (focus (first | omega | (simp; done) | (simp; omega)))))); exact HOR.out
   replace HOC : Hid (CodeK w9 (0) (p + 1) ((B, n, g)) (l)) := by rw [Hid, hw]; (repeat (first | (with_reducible refine CodeK.alloc ?_ _) | (with_reducible refine CodeK.drew ?_) | ((with_reducible refine CodeK.setCell ?_ ?_ _); rotate_left 1; (focus (first | omega | (simp; done) | (simp; omega)))))); exact HOC.out
   replace HXr : Hid (NewBox w9 (w.heap.size) [.int .i64 k, .slice A q c]) := by rw [Hid, hw]; apply NewBox.cast; (focus ((repeat (first | (with_reducible apply NewBox.alloc) | (with_reducible apply NewBox.drew) | (with_reducible apply NewBox.set1) | ((with_reducible apply NewBox.far); (focus (first | omega | (simp; done) | (simp; omega)))))); exact HXr.out)); rfl
   clear hxr hfr hkr
   have hxr := HXr.out.2.1
   have hfr := HXr.out.2.2
   have hkr := HXr.out.1
   replace HXt : Hid (NewBox w9 (w6.heap.size) [.int .i64 k, .slice A q c]) := by rw [Hid, hw]; (repeat (first | (with_reducible refine NewBox.alloc ?_ _) | (with_reducible refine NewBox.drew ?_) | ((with_reducible refine NewBox.setCell ?_ ?_ _); rotate_left 1; (focus (first | omega | (simp; done) | (simp; omega)))))); exact HXt.out
   clear hxt hft hkt
   have hxt := HXt.out.2.1
   have hft := HXt.out.2.2
   have hkt := HXt.out.1
   clear hw
   refine bodyPost_ret (v := .agg #[.int .i64 k, .slice A q c]) (by simp [results, Try.results88, go_sem, hxr]) rfl ?_
   exact ⟨k, A, c, q, ss, rfl, by constructor <;> omega, Lst40.of HSL.out (by omega) (fun s hs => Nat.le_trans (HSS.out s hs) (by omega)) (row_mono HOR.out.1 (by omega)), CodeK.get HOC.out, HB.out⟩
  ·have hd : decide ((0 : Int) < (q : Int)) = true := decide_eq_true (by omega)
   have hql : 0 < (strs ss).length := by rw [strs, List.length_map, HSL.out]; omega
   obtain ⟨s0, hs0⟩ : ∃ s, ss[0]? = some s := ⟨ss[0]'(by rw [HSL.out]; omega), List.getElem?_eq_getElem _⟩
   have hs0z := HSS.out s0 (List.mem_of_getElem? hs0)
   obtain ⟨_, _, he, hmc, hAn, hown⟩ := ownsRow_slice HOR.out.1
   cases he
   obtain ⟨b, off, hA, hb1, hb2, hb3, hcell, hfz⟩ := hown (List.ne_nil_of_length_pos hql)
   have hc0 : w8.cell? ⟨b, off, none⟩ = some (.string s0) := by have h := hcell 0 _ (strs_get hs0); rwa [Nat.add_zero] at h
   have hf0 : w8.frozen? ⟨b, off, none⟩ = false := by have h := hfz 0; rwa [Nat.add_zero] at h
   have hbt : b < (w6.heap.size) := HOR.out.2 b (by rw [hA]; rfl)
   have HOW := Lib.hid hown
   have HQL := Lib.hid hql
   have HI0 : (0 : Int) < (q : Int) := by omega
   subst hA
   clear hcell hfz hql hown hAn hs0 HOR
   replace HXt : Hid (NewBox w8 (w6.heap.size) [.int .i64 k, .slice (some ⟨b, off, none⟩) q c]) := HXt.out
   clear hxt hft hkt
   have hxt := HXt.out.2.1
   have hft := HXt.out.2.2
   have hkt := HXt.out.1
   have e0 : ((⟨#[120]⟩ : ByteArray)).size = 1 := rfl
   obtain ⟨sx, hs1⟩ : ∃ s, s = s0 ++ ⟨#[120]⟩ := ⟨_, rfl⟩
   have c1 := fun W : World => run_string_add_sum (P := Try.prog) W s0 ⟨#[120]⟩ (by omega)
   have z1 : sx.size ≤ 100 := by rw [hs1, ByteArray.size_append]; omega
   rw [← hs1] at c1
   have HS1 := Lib.hid hs1
   clear hs1
   go_wp2_with fail
   go_still_tail 8, (by kernel_rfl)
   change wpList _ _ _ _ _ (w8).drew
   generalize hwd : (w8).drew = w9_
   have hb9 : Below w8.heap.size w8 w9_ := by rw [← hwd]; exact (Below.refl _ _).drew
   have hc9 : w9_.cell? ⟨b, off, none⟩ = some (.string s0) := by rw [← hwd]; exact hc0
   have hf9 : w9_.frozen? ⟨b, off, none⟩ = false := by rw [← hwd]; exact hf0
   have HOW9 : Hid (Own w9_ lo0 w9_.heap.size (some ⟨b, off, none⟩) (strs ss)) := by rw [Hid, ← hwd]; exact HOW.out
   clear hwd hc0 hf0 HOW
   have hzw9_ : w8.heap.size ≤ w9_.heap.size := hb9.size
   have hzzw9_ : w.heap.size ≤ w9_.heap.size := by omega
   replace HB := Lib.hid (HB.out.trans (Only.of_below hb9))
   replace HOC := Lib.hid (HOC.out.below hb9)
   replace HXr := Lib.hid (HXr.out.below hb9)
   clear hxr hfr hkr
   have hxr := HXr.out.2.1
   have hfr := HXr.out.2.2
   have hkr := HXr.out.1
   replace HXt := Lib.hid (HXt.out.below hb9)
   clear hxt hft hkt
   have hxt := HXt.out.2.1
   have hft := HXt.out.2.2
   have hkt := HXt.out.1
   clear hb9
   have hst := HOW9.out.set (j := 0) HQL.out (.string sx)
   rw [Nat.add_zero, strs_set] at hst
   have HST := Lib.hid hst
   clear hst HOW9
   go_wp2
   refine bodyPost_named (fun w9 hw => ?_)
   have hz9 : w9_.heap.size + 0 ≤ w9.heap.size := by rw [hw]; first | omega | (simp [World.setCell]; done) | (simp [World.setCell]; omega)
   have hzz9 : w.heap.size ≤ w9.heap.size := by omega
   replace HB : Hid (Only (p) (p + 1) w w9) := by rw [Hid, hw]; exact (by ((repeat (first | (with_reducible refine only_alloc ?_ _) | (with_reducible refine only_drew ?_) | ((with_reducible refine only_new ?_ ?_ _); rotate_left 1; (focus (first | omega | (simp; done) | (simp; omega)))))); exact HB.out))
   replace HOC : Hid (CodeK w9 (0) (p + 1) ((B, n, g)) (l)) := by rw [Hid, hw]; (repeat (first | (with_reducible refine CodeK.alloc ?_ _) | (with_reducible refine CodeK.drew ?_) | ((with_reducible refine CodeK.setCell ?_ ?_ _); rotate_left 1; (focus (first | omega | (simp; done) | (simp; omega)))))); exact HOC.out
   replace HXr : Hid (NewBox w9 (w.heap.size) [.int .i64 k, .slice (some ⟨b, off, none⟩) q c]) := by rw [Hid, hw]; apply NewBox.cast; (focus ((repeat (first | (with_reducible apply NewBox.alloc) | (with_reducible apply NewBox.drew) | (with_reducible apply NewBox.set1) | ((with_reducible apply NewBox.far); (focus (first | omega | (simp; done) | (simp; omega)))))); exact HXr.out)); rfl
   clear hxr hfr hkr
   have hxr := HXr.out.2.1
   have hfr := HXr.out.2.2
   have hkr := HXr.out.1
   replace HXt : Hid (NewBox w9 (w6.heap.size) [.int .i64 k, .slice (some ⟨b, off, none⟩) q c]) := by rw [Hid, hw]; (repeat (first | (with_reducible refine NewBox.alloc ?_ _) | (with_reducible refine NewBox.drew ?_) | ((with_reducible refine NewBox.setCell ?_ ?_ _); rotate_left 1; (focus (first | omega | (simp; done) | (simp; omega)))))); exact HXt.out
   clear hxt hft hkt
   have hxt := HXt.out.2.1
   have hft := HXt.out.2.2
   have hkt := HXt.out.1
   have HOWF : Hid (Own w9 lo0 w9.heap.size (some ⟨b, off, none⟩) (strs (ss.set 0 sx))) := by
    rw [Hid, hw]
    refine Own.mono (lo := lo0) (hi := w9_.heap.size) ?_ (Nat.le_refl _) (by simp [World.setCell]) (by simp [World.setCell])
    repeat (refine Own.setCell ?_ (Or.inl (by simp; omega)) _)
    exact HST.out
   clear hw
   refine bodyPost_ret (v := .agg #[.int .i64 k, .slice (some ⟨b, off, none⟩) q c]) (by simp [results, Try.results88, go_sem, hxr]) rfl ?_
   exact ⟨k, some ⟨b, off, none⟩, c, q, ss.set 0 sx, rfl, by constructor <;> omega, ⟨by rw [List.length_set]; exact HSL.out, by omega, fun s hs => (List.mem_or_eq_of_mem_set hs).elim (fun h => Nat.le_trans (HSS.out s h) (by omega)) (fun e => by rw [e]; exact z1), hmc, (fun e => by cases e), HOWF.out.mono (by omega) (Nat.le_refl _) (Nat.le_refl _)⟩, CodeK.get HOC.out, HB.out⟩
 ·have f0 : (x == 0) = false := beq_eq_false_iff_ne.2 (by omega)
  have f1 : (x == 1) = false := beq_eq_false_iff_ne.2 (by omega)
  have f2 : (x == 2) = false := beq_eq_false_iff_ne.2 (by omega)
  go_wp2
  refine bodyPost_named (fun w9 hw => ?_)
  have hz9 : w8.heap.size + 0 ≤ w9.heap.size := by rw [hw]; first | omega | (simp [World.setCell]; done) | (simp [World.setCell]; omega)
  have hzz9 : w.heap.size ≤ w9.heap.size := by omega
  replace HB : Hid (Only (p) (p + 1) w w9) := by rw [Hid, hw]; exact (by ((repeat (first | (with_reducible refine only_alloc ?_ _) | (with_reducible refine only_drew ?_) | ((with_reducible refine only_new ?_ ?_ _); rotate_left 1; (focus (first | omega | (simp; done) | (simp; omega)))))); exact HB.out))
  replace HOR : Hid (RowB w9 (lo0) (w6.heap.size) ((.slice A q c, q)) (strs ss)) := by rw [Hid, hw]; (repeat (first | (with_reducible refine RowB.alloc ?_ _) | (with_reducible refine RowB.drew ?_) | ((with_reducible refine RowB.setCell ?_ ?_ _); rotate_left 1; (focus (first | omega | (simp; done) | (simp; omega)))))); exact HOR.out
  replace HOC : Hid (CodeK w9 (0) (p + 1) ((B, n, g)) (l)) := by rw [Hid, hw]; (repeat (first | (with_reducible refine CodeK.alloc ?_ _) | (with_reducible refine CodeK.drew ?_) | ((with_reducible refine CodeK.setCell ?_ ?_ _); rotate_left 1; (focus (first | omega | (simp; done) | (simp; omega)))))); exact HOC.out
  replace HXr : Hid (NewBox w9 (w.heap.size) [.int .i64 k, .slice A q c]) := by rw [Hid, hw]; apply NewBox.cast; (focus ((repeat (first | (with_reducible apply NewBox.alloc) | (with_reducible apply NewBox.drew) | (with_reducible apply NewBox.set1) | ((with_reducible apply NewBox.far); (focus (first | omega | (simp; done) | (simp; omega)))))); exact HXr.out)); rfl
  clear hxr hfr hkr
  have hxr := HXr.out.2.1
  have hfr := HXr.out.2.2
  have hkr := HXr.out.1
  replace HXt : Hid (NewBox w9 (w6.heap.size) [.int .i64 k, .slice A q c]) := by rw [Hid, hw]; (repeat (first | (with_reducible refine NewBox.alloc ?_ _) | (with_reducible refine NewBox.drew ?_) | ((with_reducible refine NewBox.setCell ?_ ?_ _); rotate_left 1; (focus (first | omega | (simp; done) | (simp; omega)))))); exact HXt.out
  clear hxt hft hkt
  have hxt := HXt.out.2.1
  have hft := HXt.out.2.2
  have hkt := HXt.out.1
  clear hw
  refine bodyPost_ret (v := .agg #[.int .i64 k, .slice A q c]) (by simp [results, Try.results88, go_sem, hxr]) rfl ?_
  exact ⟨k, A, c, q, ss, rfl, by constructor <;> omega, Lst40.of HSL.out (by omega) (fun s hs => Nat.le_trans (HSS.out s hs) (by omega)) (row_mono HOR.out.1 (by omega)), CodeK.get HOC.out, HB.out⟩
end Go.Proofs.Ytoccjgcokffkbaa
