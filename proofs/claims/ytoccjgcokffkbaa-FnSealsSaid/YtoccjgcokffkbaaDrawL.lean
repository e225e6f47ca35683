/- A drawn seal. -/
import Derived.Test.YtoccjgcokffkbaaDrawH
import Derived.Test.YtoccjgcokffkbaaSealN
import Derived.Test.YtoccjgcokffkbaaSlw
import Derived.Deep.RegionHeld3
namespace Go.Proofs.Ytoccjgcokffkbaa
set_option linter.unusedVariables false
set_option linter.unusedSimpArgs false
open Go.RowKit

theorem Own.setBlk {w : World} {lo hi : Nat} {A : Option Addr} {xs : List Value} (h : Own w lo hi A xs) {k : Nat} (hk : k < lo ∨ hi ≤ k) (o : Nat) (u : Value) : Own (w.setCell ⟨k, o, none⟩ u) lo hi A xs := h.setCell hk u
theorem CodeK.setBlk {w : World} {lo hi : Nat} {a : Option Addr × Nat × Nat} {l : List Int} (h : CodeK w lo hi a l) {k : Nat} (hk : k < lo ∨ hi ≤ k) (o : Nat) (u : Value) : CodeK (w.setCell ⟨k, o, none⟩ u) lo hi a l := h.setCell hk u
theorem sm_bounds (width z1 : Int) (l1 : List ByteArray) (z2 : Int) (l2 : List ByteArray) (h : Hd) (L T : List ByteArray) :
  (0 ≤ smZ1 width z1 l1 z2 l2 h L T ∧ smZ1 width z1 l1 z2 l2 h L T ≤ 512) ∧ (0 ≤ smZ2 width z1 l1 z2 l2 h L T ∧ smZ2 width z1 l1 z2 l2 h L T ≤ 512) ∧ (smL1 width z1 l1 z2 l2 h L T).length ≤ 30 ∧ (smL2 width z1 l1 z2 l2 h L T).length ≤ 30 ∧ HdS 45 (smH width z1 l1 z2 l2 h L T) := by
 rcases hq : smOk width z1 l1 z2 l2 h L T with _ | _
 ·obtain ⟨e1, e2, e3, e4, e5, _⟩ := sm_bad hq
  rw [e1, e2, e3, e4, e5]
  exact ⟨⟨Int.le_refl _, by omega⟩, ⟨Int.le_refl _, by omega⟩, by decide, by decide, i64s (x := 0) (by omega) (by omega), i64s (x := 0) (by omega) (by omega), i64s (x := 0) (by omega) (by omega), by decide, by decide⟩
 ·obtain ⟨e1, e2, e3, e4, e5, _⟩ := sm_good hq
  obtain ⟨h1, h2, h3, h4, h5, h6⟩ := smOk_all hq
  obtain ⟨r1, r2, n0, n1⟩ := sealOk_all h1
  obtain ⟨g1, k1, _⟩ := rng_grow r1 h2 h4
  obtain ⟨g2, k2, _⟩ := rng_grow r2 h3 h5
  have a1 := rngOk_all r1
  have a2 := rngOk_all r2
  have b1 := rngRoot_size (rngOk_all g1).2.2.2.2 (rngOk_all g1).2.2.2.1
  have b2 := rngRoot_size (rngOk_all g2).2.2.2.2 (rngOk_all g2).2.2.2.1
  have hw := inR_true.1 a1.2.2.2.2
  rw [e1, e2, e3, e4, e5]
  exact ⟨⟨by omega, by omega⟩, ⟨by omega, by omega⟩, by omega, by omega, i64s (x := h.num + 1) (by omega) (by omega), i64s (x := z1 + L.length) (by omega) (by omega), i64s (x := z2 + T.length) (by omega) (by omega), by show (rngRoot _ _).size ≤ 45; omega, by show (rngRoot _ _).size ≤ 45; omega⟩
def RowV (w : World) (lo : Nat) (A : Option Addr) (m c : Nat) (l : List ByteArray) : Prop := l.length = m ∧ m ≤ 30 ∧ (A = none → c = 0) ∧ Own w lo w.heap.size A (strs l)
def SealV (w : World) (lo : Nat) (z1 z2 : Int) (A1 A2 : Option Addr) (m1 c1 m2 c2 : Nat) (l1 l2 : List ByteArray) (x : Hd) : Prop := I64 z1 ∧ I64 z2 ∧ HdS 50 x ∧ RowV w lo A1 m1 c1 l1 ∧ RowV w lo A2 m2 c2 l2
set_option maxRecDepth 100000 in
set_option maxHeartbeats 4000000 in
theorem l11Seal_c {w : World} {p n g : Nat} {B : Option Addr} {l : List Int} (h : Code w p B n g 0 p l) (hp : p < w.heap.size) (wd : Int) :
  Calls Try.prog 54 #[.pointer (some ⟨p, 0, none⟩), .int .i64 wd] w fun e w' => ∃ (z1 z2 : Int) (A1 A2 : Option Addr) (m1 c1 m2 c2 : Nat) (l1 l2 : List ByteArray) (x : Hd), e = .returned (.agg #[.int .i64 z1, .slice A1 m1 c1, .int .i64 z2, .slice A2 m2 c2, .int .i64 x.num, .int .i64 x.size, .string x.root, .int .i64 x.taken, .string x.troot]) ∧ SealV w' w.heap.size z1 z2 A1 A2 m1 c1 m2 c2 l1 l2 x ∧ Code w' p B n g 0 p l ∧ Only p (p + 1) w w' := by
 have HB : Hid (Only (p) (p + 1) w w) := Only.refl _ _ _
 have HOC : Hid (CodeK w (0) (p + 1) ((B, n, g)) (l)) := Lib.hid (CodeK.mk_ h)
 clear h
 go_enter Try.func54, Try.ntmps54
 go_wp2_with fail
 refine calls_named (fun w1 hw => ?_)
 have hz1 : w.heap.size + 1 ≤ w1.heap.size := by rw [hw]; first | omega | (simp [World.setCell]; done) | (simp [World.setCell]; omega)
 have hzz1 : w.heap.size ≤ w1.heap.size := by omega
 have hbn : Below w.heap.size w w1 := by rw [hw]; exact (by ((repeat (first | ((with_reducible refine Below.alloc ?_ ?_ _); rotate_left 1; (focus (first | omega | (simp; done) | (simp; omega)))) | (with_reducible refine Below.drew ?_) | ((with_reducible refine Below.setCell ?_ ?_ _); rotate_left 1; (focus (first | omega | (simp; done) | (simp; omega)))))); exact Below.refl _ _))
 replace HB := Lib.hid (HB.out.trans (Only.of_below hbn))
 replace HOC := Lib.hid (HOC.out.below hbn)
 clear hbn
 have HXr : Hid (NewBox w1 (w.heap.size) [.int .i64 0, .slice none 0 0, .int .i64 0, .slice none 0 0, .int .i64 0, .int .i64 0, .string ⟨#[]⟩, .int .i64 0, .string ⟨#[]⟩]) := by rw [Hid, hw]; exact ⟨by first | omega | (simp [World.setCell]; done) | (simp [World.setCell]; omega), fun o => by rcases o with _ | _ | _ | _ | _ | _ | _ | _ | _ | o <;> go_simp, fun o => by go_simp⟩
 have hxr := HXr.out.2.1
 have hfr := HXr.out.2.2
 have hkr := HXr.out.1
 clear hw
 refine (specSealNew_c wd _).mono ?_
 rintro e w2 ⟨rfl, hb⟩
 have hzw2 : w1.heap.size ≤ w2.heap.size := hb.size
 have hzzw2 : w.heap.size ≤ w2.heap.size := by omega
 replace HB := Lib.hid (HB.out.trans (Only.of_below hb))
 replace HOC := Lib.hid (HOC.out.below hb)
 replace HXr := Lib.hid (HXr.out.below hb)
 clear hxr hfr hkr
 have hxr := HXr.out.2.1
 have hfr := HXr.out.2.2
 have hkr := HXr.out.1
 clear hb
 have hem : (emptyT wd).size ≤ 32 := by
  rcases hq : inR wd 1 32 with _ | _
  ·rw [emptyT_no hq]; decide
  ·have h1 := emptyT_size hq; have h2 := inR_true.1 hq; omega
 generalize emptyT wd = em at *
 go_wp2_with fail
 refine wp_named (fun w3 hw => ?_)
 have hz3 : w2.heap.size + 1 ≤ w3.heap.size := by rw [hw]; first | omega | (simp [World.setCell]; done) | (simp [World.setCell]; omega)
 have hzz3 : w.heap.size ≤ w3.heap.size := by omega
 have hbn : Below w2.heap.size w2 w3 := by rw [hw]; exact (by ((repeat (first | ((with_reducible refine Below.alloc ?_ ?_ _); rotate_left 1; (focus (first | omega | (simp; done) | (simp; omega)))) | (with_reducible refine Below.drew ?_) | ((with_reducible refine Below.setCell ?_ ?_ _); rotate_left 1; (focus (first | omega | (simp; done) | (simp; omega)))))); exact Below.refl _ _))
 replace HB := Lib.hid (HB.out.trans (Only.of_below hbn))
 replace HOC := Lib.hid (HOC.out.below hbn)
 replace HXr := Lib.hid (HXr.out.below hbn)
 clear hxr hfr hkr
 have hxr := HXr.out.2.1
 have hfr := HXr.out.2.2
 have hkr := HXr.out.1
 clear hbn
 have HXs : Hid (NewBox w3 (w2.heap.size) [.int .i64 0, .slice none 0 0, .int .i64 0, .slice none 0 0, .int .i64 0, .int .i64 0, .string em, .int .i64 0, .string em]) := by rw [Hid, hw]; exact ⟨by first | omega | (simp [World.setCell]; done) | (simp [World.setCell]; omega), fun o => by rcases o with _ | _ | _ | _ | _ | _ | _ | _ | _ | o <;> go_simp, fun o => by go_simp⟩
 have hxs := HXs.out.2.1
 have hfs := HXs.out.2.2
 have hks := HXs.out.1
 clear hw
 go_cut [7, 8, 9] (fun v7 v8 v9 wx => ∃ (kb k1 k3 : Nat) (B1 B2 : Option Addr) (e1 e2 : Nat) (s1 s2 : List ByteArray), v7 = .pointer (some ⟨kb, 0, none⟩) ∧ v8 = .int .i64 (smN wd 0 [] 0 [] ⟨0, 0, em, 0, em⟩ s1 s2) ∧ v9 = .int .i64 (smCode wd 0 [] 0 [] ⟨0, 0, em, 0, em⟩ s1 s2) ∧ w3.heap.size ≤ kb ∧ kb < wx.heap.size ∧ NewBox wx kb [.int .i64 (smZ1 wd 0 [] 0 [] ⟨0, 0, em, 0, em⟩ s1 s2), .slice B1 (smL1 wd 0 [] 0 [] ⟨0, 0, em, 0, em⟩ s1 s2).length e1, .int .i64 (smZ2 wd 0 [] 0 [] ⟨0, 0, em, 0, em⟩ s1 s2), .slice B2 (smL2 wd 0 [] 0 [] ⟨0, 0, em, 0, em⟩ s1 s2).length e2, .int .i64 (smH wd 0 [] 0 [] ⟨0, 0, em, 0, em⟩ s1 s2).num, .int .i64 (smH wd 0 [] 0 [] ⟨0, 0, em, 0, em⟩ s1 s2).size, .string (smH wd 0 [] 0 [] ⟨0, 0, em, 0, em⟩ s1 s2).root, .int .i64 (smH wd 0 [] 0 [] ⟨0, 0, em, 0, em⟩ s1 s2).taken, .string (smH wd 0 [] 0 [] ⟨0, 0, em, 0, em⟩ s1 s2).troot] ∧
   NewBox wx ((w2.heap.size)) [.int .i64 0, .slice none 0 0, .int .i64 0, .slice none 0 0, .int .i64 0, .int .i64 0, .string em, .int .i64 0, .string em] ∧ Own wx w3.heap.size wx.heap.size B1 (strs (smL1 wd 0 [] 0 [] ⟨0, 0, em, 0, em⟩ s1 s2)) ∧ Own wx w3.heap.size wx.heap.size B2 (strs (smL2 wd 0 [] 0 [] ⟨0, 0, em, 0, em⟩ s1 s2)) ∧ ((B1 = none → e1 = 0) ∧ (B2 = none → e2 = 0)) ∧ CodeK wx 0 (p + 1) (B, n, g) l ∧ Only p (p + 1) w3 wx)
 case first =>
  go_region_held3 (fun w' => ∀ o, w'.cell? ⟨(w2.heap.size), o, none⟩ = [.int .i64 0, .slice none 0 0, .int .i64 0, .slice none 0 0, .int .i64 0, .int .i64 0, .string em, .int .i64 0, .string em][o]?) (first | exact (by (repeat (first | (with_reducible refine NewBox.alloc ?_ _) | (with_reducible refine NewBox.drew ?_) | ((with_reducible refine NewBox.setCell ?_ ?_ _); rotate_left 1; (focus (first | omega | (simp; done) | (simp; omega)))))); exact HS5.out : NewBox _ _ [.int .i64 0, .slice none 0 0, .int .i64 0, .slice none 0 0, .int .i64 0, .int .i64 0, .string em, .int .i64 0, .string em]).2.1 | exact (by (repeat (first | (with_reducible refine NewBox.alloc ?_ _) | (with_reducible refine NewBox.drew ?_) | ((with_reducible refine NewBox.setCell ?_ ?_ _); rotate_left 1; (focus (first | omega | (simp; done) | (simp; omega)))))); exact HS4.out : NewBox _ _ [.int .i64 0, .slice none 0 0, .int .i64 0, .slice none 0 0, .int .i64 0, .int .i64 0, .string em, .int .i64 0, .string em]).2.1 | exact (by (repeat (first | (with_reducible refine NewBox.alloc ?_ _) | (with_reducible refine NewBox.drew ?_) | ((with_reducible refine NewBox.setCell ?_ ?_ _); rotate_left 1; (focus (first | omega | (simp; done) | (simp; omega)))))); exact HS3.out : NewBox _ _ [.int .i64 0, .slice none 0 0, .int .i64 0, .slice none 0 0, .int .i64 0, .int .i64 0, .string em, .int .i64 0, .string em]).2.1 | exact (by (repeat (first | (with_reducible refine NewBox.alloc ?_ _) | (with_reducible refine NewBox.drew ?_) | ((with_reducible refine NewBox.setCell ?_ ?_ _); rotate_left 1; (focus (first | omega | (simp; done) | (simp; omega)))))); exact HS2.out : NewBox _ _ [.int .i64 0, .slice none 0 0, .int .i64 0, .slice none 0 0, .int .i64 0, .int .i64 0, .string em, .int .i64 0, .string em]).2.1 | exact (by (repeat (first | (with_reducible refine NewBox.alloc ?_ _) | (with_reducible refine NewBox.drew ?_) | ((with_reducible refine NewBox.setCell ?_ ?_ _); rotate_left 1; (focus (first | omega | (simp; done) | (simp; omega)))))); exact HS1.out : NewBox _ _ [.int .i64 0, .slice none 0 0, .int .i64 0, .slice none 0 0, .int .i64 0, .int .i64 0, .string em, .int .i64 0, .string em]).2.1 | exact (by (repeat (first | (with_reducible refine NewBox.alloc ?_ _) | (with_reducible refine NewBox.drew ?_) | ((with_reducible refine NewBox.setCell ?_ ?_ _); rotate_left 1; (focus (first | omega | (simp; done) | (simp; omega)))))); exact HXs.out : NewBox _ _ [.int .i64 0, .slice none 0 0, .int .i64 0, .slice none 0 0, .int .i64 0, .int .i64 0, .string em, .int .i64 0, .string em]).2.1) (first | (go_at_call 86; refine (l04Few_c (CodeK.get (n := n) (g := g) (B := B) (l := l) (by (repeat (first | (with_reducible refine CodeK.alloc ?_ _) | (with_reducible refine CodeK.drew ?_))); exact HOC.out))).mono ?_; rintro e v1_ ⟨k1, rfl, hk1, hc1, ho1⟩; have HC1 := Lib.hid (CodeK.mk_ hc1); have HP1 : Hid (Only p (p + 1) w3 v1_) := Lib.hid ((Only.of_below (by ((repeat (first | ((with_reducible refine Below.alloc ?_ ?_ _); rotate_left 1; (focus (first | omega | (simp; done) | (simp; omega)))) | (with_reducible refine Below.drew ?_))); exact Below.refl _ _))).trans ho1); have hzs1 := HP1.out.size; have HS1 : Hid (NewBox v1_ (w2.heap.size) [.int .i64 0, .slice none 0 0, .int .i64 0, .slice none 0 0, .int .i64 0, .int .i64 0, .string em, .int .i64 0, .string em]) := Lib.hid (NewBox.only (by (repeat (first | (with_reducible refine NewBox.alloc ?_ _) | (with_reducible refine NewBox.drew ?_))); exact HXs.out) ho1 (by omega)); (first | (have HZ1 : Hid (NewBox v1_ w3.heap.size #[.int .i64 0, .slice none 0 0, .int .i64 0, .slice none 0 0, .int .i64 0, .int .i64 0, .string ⟨#[]⟩, .int .i64 0, .string ⟨#[]⟩].toList) := Lib.hid (NewBox.only (by first | exact NewBox.new _ #[.int .i64 0, .slice none 0 0, .int .i64 0, .slice none 0 0, .int .i64 0, .int .i64 0, .string ⟨#[]⟩, .int .i64 0, .string ⟨#[]⟩] _ | (refine NewBox.drew ?_; exact NewBox.new _ #[.int .i64 0, .slice none 0 0, .int .i64 0, .slice none 0 0, .int .i64 0, .int .i64 0, .string ⟨#[]⟩, .int .i64 0, .string ⟨#[]⟩] _)) ho1 (by omega))) | skip); clear hc1 ho1) | (go_at_call_of 56 (Value.int .i64 (k1 : Int)); refine (l04List_c (CodeK.get (n := n) (g := g) (B := B) (l := l) (by (repeat (first | (with_reducible refine CodeK.alloc ?_ _) | (with_reducible refine CodeK.drew ?_))); exact HC1.out)) (by first | omega | (simp; omega)) wd k1 (by omega)).mono ?_; rintro e v2_ ⟨L1, d1, s1, rfl, ⟨hl1, hsz1, how1⟩, hc2, ho2⟩; have HC2 := Lib.hid (CodeK.mk_ hc2); have HP2 : Hid (Only p (p + 1) v1_ v2_) := Lib.hid ((Only.of_below (by ((repeat (first | ((with_reducible refine Below.alloc ?_ ?_ _); rotate_left 1; (focus (first | omega | (simp; done) | (simp; omega)))) | (with_reducible refine Below.drew ?_))); exact Below.refl _ _))).trans ho2); have hzs2 := HP2.out.size; have HS2 : Hid (NewBox v2_ (w2.heap.size) [.int .i64 0, .slice none 0 0, .int .i64 0, .slice none 0 0, .int .i64 0, .int .i64 0, .string em, .int .i64 0, .string em]) := Lib.hid (NewBox.only (by (repeat (first | (with_reducible refine NewBox.alloc ?_ _) | (with_reducible refine NewBox.drew ?_))); exact HS1.out) ho2 (by omega)); have HR1_2 : Hid (RowB v2_ w3.heap.size v2_.heap.size (.slice L1 k1 d1, k1) (strs s1)) := Lib.hid ((RowB.of how1).mono (by first | omega | (simp; done) | (simp; omega)) (Nat.le_refl _)); have HL1 := Lib.hid hl1; clear hsz1 how1 hl1; (first | (have HZ2 : Hid (NewBox v2_ w3.heap.size #[.int .i64 0, .slice none 0 0, .int .i64 0, .slice none 0 0, .int .i64 0, .int .i64 0, .string ⟨#[]⟩, .int .i64 0, .string ⟨#[]⟩].toList) := Lib.hid (NewBox.only (by (repeat (first | (with_reducible refine NewBox.alloc ?_ _) | (with_reducible refine NewBox.drew ?_))); exact HZ1.out) ho2 (by omega))) | (have HZ2 : Hid (NewBox v2_ v1_.heap.size #[.int .i64 0, .slice none 0 0, .int .i64 0, .slice none 0 0, .int .i64 0, .int .i64 0, .string ⟨#[]⟩, .int .i64 0, .string ⟨#[]⟩].toList) := Lib.hid (NewBox.only (by first | exact NewBox.new _ #[.int .i64 0, .slice none 0 0, .int .i64 0, .slice none 0 0, .int .i64 0, .int .i64 0, .string ⟨#[]⟩, .int .i64 0, .string ⟨#[]⟩] _ | (refine NewBox.drew ?_; exact NewBox.new _ #[.int .i64 0, .slice none 0 0, .int .i64 0, .slice none 0 0, .int .i64 0, .int .i64 0, .string ⟨#[]⟩, .int .i64 0, .string ⟨#[]⟩] _)) ho2 (by omega))) | skip); clear hc2 ho2) | (go_at_call 34; refine (l01Below_c p n g 0 p B l 6 _ (CodeK.get (n := n) (g := g) (B := B) (l := l) (by (repeat (first | (with_reducible refine CodeK.alloc ?_ _) | (with_reducible refine CodeK.drew ?_))); exact HC2.out)) (by omega) (by omega)).mono ?_; rintro e v3_ ⟨y3, rfl, y30, y31, hc3, ho3⟩; have HC3 := Lib.hid (CodeK.mk_ hc3); have HP3 : Hid (Only p (p + 1) v2_ v3_) := Lib.hid ((Only.of_below (by ((repeat (first | ((with_reducible refine Below.alloc ?_ ?_ _); rotate_left 1; (focus (first | omega | (simp; done) | (simp; omega)))) | (with_reducible refine Below.drew ?_))); exact Below.refl _ _))).trans ho3); have hzs3 := HP3.out.size; have HS3 : Hid (NewBox v3_ (w2.heap.size) [.int .i64 0, .slice none 0 0, .int .i64 0, .slice none 0 0, .int .i64 0, .int .i64 0, .string em, .int .i64 0, .string em]) := Lib.hid (NewBox.only (by (repeat (first | (with_reducible refine NewBox.alloc ?_ _) | (with_reducible refine NewBox.drew ?_))); exact HS2.out) ho3 (by omega)); have HR1_3 : Hid (RowB v3_ w3.heap.size v2_.heap.size (.slice L1 k1 d1, k1) (strs s1)) := Lib.hid (RowB.only (by (repeat (first | (with_reducible refine RowB.alloc ?_ _) | (with_reducible refine RowB.drew ?_))); exact HR1_2.out) ho3 (by omega)); obtain ⟨k3, rfl⟩ : ∃ k3 : Nat, y3 = k3 := ⟨y3.toNat, (by omega)⟩; (first | (have HZ3 : Hid (NewBox v3_ w3.heap.size #[.int .i64 0, .slice none 0 0, .int .i64 0, .slice none 0 0, .int .i64 0, .int .i64 0, .string ⟨#[]⟩, .int .i64 0, .string ⟨#[]⟩].toList) := Lib.hid (NewBox.only (by (repeat (first | (with_reducible refine NewBox.alloc ?_ _) | (with_reducible refine NewBox.drew ?_))); exact HZ2.out) ho3 (by omega))) | (have HZ3 : Hid (NewBox v3_ v1_.heap.size #[.int .i64 0, .slice none 0 0, .int .i64 0, .slice none 0 0, .int .i64 0, .int .i64 0, .string ⟨#[]⟩, .int .i64 0, .string ⟨#[]⟩].toList) := Lib.hid (NewBox.only (by (repeat (first | (with_reducible refine NewBox.alloc ?_ _) | (with_reducible refine NewBox.drew ?_))); exact HZ2.out) ho3 (by omega))) | (have HZ3 : Hid (NewBox v3_ v2_.heap.size #[.int .i64 0, .slice none 0 0, .int .i64 0, .slice none 0 0, .int .i64 0, .int .i64 0, .string ⟨#[]⟩, .int .i64 0, .string ⟨#[]⟩].toList) := Lib.hid (NewBox.only (by first | exact NewBox.new _ #[.int .i64 0, .slice none 0 0, .int .i64 0, .slice none 0 0, .int .i64 0, .int .i64 0, .string ⟨#[]⟩, .int .i64 0, .string ⟨#[]⟩] _ | (refine NewBox.drew ?_; exact NewBox.new _ #[.int .i64 0, .slice none 0 0, .int .i64 0, .slice none 0 0, .int .i64 0, .int .i64 0, .string ⟨#[]⟩, .int .i64 0, .string ⟨#[]⟩] _)) ho3 (by omega))) | skip); clear hc3 ho3) | (go_at_call_of 56 (Value.int .i64 (k3 : Int)); refine (l04List_c (CodeK.get (n := n) (g := g) (B := B) (l := l) (by (repeat (first | (with_reducible refine CodeK.alloc ?_ _) | (with_reducible refine CodeK.drew ?_))); exact HC3.out)) (by first | omega | (simp; omega)) wd k3 (by omega)).mono ?_; rintro e v4_ ⟨L2, d2, s2, rfl, ⟨hl2, hsz2, how2⟩, hc4, ho4⟩; have HC4 := Lib.hid (CodeK.mk_ hc4); have HP4 : Hid (Only p (p + 1) v3_ v4_) := Lib.hid ((Only.of_below (by ((repeat (first | ((with_reducible refine Below.alloc ?_ ?_ _); rotate_left 1; (focus (first | omega | (simp; done) | (simp; omega)))) | (with_reducible refine Below.drew ?_))); exact Below.refl _ _))).trans ho4); have hzs4 := HP4.out.size; have HS4 : Hid (NewBox v4_ (w2.heap.size) [.int .i64 0, .slice none 0 0, .int .i64 0, .slice none 0 0, .int .i64 0, .int .i64 0, .string em, .int .i64 0, .string em]) := Lib.hid (NewBox.only (by (repeat (first | (with_reducible refine NewBox.alloc ?_ _) | (with_reducible refine NewBox.drew ?_))); exact HS3.out) ho4 (by omega)); have HR1_4 : Hid (RowB v4_ w3.heap.size v2_.heap.size (.slice L1 k1 d1, k1) (strs s1)) := Lib.hid (RowB.only (by (repeat (first | (with_reducible refine RowB.alloc ?_ _) | (with_reducible refine RowB.drew ?_))); exact HR1_3.out) ho4 (by omega)); have HR2_4 : Hid (RowB v4_ w3.heap.size v4_.heap.size (.slice L2 k3 d2, k3) (strs s2)) := Lib.hid ((RowB.of how2).mono (by first | omega | (simp; done) | (simp; omega)) (Nat.le_refl _)); have HL2 := Lib.hid hl2; clear hsz2 how2 hl2; (first | (have HZ4 : Hid (NewBox v4_ w3.heap.size #[.int .i64 0, .slice none 0 0, .int .i64 0, .slice none 0 0, .int .i64 0, .int .i64 0, .string ⟨#[]⟩, .int .i64 0, .string ⟨#[]⟩].toList) := Lib.hid (NewBox.only (by (repeat (first | (with_reducible refine NewBox.alloc ?_ _) | (with_reducible refine NewBox.drew ?_))); exact HZ3.out) ho4 (by omega))) | (have HZ4 : Hid (NewBox v4_ v1_.heap.size #[.int .i64 0, .slice none 0 0, .int .i64 0, .slice none 0 0, .int .i64 0, .int .i64 0, .string ⟨#[]⟩, .int .i64 0, .string ⟨#[]⟩].toList) := Lib.hid (NewBox.only (by (repeat (first | (with_reducible refine NewBox.alloc ?_ _) | (with_reducible refine NewBox.drew ?_))); exact HZ3.out) ho4 (by omega))) | (have HZ4 : Hid (NewBox v4_ v2_.heap.size #[.int .i64 0, .slice none 0 0, .int .i64 0, .slice none 0 0, .int .i64 0, .int .i64 0, .string ⟨#[]⟩, .int .i64 0, .string ⟨#[]⟩].toList) := Lib.hid (NewBox.only (by (repeat (first | (with_reducible refine NewBox.alloc ?_ _) | (with_reducible refine NewBox.drew ?_))); exact HZ3.out) ho4 (by omega))) | (have HZ4 : Hid (NewBox v4_ v3_.heap.size #[.int .i64 0, .slice none 0 0, .int .i64 0, .slice none 0 0, .int .i64 0, .int .i64 0, .string ⟨#[]⟩, .int .i64 0, .string ⟨#[]⟩].toList) := Lib.hid (NewBox.only (by first | exact NewBox.new _ #[.int .i64 0, .slice none 0 0, .int .i64 0, .slice none 0 0, .int .i64 0, .int .i64 0, .string ⟨#[]⟩, .int .i64 0, .string ⟨#[]⟩] _ | (refine NewBox.drew ?_; exact NewBox.new _ #[.int .i64 0, .slice none 0 0, .int .i64 0, .slice none 0 0, .int .i64 0, .int .i64 0, .string ⟨#[]⟩, .int .i64 0, .string ⟨#[]⟩] _)) ho4 (by omega))) | skip); clear hc4 ho4) | (have HSM := fun (W : World) (r1 : RowB W w3.heap.size v2_.heap.size (.slice L1 k1 d1, k1) (strs s1)) (r2 : RowB W w3.heap.size v4_.heap.size (.slice L2 k3 d2, k3) (strs s2)) => specSealMore_c wd 0 0 none none 0 0 0 0 0 0 0 0 [] [] ⟨0, 0, em, 0, em⟩ L1 L2 d1 d2 _ _ _ _ k1 k3 s1 s2 W Rd.nil Rd.nil (RowB.own (lo := w3.heap.size) (hi := v2_.heap.size) (A := L1) (n := k1) (c := d1) (m := k1) (xs := strs s1) r1 rfl).rd (RowB.own (lo := w3.heap.size) (hi := v4_.heap.size) (A := L2) (n := k3) (c := d2) (m := k3) (xs := strs s2) r2 rfl).rd rfl rfl HL1.out HL2.out (by omega) (by omega) (by omega) (by omega) (fun _ => rfl) (fun _ => rfl) (by constructor <;> omega) (by constructor <;> omega) (by show em.size + em.size ≤ 1048576; omega); go_at_call 23; refine (HSM _ (by (repeat (first | (with_reducible refine RowB.alloc ?_ _) | (with_reducible refine RowB.drew ?_))); exact HR1_4.out) (by (repeat (first | (with_reducible refine RowB.alloc ?_ _) | (with_reducible refine RowB.drew ?_))); exact HR2_4.out)).mono ?_; rintro e v5_ ⟨B1, e1, a1, b1, B2, e2, a2, b2, rfl, ⟨ha1, hb1_, ho1_, hn1_⟩, ⟨ha2, hb2_, ho2_, hn2_⟩, hdis, hb5⟩; have HC5 : Hid (CodeK v5_ 0 (p + 1) (B, n, g) l) := Lib.hid (CodeK.below (by (repeat (first | (with_reducible refine CodeK.alloc ?_ _) | (with_reducible refine CodeK.drew ?_))); exact HC4.out) hb5); have HP5 : Hid (Only p (p + 1) v4_ v5_) := Lib.hid ((Only.of_below (by ((repeat (first | ((with_reducible refine Below.alloc ?_ ?_ _); rotate_left 1; (focus (first | omega | (simp; done) | (simp; omega)))) | (with_reducible refine Below.drew ?_))); exact Below.refl _ _))).trans (Only.of_below hb5)); have hzs5 := HP5.out.size; have HS5 : Hid (NewBox v5_ (w2.heap.size) [.int .i64 0, .slice none 0 0, .int .i64 0, .slice none 0 0, .int .i64 0, .int .i64 0, .string em, .int .i64 0, .string em]) := Lib.hid (NewBox.below (by (repeat (first | (with_reducible refine NewBox.alloc ?_ _) | (with_reducible refine NewBox.drew ?_))); exact HS4.out) hb5); clear HSM; (try simp at ha1 ha2); have HQ1 := Lib.hid ho1_; have HQ2 := Lib.hid ho2_; have HN12 := Lib.hid (And.intro hn1_ hn2_); clear ho1_ ho2_ hdis hn1_ hn2_; (first | (have HZ5 : Hid (NewBox v5_ w3.heap.size #[.int .i64 0, .slice none 0 0, .int .i64 0, .slice none 0 0, .int .i64 0, .int .i64 0, .string ⟨#[]⟩, .int .i64 0, .string ⟨#[]⟩].toList) := Lib.hid (NewBox.below (by (repeat (first | (with_reducible refine NewBox.alloc ?_ _) | (with_reducible refine NewBox.drew ?_))); exact HZ4.out) hb5); have hzk4 := HZ4.out.1; have hzx5 := HZ5.out.2.1; have hzf5 := HZ5.out.2.2; have hzk5 := HZ5.out.1; have hko1 : w3.heap.size < a1 ∨ b1 ≤ w3.heap.size := Or.inl (by omega); have hko2 : w3.heap.size < a2 ∨ b2 ≤ w3.heap.size := Or.inl (by omega); have hkos : w3.heap.size ≠ (w2.heap.size) := (by omega); have hkoc : w3.heap.size < 0 ∨ p + 1 ≤ w3.heap.size := Or.inr (by omega); have hkon : w3.heap.size ≤ w3.heap.size := (by omega)) | (have HZ5 : Hid (NewBox v5_ v1_.heap.size #[.int .i64 0, .slice none 0 0, .int .i64 0, .slice none 0 0, .int .i64 0, .int .i64 0, .string ⟨#[]⟩, .int .i64 0, .string ⟨#[]⟩].toList) := Lib.hid (NewBox.below (by (repeat (first | (with_reducible refine NewBox.alloc ?_ _) | (with_reducible refine NewBox.drew ?_))); exact HZ4.out) hb5); have hzk4 := HZ4.out.1; have hzx5 := HZ5.out.2.1; have hzf5 := HZ5.out.2.2; have hzk5 := HZ5.out.1; have hko1 : v1_.heap.size < a1 ∨ b1 ≤ v1_.heap.size := Or.inl (by omega); have hko2 : v1_.heap.size < a2 ∨ b2 ≤ v1_.heap.size := Or.inl (by omega); have hkos : v1_.heap.size ≠ (w2.heap.size) := (by omega); have hkoc : v1_.heap.size < 0 ∨ p + 1 ≤ v1_.heap.size := Or.inr (by omega); have hkon : w3.heap.size ≤ v1_.heap.size := (by omega)) | (have HZ5 : Hid (NewBox v5_ v2_.heap.size #[.int .i64 0, .slice none 0 0, .int .i64 0, .slice none 0 0, .int .i64 0, .int .i64 0, .string ⟨#[]⟩, .int .i64 0, .string ⟨#[]⟩].toList) := Lib.hid (NewBox.below (by (repeat (first | (with_reducible refine NewBox.alloc ?_ _) | (with_reducible refine NewBox.drew ?_))); exact HZ4.out) hb5); have hzk4 := HZ4.out.1; have hzx5 := HZ5.out.2.1; have hzf5 := HZ5.out.2.2; have hzk5 := HZ5.out.1; have hko1 : v2_.heap.size < a1 ∨ b1 ≤ v2_.heap.size := Or.inl (by omega); have hko2 : v2_.heap.size < a2 ∨ b2 ≤ v2_.heap.size := Or.inl (by omega); have hkos : v2_.heap.size ≠ (w2.heap.size) := (by omega); have hkoc : v2_.heap.size < 0 ∨ p + 1 ≤ v2_.heap.size := Or.inr (by omega); have hkon : w3.heap.size ≤ v2_.heap.size := (by omega)) | (have HZ5 : Hid (NewBox v5_ v3_.heap.size #[.int .i64 0, .slice none 0 0, .int .i64 0, .slice none 0 0, .int .i64 0, .int .i64 0, .string ⟨#[]⟩, .int .i64 0, .string ⟨#[]⟩].toList) := Lib.hid (NewBox.below (by (repeat (first | (with_reducible refine NewBox.alloc ?_ _) | (with_reducible refine NewBox.drew ?_))); exact HZ4.out) hb5); have hzk4 := HZ4.out.1; have hzx5 := HZ5.out.2.1; have hzf5 := HZ5.out.2.2; have hzk5 := HZ5.out.1; have hko1 : v3_.heap.size < a1 ∨ b1 ≤ v3_.heap.size := Or.inl (by omega); have hko2 : v3_.heap.size < a2 ∨ b2 ≤ v3_.heap.size := Or.inl (by omega); have hkos : v3_.heap.size ≠ (w2.heap.size) := (by omega); have hkoc : v3_.heap.size < 0 ∨ p + 1 ≤ v3_.heap.size := Or.inr (by omega); have hkon : w3.heap.size ≤ v3_.heap.size := (by omega)) | (have HZ5 : Hid (NewBox v5_ v4_.heap.size #[.int .i64 0, .slice none 0 0, .int .i64 0, .slice none 0 0, .int .i64 0, .int .i64 0, .string ⟨#[]⟩, .int .i64 0, .string ⟨#[]⟩].toList) := Lib.hid (NewBox.below (by first | exact NewBox.new _ #[.int .i64 0, .slice none 0 0, .int .i64 0, .slice none 0 0, .int .i64 0, .int .i64 0, .string ⟨#[]⟩, .int .i64 0, .string ⟨#[]⟩] _ | (refine NewBox.drew ?_; exact NewBox.new _ #[.int .i64 0, .slice none 0 0, .int .i64 0, .slice none 0 0, .int .i64 0, .int .i64 0, .string ⟨#[]⟩, .int .i64 0, .string ⟨#[]⟩] _)) hb5); have hzx5 := HZ5.out.2.1; have hzf5 := HZ5.out.2.2; have hzk5 := HZ5.out.1; have hko1 : v4_.heap.size < a1 ∨ b1 ≤ v4_.heap.size := Or.inl (by omega); have hko2 : v4_.heap.size < a2 ∨ b2 ≤ v4_.heap.size := Or.inl (by omega); have hkos : v4_.heap.size ≠ (w2.heap.size) := (by omega); have hkoc : v4_.heap.size < 0 ∨ p + 1 ≤ v4_.heap.size := Or.inr (by omega); have hkon : w3.heap.size ≤ v4_.heap.size := (by omega)) | skip); clear hb5))
  all_goals
   go_wp2_with fail
   go_meet
   refine ⟨_, k1, k3, B1, B2, e1, e2, s1, s2, rfl, rfl, rfl, ?_, ?_, ?_, ?_, ?_, ?_, HN12.out, ?_, ?_⟩
   ·omega
   ·first | omega | (simp [World.setCell]; done) | (simp [World.setCell]; omega)
   ·first | (apply NewBox.cast; (focus ((repeat (first | (with_reducible apply NewBox.alloc) | (with_reducible apply NewBox.drew) | (with_reducible apply NewBox.set1))); exact HZ5.out)); rfl) | exact NewBox.new _ _ _ | (refine NewBox.drew ?_; exact NewBox.new _ _ _)
   ·(repeat (first | (with_reducible refine NewBox.alloc ?_ _) | (with_reducible refine NewBox.drew ?_) | (with_reducible refine NewBox.far hkos _ ?_)))
    exact HS5.out
   ·refine Own.mono (lo := a1) (hi := b1) ?_ (by first | omega | (simp; omega)) (by first | omega | (simp [World.setCell]; done) | (simp [World.setCell]; omega)) (Nat.le_refl _)
    (repeat (first | (with_reducible refine Own.alloc ?_ _) | (with_reducible refine Own.drew ?_) | (with_reducible refine Own.setBlk ?_ hko1 _ _)))
    exact HQ1.out
   ·refine Own.mono (lo := a2) (hi := b2) ?_ (by first | omega | (simp; omega)) (by first | omega | (simp [World.setCell]; done) | (simp [World.setCell]; omega)) (Nat.le_refl _)
    (repeat (first | (with_reducible refine Own.alloc ?_ _) | (with_reducible refine Own.drew ?_) | (with_reducible refine Own.setBlk ?_ hko2 _ _)))
    exact HQ2.out
   ·(repeat (first | (with_reducible refine CodeK.alloc ?_ _) | (with_reducible refine CodeK.drew ?_) | (with_reducible refine CodeK.setBlk ?_ hkoc _ _)))
    exact HC5.out
   ·(repeat (first | (with_reducible refine only_alloc ?_ _) | (with_reducible refine only_drew ?_) | (with_reducible refine only_new ?_ hkon _)))
    exact ((((HP1.out.trans HP2.out).trans HP3.out).trans HP4.out).trans HP5.out)
 case rest =>
  obtain ⟨kb, k1, k3, B1, B2, e1, e2, s1, s2, rfl, rfl, rfl, hkb1, hkb2, hbt, hbs, hq1, hq2, hnn, hcc, hon⟩ := hcut
  obtain ⟨lo0, hlo0, hle0⟩ : ∃ n, n ≤ w3.heap.size ∧ w3.heap.size ≤ n := ⟨_, Nat.le_refl _, Nat.le_refl _⟩
  have hsb := sm_bounds wd 0 [] 0 [] ⟨0, 0, em, 0, em⟩ s1 s2
  generalize smZ1 wd 0 [] 0 [] ⟨0, 0, em, 0, em⟩ s1 s2 = Z1 at *
  generalize smL1 wd 0 [] 0 [] ⟨0, 0, em, 0, em⟩ s1 s2 = M1 at *
  generalize smZ2 wd 0 [] 0 [] ⟨0, 0, em, 0, em⟩ s1 s2 = Z2 at *
  generalize smL2 wd 0 [] 0 [] ⟨0, 0, em, 0, em⟩ s1 s2 = M2 at *
  generalize smH wd 0 [] 0 [] ⟨0, 0, em, 0, em⟩ s1 s2 = X at *
  generalize smN wd 0 [] 0 [] ⟨0, 0, em, 0, em⟩ s1 s2 = nn at *
  generalize smCode wd 0 [] 0 [] ⟨0, 0, em, 0, em⟩ s1 s2 = cd at *
  obtain ⟨⟨q1, q2⟩, ⟨q3, q4⟩, q5, q6, q7⟩ := hsb
  have HXS := Lib.hid q7
  have HNN := Lib.hid hnn
  replace hq1 := hq1.mono hlo0 (Nat.le_refl _) (Nat.le_refl _)
  replace hq2 := hq2.mono hlo0 (Nat.le_refl _) (Nat.le_refl _)
  have hzwc : w3.heap.size ≤ wc.heap.size := hon.size
  have hzzwc : w.heap.size ≤ wc.heap.size := by omega
  replace HB : Hid (Only (p) (p + 1) w wc) := Lib.hid (by first | exact HB.out.trans hon | exact only_two HB.out hon (by omega))
  replace HXr := Lib.hid (HXr.out.only hon (by first | omega | (simp; omega)))
  clear hxr hfr hkr
  have hxr := HXr.out.2.1
  have hfr := HXr.out.2.2
  have hkr := HXr.out.1
  replace HXs := Lib.hid (HXs.out.only hon (by first | omega | (simp; omega)))
  clear hxs hfs hks
  have hxs := HXs.out.2.1
  have hfs := HXs.out.2.2
  have hks := HXs.out.1
  clear HOC hon q7 hnn
  have HOC : Hid (CodeK wc (0) (p + 1) ((B, n, g)) (l)) := Lib.hid hcc
  have HXt : Hid (NewBox wc (kb) [.int .i64 Z1, .slice B1 M1.length e1, .int .i64 Z2, .slice B2 M2.length e2, .int .i64 X.num, .int .i64 X.size, .string X.root, .int .i64 X.taken, .string X.troot]) := hbt
  have hxt := HXt.out.2.1
  have hft := HXt.out.2.2
  have hkt := HXt.out.1
  have HOQ1 : Hid (Own wc (lo0) (wc.heap.size) (B1) (strs M1)) := Lib.hid hq1
  have HOQ2 : Hid (Own wc (lo0) (wc.heap.size) (B2) (strs M2)) := Lib.hid hq2
  clear hcc hbt hbs hq1 hq2
  by_cases hcd : cd = 0
  ·subst hcd
   go_wp2_with fail
   clear hxt hft hkt HXt
   go_wp2_with fail
   refine calls_named (fun w4 hw => ?_)
   have hz4 : wc.heap.size + 0 ≤ w4.heap.size := by rw [hw]; first | omega | (simp [World.setCell]; done) | (simp [World.setCell]; omega)
   have hzz4 : w.heap.size ≤ w4.heap.size := by omega
   replace HB : Hid (Only (p) (p + 1) w w4) := by rw [Hid, hw]; exact (by ((repeat (first | (with_reducible refine only_alloc ?_ _) | (with_reducible refine only_drew ?_) | ((with_reducible refine only_new ?_ ?_ _); rotate_left 1; (focus (first | omega | (simp; done) | (simp; omega)))))); exact HB.out))
   replace HOC : Hid (CodeK w4 (0) (p + 1) ((B, n, g)) (l)) := by rw [Hid, hw]; (repeat (first | (with_reducible refine CodeK.alloc ?_ _) | (with_reducible refine CodeK.drew ?_) | ((with_reducible refine CodeK.setCell ?_ ?_ _); rotate_left 1; (focus (first | omega | (simp; done) | (simp; omega)))))); exact HOC.out
   replace HOQ1 : Hid (Own w4 (lo0) (wc.heap.size) (B1) (strs M1)) := by rw [Hid, hw]; (repeat (first | (with_reducible refine Own.alloc ?_ _) | (with_reducible refine Own.drew ?_) | ((with_reducible refine Own.setCell ?_ ?_ _); rotate_left 1; (focus (first | omega | (simp; done) | (simp; omega)))))); exact HOQ1.out
   replace HOQ2 : Hid (Own w4 (lo0) (wc.heap.size) (B2) (strs M2)) := by rw [Hid, hw]; (repeat (first | (with_reducible refine Own.alloc ?_ _) | (with_reducible refine Own.drew ?_) | ((with_reducible refine Own.setCell ?_ ?_ _); rotate_left 1; (focus (first | omega | (simp; done) | (simp; omega)))))); exact HOQ2.out
   replace HXr : Hid (NewBox w4 (w.heap.size) [.int .i64 0, .slice none 0 0, .int .i64 0, .slice none 0 0, .int .i64 0, .int .i64 0, .string ⟨#[]⟩, .int .i64 0, .string ⟨#[]⟩]) := by rw [Hid, hw]; (repeat (first | (with_reducible refine NewBox.alloc ?_ _) | (with_reducible refine NewBox.drew ?_) | ((with_reducible refine NewBox.setCell ?_ ?_ _); rotate_left 1; (focus (first | omega | (simp; done) | (simp; omega)))))); exact HXr.out
   clear hxr hfr hkr
   have hxr := HXr.out.2.1
   have hfr := HXr.out.2.2
   have hkr := HXr.out.1
   replace HXs : Hid (NewBox w4 (w2.heap.size) [.int .i64 Z1, .slice B1 M1.length e1, .int .i64 Z2, .slice B2 M2.length e2, .int .i64 X.num, .int .i64 X.size, .string X.root, .int .i64 X.taken, .string X.troot]) := by rw [Hid, hw]; apply NewBox.cast; (focus ((repeat (first | (with_reducible apply NewBox.alloc) | (with_reducible apply NewBox.drew) | (with_reducible apply NewBox.set1) | ((with_reducible apply NewBox.far); (focus (first | omega | (simp; done) | (simp; omega)))))); exact HXs.out)); rfl
   clear hxs hfs hks
   have hxs := HXs.out.2.1
   have hfs := HXs.out.2.2
   have hks := HXs.out.1
   clear hw
   refine (l01Below_c p n g 0 p B l 30 _ (CodeK.get HOC.out) (by omega) (by omega)).mono ?_
   rintro e w5 ⟨k, rfl, k0, k1, hc, hb⟩
   have hzw5 : w4.heap.size ≤ w5.heap.size := hb.size
   have hzzw5 : w.heap.size ≤ w5.heap.size := by omega
   replace HB : Hid (Only (p) (p + 1) w w5) := Lib.hid (by first | exact HB.out.trans hb | exact only_two HB.out hb (by omega))
   replace HOQ1 := Lib.hid (HOQ1.out.only hb (by first | omega | (simp; omega)))
   replace HOQ2 := Lib.hid (HOQ2.out.only hb (by first | omega | (simp; omega)))
   replace HXr := Lib.hid (HXr.out.only hb (by first | omega | (simp; omega)))
   clear hxr hfr hkr
   have hxr := HXr.out.2.1
   have hfr := HXr.out.2.2
   have hkr := HXr.out.1
   replace HXs := Lib.hid (HXs.out.only hb (by first | omega | (simp; omega)))
   clear hxs hfs hks
   have hxs := HXs.out.2.1
   have hfs := HXs.out.2.2
   have hks := HXs.out.1
   clear hb
   clear HOC
   have HOC : Hid (CodeK w5 (0) (p + 1) ((B, n, g)) (l)) := Lib.hid (CodeK.mk_ hc)
   clear hc
   rcases (show k = 0 ∨ k = 1 ∨ k = 2 ∨ k = 3 ∨ 4 ≤ k by omega) with rfl | rfl | rfl | rfl | hk4
   ·skip
    go_wp2_with fail
    refine calls_named (fun w6 hw => ?_)
    have hz6 : w5.heap.size + 1 ≤ w6.heap.size := by rw [hw]; first | omega | (simp [World.setCell]; done) | (simp [World.setCell]; omega)
    have hzz6 : w.heap.size ≤ w6.heap.size := by omega
    have hbn : Below w5.heap.size w5 w6 := by rw [hw]; exact (by ((repeat (first | ((with_reducible refine Below.alloc ?_ ?_ _); rotate_left 1; (focus (first | omega | (simp; done) | (simp; omega)))) | (with_reducible refine Below.drew ?_) | ((with_reducible refine Below.setCell ?_ ?_ _); rotate_left 1; (focus (first | omega | (simp; done) | (simp; omega)))))); exact Below.refl _ _))
    replace HB := Lib.hid (HB.out.trans (Only.of_below hbn))
    replace HOQ1 := Lib.hid (HOQ1.out.below hbn)
    replace HOQ2 := Lib.hid (HOQ2.out.below hbn)
    replace HOC := Lib.hid (HOC.out.below hbn)
    replace HXr := Lib.hid (HXr.out.below hbn)
    clear hxr hfr hkr
    have hxr := HXr.out.2.1
    have hfr := HXr.out.2.2
    have hkr := HXr.out.1
    replace HXs := Lib.hid (HXs.out.below hbn)
    clear hxs hfs hks
    have hxs := HXs.out.2.1
    have hfs := HXs.out.2.2
    have hks := HXs.out.1
    clear hbn
    have HXz : Hid (NewBox w6 (w5.heap.size) [.int .i64 (-1), .int .i64 399, .int .i64 400]) := by rw [Hid, hw]; exact ⟨by first | omega | (simp [World.setCell]; done) | (simp [World.setCell]; omega), fun o => by rcases o with _ | _ | _ | o <;> go_simp, fun o => by go_simp⟩
    have hxz := HXz.out.2.1
    have hfz := HXz.out.2.2
    have hkz := HXz.out.1
    clear hw
    refine (l01PickInt_c (CodeK.get HOC.out) _ 3 3 _ _ [-1, 399, 400] (rd_ints HXz.out rfl) rfl (by omega) (by omega) (by omega)).mono ?_
    rintro e w7 ⟨y, rfl, hy, hc, hb⟩
    have hzw7 : w6.heap.size ≤ w7.heap.size := hb.size
    have hzzw7 : w.heap.size ≤ w7.heap.size := by omega
    replace HB : Hid (Only (p) (p + 1) w w7) := Lib.hid (by first | exact HB.out.trans hb | exact only_two HB.out hb (by omega))
    replace HOQ1 := Lib.hid (HOQ1.out.only hb (by first | omega | (simp; omega)))
    replace HOQ2 := Lib.hid (HOQ2.out.only hb (by first | omega | (simp; omega)))
    replace HXr := Lib.hid (HXr.out.only hb (by first | omega | (simp; omega)))
    clear hxr hfr hkr
    have hxr := HXr.out.2.1
    have hfr := HXr.out.2.2
    have hkr := HXr.out.1
    replace HXs := Lib.hid (HXs.out.only hb (by first | omega | (simp; omega)))
    clear hxs hfs hks
    have hxs := HXs.out.2.1
    have hfs := HXs.out.2.2
    have hks := HXs.out.1
    replace HXz := Lib.hid (HXz.out.only hb (by first | omega | (simp; omega)))
    clear hxz hfz hkz
    have hxz := HXz.out.2.1
    have hfz := HXz.out.2.2
    have hkz := HXz.out.1
    clear hb
    clear HOC
    have HOC : Hid (CodeK w7 (0) (p + 1) ((B, n, g)) (l)) := Lib.hid (CodeK.mk_ hc)
    clear hc
    have HY : Hid (I64 y) := Lib.hid (by
     simp only [List.mem_cons, List.not_mem_nil, or_false] at hy
     rcases hy with rfl | rfl | rfl <;> (constructor <;> omega))
    clear hy
    clear hxz hfz hkz HXz
    go_wp2
    refine bodyPost_named (fun w8 hw => ?_)
    have hz8 : w7.heap.size + 0 ≤ w8.heap.size := by rw [hw]; first | omega | (simp [World.setCell]; done) | (simp [World.setCell]; omega)
    have hzz8 : w.heap.size ≤ w8.heap.size := by omega
    replace HB : Hid (Only (p) (p + 1) w w8) := by rw [Hid, hw]; exact (by ((repeat (first | (with_reducible refine only_alloc ?_ _) | (with_reducible refine only_drew ?_) | ((with_reducible refine only_new ?_ ?_ _); rotate_left 1; (focus (first | omega | (simp; done) | (simp; omega)))))); exact HB.out))
    replace HOQ1 : Hid (Own w8 (lo0) (wc.heap.size) (B1) (strs M1)) := by rw [Hid, hw]; (repeat (first | (with_reducible refine Own.alloc ?_ _) | (with_reducible refine Own.drew ?_) | ((with_reducible refine Own.setCell ?_ ?_ _); rotate_left 1; (focus (first | omega | (simp; done) | (simp; omega)))))); exact HOQ1.out
    replace HOQ2 : Hid (Own w8 (lo0) (wc.heap.size) (B2) (strs M2)) := by rw [Hid, hw]; (repeat (first | (with_reducible refine Own.alloc ?_ _) | (with_reducible refine Own.drew ?_) | ((with_reducible refine Own.setCell ?_ ?_ _); rotate_left 1; (focus (first | omega | (simp; done) | (simp; omega)))))); exact HOQ2.out
    replace HOC : Hid (CodeK w8 (0) (p + 1) ((B, n, g)) (l)) := by rw [Hid, hw]; (repeat (first | (with_reducible refine CodeK.alloc ?_ _) | (with_reducible refine CodeK.drew ?_) | ((with_reducible refine CodeK.setCell ?_ ?_ _); rotate_left 1; (focus (first | omega | (simp; done) | (simp; omega)))))); exact HOC.out
    replace HXr : Hid (NewBox w8 (w.heap.size) [.int .i64 Z1, .slice B1 M1.length e1, .int .i64 Z2, .slice B2 M2.length e2, .int .i64 y, .int .i64 X.size, .string X.root, .int .i64 X.taken, .string X.troot]) := by rw [Hid, hw]; apply NewBox.cast; (focus ((repeat (first | (with_reducible apply NewBox.alloc) | (with_reducible apply NewBox.drew) | (with_reducible apply NewBox.set1) | ((with_reducible apply NewBox.far); (focus (first | omega | (simp; done) | (simp; omega)))))); exact HXr.out)); rfl
    clear hxr hfr hkr
    have hxr := HXr.out.2.1
    have hfr := HXr.out.2.2
    have hkr := HXr.out.1
    replace HXs : Hid (NewBox w8 (w2.heap.size) [.int .i64 Z1, .slice B1 M1.length e1, .int .i64 Z2, .slice B2 M2.length e2, .int .i64 y, .int .i64 X.size, .string X.root, .int .i64 X.taken, .string X.troot]) := by rw [Hid, hw]; apply NewBox.cast; (focus ((repeat (first | (with_reducible apply NewBox.alloc) | (with_reducible apply NewBox.drew) | (with_reducible apply NewBox.set1) | ((with_reducible apply NewBox.far); (focus (first | omega | (simp; done) | (simp; omega)))))); exact HXs.out)); rfl
    clear hxs hfs hks
    have hxs := HXs.out.2.1
    have hfs := HXs.out.2.2
    have hks := HXs.out.1
    clear hw
    refine bodyPost_ret (v := .agg #[.int .i64 Z1, .slice B1 M1.length e1, .int .i64 Z2, .slice B2 M2.length e2, .int .i64 y, .int .i64 X.size, .string X.root, .int .i64 X.taken, .string X.troot]) (by simp [results, Try.results54, go_sem, hxr]) rfl ?_
    exact ⟨Z1, Z2, B1, B2, M1.length, e1, M2.length, e2, M1, M2, ⟨y, X.size, X.root, X.taken, X.troot⟩, rfl, ⟨i64s (by omega) (by omega), i64s (by omega) (by omega), ⟨HY.out, HXS.out.2.1, HXS.out.2.2.1, Nat.le_trans HXS.out.2.2.2.1 (by omega), Nat.le_trans HXS.out.2.2.2.2 (by omega)⟩, ⟨rfl, q5, HNN.out.1, HOQ1.out.mono (by omega) (by omega) (by omega)⟩, ⟨rfl, q6, HNN.out.2, HOQ2.out.mono (by omega) (by omega) (by omega)⟩⟩, CodeK.get HOC.out, HB.out⟩
   ·skip
    go_wp2_with fail
    refine calls_named (fun w6 hw => ?_)
    have hz6 : w5.heap.size + 0 ≤ w6.heap.size := by rw [hw]; first | omega | (simp [World.setCell]; done) | (simp [World.setCell]; omega)
    have hzz6 : w.heap.size ≤ w6.heap.size := by omega
    have hbn : Below w5.heap.size w5 w6 := by rw [hw]; exact (by ((repeat (first | ((with_reducible refine Below.alloc ?_ ?_ _); rotate_left 1; (focus (first | omega | (simp; done) | (simp; omega)))) | (with_reducible refine Below.drew ?_) | ((with_reducible refine Below.setCell ?_ ?_ _); rotate_left 1; (focus (first | omega | (simp; done) | (simp; omega)))))); exact Below.refl _ _))
    replace HB := Lib.hid (HB.out.trans (Only.of_below hbn))
    replace HOQ1 := Lib.hid (HOQ1.out.below hbn)
    replace HOQ2 := Lib.hid (HOQ2.out.below hbn)
    replace HOC := Lib.hid (HOC.out.below hbn)
    replace HXr := Lib.hid (HXr.out.below hbn)
    clear hxr hfr hkr
    have hxr := HXr.out.2.1
    have hfr := HXr.out.2.2
    have hkr := HXr.out.1
    replace HXs := Lib.hid (HXs.out.below hbn)
    clear hxs hfs hks
    have hxs := HXs.out.2.1
    have hfs := HXs.out.2.2
    have hks := HXs.out.1
    clear hbn
    clear hw
    refine (l10Head_c (CodeK.get HOC.out) (by omega) wd).mono ?_
    rintro e w7 ⟨x9, rfl, hx9, hc, hb⟩
    have hzw7 : w6.heap.size ≤ w7.heap.size := hb.size
    have hzzw7 : w.heap.size ≤ w7.heap.size := by omega
    replace HB : Hid (Only (p) (p + 1) w w7) := Lib.hid (by first | exact HB.out.trans hb | exact only_two HB.out hb (by omega))
    replace HOQ1 := Lib.hid (HOQ1.out.only hb (by first | omega | (simp; omega)))
    replace HOQ2 := Lib.hid (HOQ2.out.only hb (by first | omega | (simp; omega)))
    replace HXr := Lib.hid (HXr.out.only hb (by first | omega | (simp; omega)))
    clear hxr hfr hkr
    have hxr := HXr.out.2.1
    have hfr := HXr.out.2.2
    have hkr := HXr.out.1
    replace HXs := Lib.hid (HXs.out.only hb (by first | omega | (simp; omega)))
    clear hxs hfs hks
    have hxs := HXs.out.2.1
    have hfs := HXs.out.2.2
    have hks := HXs.out.1
    clear hb
    clear HOC
    have HOC : Hid (CodeK w7 (0) (p + 1) ((B, n, g)) (l)) := Lib.hid (CodeK.mk_ hc)
    clear hc
    have HX9 := Lib.hid hx9
    clear hx9
    go_wp2
    refine bodyPost_named (fun w8 hw => ?_)
    have hz8 : w7.heap.size + 0 ≤ w8.heap.size := by rw [hw]; first | omega | (simp [World.setCell]; done) | (simp [World.setCell]; omega)
    have hzz8 : w.heap.size ≤ w8.heap.size := by omega
    replace HB : Hid (Only (p) (p + 1) w w8) := by rw [Hid, hw]; exact (by ((repeat (first | (with_reducible refine only_alloc ?_ _) | (with_reducible refine only_drew ?_) | ((with_reducible refine only_new ?_ ?_ _); rotate_left 1; (focus (first | omega | (simp; done) | (simp; omega)))))); exact HB.out))
    replace HOQ1 : Hid (Own w8 (lo0) (wc.heap.size) (B1) (strs M1)) := by rw [Hid, hw]; (repeat (first | (with_reducible refine Own.alloc ?_ _) | (with_reducible refine Own.drew ?_) | ((with_reducible refine Own.setCell ?_ ?_ _); rotate_left 1; (focus (first | omega | (simp; done) | (simp; omega)))))); exact HOQ1.out
    replace HOQ2 : Hid (Own w8 (lo0) (wc.heap.size) (B2) (strs M2)) := by rw [Hid, hw]; (repeat (first | (with_reducible refine Own.alloc ?_ _) | (with_reducible refine Own.drew ?_) | ((with_reducible refine Own.setCell ?_ ?_ _); rotate_left 1; (focus (first | omega | (simp; done) | (simp; omega)))))); exact HOQ2.out
    replace HOC : Hid (CodeK w8 (0) (p + 1) ((B, n, g)) (l)) := by rw [Hid, hw]; (repeat (first | (with_reducible refine CodeK.alloc ?_ _) | (with_reducible refine CodeK.drew ?_) | ((with_reducible refine CodeK.setCell ?_ ?_ _); rotate_left 1; (focus (first | omega | (simp; done) | (simp; omega)))))); exact HOC.out
    replace HXr : Hid (NewBox w8 (w.heap.size) [.int .i64 Z1, .slice B1 M1.length e1, .int .i64 Z2, .slice B2 M2.length e2, .int .i64 x9.num, .int .i64 x9.size, .string x9.root, .int .i64 x9.taken, .string x9.troot]) := by rw [Hid, hw]; apply NewBox.cast; (focus ((repeat (first | (with_reducible apply NewBox.alloc) | (with_reducible apply NewBox.drew) | (with_reducible apply NewBox.set1) | ((with_reducible apply NewBox.far); (focus (first | omega | (simp; done) | (simp; omega)))))); exact HXr.out)); rfl
    clear hxr hfr hkr
    have hxr := HXr.out.2.1
    have hfr := HXr.out.2.2
    have hkr := HXr.out.1
    replace HXs : Hid (NewBox w8 (w2.heap.size) [.int .i64 Z1, .slice B1 M1.length e1, .int .i64 Z2, .slice B2 M2.length e2, .int .i64 x9.num, .int .i64 x9.size, .string x9.root, .int .i64 x9.taken, .string x9.troot]) := by rw [Hid, hw]; apply NewBox.cast; (focus ((repeat (first | (with_reducible apply NewBox.alloc) | (with_reducible apply NewBox.drew) | (with_reducible apply NewBox.set1) | ((with_reducible apply NewBox.far); (focus (first | omega | (simp; done) | (simp; omega)))))); exact HXs.out)); rfl
    clear hxs hfs hks
    have hxs := HXs.out.2.1
    have hfs := HXs.out.2.2
    have hks := HXs.out.1
    clear hw
    refine bodyPost_ret (v := .agg #[.int .i64 Z1, .slice B1 M1.length e1, .int .i64 Z2, .slice B2 M2.length e2, .int .i64 x9.num, .int .i64 x9.size, .string x9.root, .int .i64 x9.taken, .string x9.troot]) (by simp [results, Try.results54, go_sem, hxr]) rfl ?_
    exact ⟨Z1, Z2, B1, B2, M1.length, e1, M2.length, e2, M1, M2, ⟨x9.num, x9.size, x9.root, x9.taken, x9.troot⟩, rfl, ⟨i64s (by omega) (by omega), i64s (by omega) (by omega), ⟨HX9.out.1, HX9.out.2.1, HX9.out.2.2.1, HX9.out.2.2.2.1, HX9.out.2.2.2.2⟩, ⟨rfl, q5, HNN.out.1, HOQ1.out.mono (by omega) (by omega) (by omega)⟩, ⟨rfl, q6, HNN.out.2, HOQ2.out.mono (by omega) (by omega) (by omega)⟩⟩, CodeK.get HOC.out, HB.out⟩
   ·skip
    go_wp2_with fail
    refine calls_named (fun w6 hw => ?_)
    have hz6 : w5.heap.size + 0 ≤ w6.heap.size := by rw [hw]; first | omega | (simp [World.setCell]; done) | (simp [World.setCell]; omega)
    have hzz6 : w.heap.size ≤ w6.heap.size := by omega
    have hbn : Below w5.heap.size w5 w6 := by rw [hw]; exact (by ((repeat (first | ((with_reducible refine Below.alloc ?_ ?_ _); rotate_left 1; (focus (first | omega | (simp; done) | (simp; omega)))) | (with_reducible refine Below.drew ?_) | ((with_reducible refine Below.setCell ?_ ?_ _); rotate_left 1; (focus (first | omega | (simp; done) | (simp; omega)))))); exact Below.refl _ _))
    replace HB := Lib.hid (HB.out.trans (Only.of_below hbn))
    replace HOQ1 := Lib.hid (HOQ1.out.below hbn)
    replace HOQ2 := Lib.hid (HOQ2.out.below hbn)
    replace HOC := Lib.hid (HOC.out.below hbn)
    replace HXr := Lib.hid (HXr.out.below hbn)
    clear hxr hfr hkr
    have hxr := HXr.out.2.1
    have hfr := HXr.out.2.2
    have hkr := HXr.out.1
    replace HXs := Lib.hid (HXs.out.below hbn)
    clear hxs hfs hks
    have hxs := HXs.out.2.1
    have hfs := HXs.out.2.2
    have hks := HXs.out.1
    clear hbn
    clear hw
    refine (l04Range_c (CodeK.get HOC.out) (by omega) wd).mono ?_
    rintro e w7 ⟨z9, A9, c9, m9, ss9, rfl, hz9, hl9, hc, hb⟩
    have hzw7 : w6.heap.size ≤ w7.heap.size := hb.size
    have hzzw7 : w.heap.size ≤ w7.heap.size := by omega
    replace HB : Hid (Only (p) (p + 1) w w7) := Lib.hid (by first | exact HB.out.trans hb | exact only_two HB.out hb (by omega))
    replace HOQ1 := Lib.hid (HOQ1.out.only hb (by first | omega | (simp; omega)))
    replace HOQ2 := Lib.hid (HOQ2.out.only hb (by first | omega | (simp; omega)))
    replace HXr := Lib.hid (HXr.out.only hb (by first | omega | (simp; omega)))
    clear hxr hfr hkr
    have hxr := HXr.out.2.1
    have hfr := HXr.out.2.2
    have hkr := HXr.out.1
    replace HXs := Lib.hid (HXs.out.only hb (by first | omega | (simp; omega)))
    clear hxs hfs hks
    have hxs := HXs.out.2.1
    have hfs := HXs.out.2.2
    have hks := HXs.out.1
    clear hb
    clear HOC
    have HOC : Hid (CodeK w7 (0) (p + 1) ((B, n, g)) (l)) := Lib.hid (CodeK.mk_ hc)
    clear hc
    have HZ9 := Lib.hid hz9
    have HL9 := Lib.hid hl9
    have HOG : Hid (Own w7 (w6.heap.size) (w7.heap.size) (A9) (strs ss9)) := Lib.hid hl9.2.2.2.2.2
    clear hz9 hl9
    go_wp2
    refine bodyPost_named (fun w8 hw => ?_)
    have hz8 : w7.heap.size + 0 ≤ w8.heap.size := by rw [hw]; first | omega | (simp [World.setCell]; done) | (simp [World.setCell]; omega)
    have hzz8 : w.heap.size ≤ w8.heap.size := by omega
    replace HB : Hid (Only (p) (p + 1) w w8) := by rw [Hid, hw]; exact (by ((repeat (first | (with_reducible refine only_alloc ?_ _) | (with_reducible refine only_drew ?_) | ((with_reducible refine only_new ?_ ?_ _); rotate_left 1; (focus (first | omega | (simp; done) | (simp; omega)))))); exact HB.out))
    replace HOQ1 : Hid (Own w8 (lo0) (wc.heap.size) (B1) (strs M1)) := by rw [Hid, hw]; (repeat (first | (with_reducible refine Own.alloc ?_ _) | (with_reducible refine Own.drew ?_) | ((with_reducible refine Own.setCell ?_ ?_ _); rotate_left 1; (focus (first | omega | (simp; done) | (simp; omega)))))); exact HOQ1.out
    replace HOQ2 : Hid (Own w8 (lo0) (wc.heap.size) (B2) (strs M2)) := by rw [Hid, hw]; (repeat (first | (with_reducible refine Own.alloc ?_ _) | (with_reducible refine Own.drew ?_) | ((with_reducible refine Own.setCell ?_ ?_ _); rotate_left 1; (focus (first | omega | (simp; done) | (simp; omega)))))); exact HOQ2.out
    replace HOC : Hid (CodeK w8 (0) (p + 1) ((B, n, g)) (l)) := by rw [Hid, hw]; (repeat (first | (with_reducible refine CodeK.alloc ?_ _) | (with_reducible refine CodeK.drew ?_) | ((with_reducible refine CodeK.setCell ?_ ?_ _); rotate_left 1; (focus (first | omega | (simp; done) | (simp; omega)))))); exact HOC.out
    replace HOG : Hid (Own w8 (w6.heap.size) (w7.heap.size) (A9) (strs ss9)) := by rw [Hid, hw]; (repeat (first | (with_reducible refine Own.alloc ?_ _) | (with_reducible refine Own.drew ?_) | ((with_reducible refine Own.setCell ?_ ?_ _); rotate_left 1; (focus (first | omega | (simp; done) | (simp; omega)))))); exact HOG.out
    replace HXr : Hid (NewBox w8 (w.heap.size) [.int .i64 z9, .slice A9 m9 c9, .int .i64 Z2, .slice B2 M2.length e2, .int .i64 X.num, .int .i64 X.size, .string X.root, .int .i64 X.taken, .string X.troot]) := by rw [Hid, hw]; apply NewBox.cast; (focus ((repeat (first | (with_reducible apply NewBox.alloc) | (with_reducible apply NewBox.drew) | (with_reducible apply NewBox.set1) | ((with_reducible apply NewBox.far); (focus (first | omega | (simp; done) | (simp; omega)))))); exact HXr.out)); rfl
    clear hxr hfr hkr
    have hxr := HXr.out.2.1
    have hfr := HXr.out.2.2
    have hkr := HXr.out.1
    replace HXs : Hid (NewBox w8 (w2.heap.size) [.int .i64 z9, .slice A9 m9 c9, .int .i64 Z2, .slice B2 M2.length e2, .int .i64 X.num, .int .i64 X.size, .string X.root, .int .i64 X.taken, .string X.troot]) := by rw [Hid, hw]; apply NewBox.cast; (focus ((repeat (first | (with_reducible apply NewBox.alloc) | (with_reducible apply NewBox.drew) | (with_reducible apply NewBox.set1) | ((with_reducible apply NewBox.far); (focus (first | omega | (simp; done) | (simp; omega)))))); exact HXs.out)); rfl
    clear hxs hfs hks
    have hxs := HXs.out.2.1
    have hfs := HXs.out.2.2
    have hks := HXs.out.1
    clear hw
    refine bodyPost_ret (v := .agg #[.int .i64 z9, .slice A9 m9 c9, .int .i64 Z2, .slice B2 M2.length e2, .int .i64 X.num, .int .i64 X.size, .string X.root, .int .i64 X.taken, .string X.troot]) (by simp [results, Try.results54, go_sem, hxr]) rfl ?_
    exact ⟨z9, Z2, A9, B2, m9, c9, M2.length, e2, ss9, M2, ⟨X.num, X.size, X.root, X.taken, X.troot⟩, rfl, ⟨HZ9.out, i64s (by omega) (by omega), ⟨HXS.out.1, HXS.out.2.1, HXS.out.2.2.1, Nat.le_trans HXS.out.2.2.2.1 (by omega), Nat.le_trans HXS.out.2.2.2.2 (by omega)⟩, ⟨HL9.out.1, by have := HL9.out.2.1; omega, HL9.out.2.2.2.2.1, HOG.out.mono (by omega) (by omega) (by omega)⟩, ⟨rfl, q6, HNN.out.2, HOQ2.out.mono (by omega) (by omega) (by omega)⟩⟩, CodeK.get HOC.out, HB.out⟩
   ·skip
    have E9 : IntKind.i64.wrap (Z2 + 1) = Z2 + 1 := by rw [IntKind.wrap_i64]; omega
    go_wp2
    refine bodyPost_named (fun w6 hw => ?_)
    have hz6 : w5.heap.size + 0 ≤ w6.heap.size := by rw [hw]; first | omega | (simp [World.setCell]; done) | (simp [World.setCell]; omega)
    have hzz6 : w.heap.size ≤ w6.heap.size := by omega
    replace HB : Hid (Only (p) (p + 1) w w6) := by rw [Hid, hw]; exact (by ((repeat (first | (with_reducible refine only_alloc ?_ _) | (with_reducible refine only_drew ?_) | ((with_reducible refine only_new ?_ ?_ _); rotate_left 1; (focus (first | omega | (simp; done) | (simp; omega)))))); exact HB.out))
    replace HOQ1 : Hid (Own w6 (lo0) (wc.heap.size) (B1) (strs M1)) := by rw [Hid, hw]; (repeat (first | (with_reducible refine Own.alloc ?_ _) | (with_reducible refine Own.drew ?_) | ((with_reducible refine Own.setCell ?_ ?_ _); rotate_left 1; (focus (first | omega | (simp; done) | (simp; omega)))))); exact HOQ1.out
    replace HOQ2 : Hid (Own w6 (lo0) (wc.heap.size) (B2) (strs M2)) := by rw [Hid, hw]; (repeat (first | (with_reducible refine Own.alloc ?_ _) | (with_reducible refine Own.drew ?_) | ((with_reducible refine Own.setCell ?_ ?_ _); rotate_left 1; (focus (first | omega | (simp; done) | (simp; omega)))))); exact HOQ2.out
    replace HOC : Hid (CodeK w6 (0) (p + 1) ((B, n, g)) (l)) := by rw [Hid, hw]; (repeat (first | (with_reducible refine CodeK.alloc ?_ _) | (with_reducible refine CodeK.drew ?_) | ((with_reducible refine CodeK.setCell ?_ ?_ _); rotate_left 1; (focus (first | omega | (simp; done) | (simp; omega)))))); exact HOC.out
    replace HXr : Hid (NewBox w6 (w.heap.size) [.int .i64 Z1, .slice B1 M1.length e1, .int .i64 (Z2 + 1), .slice B2 M2.length e2, .int .i64 X.num, .int .i64 X.size, .string X.root, .int .i64 X.taken, .string X.troot]) := by rw [Hid, hw]; apply NewBox.cast; (focus ((repeat (first | (with_reducible apply NewBox.alloc) | (with_reducible apply NewBox.drew) | (with_reducible apply NewBox.set1) | ((with_reducible apply NewBox.far); (focus (first | omega | (simp; done) | (simp; omega)))))); exact HXr.out)); rfl
    clear hxr hfr hkr
    have hxr := HXr.out.2.1
    have hfr := HXr.out.2.2
    have hkr := HXr.out.1
    replace HXs : Hid (NewBox w6 (w2.heap.size) [.int .i64 Z1, .slice B1 M1.length e1, .int .i64 (Z2 + 1), .slice B2 M2.length e2, .int .i64 X.num, .int .i64 X.size, .string X.root, .int .i64 X.taken, .string X.troot]) := by rw [Hid, hw]; apply NewBox.cast; (focus ((repeat (first | (with_reducible apply NewBox.alloc) | (with_reducible apply NewBox.drew) | (with_reducible apply NewBox.set1) | ((with_reducible apply NewBox.far); (focus (first | omega | (simp; done) | (simp; omega)))))); exact HXs.out)); rfl
    clear hxs hfs hks
    have hxs := HXs.out.2.1
    have hfs := HXs.out.2.2
    have hks := HXs.out.1
    clear hw
    refine bodyPost_ret (v := .agg #[.int .i64 Z1, .slice B1 M1.length e1, .int .i64 (Z2 + 1), .slice B2 M2.length e2, .int .i64 X.num, .int .i64 X.size, .string X.root, .int .i64 X.taken, .string X.troot]) (by simp [results, Try.results54, go_sem, hxr]) rfl ?_
    exact ⟨Z1, (Z2 + 1), B1, B2, M1.length, e1, M2.length, e2, M1, M2, ⟨X.num, X.size, X.root, X.taken, X.troot⟩, rfl, ⟨i64s (by omega) (by omega), i64s (by omega) (by omega), ⟨HXS.out.1, HXS.out.2.1, HXS.out.2.2.1, Nat.le_trans HXS.out.2.2.2.1 (by omega), Nat.le_trans HXS.out.2.2.2.2 (by omega)⟩, ⟨rfl, q5, HNN.out.1, HOQ1.out.mono (by omega) (by omega) (by omega)⟩, ⟨rfl, q6, HNN.out.2, HOQ2.out.mono (by omega) (by omega) (by omega)⟩⟩, CodeK.get HOC.out, HB.out⟩
   ·skip
    have f0 : (k == 0) = false := beq_eq_false_iff_ne.2 (by omega)
    have f1 : (k == 1) = false := beq_eq_false_iff_ne.2 (by omega)
    have f2 : (k == 2) = false := beq_eq_false_iff_ne.2 (by omega)
    have f3 : (k == 3) = false := beq_eq_false_iff_ne.2 (by omega)
    go_wp2
    refine bodyPost_named (fun w6 hw => ?_)
    have hz6 : w5.heap.size + 0 ≤ w6.heap.size := by rw [hw]; first | omega | (simp [World.setCell]; done) | (simp [World.setCell]; omega)
    have hzz6 : w.heap.size ≤ w6.heap.size := by omega
    replace HB : Hid (Only (p) (p + 1) w w6) := by rw [Hid, hw]; exact (by ((repeat (first | (with_reducible refine only_alloc ?_ _) | (with_reducible refine only_drew ?_) | ((with_reducible refine only_new ?_ ?_ _); rotate_left 1; (focus (first | omega | (simp; done) | (simp; omega)))))); exact HB.out))
    replace HOQ1 : Hid (Own w6 (lo0) (wc.heap.size) (B1) (strs M1)) := by rw [Hid, hw]; (repeat (first | (with_reducible refine Own.alloc ?_ _) | (with_reducible refine Own.drew ?_) | ((with_reducible refine Own.setCell ?_ ?_ _); rotate_left 1; (focus (first | omega | (simp; done) | (simp; omega)))))); exact HOQ1.out
    replace HOQ2 : Hid (Own w6 (lo0) (wc.heap.size) (B2) (strs M2)) := by rw [Hid, hw]; (repeat (first | (with_reducible refine Own.alloc ?_ _) | (with_reducible refine Own.drew ?_) | ((with_reducible refine Own.setCell ?_ ?_ _); rotate_left 1; (focus (first | omega | (simp; done) | (simp; omega)))))); exact HOQ2.out
    replace HOC : Hid (CodeK w6 (0) (p + 1) ((B, n, g)) (l)) := by rw [Hid, hw]; (repeat (first | (with_reducible refine CodeK.alloc ?_ _) | (with_reducible refine CodeK.drew ?_) | ((with_reducible refine CodeK.setCell ?_ ?_ _); rotate_left 1; (focus (first | omega | (simp; done) | (simp; omega)))))); exact HOC.out
    replace HXr : Hid (NewBox w6 (w.heap.size) [.int .i64 Z1, .slice B1 M1.length e1, .int .i64 Z2, .slice B2 M2.length e2, .int .i64 X.num, .int .i64 X.size, .string X.root, .int .i64 X.taken, .string X.troot]) := by rw [Hid, hw]; apply NewBox.cast; (focus ((repeat (first | (with_reducible apply NewBox.alloc) | (with_reducible apply NewBox.drew) | (with_reducible apply NewBox.set1) | ((with_reducible apply NewBox.far); (focus (first | omega | (simp; done) | (simp; omega)))))); exact HXr.out)); rfl
    clear hxr hfr hkr
    have hxr := HXr.out.2.1
    have hfr := HXr.out.2.2
    have hkr := HXr.out.1
    replace HXs : Hid (NewBox w6 (w2.heap.size) [.int .i64 Z1, .slice B1 M1.length e1, .int .i64 Z2, .slice B2 M2.length e2, .int .i64 X.num, .int .i64 X.size, .string X.root, .int .i64 X.taken, .string X.troot]) := by rw [Hid, hw]; (repeat (first | (with_reducible refine NewBox.alloc ?_ _) | (with_reducible refine NewBox.drew ?_) | ((with_reducible refine NewBox.setCell ?_ ?_ _); rotate_left 1; (focus (first | omega | (simp; done) | (simp; omega)))))); exact HXs.out
    clear hxs hfs hks
    have hxs := HXs.out.2.1
    have hfs := HXs.out.2.2
    have hks := HXs.out.1
    clear hw
    refine bodyPost_ret (v := .agg #[.int .i64 Z1, .slice B1 M1.length e1, .int .i64 Z2, .slice B2 M2.length e2, .int .i64 X.num, .int .i64 X.size, .string X.root, .int .i64 X.taken, .string X.troot]) (by simp [results, Try.results54, go_sem, hxr]) rfl ?_
    exact ⟨Z1, Z2, B1, B2, M1.length, e1, M2.length, e2, M1, M2, ⟨X.num, X.size, X.root, X.taken, X.troot⟩, rfl, ⟨i64s (by omega) (by omega), i64s (by omega) (by omega), ⟨HXS.out.1, HXS.out.2.1, HXS.out.2.2.1, Nat.le_trans HXS.out.2.2.2.1 (by omega), Nat.le_trans HXS.out.2.2.2.2 (by omega)⟩, ⟨rfl, q5, HNN.out.1, HOQ1.out.mono (by omega) (by omega) (by omega)⟩, ⟨rfl, q6, HNN.out.2, HOQ2.out.mono (by omega) (by omega) (by omega)⟩⟩, CodeK.get HOC.out, HB.out⟩
  ·have hcd2 : (cd == 0) = false := beq_eq_false_iff_ne.2 hcd
   clear hcd
   clear hxt hft hkt HXt
   clear HOQ1
   clear HOQ2
   go_wp2_with fail
   refine calls_named (fun w4 hw => ?_)
   have hz4 : wc.heap.size + 0 ≤ w4.heap.size := by rw [hw]; first | omega | (simp [World.setCell]; done) | (simp [World.setCell]; omega)
   have hzz4 : w.heap.size ≤ w4.heap.size := by omega
   have hbn : Below wc.heap.size wc w4 := by rw [hw]; exact (by ((repeat (first | ((with_reducible refine Below.alloc ?_ ?_ _); rotate_left 1; (focus (first | omega | (simp; done) | (simp; omega)))) | (with_reducible refine Below.drew ?_) | ((with_reducible refine Below.setCell ?_ ?_ _); rotate_left 1; (focus (first | omega | (simp; done) | (simp; omega)))))); exact Below.refl _ _))
   replace HB := Lib.hid (HB.out.trans (Only.of_below hbn))
   replace HOC := Lib.hid (HOC.out.below hbn)
   replace HXr := Lib.hid (HXr.out.below hbn)
   clear hxr hfr hkr
   have hxr := HXr.out.2.1
   have hfr := HXr.out.2.2
   have hkr := HXr.out.1
   replace HXs := Lib.hid (HXs.out.below hbn)
   clear hxs hfs hks
   have hxs := HXs.out.2.1
   have hfs := HXs.out.2.2
   have hks := HXs.out.1
   clear hbn
   clear hw
   refine (l01Below_c p n g 0 p B l 30 _ (CodeK.get HOC.out) (by omega) (by omega)).mono ?_
   rintro e w5 ⟨k, rfl, k0, k1, hc, hb⟩
   have hzw5 : w4.heap.size ≤ w5.heap.size := hb.size
   have hzzw5 : w.heap.size ≤ w5.heap.size := by omega
   replace HB : Hid (Only (p) (p + 1) w w5) := Lib.hid (by first | exact HB.out.trans hb | exact only_two HB.out hb (by omega))
   replace HXr := Lib.hid (HXr.out.only hb (by first | omega | (simp; omega)))
   clear hxr hfr hkr
   have hxr := HXr.out.2.1
   have hfr := HXr.out.2.2
   have hkr := HXr.out.1
   replace HXs := Lib.hid (HXs.out.only hb (by first | omega | (simp; omega)))
   clear hxs hfs hks
   have hxs := HXs.out.2.1
   have hfs := HXs.out.2.2
   have hks := HXs.out.1
   clear hb
   clear HOC
   have HOC : Hid (CodeK w5 (0) (p + 1) ((B, n, g)) (l)) := Lib.hid (CodeK.mk_ hc)
   clear hc
   rcases (show k = 0 ∨ k = 1 ∨ k = 2 ∨ k = 3 ∨ 4 ≤ k by omega) with rfl | rfl | rfl | rfl | hk4
   ·skip
    go_wp2_with fail
    refine calls_named (fun w6 hw => ?_)
    have hz6 : w5.heap.size + 1 ≤ w6.heap.size := by rw [hw]; first | omega | (simp [World.setCell]; done) | (simp [World.setCell]; omega)
    have hzz6 : w.heap.size ≤ w6.heap.size := by omega
    have hbn : Below w5.heap.size w5 w6 := by rw [hw]; exact (by ((repeat (first | ((with_reducible refine Below.alloc ?_ ?_ _); rotate_left 1; (focus (first | omega | (simp; done) | (simp; omega)))) | (with_reducible refine Below.drew ?_) | ((with_reducible refine Below.setCell ?_ ?_ _); rotate_left 1; (focus (first | omega | (simp; done) | (simp; omega)))))); exact Below.refl _ _))
    replace HB := Lib.hid (HB.out.trans (Only.of_below hbn))
    replace HOC := Lib.hid (HOC.out.below hbn)
    replace HXr := Lib.hid (HXr.out.below hbn)
    clear hxr hfr hkr
    have hxr := HXr.out.2.1
    have hfr := HXr.out.2.2
    have hkr := HXr.out.1
    replace HXs := Lib.hid (HXs.out.below hbn)
    clear hxs hfs hks
    have hxs := HXs.out.2.1
    have hfs := HXs.out.2.2
    have hks := HXs.out.1
    clear hbn
    have HXz : Hid (NewBox w6 (w5.heap.size) [.int .i64 (-1), .int .i64 399, .int .i64 400]) := by rw [Hid, hw]; exact ⟨by first | omega | (simp [World.setCell]; done) | (simp [World.setCell]; omega), fun o => by rcases o with _ | _ | _ | o <;> go_simp, fun o => by go_simp⟩
    have hxz := HXz.out.2.1
    have hfz := HXz.out.2.2
    have hkz := HXz.out.1
    clear hw
    refine (l01PickInt_c (CodeK.get HOC.out) _ 3 3 _ _ [-1, 399, 400] (rd_ints HXz.out rfl) rfl (by omega) (by omega) (by omega)).mono ?_
    rintro e w7 ⟨y, rfl, hy, hc, hb⟩
    have hzw7 : w6.heap.size ≤ w7.heap.size := hb.size
    have hzzw7 : w.heap.size ≤ w7.heap.size := by omega
    replace HB : Hid (Only (p) (p + 1) w w7) := Lib.hid (by first | exact HB.out.trans hb | exact only_two HB.out hb (by omega))
    replace HXr := Lib.hid (HXr.out.only hb (by first | omega | (simp; omega)))
    clear hxr hfr hkr
    have hxr := HXr.out.2.1
    have hfr := HXr.out.2.2
    have hkr := HXr.out.1
    replace HXs := Lib.hid (HXs.out.only hb (by first | omega | (simp; omega)))
    clear hxs hfs hks
    have hxs := HXs.out.2.1
    have hfs := HXs.out.2.2
    have hks := HXs.out.1
    replace HXz := Lib.hid (HXz.out.only hb (by first | omega | (simp; omega)))
    clear hxz hfz hkz
    have hxz := HXz.out.2.1
    have hfz := HXz.out.2.2
    have hkz := HXz.out.1
    clear hb
    clear HOC
    have HOC : Hid (CodeK w7 (0) (p + 1) ((B, n, g)) (l)) := Lib.hid (CodeK.mk_ hc)
    clear hc
    have HY : Hid (I64 y) := Lib.hid (by
     simp only [List.mem_cons, List.not_mem_nil, or_false] at hy
     rcases hy with rfl | rfl | rfl <;> (constructor <;> omega))
    clear hy
    clear hxz hfz hkz HXz
    go_wp2
    refine bodyPost_named (fun w8 hw => ?_)
    have hz8 : w7.heap.size + 0 ≤ w8.heap.size := by rw [hw]; first | omega | (simp [World.setCell]; done) | (simp [World.setCell]; omega)
    have hzz8 : w.heap.size ≤ w8.heap.size := by omega
    replace HB : Hid (Only (p) (p + 1) w w8) := by rw [Hid, hw]; exact (by ((repeat (first | (with_reducible refine only_alloc ?_ _) | (with_reducible refine only_drew ?_) | ((with_reducible refine only_new ?_ ?_ _); rotate_left 1; (focus (first | omega | (simp; done) | (simp; omega)))))); exact HB.out))
    replace HOC : Hid (CodeK w8 (0) (p + 1) ((B, n, g)) (l)) := by rw [Hid, hw]; (repeat (first | (with_reducible refine CodeK.alloc ?_ _) | (with_reducible refine CodeK.drew ?_) | ((with_reducible refine CodeK.setCell ?_ ?_ _); rotate_left 1; (focus (first | omega | (simp; done) | (simp; omega)))))); exact HOC.out
    replace HXr : Hid (NewBox w8 (w.heap.size) [.int .i64 0, .slice none 0 0, .int .i64 0, .slice none 0 0, .int .i64 y, .int .i64 0, .string em, .int .i64 0, .string em]) := by rw [Hid, hw]; apply NewBox.cast; (focus ((repeat (first | (with_reducible apply NewBox.alloc) | (with_reducible apply NewBox.drew) | (with_reducible apply NewBox.set1) | ((with_reducible apply NewBox.far); (focus (first | omega | (simp; done) | (simp; omega)))))); exact HXr.out)); rfl
    clear hxr hfr hkr
    have hxr := HXr.out.2.1
    have hfr := HXr.out.2.2
    have hkr := HXr.out.1
    replace HXs : Hid (NewBox w8 (w2.heap.size) [.int .i64 0, .slice none 0 0, .int .i64 0, .slice none 0 0, .int .i64 y, .int .i64 0, .string em, .int .i64 0, .string em]) := by rw [Hid, hw]; apply NewBox.cast; (focus ((repeat (first | (with_reducible apply NewBox.alloc) | (with_reducible apply NewBox.drew) | (with_reducible apply NewBox.set1) | ((with_reducible apply NewBox.far); (focus (first | omega | (simp; done) | (simp; omega)))))); exact HXs.out)); rfl
    clear hxs hfs hks
    have hxs := HXs.out.2.1
    have hfs := HXs.out.2.2
    have hks := HXs.out.1
    clear hw
    refine bodyPost_ret (v := .agg #[.int .i64 0, .slice none 0 0, .int .i64 0, .slice none 0 0, .int .i64 y, .int .i64 0, .string em, .int .i64 0, .string em]) (by simp [results, Try.results54, go_sem, hxr]) rfl ?_
    exact ⟨0, 0, none, none, 0, 0, 0, 0, [], [], ⟨y, 0, em, 0, em⟩, rfl, ⟨i64s (by omega) (by omega), i64s (by omega) (by omega), ⟨HY.out, i64s (x := 0) (by omega) (by omega), i64s (x := 0) (by omega) (by omega), by show em.size ≤ 50; omega, by show em.size ≤ 50; omega⟩, ⟨rfl, by omega, fun _ => rfl, Own.nil⟩, ⟨rfl, by omega, fun _ => rfl, Own.nil⟩⟩, CodeK.get HOC.out, HB.out⟩
   ·skip
    go_wp2_with fail
    refine calls_named (fun w6 hw => ?_)
    have hz6 : w5.heap.size + 0 ≤ w6.heap.size := by rw [hw]; first | omega | (simp [World.setCell]; done) | (simp [World.setCell]; omega)
    have hzz6 : w.heap.size ≤ w6.heap.size := by omega
    have hbn : Below w5.heap.size w5 w6 := by rw [hw]; exact (by ((repeat (first | ((with_reducible refine Below.alloc ?_ ?_ _); rotate_left 1; (focus (first | omega | (simp; done) | (simp; omega)))) | (with_reducible refine Below.drew ?_) | ((with_reducible refine Below.setCell ?_ ?_ _); rotate_left 1; (focus (first | omega | (simp; done) | (simp; omega)))))); exact Below.refl _ _))
    replace HB := Lib.hid (HB.out.trans (Only.of_below hbn))
    replace HOC := Lib.hid (HOC.out.below hbn)
    replace HXr := Lib.hid (HXr.out.below hbn)
    clear hxr hfr hkr
    have hxr := HXr.out.2.1
    have hfr := HXr.out.2.2
    have hkr := HXr.out.1
    replace HXs := Lib.hid (HXs.out.below hbn)
    clear hxs hfs hks
    have hxs := HXs.out.2.1
    have hfs := HXs.out.2.2
    have hks := HXs.out.1
    clear hbn
    clear hw
    refine (l10Head_c (CodeK.get HOC.out) (by omega) wd).mono ?_
    rintro e w7 ⟨x9, rfl, hx9, hc, hb⟩
    have hzw7 : w6.heap.size ≤ w7.heap.size := hb.size
    have hzzw7 : w.heap.size ≤ w7.heap.size := by omega
    replace HB : Hid (Only (p) (p + 1) w w7) := Lib.hid (by first | exact HB.out.trans hb | exact only_two HB.out hb (by omega))
    replace HXr := Lib.hid (HXr.out.only hb (by first | omega | (simp; omega)))
    clear hxr hfr hkr
    have hxr := HXr.out.2.1
    have hfr := HXr.out.2.2
    have hkr := HXr.out.1
    replace HXs := Lib.hid (HXs.out.only hb (by first | omega | (simp; omega)))
    clear hxs hfs hks
    have hxs := HXs.out.2.1
    have hfs := HXs.out.2.2
    have hks := HXs.out.1
    clear hb
    clear HOC
    have HOC : Hid (CodeK w7 (0) (p + 1) ((B, n, g)) (l)) := Lib.hid (CodeK.mk_ hc)
    clear hc
    have HX9 := Lib.hid hx9
    clear hx9
    go_wp2
    refine bodyPost_named (fun w8 hw => ?_)
    have hz8 : w7.heap.size + 0 ≤ w8.heap.size := by rw [hw]; first | omega | (simp [World.setCell]; done) | (simp [World.setCell]; omega)
    have hzz8 : w.heap.size ≤ w8.heap.size := by omega
    replace HB : Hid (Only (p) (p + 1) w w8) := by rw [Hid, hw]; exact (by ((repeat (first | (with_reducible refine only_alloc ?_ _) | (with_reducible refine only_drew ?_) | ((with_reducible refine only_new ?_ ?_ _); rotate_left 1; (focus (first | omega | (simp; done) | (simp; omega)))))); exact HB.out))
    replace HOC : Hid (CodeK w8 (0) (p + 1) ((B, n, g)) (l)) := by rw [Hid, hw]; (repeat (first | (with_reducible refine CodeK.alloc ?_ _) | (with_reducible refine CodeK.drew ?_) | ((with_reducible refine CodeK.setCell ?_ ?_ _); rotate_left 1; (focus (first | omega | (simp; done) | (simp; omega)))))); exact HOC.out
    replace HXr : Hid (NewBox w8 (w.heap.size) [.int .i64 0, .slice none 0 0, .int .i64 0, .slice none 0 0, .int .i64 x9.num, .int .i64 x9.size, .string x9.root, .int .i64 x9.taken, .string x9.troot]) := by rw [Hid, hw]; apply NewBox.cast; (focus ((repeat (first | (with_reducible apply NewBox.alloc) | (with_reducible apply NewBox.drew) | (with_reducible apply NewBox.set1) | ((with_reducible apply NewBox.far); (focus (first | omega | (simp; done) | (simp; omega)))))); exact HXr.out)); rfl
    clear hxr hfr hkr
    have hxr := HXr.out.2.1
    have hfr := HXr.out.2.2
    have hkr := HXr.out.1
    replace HXs : Hid (NewBox w8 (w2.heap.size) [.int .i64 0, .slice none 0 0, .int .i64 0, .slice none 0 0, .int .i64 x9.num, .int .i64 x9.size, .string x9.root, .int .i64 x9.taken, .string x9.troot]) := by rw [Hid, hw]; apply NewBox.cast; (focus ((repeat (first | (with_reducible apply NewBox.alloc) | (with_reducible apply NewBox.drew) | (with_reducible apply NewBox.set1) | ((with_reducible apply NewBox.far); (focus (first | omega | (simp; done) | (simp; omega)))))); exact HXs.out)); rfl
    clear hxs hfs hks
    have hxs := HXs.out.2.1
    have hfs := HXs.out.2.2
    have hks := HXs.out.1
    clear hw
    refine bodyPost_ret (v := .agg #[.int .i64 0, .slice none 0 0, .int .i64 0, .slice none 0 0, .int .i64 x9.num, .int .i64 x9.size, .string x9.root, .int .i64 x9.taken, .string x9.troot]) (by simp [results, Try.results54, go_sem, hxr]) rfl ?_
    exact ⟨0, 0, none, none, 0, 0, 0, 0, [], [], ⟨x9.num, x9.size, x9.root, x9.taken, x9.troot⟩, rfl, ⟨i64s (by omega) (by omega), i64s (by omega) (by omega), ⟨HX9.out.1, HX9.out.2.1, HX9.out.2.2.1, HX9.out.2.2.2.1, HX9.out.2.2.2.2⟩, ⟨rfl, by omega, fun _ => rfl, Own.nil⟩, ⟨rfl, by omega, fun _ => rfl, Own.nil⟩⟩, CodeK.get HOC.out, HB.out⟩
   ·skip
    go_wp2_with fail
    refine calls_named (fun w6 hw => ?_)
    have hz6 : w5.heap.size + 0 ≤ w6.heap.size := by rw [hw]; first | omega | (simp [World.setCell]; done) | (simp [World.setCell]; omega)
    have hzz6 : w.heap.size ≤ w6.heap.size := by omega
    have hbn : Below w5.heap.size w5 w6 := by rw [hw]; exact (by ((repeat (first | ((with_reducible refine Below.alloc ?_ ?_ _); rotate_left 1; (focus (first | omega | (simp; done) | (simp; omega)))) | (with_reducible refine Below.drew ?_) | ((with_reducible refine Below.setCell ?_ ?_ _); rotate_left 1; (focus (first | omega | (simp; done) | (simp; omega)))))); exact Below.refl _ _))
    replace HB := Lib.hid (HB.out.trans (Only.of_below hbn))
    replace HOC := Lib.hid (HOC.out.below hbn)
    replace HXr := Lib.hid (HXr.out.below hbn)
    clear hxr hfr hkr
    have hxr := HXr.out.2.1
    have hfr := HXr.out.2.2
    have hkr := HXr.out.1
    replace HXs := Lib.hid (HXs.out.below hbn)
    clear hxs hfs hks
    have hxs := HXs.out.2.1
    have hfs := HXs.out.2.2
    have hks := HXs.out.1
    clear hbn
    clear hw
    refine (l04Range_c (CodeK.get HOC.out) (by omega) wd).mono ?_
    rintro e w7 ⟨z9, A9, c9, m9, ss9, rfl, hz9, hl9, hc, hb⟩
    have hzw7 : w6.heap.size ≤ w7.heap.size := hb.size
    have hzzw7 : w.heap.size ≤ w7.heap.size := by omega
    replace HB : Hid (Only (p) (p + 1) w w7) := Lib.hid (by first | exact HB.out.trans hb | exact only_two HB.out hb (by omega))
    replace HXr := Lib.hid (HXr.out.only hb (by first | omega | (simp; omega)))
    clear hxr hfr hkr
    have hxr := HXr.out.2.1
    have hfr := HXr.out.2.2
    have hkr := HXr.out.1
    replace HXs := Lib.hid (HXs.out.only hb (by first | omega | (simp; omega)))
    clear hxs hfs hks
    have hxs := HXs.out.2.1
    have hfs := HXs.out.2.2
    have hks := HXs.out.1
    clear hb
    clear HOC
    have HOC : Hid (CodeK w7 (0) (p + 1) ((B, n, g)) (l)) := Lib.hid (CodeK.mk_ hc)
    clear hc
    have HZ9 := Lib.hid hz9
    have HL9 := Lib.hid hl9
    have HOG : Hid (Own w7 (w6.heap.size) (w7.heap.size) (A9) (strs ss9)) := Lib.hid hl9.2.2.2.2.2
    clear hz9 hl9
    go_wp2
    refine bodyPost_named (fun w8 hw => ?_)
    have hz8 : w7.heap.size + 0 ≤ w8.heap.size := by rw [hw]; first | omega | (simp [World.setCell]; done) | (simp [World.setCell]; omega)
    have hzz8 : w.heap.size ≤ w8.heap.size := by omega
    replace HB : Hid (Only (p) (p + 1) w w8) := by rw [Hid, hw]; exact (by ((repeat (first | (with_reducible refine only_alloc ?_ _) | (with_reducible refine only_drew ?_) | ((with_reducible refine only_new ?_ ?_ _); rotate_left 1; (focus (first | omega | (simp; done) | (simp; omega)))))); exact HB.out))
    replace HOC : Hid (CodeK w8 (0) (p + 1) ((B, n, g)) (l)) := by rw [Hid, hw]; (repeat (first | (with_reducible refine CodeK.alloc ?_ _) | (with_reducible refine CodeK.drew ?_) | ((with_reducible refine CodeK.setCell ?_ ?_ _); rotate_left 1; (focus (first | omega | (simp; done) | (simp; omega)))))); exact HOC.out
    replace HOG : Hid (Own w8 (w6.heap.size) (w7.heap.size) (A9) (strs ss9)) := by rw [Hid, hw]; (repeat (first | (with_reducible refine Own.alloc ?_ _) | (with_reducible refine Own.drew ?_) | ((with_reducible refine Own.setCell ?_ ?_ _); rotate_left 1; (focus (first | omega | (simp; done) | (simp; omega)))))); exact HOG.out
    replace HXr : Hid (NewBox w8 (w.heap.size) [.int .i64 z9, .slice A9 m9 c9, .int .i64 0, .slice none 0 0, .int .i64 0, .int .i64 0, .string em, .int .i64 0, .string em]) := by rw [Hid, hw]; apply NewBox.cast; (focus ((repeat (first | (with_reducible apply NewBox.alloc) | (with_reducible apply NewBox.drew) | (with_reducible apply NewBox.set1) | ((with_reducible apply NewBox.far); (focus (first | omega | (simp; done) | (simp; omega)))))); exact HXr.out)); rfl
    clear hxr hfr hkr
    have hxr := HXr.out.2.1
    have hfr := HXr.out.2.2
    have hkr := HXr.out.1
    replace HXs : Hid (NewBox w8 (w2.heap.size) [.int .i64 z9, .slice A9 m9 c9, .int .i64 0, .slice none 0 0, .int .i64 0, .int .i64 0, .string em, .int .i64 0, .string em]) := by rw [Hid, hw]; apply NewBox.cast; (focus ((repeat (first | (with_reducible apply NewBox.alloc) | (with_reducible apply NewBox.drew) | (with_reducible apply NewBox.set1) | ((with_reducible apply NewBox.far); (focus (first | omega | (simp; done) | (simp; omega)))))); exact HXs.out)); rfl
    clear hxs hfs hks
    have hxs := HXs.out.2.1
    have hfs := HXs.out.2.2
    have hks := HXs.out.1
    clear hw
    refine bodyPost_ret (v := .agg #[.int .i64 z9, .slice A9 m9 c9, .int .i64 0, .slice none 0 0, .int .i64 0, .int .i64 0, .string em, .int .i64 0, .string em]) (by simp [results, Try.results54, go_sem, hxr]) rfl ?_
    exact ⟨z9, 0, A9, none, m9, c9, 0, 0, ss9, [], ⟨0, 0, em, 0, em⟩, rfl, ⟨HZ9.out, i64s (by omega) (by omega), ⟨i64s (x := 0) (by omega) (by omega), i64s (x := 0) (by omega) (by omega), i64s (x := 0) (by omega) (by omega), by show em.size ≤ 50; omega, by show em.size ≤ 50; omega⟩, ⟨HL9.out.1, by have := HL9.out.2.1; omega, HL9.out.2.2.2.2.1, HOG.out.mono (by omega) (by omega) (by omega)⟩, ⟨rfl, by omega, fun _ => rfl, Own.nil⟩⟩, CodeK.get HOC.out, HB.out⟩
   ·skip
    have E9 : IntKind.i64.wrap (0 + 1) = 0 + 1 := by rw [IntKind.wrap_i64]; omega
    go_wp2
    refine bodyPost_named (fun w6 hw => ?_)
    have hz6 : w5.heap.size + 0 ≤ w6.heap.size := by rw [hw]; first | omega | (simp [World.setCell]; done) | (simp [World.setCell]; omega)
    have hzz6 : w.heap.size ≤ w6.heap.size := by omega
    replace HB : Hid (Only (p) (p + 1) w w6) := by rw [Hid, hw]; exact (by ((repeat (first | (with_reducible refine only_alloc ?_ _) | (with_reducible refine only_drew ?_) | ((with_reducible refine only_new ?_ ?_ _); rotate_left 1; (focus (first | omega | (simp; done) | (simp; omega)))))); exact HB.out))
    replace HOC : Hid (CodeK w6 (0) (p + 1) ((B, n, g)) (l)) := by rw [Hid, hw]; (repeat (first | (with_reducible refine CodeK.alloc ?_ _) | (with_reducible refine CodeK.drew ?_) | ((with_reducible refine CodeK.setCell ?_ ?_ _); rotate_left 1; (focus (first | omega | (simp; done) | (simp; omega)))))); exact HOC.out
    replace HXr : Hid (NewBox w6 (w.heap.size) [.int .i64 0, .slice none 0 0, .int .i64 (0 + 1), .slice none 0 0, .int .i64 0, .int .i64 0, .string em, .int .i64 0, .string em]) := by rw [Hid, hw]; apply NewBox.cast; (focus ((repeat (first | (with_reducible apply NewBox.alloc) | (with_reducible apply NewBox.drew) | (with_reducible apply NewBox.set1) | ((with_reducible apply NewBox.far); (focus (first | omega | (simp; done) | (simp; omega)))))); exact HXr.out)); rfl
    clear hxr hfr hkr
    have hxr := HXr.out.2.1
    have hfr := HXr.out.2.2
    have hkr := HXr.out.1
    replace HXs : Hid (NewBox w6 (w2.heap.size) [.int .i64 0, .slice none 0 0, .int .i64 (0 + 1), .slice none 0 0, .int .i64 0, .int .i64 0, .string em, .int .i64 0, .string em]) := by rw [Hid, hw]; apply NewBox.cast; (focus ((repeat (first | (with_reducible apply NewBox.alloc) | (with_reducible apply NewBox.drew) | (with_reducible apply NewBox.set1) | ((with_reducible apply NewBox.far); (focus (first | omega | (simp; done) | (simp; omega)))))); exact HXs.out)); rfl
    clear hxs hfs hks
    have hxs := HXs.out.2.1
    have hfs := HXs.out.2.2
    have hks := HXs.out.1
    clear hw
    refine bodyPost_ret (v := .agg #[.int .i64 0, .slice none 0 0, .int .i64 (0 + 1), .slice none 0 0, .int .i64 0, .int .i64 0, .string em, .int .i64 0, .string em]) (by simp [results, Try.results54, go_sem, hxr]) rfl ?_
    exact ⟨0, (0 + 1), none, none, 0, 0, 0, 0, [], [], ⟨0, 0, em, 0, em⟩, rfl, ⟨i64s (by omega) (by omega), i64s (by omega) (by omega), ⟨i64s (x := 0) (by omega) (by omega), i64s (x := 0) (by omega) (by omega), i64s (x := 0) (by omega) (by omega), by show em.size ≤ 50; omega, by show em.size ≤ 50; omega⟩, ⟨rfl, by omega, fun _ => rfl, Own.nil⟩, ⟨rfl, by omega, fun _ => rfl, Own.nil⟩⟩, CodeK.get HOC.out, HB.out⟩
   ·skip
    have f0 : (k == 0) = false := beq_eq_false_iff_ne.2 (by omega)
    have f1 : (k == 1) = false := beq_eq_false_iff_ne.2 (by omega)
    have f2 : (k == 2) = false := beq_eq_false_iff_ne.2 (by omega)
    have f3 : (k == 3) = false := beq_eq_false_iff_ne.2 (by omega)
    go_wp2
    refine bodyPost_named (fun w6 hw => ?_)
    have hz6 : w5.heap.size + 0 ≤ w6.heap.size := by rw [hw]; first | omega | (simp [World.setCell]; done) | (simp [World.setCell]; omega)
    have hzz6 : w.heap.size ≤ w6.heap.size := by omega
    replace HB : Hid (Only (p) (p + 1) w w6) := by rw [Hid, hw]; exact (by ((repeat (first | (with_reducible refine only_alloc ?_ _) | (with_reducible refine only_drew ?_) | ((with_reducible refine only_new ?_ ?_ _); rotate_left 1; (focus (first | omega | (simp; done) | (simp; omega)))))); exact HB.out))
    replace HOC : Hid (CodeK w6 (0) (p + 1) ((B, n, g)) (l)) := by rw [Hid, hw]; (repeat (first | (with_reducible refine CodeK.alloc ?_ _) | (with_reducible refine CodeK.drew ?_) | ((with_reducible refine CodeK.setCell ?_ ?_ _); rotate_left 1; (focus (first | omega | (simp; done) | (simp; omega)))))); exact HOC.out
    replace HXr : Hid (NewBox w6 (w.heap.size) [.int .i64 0, .slice none 0 0, .int .i64 0, .slice none 0 0, .int .i64 0, .int .i64 0, .string em, .int .i64 0, .string em]) := by rw [Hid, hw]; apply NewBox.cast; (focus ((repeat (first | (with_reducible apply NewBox.alloc) | (with_reducible apply NewBox.drew) | (with_reducible apply NewBox.set1) | ((with_reducible apply NewBox.far); (focus (first | omega | (simp; done) | (simp; omega)))))); exact HXr.out)); rfl
    clear hxr hfr hkr
    have hxr := HXr.out.2.1
    have hfr := HXr.out.2.2
    have hkr := HXr.out.1
    replace HXs : Hid (NewBox w6 (w2.heap.size) [.int .i64 0, .slice none 0 0, .int .i64 0, .slice none 0 0, .int .i64 0, .int .i64 0, .string em, .int .i64 0, .string em]) := by rw [Hid, hw]; (repeat (first | (with_reducible refine NewBox.alloc ?_ _) | (with_reducible refine NewBox.drew ?_) | ((with_reducible refine NewBox.setCell ?_ ?_ _); rotate_left 1; (focus (first | omega | (simp; done) | (simp; omega)))))); exact HXs.out
    clear hxs hfs hks
    have hxs := HXs.out.2.1
    have hfs := HXs.out.2.2
    have hks := HXs.out.1
    clear hw
    refine bodyPost_ret (v := .agg #[.int .i64 0, .slice none 0 0, .int .i64 0, .slice none 0 0, .int .i64 0, .int .i64 0, .string em, .int .i64 0, .string em]) (by simp [results, Try.results54, go_sem, hxr]) rfl ?_
    exact ⟨0, 0, none, none, 0, 0, 0, 0, [], [], ⟨0, 0, em, 0, em⟩, rfl, ⟨i64s (by omega) (by omega), i64s (by omega) (by omega), ⟨i64s (x := 0) (by omega) (by omega), i64s (x := 0) (by omega) (by omega), i64s (x := 0) (by omega) (by omega), by show em.size ≤ 50; omega, by show em.size ≤ 50; omega⟩, ⟨rfl, by omega, fun _ => rfl, Own.nil⟩, ⟨rfl, by omega, fun _ => rfl, Own.nil⟩⟩, CodeK.get HOC.out, HB.out⟩
end Go.Proofs.Ytoccjgcokffkbaa
