/- A drawn head. -/
import Derived.Test.YtoccjgcokffkbaaDrawT
import Derived.Test.YtoccjgcokffkbaaHds4
import Derived.Deep.DeepCutAuto
namespace Go.Proofs.Ytoccjgcokffkbaa
set_option linter.unusedVariables false
set_option linter.unusedSimpArgs false
open Go.RowKit

theorem i64s {x : Int} (h1 : -1000 ≤ x) (h2 : x ≤ 1000000) : I64 x := ⟨by omega, by omega⟩
def HdS (N : Nat) (x : Hd) : Prop := I64 x.num ∧ I64 x.size ∧ I64 x.taken ∧ x.root.size ≤ N ∧ x.troot.size ≤ N
theorem HdS.fits {x : Hd} (h : HdS 50 x) : x.fits ∧ x.bulk ≤ 200 := by
 obtain ⟨h1, h2, h3, h4, h5⟩ := h
 exact ⟨⟨h1, h2, h3, by unfold maxLen; omega, by unfold maxLen; omega⟩, by rw [Hd.bulk]; omega⟩
set_option maxRecDepth 100000 in
set_option maxHeartbeats 4000000 in
theorem l10Head_c {w : World} {p n g : Nat} {B : Option Addr} {l : List Int} (h : Code w p B n g 0 p l) (hp : p < w.heap.size) (wd : Int) :
  Calls Try.prog 87 #[.pointer (some ⟨p, 0, none⟩), .int .i64 wd] w fun e w' => ∃ x : Hd, e = .returned (.agg #[.int .i64 x.num, .int .i64 x.size, .string x.root, .int .i64 x.taken, .string x.troot]) ∧ HdS 50 x ∧ Code w' p B n g 0 p l ∧ Only p (p + 1) w w' := by
 have HB : Hid (Only (p) (p + 1) w w) := Only.refl _ _ _
 have HOC : Hid (CodeK w (0) (p + 1) ((B, n, g)) (l)) := Lib.hid (CodeK.mk_ h)
 clear h
 go_enter Try.func87, Try.ntmps87
 go_wp2_with fail
 refine calls_named (fun w1 hw => ?_)
 have hz1 : w.heap.size + 1 ≤ w1.heap.size := by rw [hw]; first | omega | (simp [World.setCell]; done) | (simp [World.setCell]; omega)
 have hzz1 : w.heap.size ≤ w1.heap.size := by omega
 have hbn : Below w.heap.size w w1 := by rw [hw]; exact (by ((repeat (first | ((with_reducible refine Below.alloc ?_ ?_ _); rotate_left 1; (focus (first | omega | (simp; done) | (simp; omega)))) | (with_reducible refine Below.drew ?_) | ((with_reducible refine Below.setCell ?_ ?_ _); rotate_left 1; (focus (first | omega | (simp; done) | (simp; omega)))))); exact Below.refl _ _))
 replace HB := Lib.hid (HB.out.trans (Only.of_below hbn))
 replace HOC := Lib.hid (HOC.out.below hbn)
 clear hbn
 have HXr : Hid (NewBox w1 (w.heap.size) [.int .i64 0, .int .i64 0, .string ⟨#[]⟩, .int .i64 0, .string ⟨#[]⟩]) := by rw [Hid, hw]; exact ⟨by first | omega | (simp [World.setCell]; done) | (simp [World.setCell]; omega), fun o => by rcases o with _ | _ | _ | _ | _ | o <;> go_simp, fun o => by go_simp⟩
 have hxr := HXr.out.2.1
 have hfr := HXr.out.2.2
 have hkr := HXr.out.1
 clear hw
 refine (specHeadNew_c wd _).mono ?_
 rintro e w2 ⟨rfl, hb⟩
 have hzw2 : w1.heap.size ≤ w2.heap.size := hb.size
 have hzzw2 : w.heap.size ≤ w2.heap.size := by omega
 replace HB := Lib.hid (HB.out.trans (Only.of_below hb))
 replace HOC := Lib.hid (HOC.out.below hb)
 replace HXr := Lib.hid (HXr.out.below hb)
 clear hxr hfr hkr
 have hxr := HXr.out.2.1
 have hfr := HXr.out.2.2
 have hkr := HXr.out.1
 clear hb
 go_upto_if 13 with fail
 refine wp_named (fun w3 hw => ?_)
 have hz3 : w2.heap.size + 1 ≤ w3.heap.size := by rw [hw]; first | omega | (simp [World.setCell]; done) | (simp [World.setCell]; omega)
 have hzz3 : w.heap.size ≤ w3.heap.size := by omega
 have hbn : Below w2.heap.size w2 w3 := by rw [hw]; exact (by ((repeat (first | ((with_reducible refine Below.alloc ?_ ?_ _); rotate_left 1; (focus (first | omega | (simp; done) | (simp; omega)))) | (with_reducible refine Below.drew ?_) | ((with_reducible refine Below.setCell ?_ ?_ _); rotate_left 1; (focus (first | omega | (simp; done) | (simp; omega)))))); exact Below.refl _ _))
 replace HB := Lib.hid (HB.out.trans (Only.of_below hbn))
 replace HOC := Lib.hid (HOC.out.below hbn)
 replace HXr := Lib.hid (HXr.out.below hbn)
 clear hxr hfr hkr
 have hxr := HXr.out.2.1
 have hfr := HXr.out.2.2
 have hkr := HXr.out.1
 clear hbn
 have HXh : Hid (NewBox w3 (w2.heap.size) [.int .i64 0, .int .i64 0, .string (emptyT wd), .int .i64 0, .string (emptyT wd)]) := by rw [Hid, hw]; exact ⟨by first | omega | (simp [World.setCell]; done) | (simp [World.setCell]; omega), fun o => by rcases o with _ | _ | _ | _ | _ | o <;> go_simp, fun o => by go_simp⟩
 have hxh := HXh.out.2.1
 have hfh := HXh.out.2.2
 have hkh := HXh.out.1
 clear hw
 go_cut [1, 6] (fun v1 v6 wx => ∃ (m : Nat) (x : Hd), v1 = .int .i64 m ∧ m ≤ 32 ∧ HdS 45 x ∧ NewBox wx ((w.heap.size)) [.int .i64 0, .int .i64 0, .string ⟨#[]⟩, .int .i64 0, .string ⟨#[]⟩] ∧ NewBox wx ((w2.heap.size)) [.int .i64 x.num, .int .i64 x.size, .string x.root, .int .i64 x.taken, .string x.troot] ∧ CodeK wx 0 (p + 1) (B, n, g) l ∧ Only p (p + 1) w wx ∧ w3.heap.size ≤ wx.heap.size)
 case first =>
  rcases hq : inR wd 1 32 with _ | _
  ·go_wp2_with fail
   go_meet
   exact ⟨4, ⟨0, 0, ⟨#[114, 111, 111, 116]⟩, 0, ⟨#[114, 111, 111, 116]⟩⟩, rfl, by omega, ⟨i64s (x := 0) (by omega) (by omega), i64s (x := 0) (by omega) (by omega), i64s (x := 0) (by omega) (by omega), by decide, by decide⟩, (by (repeat (first | (with_reducible refine NewBox.alloc ?_ _) | (with_reducible refine NewBox.drew ?_) | ((with_reducible refine NewBox.setCell ?_ ?_ _); rotate_left 1; (focus (first | omega | (simp; done) | (simp; omega)))))); exact HXr.out), (by exact ⟨by first | omega | (simp [World.setCell]; done) | (simp [World.setCell]; omega), fun o => by rcases o with _ | _ | _ | _ | _ | o <;> go_simp, fun o => by go_simp⟩), (by (repeat (first | (with_reducible refine CodeK.alloc ?_ _) | (with_reducible refine CodeK.drew ?_) | ((with_reducible refine CodeK.setCell ?_ ?_ _); rotate_left 1; (focus (first | omega | (simp; done) | (simp; omega)))))); exact HOC.out), (by ((repeat (first | (with_reducible refine only_alloc ?_ _) | (with_reducible refine only_drew ?_) | ((with_reducible refine only_new ?_ ?_ _); rotate_left 1; (focus (first | omega | (simp; done) | (simp; omega)))))); exact HB.out)), (by first | omega | (simp [World.setCell]; done) | (simp [World.setCell]; omega))⟩
  ·obtain ⟨m, rfl⟩ : ∃ m : Nat, wd = m := ⟨wd.toNat, by have := inR_true.1 hq; omega⟩
   have hm32 := inR_true.1 hq
   have he := emptyT_size hq
   go_wp2_with fail
   go_meet
   exact ⟨m, ⟨0, 0, emptyT m, 0, emptyT m⟩, rfl, by omega, ⟨i64s (x := 0) (by omega) (by omega), i64s (x := 0) (by omega) (by omega), i64s (x := 0) (by omega) (by omega), by show (emptyT (m : Int)).size ≤ 45; omega, by show (emptyT (m : Int)).size ≤ 45; omega⟩, (by (repeat (first | (with_reducible refine NewBox.alloc ?_ _) | (with_reducible refine NewBox.drew ?_) | ((with_reducible refine NewBox.setCell ?_ ?_ _); rotate_left 1; (focus (first | omega | (simp; done) | (simp; omega)))))); exact HXr.out), (by (repeat (first | (with_reducible refine NewBox.alloc ?_ _) | (with_reducible refine NewBox.drew ?_) | ((with_reducible refine NewBox.setCell ?_ ?_ _); rotate_left 1; (focus (first | omega | (simp; done) | (simp; omega)))))); exact HXh.out), (by (repeat (first | (with_reducible refine CodeK.alloc ?_ _) | (with_reducible refine CodeK.drew ?_) | ((with_reducible refine CodeK.setCell ?_ ?_ _); rotate_left 1; (focus (first | omega | (simp; done) | (simp; omega)))))); exact HOC.out), (by ((repeat (first | (with_reducible refine only_alloc ?_ _) | (with_reducible refine only_drew ?_) | ((with_reducible refine only_new ?_ ?_ _); rotate_left 1; (focus (first | omega | (simp; done) | (simp; omega)))))); exact HB.out)), (by first | omega | (simp [World.setCell]; done) | (simp [World.setCell]; omega))⟩
 case rest =>
  obtain ⟨m, x, rfl, hm, hxs, hbr, hbh, hcc, hon, hsz⟩ := hcut
  obtain ⟨wq, hwq⟩ : ∃ y : World, y = wc := ⟨_, rfl⟩
  subst hwq
  replace HB : Hid (Only (p) (p + 1) w wq) := (Lib.hid hon)
  replace HXr : Hid (NewBox wq (w.heap.size) [.int .i64 0, .int .i64 0, .string ⟨#[]⟩, .int .i64 0, .string ⟨#[]⟩]) := hbr
  clear hxr hfr hkr
  have hxr := HXr.out.2.1
  have hfr := HXr.out.2.2
  have hkr := HXr.out.1
  replace HXh : Hid (NewBox wq (w2.heap.size) [.int .i64 x.num, .int .i64 x.size, .string x.root, .int .i64 x.taken, .string x.troot]) := hbh
  clear hxh hfh hkh
  have hxh := HXh.out.2.1
  have hfh := HXh.out.2.2
  have hkh := HXh.out.1
  replace HOC : Hid (CodeK wq (0) (p + 1) ((B, n, g)) (l)) := Lib.hid hcc
  have hzz_wq : w.heap.size ≤ wq.heap.size := HB.out.size
  have HXS := Lib.hid hxs
  clear hbr hbh hcc hon hxs
  go_wp2_with fail
  refine calls_named (fun w4 hw => ?_)
  have hz4 : wq.heap.size + 0 ≤ w4.heap.size := by rw [hw]; first | omega | (simp [World.setCell]; done) | (simp [World.setCell]; omega)
  have hzz4 : w.heap.size ≤ w4.heap.size := by omega
  have hbn : Below wq.heap.size wq w4 := by rw [hw]; exact (by ((repeat (first | ((with_reducible refine Below.alloc ?_ ?_ _); rotate_left 1; (focus (first | omega | (simp; done) | (simp; omega)))) | (with_reducible refine Below.drew ?_) | ((with_reducible refine Below.setCell ?_ ?_ _); rotate_left 1; (focus (first | omega | (simp; done) | (simp; omega)))))); exact Below.refl _ _))
  replace HB := Lib.hid (HB.out.trans (Only.of_below hbn))
  replace HOC := Lib.hid (HOC.out.below hbn)
  replace HXr := Lib.hid (HXr.out.below hbn)
  clear hxr hfr hkr
  have hxr := HXr.out.2.1
  have hfr := HXr.out.2.2
  have hkr := HXr.out.1
  replace HXh := Lib.hid (HXh.out.below hbn)
  clear hxh hfh hkh
  have hxh := HXh.out.2.1
  have hfh := HXh.out.2.2
  have hkh := HXh.out.1
  clear hbn
  clear hw
  refine (l01Below_c p n g 0 p B l 6 _ (CodeK.get HOC.out) (by omega) (by omega)).mono ?_
  rintro e w5 ⟨k0, rfl, k00, k01, hc, hb⟩
  have hzw5 : w4.heap.size ≤ w5.heap.size := hb.size
  have hzzw5 : w.heap.size ≤ w5.heap.size := by omega
  replace HB : Hid (Only (p) (p + 1) w w5) := Lib.hid (by first | exact HB.out.trans hb | exact only_two HB.out hb (by omega))
  replace HXr := Lib.hid (HXr.out.only hb (by first | omega | (simp; omega)))
  clear hxr hfr hkr
  have hxr := HXr.out.2.1
  have hfr := HXr.out.2.2
  have hkr := HXr.out.1
  replace HXh := Lib.hid (HXh.out.only hb (by first | omega | (simp; omega)))
  clear hxh hfh hkh
  have hxh := HXh.out.2.1
  have hfh := HXh.out.2.2
  have hkh := HXh.out.1
  clear hb
  clear HOC
  have HOC : Hid (CodeK w5 (0) (p + 1) ((B, n, g)) (l)) := Lib.hid (CodeK.mk_ hc)
  clear hc
  go_wp2_with fail
  refine calls_named (fun w6 hw => ?_)
  have hz6 : w5.heap.size + 0 ≤ w6.heap.size := by rw [hw]; first | omega | (simp [World.setCell]; done) | (simp [World.setCell]; omega)
  have hzz6 : w.heap.size ≤ w6.heap.size := by omega
  replace HB : Hid (Only (p) (p + 1) w w6) := by rw [Hid, hw]; exact (by ((repeat (first | (with_reducible refine only_alloc ?_ _) | (with_reducible refine only_drew ?_) | ((with_reducible refine only_new ?_ ?_ _); rotate_left 1; (focus (first | omega | (simp; done) | (simp; omega)))))); exact HB.out))
  replace HOC : Hid (CodeK w6 (0) (p + 1) ((B, n, g)) (l)) := by rw [Hid, hw]; (repeat (first | (with_reducible refine CodeK.alloc ?_ _) | (with_reducible refine CodeK.drew ?_) | ((with_reducible refine CodeK.setCell ?_ ?_ _); rotate_left 1; (focus (first | omega | (simp; done) | (simp; omega)))))); exact HOC.out
  replace HXr : Hid (NewBox w6 (w.heap.size) [.int .i64 0, .int .i64 0, .string ⟨#[]⟩, .int .i64 0, .string ⟨#[]⟩]) := by rw [Hid, hw]; (repeat (first | (with_reducible refine NewBox.alloc ?_ _) | (with_reducible refine NewBox.drew ?_) | ((with_reducible refine NewBox.setCell ?_ ?_ _); rotate_left 1; (focus (first | omega | (simp; done) | (simp; omega)))))); exact HXr.out
  clear hxr hfr hkr
  have hxr := HXr.out.2.1
  have hfr := HXr.out.2.2
  have hkr := HXr.out.1
  replace HXh : Hid (NewBox w6 (w2.heap.size) [.int .i64 k0, .int .i64 x.size, .string x.root, .int .i64 x.taken, .string x.troot]) := by rw [Hid, hw]; exact ⟨by first | omega | (simp [World.setCell]; omega), fun o => by rcases o with _ | _ | _ | _ | _ | o <;> go_simp, fun o => by go_simp⟩
  clear hxh hfh hkh
  have hxh := HXh.out.2.1
  have hfh := HXh.out.2.2
  have hkh := HXh.out.1
  clear hw
  refine (l01Once_c (CodeK.get HOC.out) 4 (by omega) (by omega)).mono ?_
  rintro e w7 ⟨b, rfl, hc, hb⟩
  have hzw7 : w6.heap.size ≤ w7.heap.size := hb.size
  have hzzw7 : w.heap.size ≤ w7.heap.size := by omega
  replace HB : Hid (Only (p) (p + 1) w w7) := Lib.hid (by first | exact HB.out.trans hb | exact only_two HB.out hb (by omega))
  replace HXr := Lib.hid (HXr.out.only hb (by first | omega | (simp; omega)))
  clear hxr hfr hkr
  have hxr := HXr.out.2.1
  have hfr := HXr.out.2.2
  have hkr := HXr.out.1
  replace HXh := Lib.hid (HXh.out.only hb (by first | omega | (simp; omega)))
  clear hxh hfh hkh
  have hxh := HXh.out.2.1
  have hfh := HXh.out.2.2
  have hkh := HXh.out.1
  clear hb
  clear HOC
  have HOC : Hid (CodeK w7 (0) (p + 1) ((B, n, g)) (l)) := Lib.hid (CodeK.mk_ hc)
  clear hc
  go_upto_if 20 with fail
  go_cut [] (fun wx => ∃ (x : Hd), HdS 45 x ∧ NewBox wx ((w.heap.size)) [.int .i64 0, .int .i64 0, .string ⟨#[]⟩, .int .i64 0, .string ⟨#[]⟩] ∧ NewBox wx ((w2.heap.size)) [.int .i64 x.num, .int .i64 x.size, .string x.root, .int .i64 x.taken, .string x.troot] ∧ CodeK wx 0 (p + 1) (B, n, g) l ∧ Only p (p + 1) w wx ∧ w7.heap.size ≤ wx.heap.size)
  case first =>
   rcases b with _ | _
   ·skip
    go_wp2_with fail
    refine calls_named (fun w8 hw => ?_)
    have hz8 : w7.heap.size + 0 ≤ w8.heap.size := by rw [hw]; first | omega | (simp [World.setCell]; done) | (simp [World.setCell]; omega)
    have hzz8 : w.heap.size ≤ w8.heap.size := by omega
    have hbn : Below w7.heap.size w7 w8 := by rw [hw]; exact (by ((repeat (first | ((with_reducible refine Below.alloc ?_ ?_ _); rotate_left 1; (focus (first | omega | (simp; done) | (simp; omega)))) | (with_reducible refine Below.drew ?_) | ((with_reducible refine Below.setCell ?_ ?_ _); rotate_left 1; (focus (first | omega | (simp; done) | (simp; omega)))))); exact Below.refl _ _))
    replace HB := Lib.hid (HB.out.trans (Only.of_below hbn))
    replace HOC := Lib.hid (HOC.out.below hbn)
    replace HXr := Lib.hid (HXr.out.below hbn)
    clear hxr hfr hkr
    have hxr := HXr.out.2.1
    have hfr := HXr.out.2.2
    have hkr := HXr.out.1
    replace HXh := Lib.hid (HXh.out.below hbn)
    clear hxh hfh hkh
    have hxh := HXh.out.2.1
    have hfh := HXh.out.2.2
    have hkh := HXh.out.1
    clear hbn
    clear hw
    refine (l01Below_c p n g 0 p B l 6 _ (CodeK.get HOC.out) (by omega) (by omega)).mono ?_
    rintro e w9 ⟨y, rfl, y0, y1, hc, hb⟩
    have hzw9 : w8.heap.size ≤ w9.heap.size := hb.size
    have hzzw9 : w.heap.size ≤ w9.heap.size := by omega
    replace HB : Hid (Only (p) (p + 1) w w9) := Lib.hid (by first | exact HB.out.trans hb | exact only_two HB.out hb (by omega))
    replace HXr := Lib.hid (HXr.out.only hb (by first | omega | (simp; omega)))
    clear hxr hfr hkr
    have hxr := HXr.out.2.1
    have hfr := HXr.out.2.2
    have hkr := HXr.out.1
    replace HXh := Lib.hid (HXh.out.only hb (by first | omega | (simp; omega)))
    clear hxh hfh hkh
    have hxh := HXh.out.2.1
    have hfh := HXh.out.2.2
    have hkh := HXh.out.1
    clear hb
    clear HOC
    have HOC : Hid (CodeK w9 (0) (p + 1) ((B, n, g)) (l)) := Lib.hid (CodeK.mk_ hc)
    clear hc
    have E1 : IntKind.i64.wrap (1 + y) = 1 + y := by rw [IntKind.wrap_i64]; omega
    go_wp2_with fail
    refine wp_named (fun w10 hw => ?_)
    have hz10 : w9.heap.size + 0 ≤ w10.heap.size := by rw [hw]; first | omega | (simp [World.setCell]; done) | (simp [World.setCell]; omega)
    have hzz10 : w.heap.size ≤ w10.heap.size := by omega
    replace HB : Hid (Only (p) (p + 1) w w10) := by rw [Hid, hw]; exact (by ((repeat (first | (with_reducible refine only_alloc ?_ _) | (with_reducible refine only_drew ?_) | ((with_reducible refine only_new ?_ ?_ _); rotate_left 1; (focus (first | omega | (simp; done) | (simp; omega)))))); exact HB.out))
    replace HOC : Hid (CodeK w10 (0) (p + 1) ((B, n, g)) (l)) := by rw [Hid, hw]; (repeat (first | (with_reducible refine CodeK.alloc ?_ _) | (with_reducible refine CodeK.drew ?_) | ((with_reducible refine CodeK.setCell ?_ ?_ _); rotate_left 1; (focus (first | omega | (simp; done) | (simp; omega)))))); exact HOC.out
    replace HXr : Hid (NewBox w10 (w.heap.size) [.int .i64 0, .int .i64 0, .string ⟨#[]⟩, .int .i64 0, .string ⟨#[]⟩]) := by rw [Hid, hw]; (repeat (first | (with_reducible refine NewBox.alloc ?_ _) | (with_reducible refine NewBox.drew ?_) | ((with_reducible refine NewBox.setCell ?_ ?_ _); rotate_left 1; (focus (first | omega | (simp; done) | (simp; omega)))))); exact HXr.out
    clear hxr hfr hkr
    have hxr := HXr.out.2.1
    have hfr := HXr.out.2.2
    have hkr := HXr.out.1
    replace HXh : Hid (NewBox w10 (w2.heap.size) [.int .i64 k0, .int .i64 (1 + y), .string x.root, .int .i64 x.taken, .string x.troot]) := by rw [Hid, hw]; exact ⟨by first | omega | (simp [World.setCell]; omega), fun o => by rcases o with _ | _ | _ | _ | _ | o <;> go_simp, fun o => by go_simp⟩
    clear hxh hfh hkh
    have hxh := HXh.out.2.1
    have hfh := HXh.out.2.2
    have hkh := HXh.out.1
    clear hw
    clear E1
    go_wp2_with fail
    go_region_law (first | (go_simp; go_at_call 34; refine (l01Below_c p n g 0 p B l 3 _ (CodeK.get (by (repeat (first | (with_reducible refine CodeK.drew ?_))); exact HOC.out)) (by omega) (by omega)).mono ?_; rintro e w5_ ⟨x5, rfl, x50, x51, hc5, ho5⟩; have HC5 := Lib.hid hc5; have HO5 : Hid (Only p (p + 1) w10 w5_) := Lib.hid (Only.drew1 ho5); have hz5 := HO5.out.size; have HH5 := Lib.hid (HXh.out.only HO5.out (by omega)); have hxh5 := HH5.out.2.1; have hfh5 := HH5.out.2.2; clear hc5 ho5) | (go_simp; go_at_call 117; refine (l01Long_c m _ w5_ (by omega) (by rw [IntKind.wrap_u8]; omega) (by rw [IntKind.wrap_u8]; omega)).mono ?_; rintro e w6_ ⟨t6, rfl, ht6, hb6⟩; have HB6 := Lib.hid hb6; have hz6 := hb6.size; have HH6 := Lib.hid (HH5.out.below hb6); have hxh6 := HH6.out.2.1; have hfh6 := HH6.out.2.2; clear hb6))
    all_goals
     have hzw5_ : w10.heap.size ≤ w5_.heap.size := HO5.out.size
     have hzzw5_ : w.heap.size ≤ w5_.heap.size := by omega
     replace HB : Hid (Only (p) (p + 1) w w5_) := Lib.hid (by first | exact HB.out.trans HO5.out | exact only_two HB.out HO5.out (by omega))
     replace HXr := Lib.hid (HXr.out.only HO5.out (by first | omega | (simp; omega)))
     clear hxr hfr hkr
     have hxr := HXr.out.2.1
     have hfr := HXr.out.2.2
     have hkr := HXr.out.1
     replace HXh := Lib.hid (HXh.out.only HO5.out (by first | omega | (simp; omega)))
     clear hxh hfh hkh
     have hxh := HXh.out.2.1
     have hfh := HXh.out.2.2
     have hkh := HXh.out.1
     clear HOC
     have HOC : Hid (CodeK w5_ (0) (p + 1) ((B, n, g)) (l)) := Lib.hid (CodeK.mk_ HC5.out)
     have hzw6_ : w5_.heap.size ≤ w6_.heap.size := HB6.out.size
     have hzzw6_ : w.heap.size ≤ w6_.heap.size := by omega
     replace HB := Lib.hid (HB.out.trans (Only.of_below HB6.out))
     replace HOC := Lib.hid (HOC.out.below HB6.out)
     replace HXr := Lib.hid (HXr.out.below HB6.out)
     clear hxr hfr hkr
     have hxr := HXr.out.2.1
     have hfr := HXr.out.2.2
     have hkr := HXr.out.1
     replace HXh := Lib.hid (HXh.out.below HB6.out)
     clear hxh hfh hkh
     have hxh := HXh.out.2.1
     have hfh := HXh.out.2.2
     have hkh := HXh.out.1
     clear HC5 HO5 HB6 HH5 hxh5 hfh5 HH6 hxh6 hfh6
     go_wp2_with fail
     go_meet
     exact ⟨⟨k0, (1 + y), t6, x.taken, x.troot⟩, ⟨i64s (x := k0) (by omega) (by omega), i64s (x := 1 + y) (by omega) (by omega), HXS.out.2.2.1, by show t6.size ≤ 45; omega, HXS.out.2.2.2.2⟩, (by (repeat (first | (with_reducible refine NewBox.alloc ?_ _) | (with_reducible refine NewBox.drew ?_) | ((with_reducible refine NewBox.setCell ?_ ?_ _); rotate_left 1; (focus (first | omega | (simp; done) | (simp; omega)))))); exact HXr.out), (by exact ⟨by first | omega | (simp [World.setCell]; done) | (simp [World.setCell]; omega), fun o => by rcases o with _ | _ | _ | _ | _ | o <;> go_simp, fun o => by go_simp⟩), (by (repeat (first | (with_reducible refine CodeK.alloc ?_ _) | (with_reducible refine CodeK.drew ?_) | ((with_reducible refine CodeK.setCell ?_ ?_ _); rotate_left 1; (focus (first | omega | (simp; done) | (simp; omega)))))); exact HOC.out), (by ((repeat (first | (with_reducible refine only_alloc ?_ _) | (with_reducible refine only_drew ?_) | ((with_reducible refine only_new ?_ ?_ _); rotate_left 1; (focus (first | omega | (simp; done) | (simp; omega)))))); exact HB.out)), (by first | omega | (simp [World.setCell]; done) | (simp [World.setCell]; omega))⟩
   ·skip
    go_wp2_with fail
    go_meet
    exact ⟨⟨k0, x.size, x.root, x.taken, x.troot⟩, ⟨i64s (x := k0) (by omega) (by omega), HXS.out.2.1, HXS.out.2.2.1, HXS.out.2.2.2.1, HXS.out.2.2.2.2⟩, (by (repeat (first | (with_reducible refine NewBox.alloc ?_ _) | (with_reducible refine NewBox.drew ?_) | ((with_reducible refine NewBox.setCell ?_ ?_ _); rotate_left 1; (focus (first | omega | (simp; done) | (simp; omega)))))); exact HXr.out), (by (repeat (first | (with_reducible refine NewBox.alloc ?_ _) | (with_reducible refine NewBox.drew ?_) | ((with_reducible refine NewBox.setCell ?_ ?_ _); rotate_left 1; (focus (first | omega | (simp; done) | (simp; omega)))))); exact HXh.out), (by (repeat (first | (with_reducible refine CodeK.alloc ?_ _) | (with_reducible refine CodeK.drew ?_) | ((with_reducible refine CodeK.setCell ?_ ?_ _); rotate_left 1; (focus (first | omega | (simp; done) | (simp; omega)))))); exact HOC.out), (by ((repeat (first | (with_reducible refine only_alloc ?_ _) | (with_reducible refine only_drew ?_) | ((with_reducible refine only_new ?_ ?_ _); rotate_left 1; (focus (first | omega | (simp; done) | (simp; omega)))))); exact HB.out)), (by first | omega | (simp [World.setCell]; done) | (simp [World.setCell]; omega))⟩
  case rest =>
   clear HXS
   obtain ⟨x, hxs, hbr, hbh, hcc, hon, hsz⟩ := hcut
   obtain ⟨wq, hwq⟩ : ∃ y : World, y = wc := ⟨_, rfl⟩
   subst hwq
   replace HB : Hid (Only (p) (p + 1) w wq) := (Lib.hid hon)
   replace HXr : Hid (NewBox wq (w.heap.size) [.int .i64 0, .int .i64 0, .string ⟨#[]⟩, .int .i64 0, .string ⟨#[]⟩]) := hbr
   clear hxr hfr hkr
   have hxr := HXr.out.2.1
   have hfr := HXr.out.2.2
   have hkr := HXr.out.1
   replace HXh : Hid (NewBox wq (w2.heap.size) [.int .i64 x.num, .int .i64 x.size, .string x.root, .int .i64 x.taken, .string x.troot]) := hbh
   clear hxh hfh hkh
   have hxh := HXh.out.2.1
   have hfh := HXh.out.2.2
   have hkh := HXh.out.1
   replace HOC : Hid (CodeK wq (0) (p + 1) ((B, n, g)) (l)) := Lib.hid hcc
   have hzz_wq : w.heap.size ≤ wq.heap.size := HB.out.size
   have HXS := Lib.hid hxs
   clear hbr hbh hcc hon hxs
   go_wp2_with fail
   refine calls_named (fun w8 hw => ?_)
   have hz8 : wq.heap.size + 0 ≤ w8.heap.size := by rw [hw]; first | omega | (simp [World.setCell]; done) | (simp [World.setCell]; omega)
   have hzz8 : w.heap.size ≤ w8.heap.size := by omega
   have hbn : Below wq.heap.size wq w8 := by rw [hw]; exact (by ((repeat (first | ((with_reducible refine Below.alloc ?_ ?_ _); rotate_left 1; (focus (first | omega | (simp; done) | (simp; omega)))) | (with_reducible refine Below.drew ?_) | ((with_reducible refine Below.setCell ?_ ?_ _); rotate_left 1; (focus (first | omega | (simp; done) | (simp; omega)))))); exact Below.refl _ _))
   replace HB := Lib.hid (HB.out.trans (Only.of_below hbn))
   replace HOC := Lib.hid (HOC.out.below hbn)
   replace HXr := Lib.hid (HXr.out.below hbn)
   clear hxr hfr hkr
   have hxr := HXr.out.2.1
   have hfr := HXr.out.2.2
   have hkr := HXr.out.1
   replace HXh := Lib.hid (HXh.out.below hbn)
   clear hxh hfh hkh
   have hxh := HXh.out.2.1
   have hfh := HXh.out.2.2
   have hkh := HXh.out.1
   clear hbn
   clear hw
   refine (l01Once_c (CodeK.get HOC.out) 3 (by omega) (by omega)).mono ?_
   rintro e w9 ⟨b, rfl, hc, hb⟩
   have hzw9 : w8.heap.size ≤ w9.heap.size := hb.size
   have hzzw9 : w.heap.size ≤ w9.heap.size := by omega
   replace HB : Hid (Only (p) (p + 1) w w9) := Lib.hid (by first | exact HB.out.trans hb | exact only_two HB.out hb (by omega))
   replace HXr := Lib.hid (HXr.out.only hb (by first | omega | (simp; omega)))
   clear hxr hfr hkr
   have hxr := HXr.out.2.1
   have hfr := HXr.out.2.2
   have hkr := HXr.out.1
   replace HXh := Lib.hid (HXh.out.only hb (by first | omega | (simp; omega)))
   clear hxh hfh hkh
   have hxh := HXh.out.2.1
   have hfh := HXh.out.2.2
   have hkh := HXh.out.1
   clear hb
   clear HOC
   have HOC : Hid (CodeK w9 (0) (p + 1) ((B, n, g)) (l)) := Lib.hid (CodeK.mk_ hc)
   clear hc
   go_upto_if 39 with fail
   go_cut [] (fun wx => ∃ (x : Hd), HdS 45 x ∧ NewBox wx ((w.heap.size)) [.int .i64 0, .int .i64 0, .string ⟨#[]⟩, .int .i64 0, .string ⟨#[]⟩] ∧ NewBox wx ((w2.heap.size)) [.int .i64 x.num, .int .i64 x.size, .string x.root, .int .i64 x.taken, .string x.troot] ∧ CodeK wx 0 (p + 1) (B, n, g) l ∧ Only p (p + 1) w wx ∧ w9.heap.size ≤ wx.heap.size)
   case first =>
    rcases b with _ | _
    ·skip
     go_wp2_with fail
     refine calls_named (fun w10 hw => ?_)
     have hz10 : w9.heap.size + 0 ≤ w10.heap.size := by rw [hw]; first | omega | (simp [World.setCell]; done) | (simp [World.setCell]; omega)
     have hzz10 : w.heap.size ≤ w10.heap.size := by omega
     have hbn : Below w9.heap.size w9 w10 := by rw [hw]; exact (by ((repeat (first | ((with_reducible refine Below.alloc ?_ ?_ _); rotate_left 1; (focus (first | omega | (simp; done) | (simp; omega)))) | (with_reducible refine Below.drew ?_) | ((with_reducible refine Below.setCell ?_ ?_ _); rotate_left 1; (focus (first | omega | (simp; done) | (simp; omega)))))); exact Below.refl _ _))
     replace HB := Lib.hid (HB.out.trans (Only.of_below hbn))
     replace HOC := Lib.hid (HOC.out.below hbn)
     replace HXr := Lib.hid (HXr.out.below hbn)
     clear hxr hfr hkr
     have hxr := HXr.out.2.1
     have hfr := HXr.out.2.2
     have hkr := HXr.out.1
     replace HXh := Lib.hid (HXh.out.below hbn)
     clear hxh hfh hkh
     have hxh := HXh.out.2.1
     have hfh := HXh.out.2.2
     have hkh := HXh.out.1
     clear hbn
     clear hw
     refine (l01Below_c p n g 0 p B l 4 _ (CodeK.get HOC.out) (by omega) (by omega)).mono ?_
     rintro e w11 ⟨y, rfl, y0, y1, hc, hb⟩
     have hzw11 : w10.heap.size ≤ w11.heap.size := hb.size
     have hzzw11 : w.heap.size ≤ w11.heap.size := by omega
     replace HB : Hid (Only (p) (p + 1) w w11) := Lib.hid (by first | exact HB.out.trans hb | exact only_two HB.out hb (by omega))
     replace HXr := Lib.hid (HXr.out.only hb (by first | omega | (simp; omega)))
     clear hxr hfr hkr
     have hxr := HXr.out.2.1
     have hfr := HXr.out.2.2
     have hkr := HXr.out.1
     replace HXh := Lib.hid (HXh.out.only hb (by first | omega | (simp; omega)))
     clear hxh hfh hkh
     have hxh := HXh.out.2.1
     have hfh := HXh.out.2.2
     have hkh := HXh.out.1
     clear hb
     clear HOC
     have HOC : Hid (CodeK w11 (0) (p + 1) ((B, n, g)) (l)) := Lib.hid (CodeK.mk_ hc)
     clear hc
     have E1 : IntKind.i64.wrap (1 + y) = 1 + y := by rw [IntKind.wrap_i64]; omega
     go_wp2_with fail
     refine wp_named (fun w12 hw => ?_)
     have hz12 : w11.heap.size + 0 ≤ w12.heap.size := by rw [hw]; first | omega | (simp [World.setCell]; done) | (simp [World.setCell]; omega)
     have hzz12 : w.heap.size ≤ w12.heap.size := by omega
     replace HB : Hid (Only (p) (p + 1) w w12) := by rw [Hid, hw]; exact (by ((repeat (first | (with_reducible refine only_alloc ?_ _) | (with_reducible refine only_drew ?_) | ((with_reducible refine only_new ?_ ?_ _); rotate_left 1; (focus (first | omega | (simp; done) | (simp; omega)))))); exact HB.out))
     replace HOC : Hid (CodeK w12 (0) (p + 1) ((B, n, g)) (l)) := by rw [Hid, hw]; (repeat (first | (with_reducible refine CodeK.alloc ?_ _) | (with_reducible refine CodeK.drew ?_) | ((with_reducible refine CodeK.setCell ?_ ?_ _); rotate_left 1; (focus (first | omega | (simp; done) | (simp; omega)))))); exact HOC.out
     replace HXr : Hid (NewBox w12 (w.heap.size) [.int .i64 0, .int .i64 0, .string ⟨#[]⟩, .int .i64 0, .string ⟨#[]⟩]) := by rw [Hid, hw]; (repeat (first | (with_reducible refine NewBox.alloc ?_ _) | (with_reducible refine NewBox.drew ?_) | ((with_reducible refine NewBox.setCell ?_ ?_ _); rotate_left 1; (focus (first | omega | (simp; done) | (simp; omega)))))); exact HXr.out
     clear hxr hfr hkr
     have hxr := HXr.out.2.1
     have hfr := HXr.out.2.2
     have hkr := HXr.out.1
     replace HXh : Hid (NewBox w12 (w2.heap.size) [.int .i64 x.num, .int .i64 x.size, .string x.root, .int .i64 (1 + y), .string x.troot]) := by rw [Hid, hw]; exact ⟨by first | omega | (simp [World.setCell]; omega), fun o => by rcases o with _ | _ | _ | _ | _ | o <;> go_simp, fun o => by go_simp⟩
     clear hxh hfh hkh
     have hxh := HXh.out.2.1
     have hfh := HXh.out.2.2
     have hkh := HXh.out.1
     clear hw
     clear E1
     go_wp2_with fail
     go_region_law (first | (go_simp; go_at_call 34; refine (l01Below_c p n g 0 p B l 5 _ (CodeK.get (by (repeat (first | (with_reducible refine CodeK.drew ?_))); exact HOC.out)) (by omega) (by omega)).mono ?_; rintro e w5_ ⟨x5, rfl, x50, x51, hc5, ho5⟩; have HC5 := Lib.hid hc5; have HO5 : Hid (Only p (p + 1) w12 w5_) := Lib.hid (Only.drew1 ho5); have hz5 := HO5.out.size; have HH5 := Lib.hid (HXh.out.only HO5.out (by omega)); have hxh5 := HH5.out.2.1; have hfh5 := HH5.out.2.2; clear hc5 ho5) | (go_simp; go_at_call 117; refine (l01Long_c m _ w5_ (by omega) (by rw [IntKind.wrap_u8]; omega) (by rw [IntKind.wrap_u8]; omega)).mono ?_; rintro e w6_ ⟨t6, rfl, ht6, hb6⟩; have HB6 := Lib.hid hb6; have hz6 := hb6.size; have HH6 := Lib.hid (HH5.out.below hb6); have hxh6 := HH6.out.2.1; have hfh6 := HH6.out.2.2; clear hb6))
     all_goals
      have hzw5_ : w12.heap.size ≤ w5_.heap.size := HO5.out.size
      have hzzw5_ : w.heap.size ≤ w5_.heap.size := by omega
      replace HB : Hid (Only (p) (p + 1) w w5_) := Lib.hid (by first | exact HB.out.trans HO5.out | exact only_two HB.out HO5.out (by omega))
      replace HXr := Lib.hid (HXr.out.only HO5.out (by first | omega | (simp; omega)))
      clear hxr hfr hkr
      have hxr := HXr.out.2.1
      have hfr := HXr.out.2.2
      have hkr := HXr.out.1
      replace HXh := Lib.hid (HXh.out.only HO5.out (by first | omega | (simp; omega)))
      clear hxh hfh hkh
      have hxh := HXh.out.2.1
      have hfh := HXh.out.2.2
      have hkh := HXh.out.1
      clear HOC
      have HOC : Hid (CodeK w5_ (0) (p + 1) ((B, n, g)) (l)) := Lib.hid (CodeK.mk_ HC5.out)
      have hzw6_ : w5_.heap.size ≤ w6_.heap.size := HB6.out.size
      have hzzw6_ : w.heap.size ≤ w6_.heap.size := by omega
      replace HB := Lib.hid (HB.out.trans (Only.of_below HB6.out))
      replace HOC := Lib.hid (HOC.out.below HB6.out)
      replace HXr := Lib.hid (HXr.out.below HB6.out)
      clear hxr hfr hkr
      have hxr := HXr.out.2.1
      have hfr := HXr.out.2.2
      have hkr := HXr.out.1
      replace HXh := Lib.hid (HXh.out.below HB6.out)
      clear hxh hfh hkh
      have hxh := HXh.out.2.1
      have hfh := HXh.out.2.2
      have hkh := HXh.out.1
      clear HC5 HO5 HB6 HH5 hxh5 hfh5 HH6 hxh6 hfh6
      go_wp2_with fail
      go_meet
      exact ⟨⟨x.num, x.size, x.root, (1 + y), t6⟩, ⟨HXS.out.1, HXS.out.2.1, i64s (x := 1 + y) (by omega) (by omega), HXS.out.2.2.2.1, by show t6.size ≤ 45; omega⟩, (by (repeat (first | (with_reducible refine NewBox.alloc ?_ _) | (with_reducible refine NewBox.drew ?_) | ((with_reducible refine NewBox.setCell ?_ ?_ _); rotate_left 1; (focus (first | omega | (simp; done) | (simp; omega)))))); exact HXr.out), (by exact ⟨by first | omega | (simp [World.setCell]; done) | (simp [World.setCell]; omega), fun o => by rcases o with _ | _ | _ | _ | _ | o <;> go_simp, fun o => by go_simp⟩), (by (repeat (first | (with_reducible refine CodeK.alloc ?_ _) | (with_reducible refine CodeK.drew ?_) | ((with_reducible refine CodeK.setCell ?_ ?_ _); rotate_left 1; (focus (first | omega | (simp; done) | (simp; omega)))))); exact HOC.out), (by ((repeat (first | (with_reducible refine only_alloc ?_ _) | (with_reducible refine only_drew ?_) | ((with_reducible refine only_new ?_ ?_ _); rotate_left 1; (focus (first | omega | (simp; done) | (simp; omega)))))); exact HB.out)), (by first | omega | (simp [World.setCell]; done) | (simp [World.setCell]; omega))⟩
    ·skip
     go_wp2_with fail
     go_meet
     exact ⟨⟨x.num, x.size, x.root, x.taken, x.troot⟩, ⟨HXS.out.1, HXS.out.2.1, HXS.out.2.2.1, HXS.out.2.2.2.1, HXS.out.2.2.2.2⟩, (by (repeat (first | (with_reducible refine NewBox.alloc ?_ _) | (with_reducible refine NewBox.drew ?_) | ((with_reducible refine NewBox.setCell ?_ ?_ _); rotate_left 1; (focus (first | omega | (simp; done) | (simp; omega)))))); exact HXr.out), (by (repeat (first | (with_reducible refine NewBox.alloc ?_ _) | (with_reducible refine NewBox.drew ?_) | ((with_reducible refine NewBox.setCell ?_ ?_ _); rotate_left 1; (focus (first | omega | (simp; done) | (simp; omega)))))); exact HXh.out), (by (repeat (first | (with_reducible refine CodeK.alloc ?_ _) | (with_reducible refine CodeK.drew ?_) | ((with_reducible refine CodeK.setCell ?_ ?_ _); rotate_left 1; (focus (first | omega | (simp; done) | (simp; omega)))))); exact HOC.out), (by ((repeat (first | (with_reducible refine only_alloc ?_ _) | (with_reducible refine only_drew ?_) | ((with_reducible refine only_new ?_ ?_ _); rotate_left 1; (focus (first | omega | (simp; done) | (simp; omega)))))); exact HB.out)), (by first | omega | (simp [World.setCell]; done) | (simp [World.setCell]; omega))⟩
   case rest =>
    clear HXS
    obtain ⟨x, hxs, hbr, hbh, hcc, hon, hsz⟩ := hcut
    obtain ⟨wq, hwq⟩ : ∃ y : World, y = wc := ⟨_, rfl⟩
    subst hwq
    replace HB : Hid (Only (p) (p + 1) w wq) := (Lib.hid hon)
    replace HXr : Hid (NewBox wq (w.heap.size) [.int .i64 0, .int .i64 0, .string ⟨#[]⟩, .int .i64 0, .string ⟨#[]⟩]) := hbr
    clear hxr hfr hkr
    have hxr := HXr.out.2.1
    have hfr := HXr.out.2.2
    have hkr := HXr.out.1
    replace HXh : Hid (NewBox wq (w2.heap.size) [.int .i64 x.num, .int .i64 x.size, .string x.root, .int .i64 x.taken, .string x.troot]) := hbh
    clear hxh hfh hkh
    have hxh := HXh.out.2.1
    have hfh := HXh.out.2.2
    have hkh := HXh.out.1
    replace HOC : Hid (CodeK wq (0) (p + 1) ((B, n, g)) (l)) := Lib.hid hcc
    have hzz_wq : w.heap.size ≤ wq.heap.size := HB.out.size
    have HXS := Lib.hid hxs
    clear hbr hbh hcc hon hxs
    go_wp2_with fail
    refine calls_named (fun w10 hw => ?_)
    have hz10 : wq.heap.size + 0 ≤ w10.heap.size := by rw [hw]; first | omega | (simp [World.setCell]; done) | (simp [World.setCell]; omega)
    have hzz10 : w.heap.size ≤ w10.heap.size := by omega
    have hbn : Below wq.heap.size wq w10 := by rw [hw]; exact (by ((repeat (first | ((with_reducible refine Below.alloc ?_ ?_ _); rotate_left 1; (focus (first | omega | (simp; done) | (simp; omega)))) | (with_reducible refine Below.drew ?_) | ((with_reducible refine Below.setCell ?_ ?_ _); rotate_left 1; (focus (first | omega | (simp; done) | (simp; omega)))))); exact Below.refl _ _))
    replace HB := Lib.hid (HB.out.trans (Only.of_below hbn))
    replace HOC := Lib.hid (HOC.out.below hbn)
    replace HXr := Lib.hid (HXr.out.below hbn)
    clear hxr hfr hkr
    have hxr := HXr.out.2.1
    have hfr := HXr.out.2.2
    have hkr := HXr.out.1
    replace HXh := Lib.hid (HXh.out.below hbn)
    clear hxh hfh hkh
    have hxh := HXh.out.2.1
    have hfh := HXh.out.2.2
    have hkh := HXh.out.1
    clear hbn
    clear hw
    refine (l01Below_c p n g 0 p B l 30 _ (CodeK.get HOC.out) (by omega) (by omega)).mono ?_
    rintro e w11 ⟨k, rfl, k0, k1, hc, hb⟩
    have hzw11 : w10.heap.size ≤ w11.heap.size := hb.size
    have hzzw11 : w.heap.size ≤ w11.heap.size := by omega
    replace HB : Hid (Only (p) (p + 1) w w11) := Lib.hid (by first | exact HB.out.trans hb | exact only_two HB.out hb (by omega))
    replace HXr := Lib.hid (HXr.out.only hb (by first | omega | (simp; omega)))
    clear hxr hfr hkr
    have hxr := HXr.out.2.1
    have hfr := HXr.out.2.2
    have hkr := HXr.out.1
    replace HXh := Lib.hid (HXh.out.only hb (by first | omega | (simp; omega)))
    clear hxh hfh hkh
    have hxh := HXh.out.2.1
    have hfh := HXh.out.2.2
    have hkh := HXh.out.1
    clear hb
    clear HOC
    have HOC : Hid (CodeK w11 (0) (p + 1) ((B, n, g)) (l)) := Lib.hid (CodeK.mk_ hc)
    clear hc
    rcases (show k = 0 ∨ k = 1 ∨ k = 2 ∨ k = 3 ∨ k = 4 ∨ k = 5 ∨ 6 ≤ k by omega) with rfl | rfl | rfl | rfl | rfl | rfl | hk6
    ·skip
     go_wp2_with fail
     refine calls_named (fun w12 hw => ?_)
     have hz12 : w11.heap.size + 1 ≤ w12.heap.size := by rw [hw]; first | omega | (simp [World.setCell]; done) | (simp [World.setCell]; omega)
     have hzz12 : w.heap.size ≤ w12.heap.size := by omega
     have hbn : Below w11.heap.size w11 w12 := by rw [hw]; exact (by ((repeat (first | ((with_reducible refine Below.alloc ?_ ?_ _); rotate_left 1; (focus (first | omega | (simp; done) | (simp; omega)))) | (with_reducible refine Below.drew ?_) | ((with_reducible refine Below.setCell ?_ ?_ _); rotate_left 1; (focus (first | omega | (simp; done) | (simp; omega)))))); exact Below.refl _ _))
     replace HB := Lib.hid (HB.out.trans (Only.of_below hbn))
     replace HOC := Lib.hid (HOC.out.below hbn)
     replace HXr := Lib.hid (HXr.out.below hbn)
     clear hxr hfr hkr
     have hxr := HXr.out.2.1
     have hfr := HXr.out.2.2
     have hkr := HXr.out.1
     replace HXh := Lib.hid (HXh.out.below hbn)
     clear hxh hfh hkh
     have hxh := HXh.out.2.1
     have hfh := HXh.out.2.2
     have hkh := HXh.out.1
     clear hbn
     have HXz : Hid (NewBox w12 (w11.heap.size) [.int .i64 (-1), .int .i64 256, .int .i64 399, .int .i64 400]) := by rw [Hid, hw]; exact ⟨by first | omega | (simp [World.setCell]; done) | (simp [World.setCell]; omega), fun o => by rcases o with _ | _ | _ | _ | o <;> go_simp, fun o => by go_simp⟩
     have hxz := HXz.out.2.1
     have hfz := HXz.out.2.2
     have hkz := HXz.out.1
     clear hw
     refine (l01PickInt_c (CodeK.get HOC.out) _ 4 4 _ _ [-1, 256, 399, 400] (rd_ints HXz.out rfl) rfl (by omega) (by omega) (by omega)).mono ?_
     rintro e w13 ⟨y, rfl, hy, hc, hb⟩
     have hzw13 : w12.heap.size ≤ w13.heap.size := hb.size
     have hzzw13 : w.heap.size ≤ w13.heap.size := by omega
     replace HB : Hid (Only (p) (p + 1) w w13) := Lib.hid (by first | exact HB.out.trans hb | exact only_two HB.out hb (by omega))
     replace HXr := Lib.hid (HXr.out.only hb (by first | omega | (simp; omega)))
     clear hxr hfr hkr
     have hxr := HXr.out.2.1
     have hfr := HXr.out.2.2
     have hkr := HXr.out.1
     replace HXh := Lib.hid (HXh.out.only hb (by first | omega | (simp; omega)))
     clear hxh hfh hkh
     have hxh := HXh.out.2.1
     have hfh := HXh.out.2.2
     have hkh := HXh.out.1
     replace HXz := Lib.hid (HXz.out.only hb (by first | omega | (simp; omega)))
     clear hxz hfz hkz
     have hxz := HXz.out.2.1
     have hfz := HXz.out.2.2
     have hkz := HXz.out.1
     clear hb
     clear HOC
     have HOC : Hid (CodeK w13 (0) (p + 1) ((B, n, g)) (l)) := Lib.hid (CodeK.mk_ hc)
     clear hc
     have HY : Hid (I64 y) := Lib.hid (by
      simp only [List.mem_cons, List.not_mem_nil, or_false] at hy
      rcases hy with rfl | rfl | rfl | rfl <;> (constructor <;> omega))
     clear hy
     clear hxz hfz hkz HXz
     go_wp2
     refine bodyPost_named (fun w14 hw => ?_)
     have hz14 : w13.heap.size + 0 ≤ w14.heap.size := by rw [hw]; first | omega | (simp [World.setCell]; done) | (simp [World.setCell]; omega)
     have hzz14 : w.heap.size ≤ w14.heap.size := by omega
     replace HB : Hid (Only (p) (p + 1) w w14) := by rw [Hid, hw]; exact (by ((repeat (first | (with_reducible refine only_alloc ?_ _) | (with_reducible refine only_drew ?_) | ((with_reducible refine only_new ?_ ?_ _); rotate_left 1; (focus (first | omega | (simp; done) | (simp; omega)))))); exact HB.out))
     replace HOC : Hid (CodeK w14 (0) (p + 1) ((B, n, g)) (l)) := by rw [Hid, hw]; (repeat (first | (with_reducible refine CodeK.alloc ?_ _) | (with_reducible refine CodeK.drew ?_) | ((with_reducible refine CodeK.setCell ?_ ?_ _); rotate_left 1; (focus (first | omega | (simp; done) | (simp; omega)))))); exact HOC.out
     replace HXr : Hid (NewBox w14 (w.heap.size) [.int .i64 y, .int .i64 x.size, .string x.root, .int .i64 x.taken, .string x.troot]) := by rw [Hid, hw]; apply NewBox.cast; (focus ((repeat (first | (with_reducible apply NewBox.alloc) | (with_reducible apply NewBox.drew) | (with_reducible apply NewBox.set1) | ((with_reducible apply NewBox.far); (focus (first | omega | (simp; done) | (simp; omega)))))); exact HXr.out)); rfl
     clear hxr hfr hkr
     have hxr := HXr.out.2.1
     have hfr := HXr.out.2.2
     have hkr := HXr.out.1
     replace HXh : Hid (NewBox w14 (w2.heap.size) [.int .i64 y, .int .i64 x.size, .string x.root, .int .i64 x.taken, .string x.troot]) := by rw [Hid, hw]; exact ⟨by first | omega | (simp [World.setCell]; omega), fun o => by rcases o with _ | _ | _ | _ | _ | o <;> go_simp, fun o => by go_simp⟩
     clear hxh hfh hkh
     have hxh := HXh.out.2.1
     have hfh := HXh.out.2.2
     have hkh := HXh.out.1
     clear hw
     refine bodyPost_ret (v := .agg #[.int .i64 y, .int .i64 x.size, .string x.root, .int .i64 x.taken, .string x.troot]) (by simp [results, Try.results87, go_sem, hxr]) rfl ?_
     exact ⟨⟨y, x.size, x.root, x.taken, x.troot⟩, rfl, ⟨HY.out, HXS.out.2.1, HXS.out.2.2.1, Nat.le_trans HXS.out.2.2.2.1 (by omega), Nat.le_trans HXS.out.2.2.2.2 (by omega)⟩, CodeK.get HOC.out, HB.out⟩
    ·skip
     go_wp2_with fail
     refine calls_named (fun w12 hw => ?_)
     have hz12 : w11.heap.size + 1 ≤ w12.heap.size := by rw [hw]; first | omega | (simp [World.setCell]; done) | (simp [World.setCell]; omega)
     have hzz12 : w.heap.size ≤ w12.heap.size := by omega
     have hbn : Below w11.heap.size w11 w12 := by rw [hw]; exact (by ((repeat (first | ((with_reducible refine Below.alloc ?_ ?_ _); rotate_left 1; (focus (first | omega | (simp; done) | (simp; omega)))) | (with_reducible refine Below.drew ?_) | ((with_reducible refine Below.setCell ?_ ?_ _); rotate_left 1; (focus (first | omega | (simp; done) | (simp; omega)))))); exact Below.refl _ _))
     replace HB := Lib.hid (HB.out.trans (Only.of_below hbn))
     replace HOC := Lib.hid (HOC.out.below hbn)
     replace HXr := Lib.hid (HXr.out.below hbn)
     clear hxr hfr hkr
     have hxr := HXr.out.2.1
     have hfr := HXr.out.2.2
     have hkr := HXr.out.1
     replace HXh := Lib.hid (HXh.out.below hbn)
     clear hxh hfh hkh
     have hxh := HXh.out.2.1
     have hfh := HXh.out.2.2
     have hkh := HXh.out.1
     clear hbn
     have HXz : Hid (NewBox w12 (w11.heap.size) [.int .i64 (-1), .int .i64 512, .int .i64 513]) := by rw [Hid, hw]; exact ⟨by first | omega | (simp [World.setCell]; done) | (simp [World.setCell]; omega), fun o => by rcases o with _ | _ | _ | o <;> go_simp, fun o => by go_simp⟩
     have hxz := HXz.out.2.1
     have hfz := HXz.out.2.2
     have hkz := HXz.out.1
     clear hw
     refine (l01PickInt_c (CodeK.get HOC.out) _ 3 3 _ _ [-1, 512, 513] (rd_ints HXz.out rfl) rfl (by omega) (by omega) (by omega)).mono ?_
     rintro e w13 ⟨y, rfl, hy, hc, hb⟩
     have hzw13 : w12.heap.size ≤ w13.heap.size := hb.size
     have hzzw13 : w.heap.size ≤ w13.heap.size := by omega
     replace HB : Hid (Only (p) (p + 1) w w13) := Lib.hid (by first | exact HB.out.trans hb | exact only_two HB.out hb (by omega))
     replace HXr := Lib.hid (HXr.out.only hb (by first | omega | (simp; omega)))
     clear hxr hfr hkr
     have hxr := HXr.out.2.1
     have hfr := HXr.out.2.2
     have hkr := HXr.out.1
     replace HXh := Lib.hid (HXh.out.only hb (by first | omega | (simp; omega)))
     clear hxh hfh hkh
     have hxh := HXh.out.2.1
     have hfh := HXh.out.2.2
     have hkh := HXh.out.1
     replace HXz := Lib.hid (HXz.out.only hb (by first | omega | (simp; omega)))
     clear hxz hfz hkz
     have hxz := HXz.out.2.1
     have hfz := HXz.out.2.2
     have hkz := HXz.out.1
     clear hb
     clear HOC
     have HOC : Hid (CodeK w13 (0) (p + 1) ((B, n, g)) (l)) := Lib.hid (CodeK.mk_ hc)
     clear hc
     have HY : Hid (I64 y) := Lib.hid (by
      simp only [List.mem_cons, List.not_mem_nil, or_false] at hy
      rcases hy with rfl | rfl | rfl <;> (constructor <;> omega))
     clear hy
     clear hxz hfz hkz HXz
     go_wp2
     refine bodyPost_named (fun w14 hw => ?_)
     have hz14 : w13.heap.size + 0 ≤ w14.heap.size := by rw [hw]; first | omega | (simp [World.setCell]; done) | (simp [World.setCell]; omega)
     have hzz14 : w.heap.size ≤ w14.heap.size := by omega
     replace HB : Hid (Only (p) (p + 1) w w14) := by rw [Hid, hw]; exact (by ((repeat (first | (with_reducible refine only_alloc ?_ _) | (with_reducible refine only_drew ?_) | ((with_reducible refine only_new ?_ ?_ _); rotate_left 1; (focus (first | omega | (simp; done) | (simp; omega)))))); exact HB.out))
     replace HOC : Hid (CodeK w14 (0) (p + 1) ((B, n, g)) (l)) := by rw [Hid, hw]; (repeat (first | (with_reducible refine CodeK.alloc ?_ _) | (with_reducible refine CodeK.drew ?_) | ((with_reducible refine CodeK.setCell ?_ ?_ _); rotate_left 1; (focus (first | omega | (simp; done) | (simp; omega)))))); exact HOC.out
     replace HXr : Hid (NewBox w14 (w.heap.size) [.int .i64 x.num, .int .i64 y, .string x.root, .int .i64 x.taken, .string x.troot]) := by rw [Hid, hw]; apply NewBox.cast; (focus ((repeat (first | (with_reducible apply NewBox.alloc) | (with_reducible apply NewBox.drew) | (with_reducible apply NewBox.set1) | ((with_reducible apply NewBox.far); (focus (first | omega | (simp; done) | (simp; omega)))))); exact HXr.out)); rfl
     clear hxr hfr hkr
     have hxr := HXr.out.2.1
     have hfr := HXr.out.2.2
     have hkr := HXr.out.1
     replace HXh : Hid (NewBox w14 (w2.heap.size) [.int .i64 x.num, .int .i64 y, .string x.root, .int .i64 x.taken, .string x.troot]) := by rw [Hid, hw]; exact ⟨by first | omega | (simp [World.setCell]; omega), fun o => by rcases o with _ | _ | _ | _ | _ | o <;> go_simp, fun o => by go_simp⟩
     clear hxh hfh hkh
     have hxh := HXh.out.2.1
     have hfh := HXh.out.2.2
     have hkh := HXh.out.1
     clear hw
     refine bodyPost_ret (v := .agg #[.int .i64 x.num, .int .i64 y, .string x.root, .int .i64 x.taken, .string x.troot]) (by simp [results, Try.results87, go_sem, hxr]) rfl ?_
     exact ⟨⟨x.num, y, x.root, x.taken, x.troot⟩, rfl, ⟨HXS.out.1, HY.out, HXS.out.2.2.1, Nat.le_trans HXS.out.2.2.2.1 (by omega), Nat.le_trans HXS.out.2.2.2.2 (by omega)⟩, CodeK.get HOC.out, HB.out⟩
    ·skip
     go_wp2_with fail
     refine calls_named (fun w12 hw => ?_)
     have hz12 : w11.heap.size + 1 ≤ w12.heap.size := by rw [hw]; first | omega | (simp [World.setCell]; done) | (simp [World.setCell]; omega)
     have hzz12 : w.heap.size ≤ w12.heap.size := by omega
     have hbn : Below w11.heap.size w11 w12 := by rw [hw]; exact (by ((repeat (first | ((with_reducible refine Below.alloc ?_ ?_ _); rotate_left 1; (focus (first | omega | (simp; done) | (simp; omega)))) | (with_reducible refine Below.drew ?_) | ((with_reducible refine Below.setCell ?_ ?_ _); rotate_left 1; (focus (first | omega | (simp; done) | (simp; omega)))))); exact Below.refl _ _))
     replace HB := Lib.hid (HB.out.trans (Only.of_below hbn))
     replace HOC := Lib.hid (HOC.out.below hbn)
     replace HXr := Lib.hid (HXr.out.below hbn)
     clear hxr hfr hkr
     have hxr := HXr.out.2.1
     have hfr := HXr.out.2.2
     have hkr := HXr.out.1
     replace HXh := Lib.hid (HXh.out.below hbn)
     clear hxh hfh hkh
     have hxh := HXh.out.2.1
     have hfh := HXh.out.2.2
     have hkh := HXh.out.1
     clear hbn
     have HXz : Hid (NewBox w12 (w11.heap.size) [.int .i64 (-1), .int .i64 512, .int .i64 513]) := by rw [Hid, hw]; exact ⟨by first | omega | (simp [World.setCell]; done) | (simp [World.setCell]; omega), fun o => by rcases o with _ | _ | _ | o <;> go_simp, fun o => by go_simp⟩
     have hxz := HXz.out.2.1
     have hfz := HXz.out.2.2
     have hkz := HXz.out.1
     clear hw
     refine (l01PickInt_c (CodeK.get HOC.out) _ 3 3 _ _ [-1, 512, 513] (rd_ints HXz.out rfl) rfl (by omega) (by omega) (by omega)).mono ?_
     rintro e w13 ⟨y, rfl, hy, hc, hb⟩
     have hzw13 : w12.heap.size ≤ w13.heap.size := hb.size
     have hzzw13 : w.heap.size ≤ w13.heap.size := by omega
     replace HB : Hid (Only (p) (p + 1) w w13) := Lib.hid (by first | exact HB.out.trans hb | exact only_two HB.out hb (by omega))
     replace HXr := Lib.hid (HXr.out.only hb (by first | omega | (simp; omega)))
     clear hxr hfr hkr
     have hxr := HXr.out.2.1
     have hfr := HXr.out.2.2
     have hkr := HXr.out.1
     replace HXh := Lib.hid (HXh.out.only hb (by first | omega | (simp; omega)))
     clear hxh hfh hkh
     have hxh := HXh.out.2.1
     have hfh := HXh.out.2.2
     have hkh := HXh.out.1
     replace HXz := Lib.hid (HXz.out.only hb (by first | omega | (simp; omega)))
     clear hxz hfz hkz
     have hxz := HXz.out.2.1
     have hfz := HXz.out.2.2
     have hkz := HXz.out.1
     clear hb
     clear HOC
     have HOC : Hid (CodeK w13 (0) (p + 1) ((B, n, g)) (l)) := Lib.hid (CodeK.mk_ hc)
     clear hc
     have HY : Hid (I64 y) := Lib.hid (by
      simp only [List.mem_cons, List.not_mem_nil, or_false] at hy
      rcases hy with rfl | rfl | rfl <;> (constructor <;> omega))
     clear hy
     clear hxz hfz hkz HXz
     go_wp2
     refine bodyPost_named (fun w14 hw => ?_)
     have hz14 : w13.heap.size + 0 ≤ w14.heap.size := by rw [hw]; first | omega | (simp [World.setCell]; done) | (simp [World.setCell]; omega)
     have hzz14 : w.heap.size ≤ w14.heap.size := by omega
     replace HB : Hid (Only (p) (p + 1) w w14) := by rw [Hid, hw]; exact (by ((repeat (first | (with_reducible refine only_alloc ?_ _) | (with_reducible refine only_drew ?_) | ((with_reducible refine only_new ?_ ?_ _); rotate_left 1; (focus (first | omega | (simp; done) | (simp; omega)))))); exact HB.out))
     replace HOC : Hid (CodeK w14 (0) (p + 1) ((B, n, g)) (l)) := by rw [Hid, hw]; (repeat (first | (with_reducible refine CodeK.alloc ?_ _) | (with_reducible refine CodeK.drew ?_) | ((with_reducible refine CodeK.setCell ?_ ?_ _); rotate_left 1; (focus (first | omega | (simp; done) | (simp; omega)))))); exact HOC.out
     replace HXr : Hid (NewBox w14 (w.heap.size) [.int .i64 x.num, .int .i64 x.size, .string x.root, .int .i64 y, .string x.troot]) := by rw [Hid, hw]; apply NewBox.cast; (focus ((repeat (first | (with_reducible apply NewBox.alloc) | (with_reducible apply NewBox.drew) | (with_reducible apply NewBox.set1) | ((with_reducible apply NewBox.far); (focus (first | omega | (simp; done) | (simp; omega)))))); exact HXr.out)); rfl
     clear hxr hfr hkr
     have hxr := HXr.out.2.1
     have hfr := HXr.out.2.2
     have hkr := HXr.out.1
     replace HXh : Hid (NewBox w14 (w2.heap.size) [.int .i64 x.num, .int .i64 x.size, .string x.root, .int .i64 y, .string x.troot]) := by rw [Hid, hw]; exact ⟨by first | omega | (simp [World.setCell]; omega), fun o => by rcases o with _ | _ | _ | _ | _ | o <;> go_simp, fun o => by go_simp⟩
     clear hxh hfh hkh
     have hxh := HXh.out.2.1
     have hfh := HXh.out.2.2
     have hkh := HXh.out.1
     clear hw
     refine bodyPost_ret (v := .agg #[.int .i64 x.num, .int .i64 x.size, .string x.root, .int .i64 y, .string x.troot]) (by simp [results, Try.results87, go_sem, hxr]) rfl ?_
     exact ⟨⟨x.num, x.size, x.root, y, x.troot⟩, rfl, ⟨HXS.out.1, HXS.out.2.1, HY.out, Nat.le_trans HXS.out.2.2.2.1 (by omega), Nat.le_trans HXS.out.2.2.2.2 (by omega)⟩, CodeK.get HOC.out, HB.out⟩
    ·skip
     go_wp2_with fail
     refine calls_named (fun w12 hw => ?_)
     have hz12 : w11.heap.size + 0 ≤ w12.heap.size := by rw [hw]; first | omega | (simp [World.setCell]; done) | (simp [World.setCell]; omega)
     have hzz12 : w.heap.size ≤ w12.heap.size := by omega
     have hbn : Below w11.heap.size w11 w12 := by rw [hw]; exact (by ((repeat (first | ((with_reducible refine Below.alloc ?_ ?_ _); rotate_left 1; (focus (first | omega | (simp; done) | (simp; omega)))) | (with_reducible refine Below.drew ?_) | ((with_reducible refine Below.setCell ?_ ?_ _); rotate_left 1; (focus (first | omega | (simp; done) | (simp; omega)))))); exact Below.refl _ _))
     replace HB := Lib.hid (HB.out.trans (Only.of_below hbn))
     replace HOC := Lib.hid (HOC.out.below hbn)
     replace HXr := Lib.hid (HXr.out.below hbn)
     clear hxr hfr hkr
     have hxr := HXr.out.2.1
     have hfr := HXr.out.2.2
     have hkr := HXr.out.1
     replace HXh := Lib.hid (HXh.out.below hbn)
     clear hxh hfh hkh
     have hxh := HXh.out.2.1
     have hfh := HXh.out.2.2
     have hkh := HXh.out.1
     clear hbn
     clear hw
     refine (l03Hash_c (CodeK.get HOC.out) (by omega) m).mono ?_
     rintro e w13 ⟨s, rfl, hs, hc, hb⟩
     have hzw13 : w12.heap.size ≤ w13.heap.size := hb.size
     have hzzw13 : w.heap.size ≤ w13.heap.size := by omega
     replace HB : Hid (Only (p) (p + 1) w w13) := Lib.hid (by first | exact HB.out.trans hb | exact only_two HB.out hb (by omega))
     replace HXr := Lib.hid (HXr.out.only hb (by first | omega | (simp; omega)))
     clear hxr hfr hkr
     have hxr := HXr.out.2.1
     have hfr := HXr.out.2.2
     have hkr := HXr.out.1
     replace HXh := Lib.hid (HXh.out.only hb (by first | omega | (simp; omega)))
     clear hxh hfh hkh
     have hxh := HXh.out.2.1
     have hfh := HXh.out.2.2
     have hkh := HXh.out.1
     clear hb
     clear HOC
     have HOC : Hid (CodeK w13 (0) (p + 1) ((B, n, g)) (l)) := Lib.hid (CodeK.mk_ hc)
     clear hc
     go_wp2
     refine bodyPost_named (fun w14 hw => ?_)
     have hz14 : w13.heap.size + 0 ≤ w14.heap.size := by rw [hw]; first | omega | (simp [World.setCell]; done) | (simp [World.setCell]; omega)
     have hzz14 : w.heap.size ≤ w14.heap.size := by omega
     replace HB : Hid (Only (p) (p + 1) w w14) := by rw [Hid, hw]; exact (by ((repeat (first | (with_reducible refine only_alloc ?_ _) | (with_reducible refine only_drew ?_) | ((with_reducible refine only_new ?_ ?_ _); rotate_left 1; (focus (first | omega | (simp; done) | (simp; omega)))))); exact HB.out))
     replace HOC : Hid (CodeK w14 (0) (p + 1) ((B, n, g)) (l)) := by rw [Hid, hw]; (repeat (first | (with_reducible refine CodeK.alloc ?_ _) | (with_reducible refine CodeK.drew ?_) | ((with_reducible refine CodeK.setCell ?_ ?_ _); rotate_left 1; (focus (first | omega | (simp; done) | (simp; omega)))))); exact HOC.out
     replace HXr : Hid (NewBox w14 (w.heap.size) [.int .i64 x.num, .int .i64 x.size, .string s, .int .i64 x.taken, .string x.troot]) := by rw [Hid, hw]; apply NewBox.cast; (focus ((repeat (first | (with_reducible apply NewBox.alloc) | (with_reducible apply NewBox.drew) | (with_reducible apply NewBox.set1) | ((with_reducible apply NewBox.far); (focus (first | omega | (simp; done) | (simp; omega)))))); exact HXr.out)); rfl
     clear hxr hfr hkr
     have hxr := HXr.out.2.1
     have hfr := HXr.out.2.2
     have hkr := HXr.out.1
     replace HXh : Hid (NewBox w14 (w2.heap.size) [.int .i64 x.num, .int .i64 x.size, .string s, .int .i64 x.taken, .string x.troot]) := by rw [Hid, hw]; exact ⟨by first | omega | (simp [World.setCell]; omega), fun o => by rcases o with _ | _ | _ | _ | _ | o <;> go_simp, fun o => by go_simp⟩
     clear hxh hfh hkh
     have hxh := HXh.out.2.1
     have hfh := HXh.out.2.2
     have hkh := HXh.out.1
     clear hw
     refine bodyPost_ret (v := .agg #[.int .i64 x.num, .int .i64 x.size, .string s, .int .i64 x.taken, .string x.troot]) (by simp [results, Try.results87, go_sem, hxr]) rfl ?_
     exact ⟨⟨x.num, x.size, s, x.taken, x.troot⟩, rfl, ⟨HXS.out.1, HXS.out.2.1, HXS.out.2.2.1, by show s.size ≤ 50; omega, Nat.le_trans HXS.out.2.2.2.2 (by omega)⟩, CodeK.get HOC.out, HB.out⟩
    ·skip
     have e0 : ((⟨#[120]⟩ : ByteArray)).size = 1 := rfl
     have e4 := HXS.out.2.2.2.2
     obtain ⟨sx, hs1⟩ : ∃ s, s = x.troot ++ ⟨#[120]⟩ := ⟨_, rfl⟩
     have c1 := fun W : World => run_string_add_sum (P := Try.prog) W x.troot ⟨#[120]⟩ (by omega)
     have z1 : sx.size ≤ 50 := by rw [hs1, ByteArray.size_append]; omega
     rw [← hs1] at c1
     have HS1 := Lib.hid hs1
     clear hs1
     go_wp2
     refine bodyPost_named (fun w12 hw => ?_)
     have hz12 : w11.heap.size + 0 ≤ w12.heap.size := by rw [hw]; first | omega | (simp [World.setCell]; done) | (simp [World.setCell]; omega)
     have hzz12 : w.heap.size ≤ w12.heap.size := by omega
     replace HB : Hid (Only (p) (p + 1) w w12) := by rw [Hid, hw]; exact (by ((repeat (first | (with_reducible refine only_alloc ?_ _) | (with_reducible refine only_drew ?_) | ((with_reducible refine only_new ?_ ?_ _); rotate_left 1; (focus (first | omega | (simp; done) | (simp; omega)))))); exact HB.out))
     replace HOC : Hid (CodeK w12 (0) (p + 1) ((B, n, g)) (l)) := by rw [Hid, hw]; (repeat (first | (with_reducible refine CodeK.alloc ?_ _) | (with_reducible refine CodeK.drew ?_) | ((with_reducible refine CodeK.setCell ?_ ?_ _); rotate_left 1; (focus (first | omega | (simp; done) | (simp; omega)))))); exact HOC.out
     replace HXr : Hid (NewBox w12 (w.heap.size) [.int .i64 x.num, .int .i64 x.size, .string x.root, .int .i64 x.taken, .string sx]) := by rw [Hid, hw]; apply NewBox.cast; (focus ((repeat (first | (with_reducible apply NewBox.alloc) | (with_reducible apply NewBox.drew) | (with_reducible apply NewBox.set1) | ((with_reducible apply NewBox.far); (focus (first | omega | (simp; done) | (simp; omega)))))); exact HXr.out)); rfl
     clear hxr hfr hkr
     have hxr := HXr.out.2.1
     have hfr := HXr.out.2.2
     have hkr := HXr.out.1
     replace HXh : Hid (NewBox w12 (w2.heap.size) [.int .i64 x.num, .int .i64 x.size, .string x.root, .int .i64 x.taken, .string sx]) := by rw [Hid, hw]; exact ⟨by first | omega | (simp [World.setCell]; omega), fun o => by rcases o with _ | _ | _ | _ | _ | o <;> go_simp, fun o => by go_simp⟩
     clear hxh hfh hkh
     have hxh := HXh.out.2.1
     have hfh := HXh.out.2.2
     have hkh := HXh.out.1
     clear hw
     refine bodyPost_ret (v := .agg #[.int .i64 x.num, .int .i64 x.size, .string x.root, .int .i64 x.taken, .string sx]) (by simp [results, Try.results87, go_sem, hxr]) rfl ?_
     exact ⟨⟨x.num, x.size, x.root, x.taken, sx⟩, rfl, ⟨HXS.out.1, HXS.out.2.1, HXS.out.2.2.1, Nat.le_trans HXS.out.2.2.2.1 (by omega), by show sx.size ≤ 50; omega⟩, CodeK.get HOC.out, HB.out⟩
    ·skip
     go_wp2
     refine bodyPost_named (fun w12 hw => ?_)
     have hz12 : w11.heap.size + 0 ≤ w12.heap.size := by rw [hw]; first | omega | (simp [World.setCell]; done) | (simp [World.setCell]; omega)
     have hzz12 : w.heap.size ≤ w12.heap.size := by omega
     replace HB : Hid (Only (p) (p + 1) w w12) := by rw [Hid, hw]; exact (by ((repeat (first | (with_reducible refine only_alloc ?_ _) | (with_reducible refine only_drew ?_) | ((with_reducible refine only_new ?_ ?_ _); rotate_left 1; (focus (first | omega | (simp; done) | (simp; omega)))))); exact HB.out))
     replace HOC : Hid (CodeK w12 (0) (p + 1) ((B, n, g)) (l)) := by rw [Hid, hw]; (repeat (first | (with_reducible refine CodeK.alloc ?_ _) | (with_reducible refine CodeK.drew ?_) | ((with_reducible refine CodeK.setCell ?_ ?_ _); rotate_left 1; (focus (first | omega | (simp; done) | (simp; omega)))))); exact HOC.out
     replace HXr : Hid (NewBox w12 (w.heap.size) [.int .i64 x.num, .int .i64 0, .string x.root, .int .i64 x.taken, .string x.troot]) := by rw [Hid, hw]; apply NewBox.cast; (focus ((repeat (first | (with_reducible apply NewBox.alloc) | (with_reducible apply NewBox.drew) | (with_reducible apply NewBox.set1) | ((with_reducible apply NewBox.far); (focus (first | omega | (simp; done) | (simp; omega)))))); exact HXr.out)); rfl
     clear hxr hfr hkr
     have hxr := HXr.out.2.1
     have hfr := HXr.out.2.2
     have hkr := HXr.out.1
     replace HXh : Hid (NewBox w12 (w2.heap.size) [.int .i64 x.num, .int .i64 0, .string x.root, .int .i64 x.taken, .string x.troot]) := by rw [Hid, hw]; exact ⟨by first | omega | (simp [World.setCell]; omega), fun o => by rcases o with _ | _ | _ | _ | _ | o <;> go_simp, fun o => by go_simp⟩
     clear hxh hfh hkh
     have hxh := HXh.out.2.1
     have hfh := HXh.out.2.2
     have hkh := HXh.out.1
     clear hw
     refine bodyPost_ret (v := .agg #[.int .i64 x.num, .int .i64 0, .string x.root, .int .i64 x.taken, .string x.troot]) (by simp [results, Try.results87, go_sem, hxr]) rfl ?_
     exact ⟨⟨x.num, 0, x.root, x.taken, x.troot⟩, rfl, ⟨HXS.out.1, i64s (x := 0) (by omega) (by omega), HXS.out.2.2.1, Nat.le_trans HXS.out.2.2.2.1 (by omega), Nat.le_trans HXS.out.2.2.2.2 (by omega)⟩, CodeK.get HOC.out, HB.out⟩
    ·skip
     have f0 : (k == 0) = false := beq_eq_false_iff_ne.2 (by omega)
     have f1 : (k == 1) = false := beq_eq_false_iff_ne.2 (by omega)
     have f2 : (k == 2) = false := beq_eq_false_iff_ne.2 (by omega)
     have f3 : (k == 3) = false := beq_eq_false_iff_ne.2 (by omega)
     have f4 : (k == 4) = false := beq_eq_false_iff_ne.2 (by omega)
     have f5 : (k == 5) = false := beq_eq_false_iff_ne.2 (by omega)
     go_wp2
     refine bodyPost_named (fun w12 hw => ?_)
     have hz12 : w11.heap.size + 0 ≤ w12.heap.size := by rw [hw]; first | omega | (simp [World.setCell]; done) | (simp [World.setCell]; omega)
     have hzz12 : w.heap.size ≤ w12.heap.size := by omega
     replace HB : Hid (Only (p) (p + 1) w w12) := by rw [Hid, hw]; exact (by ((repeat (first | (with_reducible refine only_alloc ?_ _) | (with_reducible refine only_drew ?_) | ((with_reducible refine only_new ?_ ?_ _); rotate_left 1; (focus (first | omega | (simp; done) | (simp; omega)))))); exact HB.out))
     replace HOC : Hid (CodeK w12 (0) (p + 1) ((B, n, g)) (l)) := by rw [Hid, hw]; (repeat (first | (with_reducible refine CodeK.alloc ?_ _) | (with_reducible refine CodeK.drew ?_) | ((with_reducible refine CodeK.setCell ?_ ?_ _); rotate_left 1; (focus (first | omega | (simp; done) | (simp; omega)))))); exact HOC.out
     replace HXr : Hid (NewBox w12 (w.heap.size) [.int .i64 x.num, .int .i64 x.size, .string x.root, .int .i64 x.taken, .string x.troot]) := by rw [Hid, hw]; apply NewBox.cast; (focus ((repeat (first | (with_reducible apply NewBox.alloc) | (with_reducible apply NewBox.drew) | (with_reducible apply NewBox.set1) | ((with_reducible apply NewBox.far); (focus (first | omega | (simp; done) | (simp; omega)))))); exact HXr.out)); rfl
     clear hxr hfr hkr
     have hxr := HXr.out.2.1
     have hfr := HXr.out.2.2
     have hkr := HXr.out.1
     replace HXh : Hid (NewBox w12 (w2.heap.size) [.int .i64 x.num, .int .i64 x.size, .string x.root, .int .i64 x.taken, .string x.troot]) := by rw [Hid, hw]; (repeat (first | (with_reducible refine NewBox.alloc ?_ _) | (with_reducible refine NewBox.drew ?_) | ((with_reducible refine NewBox.setCell ?_ ?_ _); rotate_left 1; (focus (first | omega | (simp; done) | (simp; omega)))))); exact HXh.out
     clear hxh hfh hkh
     have hxh := HXh.out.2.1
     have hfh := HXh.out.2.2
     have hkh := HXh.out.1
     clear hw
     refine bodyPost_ret (v := .agg #[.int .i64 x.num, .int .i64 x.size, .string x.root, .int .i64 x.taken, .string x.troot]) (by simp [results, Try.results87, go_sem, hxr]) rfl ?_
     exact ⟨x, rfl, ⟨HXS.out.1, HXS.out.2.1, HXS.out.2.2.1, Nat.le_trans HXS.out.2.2.2.1 (by omega), Nat.le_trans HXS.out.2.2.2.2 (by omega)⟩, CodeK.get HOC.out, HB.out⟩
end Go.Proofs.Ytoccjgcokffkbaa
