/- HasSize: some head has this size. -/
import Derived.Test.YtmmepogjocfefaaGreatBrkB
import Derived.Shelf.Abstract
namespace Go.Proofs.YtmmepogjocfefaaGreat
set_option linter.unusedVariables false
set_option linter.unusedSimpArgs false
open Go.RowKit Go.Shelf

def hasHd (hs : List Hd) (m : Int) : Bool := hs.any (fun x => x.size == m)
theorem any_drop {α : Type} {p : α → Bool} {l : List α} {k : Nat} {x : α} (h : l[k]? = some x) : (l.drop k).any p = (p x || (l.drop (k + 1)).any p) := by
 obtain ⟨hk, he⟩ := List.getElem?_eq_some_iff.1 h
 rw [List.drop_eq_getElem_cons hk, he, List.any_cons]
/-- the first place that has a property, counted from k; or -1 -/
def firstOf {α : Type} (p : α → Bool) : List α → Nat → Int
 | [], _ => -1
 | e :: r, k => if p e then (k : Int) else firstOf p r (k + 1)
theorem firstOf_any {α : Type} {p : α → Bool} : ∀ {l : List α} {k : Nat}, decide (0 ≤ firstOf p l k) = l.any p
 | [], k => rfl
 | e :: r, k => by
   rw [firstOf, List.any_cons]
   cases h : p e
   ·rw [if_neg (by simp), Bool.false_or]; exact firstOf_any
   ·rw [if_pos rfl, decide_eq_true (by omega), Bool.true_or]
theorem firstOf_hit {α : Type} {p : α → Bool} {l : List α} {k : Nat} {e : α} (h : l[k]? = some e) (hp : p e = true) : firstOf p (l.drop k) k = k := by
 obtain ⟨hk, he⟩ := List.getElem?_eq_some_iff.1 h
 rw [List.drop_eq_getElem_cons hk, he, firstOf, if_pos hp]
theorem firstOf_miss {α : Type} {p : α → Bool} {l : List α} {k : Nat} {e : α} (h : l[k]? = some e) (hp : p e = false) : firstOf p (l.drop k) k = firstOf p (l.drop (k + 1)) (k + 1) := by
 obtain ⟨hk, he⟩ := List.getElem?_eq_some_iff.1 h
 rw [List.drop_eq_getElem_cons hk, he, firstOf, if_neg (by simp [hp])]
theorem firstOf_end {α : Type} {p : α → Bool} {l : List α} : firstOf p (l.drop l.length) l.length = -1 := by
 rw [List.drop_length, firstOf]
set_option maxRecDepth 100000 in
set_option maxHeartbeats 4000000 in
theorem l12HasSize_c (width z1 z2 : Int) (E R H A1 A2 : Option Addr) (ne nr nh ce cr ch c1 c2 lo hi m1 m2 : Nat) (hs : List Hd) (h : Hd) (m : Int) (w : World) (hH : Rd w lo hi H (hds hs)) (hn : hs.length = nh) (hl : nh ≤ 1048576) :
  Calls Tryz.prog 129 #[.agg #[.int .i64 width, .slice E ne ce, .slice R nr cr, .slice H nh ch, .int .i64 z1, .slice A1 m1 c1, .int .i64 z2, .slice A2 m2 c2, .int .i64 h.num, .int .i64 h.size, .string h.root, .int .i64 h.taken, .string h.troot], .int .i64 m] w fun e w' => e = .returned (.bool (hasHd hs m)) ∧ Below w.heap.size w w' := by
 have HN := Lib.hid hn
 have HR := Lib.hid hH
 clear hn hH
 go_enter Tryz.func129, Tryz.ntmps129
 go_wp2
 go_loopw [5] (fun i wr => ∃ (k : Nat), k ≤ nh ∧ i = .int .i64 k ∧ hasHd hs m = (hs.drop k).any (fun x => x.size == m) ∧ NewBox wr w.heap.size [.int .i64 width, .slice E ne ce, .slice R nr cr, .slice H nh ch, .int .i64 z1, .slice A1 m1 c1, .int .i64 z2, .slice A2 m2 c2, .int .i64 h.num, .int .i64 h.size, .string h.root, .int .i64 h.taken, .string h.troot] ∧ Below w.heap.size w wr) (fun i _ => nh - (intOf i).toNat)
 case atStart => exact ⟨0, Nat.zero_le _, rfl, rfl, NewBox.new w #[.int .i64 width, .slice E ne ce, .slice R nr cr, .slice H nh ch, .int .i64 z1, .slice A1 m1 c1, .int .i64 z2, .slice A2 m2 c2, .int .i64 h.num, .int .i64 h.size, .string h.root, .int .i64 h.taken, .string h.troot] _, (Below.refl _ _).alloc (Nat.le_refl _) _⟩
 case round =>
  obtain ⟨k, hk, rfl, hst, hx, hb0⟩ := hrel
  have HST := Lib.hid hst
  have HB0 := Lib.hid hb0
  have HX := Lib.hid hx
  have hzr := hx.1
  have e3 : wr.cell? ⟨w.heap.size, 3, none⟩ = some (.slice H nh ch) := hx.cell (o := 3) rfl
  clear hst hx hb0
  by_cases hlt : k < nh
  ·obtain ⟨b, off, x, hRe, hb, hks, hc⟩ := hd_cells (HR.out.below HB0.out) (k := k) (by rw [HN.out]; exact hlt)
   have hc1 := hc.2.1
   have hix := idxHd H b off nh ch k hRe hlt
   have hI : (k : Int) < nh := by omega
   have HS := Lib.hid (any_drop (p := fun x => x.size == m) hks)
   clear hc hks hRe
   rcases hd : (x.size == m) with _ | _
   ·have HS2 : Hid ((hs.drop k).any (fun x => x.size == m) = (hs.drop (k + 1)).any (fun x => x.size == m)) := Lib.hid (by rw [HS.out]; simp only [hd]; rfl)
    go_wp2
    go_roundw
    case rel => exact ⟨k + 1, by omega, by go_num, by rw [HST.out, HS2.out], HX.out, HB0.out⟩
    case measure => simp [intOf]; omega
   ·have HS2 : Hid ((hs.drop k).any (fun x => x.size == m) = true) := Lib.hid (by rw [HS.out]; simp only [hd]; rfl)
    go_wp2
    go_ret
    exact ⟨ret_bool (by rw [HST.out, HS2.out]), HB0.out⟩
  ·obtain rfl : k = nh := by omega
   go_wp2
   go_ret
   exact ⟨ret_bool (by rw [HST.out, ← HN.out, List.drop_length]; rfl), HB0.out⟩
set_option maxRecDepth 100000 in
set_option maxHeartbeats 4000000 in
theorem hasPred_c (m : Int) (B1 : Nat) (x : Hd) (w : World) (h1 : B1 < w.heap.size) (hc1 : w.cell? ⟨B1, 0, none⟩ = some (.int .i64 m)) :
  Calls Tryz.prog 171 #[.agg #[.int .i64 x.num, .int .i64 x.size, .string x.root, .int .i64 x.taken, .string x.troot], .pointer (some ⟨B1, 0, none⟩)] w fun e w' => e = .returned (.bool (x.size == m)) ∧ Below w.heap.size w w' := by
 go_enter Tryz.func171, Tryz.ntmps171
 go_wp2
 go_ret
 exact ⟨ret_bool (by first | rfl | (simp; done)), (Below.refl _ _).alloc (Nat.le_refl _) _⟩
set_option maxRecDepth 100000 in
set_option maxHeartbeats 4000000 in
theorem hdFunc_c (A : Option Addr) (c lo hi n : Nat) (l : List Hd) (m : Int) (B1 : Nat) (w : World) (hr : Rd w lo hi A (hds l)) (hn : l.length = n) (hl : n ≤ 1048576) (h1 : B1 < w.heap.size) (hc1 : w.cell? ⟨B1, 0, none⟩ = some (.int .i64 m)) :
  Calls Tryz.prog 138 #[.slice A n c, .func (.func 171) #[] #[.pointer (some ⟨B1, 0, none⟩)]] w fun e w' => e = .returned (.int .i64 (firstOf (fun x => x.size == m) l 0)) ∧ Below w.heap.size w w' := by
 have HN := Lib.hid hn
 clear hn
 have eg : ∀ args w, (callFunc 171 args).run Tryz.prog w = .ok (.enter 171 args) w := enters_of Tryz.func171 (by kernel_rfl) rfl
 go_enter Tryz.func138, Tryz.ntmps138
 go_wp2
 go_loopw [5, 8] (fun _ i wr => ∃ k : Nat, k ≤ n ∧ i = .int .i64 k ∧ firstOf (fun x => x.size == m) l 0 = firstOf (fun x => x.size == m) (l.drop k) k ∧ Below w.heap.size w wr) (fun _ i _ => n - (intOf i).toNat)
 case atStart => exact ⟨0, Nat.zero_le _, rfl, rfl, Below.refl _ _⟩
 case round =>
  obtain ⟨k, hk, rfl, hst, hb0⟩ := hrel
  have HST := Lib.hid hst
  have HB0 := Lib.hid hb0
  clear hst
  by_cases hlt : k < n
  ·obtain ⟨b, off, x, rfl, hb, hks, hc⟩ := hd_cells (hr.below hb0) (k := k) (by rw [HN.out]; exact hlt)
   have hc0 := hc.1
   have hc1' := hc.2.1
   have hc2 := hc.2.2.1
   have hc3 := hc.2.2.2.1
   have hc4 := hc.2.2.2.2
   have hI1 : (0 : Int) ≤ (k : Int) := by omega
   have hI2 : (k : Int) < (n : Int) := by omega
   have HK := Lib.hid hks
   have HP := Lib.hid (hasPred_c m B1 x wr (Nat.lt_of_lt_of_le h1 hb0.size) ((hb0.cell (p := ⟨B1, 0, none⟩) h1).trans hc1))
   clear hc hks hr hb0 hc1
   rcases hp : (x.size == m) with _ | _
   ·have HS := Lib.hid (firstOf_miss (p := fun x => x.size == m) HK.out hp)
    rw [hp] at HP
    go_wp2_with (go_at_fn 171; refine HP.out.mono ?_; rintro e w2 ⟨rfl, hb2⟩)
    go_roundw
    case rel => exact ⟨k + 1, by omega, by go_num, by rw [HST.out, HS.out], below_then HB0.out hb2 HB0.out.size⟩
    case measure => simp [intOf]; omega
   ·have HS := Lib.hid (firstOf_hit (p := fun x => x.size == m) HK.out hp)
    rw [hp] at HP
    go_wp2_with (go_at_fn 171; refine HP.out.mono ?_; rintro e w2 ⟨rfl, hb2⟩)
    go_ret
    exact ⟨ret_int (by rw [HST.out, HS.out]), below_then HB0.out hb2 HB0.out.size⟩
  ·obtain rfl : k = n := by omega
   clear hr hb0
   go_wp2
   go_ret
   exact ⟨ret_int (by rw [HST.out, ← HN.out, firstOf_end]), HB0.out⟩
set_option maxRecDepth 100000 in
set_option maxHeartbeats 4000000 in
theorem hdContains_c (A : Option Addr) (c lo hi n : Nat) (l : List Hd) (m : Int) (B1 : Nat) (w : World) (hr : Rd w lo hi A (hds l)) (hn : l.length = n) (hl : n ≤ 1048576) (h1 : B1 < w.heap.size) (hc1 : w.cell? ⟨B1, 0, none⟩ = some (.int .i64 m)) :
  Calls Tryz.prog 88 #[.slice A n c, .func (.func 171) #[] #[.pointer (some ⟨B1, 0, none⟩)]] w fun e w' => e = .returned (.bool (hasHd l m)) ∧ Below w.heap.size w w' := by
 have HI := Lib.hid (hdFunc_c A c lo hi n l m B1 w hr hn hl h1 hc1)
 have HD : Hid (decide (0 ≤ firstOf (fun x => x.size == m) l 0) = hasHd l m) := Lib.hid firstOf_any
 clear hr hn hc1
 generalize firstOf (fun x => x.size == m) l 0 = q at *
 go_enter Tryz.func88, Tryz.ntmps88
 go_wp2_with fail
 refine HI.out.mono ?_
 rintro e w2 ⟨rfl, hb⟩
 have HB := Lib.hid hb
 clear hb HI
 rcases (show 0 ≤ q ∨ ¬ 0 ≤ q by omega) with hq | hq
 ·go_wp2
  go_ret
  exact ⟨ret_bool (by rw [← HD.out, decide_eq_true hq]), HB.out⟩
 ·go_wp2
  go_ret
  exact ⟨ret_bool (by rw [← HD.out, decide_eq_false (by omega)]), HB.out⟩
set_option maxRecDepth 100000 in
set_option maxHeartbeats 4000000 in
theorem hasSize_c (p c lo hi n : Nat) (A : Option Addr) (l : List Hd) (m : Int) (w : World) (hp : p < w.heap.size) (hc3 : w.cell? ⟨p, 3, none⟩ = some (.slice A n c)) (hr : Rd w lo hi A (hds l)) (hn : l.length = n) (hl : n ≤ 1048576) :
  Calls Tryz.prog 130 #[.pointer (some ⟨p, 0, none⟩), .int .i64 m] w fun e w' => e = .returned (.bool (hasHd l m)) ∧ Below w.heap.size w w' := by
 have HN := Lib.hid hn
 have HC : Hid (∀ W, Rd W 0 W.heap.size A (hds l) → ∀ B1, B1 < W.heap.size → W.cell? ⟨B1, 0, none⟩ = some (.int .i64 m) → _) := Lib.hid (fun W r B1 hb hc => hdContains_c A c 0 W.heap.size n l m B1 W r hn hl hb hc)
 clear hn
 have HB : Hid (Below w.heap.size w w) := Below.refl _ _
 have HOA : Hid (Rd w (0) (w.heap.size) (A) (hds l)) := Rd.base hr
 clear hr
 go_enter Tryz.func130, Tryz.ntmps130
 go_wp2_with fail
 refine calls_named (fun w1 hw => ?_)
 have hz1 : w.heap.size + 1 ≤ w1.heap.size := by rw [hw]; first | omega | (simp [World.setCell]; done) | (simp [World.setCell]; omega)
 have hzz1 : w.heap.size ≤ w1.heap.size := by omega
 have hbn : Below w.heap.size w w1 := by rw [hw]; exact (by ((repeat (first | ((with_reducible refine Below.alloc ?_ ?_ _); rotate_left 1; (focus (first | omega | (simp; done) | (simp; omega)))) | (with_reducible refine Below.drew ?_) | ((with_reducible refine Below.setCell ?_ ?_ _); rotate_left 1; (focus (first | omega | (simp; done) | (simp; omega)))))); exact Below.refl _ _))
 replace HB := Lib.hid (below_then HB.out hbn HB.out.size)
 replace HOA := Lib.hid (HOA.out.below hbn)
 clear hbn
 have HXr : Hid (NewBox w1 (w.heap.size) [.int .i64 m]) := by rw [Hid, hw]; exact ⟨by first | omega | (simp [World.setCell]; done) | (simp [World.setCell]; omega), fun o => by rcases o with _ | o <;> go_simp, fun o => by go_simp⟩
 have hxr := HXr.out.2.1
 have hfr := HXr.out.2.2
 have hkr := HXr.out.1
 clear hw
 refine (HC.out _ HOA.out.base _ hkr (hxr 0)).mono ?_
 rintro e w2 ⟨rfl, hb⟩
 have hzw2 : w1.heap.size ≤ w2.heap.size := hb.size
 have hzzw2 : w.heap.size ≤ w2.heap.size := by omega
 replace HB := Lib.hid (below_then HB.out hb HB.out.size)
 replace HOA := Lib.hid (HOA.out.below hb)
 replace HXr := Lib.hid (HXr.out.below hb)
 clear hxr hfr hkr
 have hxr := HXr.out.2.1
 have hfr := HXr.out.2.2
 have hkr := HXr.out.1
 clear hb
 go_wp2
 go_ret
 exact ⟨rfl, HB.out⟩
end Go.Proofs.YtmmepogjocfefaaGreat
