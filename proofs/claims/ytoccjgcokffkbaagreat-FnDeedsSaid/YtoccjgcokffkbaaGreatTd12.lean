/- Part 12 of the proof of FnDeeds: lemmas and contracts. -/
import Derived.Shelf.Abstract
import Derived.Test.YtoccjgcokffkbaaGreatTd11
namespace Go.Proofs.YtoccjgcokffkbaaGreat
set_option linter.unusedVariables false
set_option linter.unusedSimpArgs false
set_option maxHeartbeats 20000000
section
open Go.RowKit Go.Shelf
def aN (p : Ent → Bool) : List Ent → Nat → Int
 | [], _ => -1
 | e :: r, k => if p e then (k : Int) else aN p r (k + 1)
theorem drop_cons {l : List Ent} {k : Nat} {e : Ent} (h : l[k]? = some e) : l.drop k = e :: l.drop (k + 1) := by
 obtain ⟨hk, he⟩ := List.getElem?_eq_some_iff.1 h
 rw [List.drop_eq_getElem_cons hk, he]
theorem firstFrom_hit {p : Ent → Bool} {l : List Ent} {k : Nat} {e : Ent} (h : l[k]? = some e) (hp : p e = true) : aN p (l.drop k) k = k := by
 rw [drop_cons h, aN, if_pos hp]
theorem firstFrom_miss {p : Ent → Bool} {l : List Ent} {k : Nat} {e : Ent} (h : l[k]? = some e) (hp : p e = false) : aN p (l.drop k) k = aN p (l.drop (k + 1)) (k + 1) := by
 rw [drop_cons h, aN, if_neg (by simp [hp])]
theorem firstFrom_end {p : Ent → Bool} {l : List Ent} : aN p (l.drop l.length) l.length = -1 := by
 rw [List.drop_length, aN]
def fK (t : ByteArray) (i : Int) (e : Ent) : Bool := (e.topic.toList == t.toList) && (e.index == i)
set_option maxRecDepth 100000 in
theorem l09Leaf_c (A : Option Addr) (c lo hi n : Nat) (l : List Ent) (t : ByteArray) (q : Int) (w : World) (hr : Rd w lo hi A (aR l)) (hn : l.length = n) (hl : n ≤ 1048576) :
  Calls Tryz.prog 105 #[.slice A n c, .string t, .int .i64 q] w fun e w' => e = .returned (.int .i64 (aN (fK t q) l 0)) ∧ w = w' := by
 have HN := lH hn
 clear hn
 go_enter Tryz.func105, Tryz.ntmps105
 go_wp2
 go_loop [7] (fun i => ∃ k : Nat, k ≤ n ∧ i = .int .i64 k ∧ aN (fK t q) l 0 = aN (fK t q) (l.drop k) k) (fun i => n - (intOf i).toNat)
 case atStart => exact ⟨0, Nat.zero_le _, rfl, rfl⟩
 case round =>
  obtain ⟨k, hk, rfl, hst⟩ := hrel
  have HST := lH hst
  clear hst
  by_cases hlt : k < n
  ·obtain ⟨b, off, x, rfl, _, _, hb, hks, hcell⟩ := hr.flat (f := Ent.cells) (m := 5) (fun _ => rfl) (by omega) (k := k) (by rw [HN.out]; exact hlt)
   have hc0 : w.cell? ⟨b, off + k * 5, none⟩ = some (.string x.topic) := hcell 0 _ rfl
   have hc1 : w.cell? ⟨b, off + k * 5 + 1, none⟩ = some (.int .i64 x.index) := hcell 1 _ rfl
   have hI1 : (0 : Int) ≤ (k : Int) := by omega
   have hI2 : (k : Int) < (n : Int) := by omega
   have HK := lH hks
   clear hcell hks hr
   rcases ht : (x.topic.toList == t.toList) with _ | _
   ·have HS := lH (firstFrom_miss (p := fK t q) HK.out (by rw [fK, ht, Bool.false_and]))
    go_wp2
    go_round
    case rel => exact ⟨k + 1, by omega, by go_num, by rw [HST.out, HS.out]⟩
    case measure => simp [intOf]; omega
   rcases hy : (x.index == q) with _ | _
   ·have HS := lH (firstFrom_miss (p := fK t q) HK.out (by rw [fK, hy, Bool.and_false]))
    go_wp2
    go_round
    case rel => exact ⟨k + 1, by omega, by go_num, by rw [HST.out, HS.out]⟩
    case measure => simp [intOf]; omega
   have HS := lH (firstFrom_hit (p := fK t q) HK.out (by rw [fK, hy, ht]; rfl))
   go_wp2
   go_ret
   exact ⟨gI (by rw [HST.out, HS.out]), rfl⟩
  obtain rfl : k = n := by omega
  go_wp2
  go_ret
  exact ⟨gI (by rw [HST.out, ← HN.out, firstFrom_end]), rfl⟩
set_option maxRecDepth 100000 in
theorem leafPred_c (t : ByteArray) (q : Int) (B1 B2 : Nat) (x : Ent) (w : World) (h1 : B1 < w.heap.size) (h2 : B2 < w.heap.size) (hc1 : w.cell? ⟨B1, 0, none⟩ = some (.string t)) (hc2 : w.cell? ⟨B2, 0, none⟩ = some (.int .i64 q)) :
  Calls Tryz.prog 131 #[.agg #[.string x.topic, .int .i64 x.index, .int .i64 x.time, .string x.key, .string x.body], .pointer (some ⟨B1, 0, none⟩), .pointer (some ⟨B2, 0, none⟩)] w fun e w' => e = .returned (.bool (fK t q x)) ∧ Below w.heap.size w w' := by
 obtain ⟨topic, index, time, key, body⟩ := x
 rcases ht : (topic.toList == t.toList) with _ | _
 ·go_enter Tryz.func131, Tryz.ntmps131
  go_wp2
  go_ret
  exact ⟨aj (by rw [fK]; simp only; rw [ht]; rfl), (Below.refl _ _).alloc (Nat.le_refl _) _⟩
 go_enter Tryz.func131, Tryz.ntmps131
 go_wp2
 go_ret
 exact ⟨aj (by rw [fK]; simp only; rw [ht]; rfl), (Below.refl _ _).alloc (Nat.le_refl _) _⟩
set_option maxRecDepth 100000 in
theorem indexFunc_c (A : Option Addr) (c lo hi n : Nat) (l : List Ent) (t : ByteArray) (q : Int) (B1 B2 : Nat) (w : World) (hr : Rd w lo hi A (aR l)) (hn : l.length = n) (hl : n ≤ 1048576)
  (h1 : B1 < w.heap.size) (h2 : B2 < w.heap.size) (hc1 : w.cell? ⟨B1, 0, none⟩ = some (.string t)) (hc2 : w.cell? ⟨B2, 0, none⟩ = some (.int .i64 q)) :
  Calls Tryz.prog 130 #[.slice A n c, .func (.func 131) #[] #[.pointer (some ⟨B1, 0, none⟩), .pointer (some ⟨B2, 0, none⟩)]] w fun e w' => e = .returned (.int .i64 (aN (fK t q) l 0)) ∧ Below w.heap.size w w' := by
 have HN := lH hn
 clear hn
 have eg : ∀ args w, (callFunc 131 args).run Tryz.prog w = .ok (.enter 131 args) w := enters_of Tryz.func131 (by kernel_rfl) rfl
 go_enter Tryz.func130, Tryz.ntmps130
 go_wp2
 go_loopw [5, 8] (fun _ i wr => ∃ k : Nat, k ≤ n ∧ i = .int .i64 k ∧ aN (fK t q) l 0 = aN (fK t q) (l.drop k) k ∧ Below w.heap.size w wr) (fun _ i _ => n - (intOf i).toNat)
 case atStart => exact ⟨0, Nat.zero_le _, rfl, rfl, Below.refl _ _⟩
 case round =>
  obtain ⟨k, hk, rfl, hst, hb0⟩ := hrel
  have HST := lH hst
  have HB0 := lH hb0
  clear hst
  by_cases hlt : k < n
  ·obtain ⟨b, off, x, rfl, _, _, hb, hks, hcell⟩ := (hr.below hb0).flat (f := Ent.cells) (m := 5) (fun _ => rfl) (by omega) (k := k) (by rw [HN.out]; exact hlt)
   have hc0 : wr.cell? ⟨b, off + k * 5, none⟩ = some (.string x.topic) := hcell 0 _ rfl
   have hc1' : wr.cell? ⟨b, off + k * 5 + 1, none⟩ = some (.int .i64 x.index) := hcell 1 _ rfl
   have hc2' : wr.cell? ⟨b, off + k * 5 + 2, none⟩ = some (.int .i64 x.time) := hcell 2 _ rfl
   have hc3 : wr.cell? ⟨b, off + k * 5 + 3, none⟩ = some (.string x.key) := hcell 3 _ rfl
   have hc4 : wr.cell? ⟨b, off + k * 5 + 4, none⟩ = some (.string x.body) := hcell 4 _ rfl
   have hI1 : (0 : Int) ≤ (k : Int) := by omega
   have hI2 : (k : Int) < (n : Int) := by omega
   have HK := lH hks
   have HP := lH (leafPred_c t q B1 B2 x wr (Nat.lt_of_lt_of_le h1 hb0.size) (Nat.lt_of_lt_of_le h2 hb0.size) ((hb0.cell (p := ⟨B1, 0, none⟩) h1).trans hc1) ((hb0.cell (p := ⟨B2, 0, none⟩) h2).trans hc2))
   clear hcell hks hr hb0 hc1 hc2
   rcases hp : fK t q x with _ | _
   ·have HS := lH (firstFrom_miss (p := fK t q) HK.out hp)
    rw [hp] at HP
    go_wp2_with (go_at_fn 131; refine HP.out.mono ?_; rintro e w2 ⟨rfl, hb2⟩)
    go_roundw
    case rel => exact ⟨k + 1, by omega, by go_num, by rw [HST.out, HS.out], ak HB0.out hb2 HB0.out.size⟩
    case measure => simp [intOf]; omega
   have HS := lH (firstFrom_hit (p := fK t q) HK.out hp)
   rw [hp] at HP
   go_wp2_with (go_at_fn 131; refine HP.out.mono ?_; rintro e w2 ⟨rfl, hb2⟩)
   go_ret
   exact ⟨gI (by rw [HST.out, HS.out]), ak HB0.out hb2 HB0.out.size⟩
  obtain rfl : k = n := by omega
  clear hr hb0; go_wp2
  go_ret
  exact ⟨gI (by rw [HST.out, ← HN.out, firstFrom_end]), HB0.out⟩
set_option maxRecDepth 100000 in
theorem leafOf_c (A : Option Addr) (c lo hi n : Nat) (l : List Ent) (t : ByteArray) (q : Int) (w : World) (hr : Rd w lo hi A (aR l)) (hn : l.length = n) (hl : n ≤ 1048576) :
  Calls Tryz.prog 81 #[.agg #[.slice A n c], .string t, .int .i64 q] w fun e w' => e = .returned (.int .i64 (aN (fK t q) l 0)) ∧ Below w.heap.size w w' := by
 go_enter Tryz.func81, Tryz.ntmps81
 go_wp2_with fail
 refine (indexFunc_c A c _ _ n l t q _ _ _ (((hr.alloc _).alloc _).alloc _) hn hl (by first | omega | (simp; done) | (simp; omega)) (by simp) (by go_simp) (by go_simp)).mono ?_
 rintro e w1 ⟨rfl, hb1⟩
 have HB1 : Hid (Below w.heap.size w w1) := ak ((((Below.refl _ _).alloc (Nat.le_refl _) _).alloc (by first | omega | (simp; done) | (simp; omega)) _).alloc (by first | omega | (simp; done) | (simp; omega)) _) hb1 (by first | omega | (simp; done) | (simp; omega))
 clear hb1
 go_wp2
 go_ret
 exact ⟨rfl, HB1.out⟩
end
section
open Go.RowKit
def sealFit (h : Hd) (z1 z2 : Int) (r1 r2 : ByteArray) : Bool := (h.size == z1) && (h.root.toList == r1.toList) && (h.taken == z2) && (h.troot.toList == r2.toList)
def ed (width z1 : Int) (l1 : List ByteArray) (z2 : Int) (l2 : List ByteArray) (h : Hd) : Bool := dH width z1 l1 && dH width z2 l2 && bu width h && sealFit h z1 z2 (rrT width z1 l1) (rrT width z2 l2)
set_option maxRecDepth 100000 in
theorem specSealOk_c (width z1 z2 : Int) (A1 A2 : Option Addr) (c1 c2 lo1 hi1 lo2 hi2 m1 m2 : Nat) (l1 l2 : List ByteArray) (h : Hd) (w : World) (hR1 : Rd w lo1 hi1 A1 (strs l1)) (hR2 : Rd w lo2 hi2 A2 (strs l2)) (hn1 : l1.length = m1) (hn2 : l2.length = m2) (hm1 : m1 ≤ 1048576) (hm2 : m2 ≤ 1048576) (hz : h.bulk ≤ 1048576) :
  Calls Tryz.prog 156 #[.int .i64 width, .agg #[.int .i64 z1, .slice A1 m1 c1, .int .i64 z2, .slice A2 m2 c2, .int .i64 h.num, .int .i64 h.size, .string h.root, .int .i64 h.taken, .string h.troot]] w fun e w' => e = .returned (.bool (ed width z1 l1 z2 l2 h)) ∧ Below w.heap.size w w' := by
 have HC1 := lH (fun W (h : Rd W 0 W.heap.size A1 (strs l1)) => fO width z1 A1 c1 0 W.heap.size m1 l1 W h hn1 hm1)
 have HC2 := lH (fun W (h : Rd W 0 W.heap.size A2 (strs l2)) => fO width z2 A2 c2 0 W.heap.size m2 l2 W h hn2 hm2)
 have HC3 := lH (fun W => specHeadOk_c width h W hz)
 have HR1 : Hid (Rd w 0 w.heap.size A1 (strs l1)) := lH hR1.base
 have HR2 : Hid (Rd w 0 w.heap.size A2 (strs l2)) := lH hR2.base
 have HDEF : Hid (ed width z1 l1 z2 l2 h = (dH width z1 l1 && dH width z2 l2 && bu width h && ((h.size == z1) && (h.root.toList == (rrT width z1 l1).toList) && (h.taken == z2) && (h.troot.toList == (rrT width z2 l2).toList)))) := lH rfl
 clear hR1 hR2 hn1 hn2
 generalize ed width z1 l1 z2 l2 h = so at *
 generalize dH width z1 l1 = q1 at *
 generalize dH width z2 l2 = q2 at *
 generalize bu width h = q3 at *
 generalize rrT width z1 l1 = r1 at *
 generalize rrT width z2 l2 = r2 at *
 generalize rrN width z1 l1 = n1 at *
 generalize rrN width z2 l2 = n2 at *
 have HB : Hid (Below w.heap.size w w) := Below.refl _ _
 go_enter Tryz.func156, Tryz.ntmps156
 go_wp2_with fail
 refine af (fun w1 hw => ?_)
 have hz1 : w.heap.size + 1 ≤ w1.heap.size := zA
 have hbn : Below w.heap.size w w1 := zB
 replace HB := bT HB hbn
 clear hbn
 have HXs : Hid (aa w1 (w.heap.size) [.int .i64 z1, .slice A1 m1 c1, .int .i64 z2, .slice A2 m2 c2, .int .i64 h.num, .int .i64 h.size, .string h.root, .int .i64 h.taken, .string h.troot]) := zG9
 obtain ⟨hks, hxs, hfs⟩ := HXs.out
 clear hw
 refine (HC1.out _ (HR1.out.below HB.out).base).mono ?_
 rintro e w2 ⟨rfl, hb⟩
 have hzw2 : w1.heap.size ≤ w2.heap.size := hb.size
 replace HB := bT HB hb
 replace HXs := nB HXs hb
 clear hxs hfs hks
 obtain ⟨hks, hxs, hfs⟩ := HXs.out
 clear hb
 go_wp2_with fail
 refine af (fun w3 hw => ?_)
 have hz3 : w2.heap.size + 0 ≤ w3.heap.size := zA
 have hbn : Below w2.heap.size w2 w3 := zB
 replace HB := bT HB hbn
 replace HXs := nB HXs hbn
 clear hxs hfs hks
 obtain ⟨hks, hxs, hfs⟩ := HXs.out
 clear hbn
 clear hw
 refine (HC2.out _ (HR2.out.below HB.out).base).mono ?_
 rintro e w4 ⟨rfl, hb⟩
 have hzw4 : w3.heap.size ≤ w4.heap.size := hb.size
 replace HB := bT HB hb
 replace HXs := nB HXs hb
 clear hxs hfs hks
 obtain ⟨hks, hxs, hfs⟩ := HXs.out
 clear hb
 rcases q1 with _ | _
 ·go_wp2
  go_ret
  exact ⟨aj (by rw [HDEF.out]; rfl), HB.out⟩
 rcases q2 with _ | _
 ·go_wp2
  go_ret
  exact ⟨aj (by rw [HDEF.out]; rfl), HB.out⟩
 go_wp2_with fail
 refine af (fun w5 hw => ?_)
 have hz5 : w4.heap.size + 0 ≤ w5.heap.size := zA
 have hbn : Below w4.heap.size w4 w5 := zB
 replace HB := bT HB hbn
 replace HXs := nB HXs hbn
 clear hxs hfs hks
 obtain ⟨hks, hxs, hfs⟩ := HXs.out
 clear hbn
 clear hw
 refine (HC3.out _).mono ?_
 rintro e w6 ⟨rfl, hb⟩
 have hzw6 : w5.heap.size ≤ w6.heap.size := hb.size
 replace HB := bT HB hb
 replace HXs := nB HXs hb
 clear hxs hfs hks
 obtain ⟨hks, hxs, hfs⟩ := HXs.out
 clear hb
 rcases q3 with _ | _
 ·go_wp2
  go_ret
  exact ⟨aj (by rw [HDEF.out]; rfl), HB.out⟩
 rcases h1 : (h.size == z1) with _ | _ <;> rcases h2 : (h.root.toList == r1.toList) with _ | _ <;> rcases h3 : (h.taken == z2) with _ | _ <;> rcases h4 : (h.troot.toList == r2.toList) with _ | _
 all_goals
  rw [h1, h2, h3, h4] at HDEF
  go_wp2
  go_ret
  exact ⟨aj (by rw [HDEF.out]; rfl), HB.out⟩
end
end Go.Proofs.YtoccjgcokffkbaaGreat
