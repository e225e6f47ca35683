/- LeafOf. -/
import Derived.Test.YtmmepogjocfefaaGreatLogOk
import Derived.Shelf.Abstract
namespace Go.Proofs.YtmmepogjocfefaaGreat
set_option linter.unusedVariables false
set_option linter.unusedSimpArgs false
open Go.RowKit Go.Shelf

/-- the first place that has a property, counted from k; or -1 -/
def firstFrom (p : Ent → Bool) : List Ent → Nat → Int
 | [], _ => -1
 | e :: r, k => if p e then (k : Int) else firstFrom p r (k + 1)
theorem drop_cons {l : List Ent} {k : Nat} {e : Ent} (h : l[k]? = some e) : l.drop k = e :: l.drop (k + 1) := by
 obtain ⟨hk, he⟩ := List.getElem?_eq_some_iff.1 h
 rw [List.drop_eq_getElem_cons hk, he]
theorem firstFrom_hit {p : Ent → Bool} {l : List Ent} {k : Nat} {e : Ent} (h : l[k]? = some e) (hp : p e = true) : firstFrom p (l.drop k) k = k := by
 rw [drop_cons h, firstFrom, if_pos hp]
theorem firstFrom_miss {p : Ent → Bool} {l : List Ent} {k : Nat} {e : Ent} (h : l[k]? = some e) (hp : p e = false) : firstFrom p (l.drop k) k = firstFrom p (l.drop (k + 1)) (k + 1) := by
 rw [drop_cons h, firstFrom, if_neg (by simp [hp])]
theorem firstFrom_end {p : Ent → Bool} {l : List Ent} : firstFrom p (l.drop l.length) l.length = -1 := by
 rw [List.drop_length, firstFrom]
def isTI (t : ByteArray) (i : Int) (e : Ent) : Bool := (e.topic.toList == t.toList) && (e.index == i)
def leafOfM (l : List Ent) (t : ByteArray) (i : Int) : Int := if logOk l then firstFrom (isTI t i) l 0 else -1

set_option maxRecDepth 100000 in
set_option maxHeartbeats 400000 in
theorem l09Leaf_c (A : Option Addr) (c lo hi n : Nat) (l : List Ent) (t : ByteArray) (q : Int) (w : World) (hr : Rd w lo hi A (ents l)) (hn : l.length = n) (hl : n ≤ 1048576) :
  Calls Tryz.prog 69 #[.slice A n c, .string t, .int .i64 q] w fun e w' => e = .returned (.int .i64 (firstFrom (isTI t q) l 0)) ∧ w = w' := by
 have HN := Lib.hid hn
 clear hn
 go_enter Tryz.func69, Tryz.ntmps69
 go_wp2
 go_loop [7] (fun i => ∃ k : Nat, k ≤ n ∧ i = .int .i64 k ∧ firstFrom (isTI t q) l 0 = firstFrom (isTI t q) (l.drop k) k) (fun i => n - (intOf i).toNat)
 case atStart => exact ⟨0, Nat.zero_le _, rfl, rfl⟩
 case round =>
  obtain ⟨k, hk, rfl, hst⟩ := hrel
  have HST := Lib.hid hst
  clear hst
  by_cases hlt : k < n
  ·obtain ⟨b, off, x, rfl, _, _, hb, hks, hcell⟩ := hr.flat (f := Ent.cells) (m := 5) (fun _ => rfl) (by omega) (k := k) (by rw [HN.out]; exact hlt)
   have hc0 : w.cell? ⟨b, off + k * 5, none⟩ = some (.string x.topic) := hcell 0 _ rfl
   have hc1 : w.cell? ⟨b, off + k * 5 + 1, none⟩ = some (.int .i64 x.index) := hcell 1 _ rfl
   have hI1 : (0 : Int) ≤ (k : Int) := by omega
   have hI2 : (k : Int) < (n : Int) := by omega
   have HK := Lib.hid hks
   clear hcell hks hr
   rcases ht : (x.topic.toList == t.toList) with _ | _
   ·have HS := Lib.hid (firstFrom_miss (p := isTI t q) HK.out (by rw [isTI, ht, Bool.false_and]))
    go_wp2
    go_round
    case rel => exact ⟨k + 1, by omega, by go_num, by rw [HST.out, HS.out]⟩
    case measure => simp [intOf]; omega
   ·rcases hy : (x.index == q) with _ | _
    ·have HS := Lib.hid (firstFrom_miss (p := isTI t q) HK.out (by rw [isTI, hy, Bool.and_false]))
     go_wp2
     go_round
     case rel => exact ⟨k + 1, by omega, by go_num, by rw [HST.out, HS.out]⟩
     case measure => simp [intOf]; omega
    ·have HS := Lib.hid (firstFrom_hit (p := isTI t q) HK.out (by rw [isTI, hy, ht]; rfl))
     go_wp2
     go_ret
     exact ⟨ret_int (by rw [HST.out, HS.out]), rfl⟩
  ·obtain rfl : k = n := by omega
   go_wp2
   go_ret
   exact ⟨ret_int (by rw [HST.out, ← HN.out, firstFrom_end]), rfl⟩

set_option maxRecDepth 100000 in
set_option maxHeartbeats 400000 in
theorem leafPred_c (t : ByteArray) (q : Int) (B1 B2 : Nat) (x : Ent) (w : World) (h1 : B1 < w.heap.size) (h2 : B2 < w.heap.size) (hc1 : w.cell? ⟨B1, 0, none⟩ = some (.string t)) (hc2 : w.cell? ⟨B2, 0, none⟩ = some (.int .i64 q)) :
  Calls Tryz.prog 167 #[.agg #[.string x.topic, .int .i64 x.index, .int .i64 x.time, .string x.key, .string x.body], .pointer (some ⟨B1, 0, none⟩), .pointer (some ⟨B2, 0, none⟩)] w fun e w' => e = .returned (.bool (isTI t q x)) ∧ Below w.heap.size w w' := by
 obtain ⟨topic, index, time, key, body⟩ := x
 rcases ht : (topic.toList == t.toList) with _ | _
 ·go_enter Tryz.func167, Tryz.ntmps167
  go_wp2
  go_ret
  exact ⟨ret_bool (by rw [isTI]; simp only; rw [ht]; rfl), (Below.refl _ _).alloc (Nat.le_refl _) _⟩
 ·go_enter Tryz.func167, Tryz.ntmps167
  go_wp2
  go_ret
  exact ⟨ret_bool (by rw [isTI]; simp only; rw [ht]; rfl), (Below.refl _ _).alloc (Nat.le_refl _) _⟩

set_option maxRecDepth 100000 in
set_option maxHeartbeats 400000 in
theorem indexFunc_c (A : Option Addr) (c lo hi n : Nat) (l : List Ent) (t : ByteArray) (q : Int) (B1 B2 : Nat) (w : World) (hr : Rd w lo hi A (ents l)) (hn : l.length = n) (hl : n ≤ 1048576)
  (h1 : B1 < w.heap.size) (h2 : B2 < w.heap.size) (hc1 : w.cell? ⟨B1, 0, none⟩ = some (.string t)) (hc2 : w.cell? ⟨B2, 0, none⟩ = some (.int .i64 q)) :
  Calls Tryz.prog 166 #[.slice A n c, .func (.func 167) #[] #[.pointer (some ⟨B1, 0, none⟩), .pointer (some ⟨B2, 0, none⟩)]] w fun e w' => e = .returned (.int .i64 (firstFrom (isTI t q) l 0)) ∧ Below w.heap.size w w' := by
 have HN := Lib.hid hn
 clear hn
 have eg : ∀ args w, (callFunc 167 args).run Tryz.prog w = .ok (.enter 167 args) w := enters_of Tryz.func167 (by kernel_rfl) rfl
 go_enter Tryz.func166, Tryz.ntmps166
 go_wp2
 go_loopw [5, 8] (fun _ i wr => ∃ k : Nat, k ≤ n ∧ i = .int .i64 k ∧ firstFrom (isTI t q) l 0 = firstFrom (isTI t q) (l.drop k) k ∧ Below w.heap.size w wr) (fun _ i _ => n - (intOf i).toNat)
 case atStart => exact ⟨0, Nat.zero_le _, rfl, rfl, Below.refl _ _⟩
 case round =>
  obtain ⟨k, hk, rfl, hst, hb0⟩ := hrel
  have HST := Lib.hid hst
  have HB0 := Lib.hid hb0
  clear hst
  by_cases hlt : k < n
  ·obtain ⟨b, off, x, rfl, _, _, hb, hks, hcell⟩ := (hr.below hb0).flat (f := Ent.cells) (m := 5) (fun _ => rfl) (by omega) (k := k) (by rw [HN.out]; exact hlt)
   have hc0 : wr.cell? ⟨b, off + k * 5, none⟩ = some (.string x.topic) := hcell 0 _ rfl
   have hc1' : wr.cell? ⟨b, off + k * 5 + 1, none⟩ = some (.int .i64 x.index) := hcell 1 _ rfl
   have hc2' : wr.cell? ⟨b, off + k * 5 + 2, none⟩ = some (.int .i64 x.time) := hcell 2 _ rfl
   have hc3 : wr.cell? ⟨b, off + k * 5 + 3, none⟩ = some (.string x.key) := hcell 3 _ rfl
   have hc4 : wr.cell? ⟨b, off + k * 5 + 4, none⟩ = some (.string x.body) := hcell 4 _ rfl
   have hI1 : (0 : Int) ≤ (k : Int) := by omega
   have hI2 : (k : Int) < (n : Int) := by omega
   have HK := Lib.hid hks
   have HP := Lib.hid (leafPred_c t q B1 B2 x wr (Nat.lt_of_lt_of_le h1 hb0.size) (Nat.lt_of_lt_of_le h2 hb0.size) ((hb0.cell (p := ⟨B1, 0, none⟩) h1).trans hc1) ((hb0.cell (p := ⟨B2, 0, none⟩) h2).trans hc2))
   clear hcell hks hr hb0 hc1 hc2
   rcases hp : isTI t q x with _ | _
   ·have HS := Lib.hid (firstFrom_miss (p := isTI t q) HK.out hp)
    rw [hp] at HP
    go_wp2_with (go_at_fn 167; refine HP.out.mono ?_; rintro e w2 ⟨rfl, hb2⟩)
    go_roundw
    case rel => exact ⟨k + 1, by omega, by go_num, by rw [HST.out, HS.out], below_then HB0.out hb2 HB0.out.size⟩
    case measure => simp [intOf]; omega
   ·have HS := Lib.hid (firstFrom_hit (p := isTI t q) HK.out hp)
    rw [hp] at HP
    go_wp2_with (go_at_fn 167; refine HP.out.mono ?_; rintro e w2 ⟨rfl, hb2⟩)
    go_ret
    exact ⟨ret_int (by rw [HST.out, HS.out]), below_then HB0.out hb2 HB0.out.size⟩
  ·obtain rfl : k = n := by omega
   clear hr hb0
   go_wp2
   go_ret
   exact ⟨ret_int (by rw [HST.out, ← HN.out, firstFrom_end]), HB0.out⟩

set_option maxRecDepth 100000 in
set_option maxHeartbeats 400000 in
theorem leafOf_c (A : Option Addr) (c lo hi n : Nat) (l : List Ent) (t : ByteArray) (q : Int) (w : World) (hr : Rd w lo hi A (ents l)) (hn : l.length = n) (hl : n ≤ 1048576) :
  Calls Tryz.prog 123 #[.agg #[.slice A n c], .string t, .int .i64 q] w fun e w' => e = .returned (.int .i64 (firstFrom (isTI t q) l 0)) ∧ Below w.heap.size w w' := by
 go_enter Tryz.func123, Tryz.ntmps123
 go_wp2_with fail
 refine (indexFunc_c A c _ _ n l t q _ _ _ (((hr.alloc _).alloc _).alloc _) hn hl (by first | omega | (simp; done) | (simp; omega)) (by simp) (by go_simp) (by go_simp)).mono ?_
 rintro e w1 ⟨rfl, hb1⟩
 have HB1 : Hid (Below w.heap.size w w1) := below_then ((((Below.refl _ _).alloc (Nat.le_refl _) _).alloc (by first | omega | (simp; done) | (simp; omega)) _).alloc (by first | omega | (simp; done) | (simp; omega)) _) hb1 (by first | omega | (simp; done) | (simp; omega))
 clear hb1
 go_wp2
 go_ret
 exact ⟨rfl, HB1.out⟩
end Go.Proofs.YtmmepogjocfefaaGreat
