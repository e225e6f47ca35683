/- Logs: how often a topic stands in one, LogOk, NextOf, LatestOf, LeafOf. A variable's block into which values of several cells are stored. Heads: rootOk, HeadOk, HeadNew. Texts and hashes of heads. Two heads: parted, Follows, ForkOf. HeadsOk. Texts and hashes of entries. LogOk of the program (with its map) and of the reference. Hashes of a log. Ranges that grow: the plain law, and the rows in memory. Ranges that grow by many leaves. GrowAll, Grow and RangeOf of the program. GrowAll, Grow and RangeOf of the reference. Roots of ranges. HalfOf: the greatest power of two below a size. Roots of leaves. The root of a range that grew from nothing is the root of its leaves: the plain law. What the laws' helpers do to a Receipt and to a slice of them. Written by gen_struct.py. Texts and hashes of receipts. LeafOf. SealOk. SealMore: the model, and the reference. -/
import Derived.Test.YtoccjgcokffkbaaTp1
import Derived.Maps.OwnOps
import Derived.Maps.Views
import Derived.Deep.AppendLies
import Derived.Shelf.Small.Bits
import Derived.Lib.ItoaNum
import Derived.Ground.NamesProg
import Derived.Lib.Agree
import Derived.Shelf.Abstract
namespace Go.Proofs.Ytoccjgcokffkbaa
set_option linter.unusedVariables false
set_option linter.unusedSimpArgs false
open Go.RowKit
/-- how often a topic stands in a list of entries -/
def cnt (l : List Ent) (t : ByteArray) : Nat := sumBy (fun e => if e.topic = t then 1 else 0) l
theorem cnt_take {l : List Ent} {k : Nat} {e : Ent} (t : ByteArray) (h : l[k]? = some e) : cnt (l.take (k + 1)) t = cnt (l.take k) t + if e.topic = t then 1 else 0 := sumBy_take _ h
theorem cnt_yes {l : List Ent} {k : Nat} {e : Ent} {t : ByteArray} (h : l[k]? = some e) (ht : e.topic = t) : cnt (l.take (k + 1)) t = cnt (l.take k) t + 1 := by rw [cnt_take t h, if_pos ht]
theorem cnt_no {l : List Ent} {k : Nat} {e : Ent} {t : ByteArray} (h : l[k]? = some e) (ht : ¬ e.topic = t) : cnt (l.take (k + 1)) t = cnt (l.take k) t := by rw [cnt_take t h, if_neg ht]; rfl
theorem cnt_le (l : List Ent) (t : ByteArray) : cnt l t ≤ l.length := by
 induction l with
 | nil => exact Nat.le_refl _
 | cons e l ih =>
   show (if e.topic = t then 1 else 0) + cnt l t ≤ l.length + 1
   split <;> omega
theorem cnt_take_le (l : List Ent) (t : ByteArray) (k : Nat) : cnt (l.take k) t ≤ k := Nat.le_trans (cnt_le _ t) (by simp; omega)
/-- entry k of a log is right, for what stands ahead of it -/
def rightAt (l : List Ent) (k : Nat) : Bool := match l[k]? with
 | some e => entryOk e && decide ((cnt (l.take k) e.topic : Int) = e.index)
 | none => true
def rightTo (l : List Ent) (k : Nat) : Bool := (List.range k).all (rightAt l)
def logOk (l : List Ent) : Bool := decide (l.length ≤ 512) && rightTo l l.length
theorem rightTo_succ (l : List Ent) (k : Nat) : rightTo l (k + 1) = (rightTo l k && rightAt l k) := by
 rw [rightTo, List.range_succ, List.all_append, ← rightTo]; simp
theorem rightAt_eq {l : List Ent} {k : Nat} {e : Ent} (h : l[k]? = some e) : rightAt l k = (entryOk e && decide ((cnt (l.take k) e.topic : Int) = e.index)) := by rw [rightAt, h]
theorem rightTo_bad {l : List Ent} {k n : Nat} (hk : k < n) (h : rightAt l k = false) : rightTo l n = false := by
 rw [rightTo, List.all_eq_false]
 exact ⟨k, List.mem_range.2 hk, by rw [h]; exact Bool.false_ne_true⟩
theorem logOk_bad {l : List Ent} {k : Nat} (hk : k < l.length) (h : rightAt l k = false) : logOk l = false := by rw [logOk, rightTo_bad hk h, Bool.and_false]
theorem logOk_len {l : List Ent} (h : logOk l = true) : l.length ≤ 512 := by rw [logOk, Bool.and_eq_true] at h; simpa using h.1
theorem logOk_big {l : List Ent} (h : 512 < l.length) : logOk l = false := by rw [logOk]; simp; omega
theorem ents_take (l : List Ent) (k : Nat) : ents l = ents (l.take k) ++ ents (l.drop k) := by
 rw [ents, ents, ents, ← List.flatMap_append, List.take_append_drop]
theorem Rd.pre {w : World} {lo hi : Nat} {A : Option Addr} {xs ys : List Value} (h : Rd w lo hi A (xs ++ ys)) : Rd w lo hi A xs := by
 intro hn
 obtain ⟨b, off, h1, h2, h3, h4, h5⟩ := h (by simp [hn])
 refine ⟨b, off, h1, h2, h3, h4, fun j u hu => h5 j u ?_⟩
 rw [List.getElem?_append_left (List.getElem?_eq_some_iff.1 hu).1]; exact hu
theorem Rd.entsTake {w : World} {lo hi : Nat} {A : Option Addr} {l : List Ent} (h : Rd w lo hi A (ents l)) (k : Nat) : Rd w lo hi A (ents (l.take k)) := by
 rw [ents_take l k] at h; exact h.pre
set_option maxRecDepth 100000 in
set_option maxHeartbeats 400000 in
theorem l09Count_c (A : Option Addr) (c lo hi n : Nat) (l : List Ent) (t : ByteArray) (w : World) (hr : Rd w lo hi A (ents l)) (hn : l.length = n) (hl : n ≤ 1048576) :
  Calls Try.prog 143 #[.slice A n c, .string t] w fun e w' => e = .returned (.int .i64 (cnt l t : Nat)) ∧ w = w' := by
 have HN := Lib.hid hn
 clear hn
 go_enter Try.func143, Try.ntmps143
 go_wp2
 go_loop [5, 6] (fun s i => ∃ k : Nat, k ≤ n ∧ i = .int .i64 k ∧ s = .int .i64 (cnt (l.take k) t : Nat)) (fun _ i => n - (intOf i).toNat)
 case atStart => exact ⟨0, Nat.zero_le _, rfl, rfl⟩
 case round =>
  obtain ⟨k, hk, rfl, rfl⟩ := hrel
  by_cases hlt : k < n
  ·obtain ⟨b, off, x, rfl, _, _, hb, hks, hcell⟩ := hr.flat (f := Ent.cells) (m := 5) (fun _ => rfl) (by omega) (k := k) (by rw [HN.out]; exact hlt)
   have hc0 : w.cell? ⟨b, off + k * 5, none⟩ = some (.string x.topic) := hcell 0 _ rfl
   have hle := cnt_take_le l t k
   have HK := Lib.hid hks
   clear hcell hks hr
   by_cases ht : x.topic = t
   ·have HS := Lib.hid (cnt_yes HK.out ht)
    subst ht
    generalize hz : cnt (l.take k) x.topic = z at *
    clear hz
    go_wp2
    go_round
    case rel => exact ⟨k + 1, by omega, by go_num, by rw [HS.out]; go_num⟩
    case measure => simp [intOf]; omega
   ·have HS := Lib.hid (cnt_no HK.out ht)
    have hbq := beq_no ht
    generalize hz : cnt (l.take k) t = z at *
    clear hz
    go_wp2
    go_round
    case rel => exact ⟨k + 1, by omega, by go_num, by rw [HS.out]⟩
    case measure => simp [intOf]; omega
  ·obtain rfl : k = n := by omega
   go_wp2
   go_ret
   exact ⟨ret_int (by rw [← HN.out, List.take_length]), rfl⟩
set_option maxRecDepth 100000 in
set_option maxHeartbeats 400000 in
theorem nextOf_c (A : Option Addr) (c lo hi n : Nat) (l : List Ent) (t : ByteArray) (w : World) (hr : Rd w lo hi A (ents l)) (hn : l.length = n) (hl : n ≤ 1048576) :
  Calls Try.prog 51 #[.agg #[.slice A n c], .string t] w fun e w' => e = .returned (.int .i64 (cnt l t : Nat)) ∧ Below w.heap.size w w' := by
 have HN := Lib.hid hn
 clear hn
 go_enter Try.func51, Try.ntmps51
 go_wp2
 go_loopw [5, 11] (fun s i wr => ∃ k : Nat, k ≤ n ∧ i = .int .i64 k ∧ s = .int .i64 (cnt (l.take k) t : Nat) ∧ Below w.heap.size w wr) (fun _ i _ => n - (intOf i).toNat)
 case atStart => exact ⟨0, Nat.zero_le _, rfl, rfl, (Below.refl _ _).alloc (Nat.le_refl _) _⟩
 case round =>
  obtain ⟨k, hk, rfl, rfl, hb0⟩ := hrel
  by_cases hlt : k < n
  ·obtain ⟨b, off, x, rfl, _, _, hb, hks, hcell⟩ := (hr.below hb0).flat (f := Ent.cells) (m := 5) (fun _ => rfl) (by omega) (k := k) (by rw [HN.out]; exact hlt)
   have hc0 : wr.cell? ⟨b, off + k * 5, none⟩ = some (.string x.topic) := hcell 0 _ rfl
   have hc1 : wr.cell? ⟨b, off + k * 5 + 1, none⟩ = some (.int .i64 x.index) := hcell 1 _ rfl
   have hc2 : wr.cell? ⟨b, off + k * 5 + 2, none⟩ = some (.int .i64 x.time) := hcell 2 _ rfl
   have hc3 : wr.cell? ⟨b, off + k * 5 + 3, none⟩ = some (.string x.key) := hcell 3 _ rfl
   have hc4 : wr.cell? ⟨b, off + k * 5 + 4, none⟩ = some (.string x.body) := hcell 4 _ rfl
   have hle := cnt_take_le l t k
   have HK := Lib.hid hks
   have HB0 := Lib.hid hb0
   clear hcell hks hr hb0
   by_cases ht : x.topic = t
   ·have HS := Lib.hid (cnt_yes HK.out ht)
    subst ht
    generalize hz : cnt (l.take k) x.topic = z at *
    clear hz
    go_wp2
    go_roundw
    case rel => exact ⟨k + 1, by omega, by go_num, by rw [HS.out]; go_num, HB0.out.alloc HB0.out.size _⟩
    case measure => simp [intOf]; omega
   ·have HS := Lib.hid (cnt_no HK.out ht)
    have hbq := beq_no ht
    generalize hz : cnt (l.take k) t = z at *
    clear hz
    go_wp2
    go_roundw
    case rel => exact ⟨k + 1, by omega, by go_num, by rw [HS.out], HB0.out.alloc HB0.out.size _⟩
    case measure => simp [intOf]; omega
  ·obtain rfl : k = n := by omega
   have HB0 := Lib.hid hb0
   clear hb0 hr
   go_wp2
   go_ret
   exact ⟨ret_int (by rw [← HN.out, List.take_length]), HB0.out⟩
end Go.Proofs.Ytoccjgcokffkbaa
namespace Go.Proofs.Ytoccjgcokffkbaa
set_option linter.unusedVariables false
set_option linter.unusedSimpArgs false
open Go.RowKit
theorem cell_setCell_none {w : World} {a b : Addr} {v : Value} (h : w.cell? a = none) : (w.setCell a v).cell? b = w.cell? b := by
 by_cases hab : a = b
 ·subst hab
  rw [h]
  unfold World.cell? at h
  simp only [World.setCell, World.cell?, Array.getElem?_modify, ↓reduceIte]
  split at h
  ·rename_i c e f hb
   rw [hb]
   cases hs : a.spot.isSome with
   | true => simp
   | false =>
     simp only [hs, Bool.false_eq_true, if_false] at h
     simp only [Option.map_some, Bool.false_eq_true, if_false]
     rw [Array.getElem?_eq_none_iff] at h
     rw [Array.getElem?_eq_none_iff, Array.size_setIfInBounds]
     exact h
  ·rename_i hx
   split
   ·rename_i c e f hc
    exfalso
    cases hh : w.heap[a.block]? with
    | none => rw [hh] at hc; cases hc
    | some x =>
      rw [hh] at hc
      cases x with
      | cells c2 e2 f2 => exact hx c2 e2 f2 hh
      | _ => cases hc
   ·rfl
 ·exact World.cell?_setCell_other _ _ _ _ hab
theorem NewBox.set1 {w : World} {k : Nat} {cs : List Value} (h : NewBox w k cs) (o : Nat) (u : Value) : NewBox (w.setCell ⟨k, o, none⟩ u) k (cs.set o u) := by
 by_cases ho : o < cs.length
 ·exact h.set ho u
 ·have hn : w.cell? ⟨k, o, none⟩ = none := (h.2.1 o).trans (List.getElem?_eq_none (by omega))
  rw [List.set_eq_of_length_le (by omega)]
  exact ⟨by simpa [World.setCell] using h.1, fun i => (cell_setCell_none hn).trans (h.2.1 i), fun i => by simpa using h.2.2 i⟩
theorem NewBox.cast {w : World} {k : Nat} {cs cs' : List Value} (h : NewBox w k cs) (e : cs = cs') : NewBox w k cs' := e ▸ h
/-- a store into another block -/
theorem NewBox.far {w : World} {k k' o : Nat} {cs : List Value} (hk : k' ≠ k) (u : Value) (h : NewBox w k cs) : NewBox (w.setCell ⟨k', o, none⟩ u) k cs := h.setCell hk u
end Go.Proofs.Ytoccjgcokffkbaa
namespace Go.Proofs.Ytoccjgcokffkbaa
set_option linter.unusedVariables false
set_option linter.unusedSimpArgs false
open Go.RowKit
def rootOkM (width size : Int) (root : ByteArray) : Bool := inR size 0 512 && decide ((root.size : Int) = width) && (decide (0 < size) || decide (root = emptyT width))
def headOk (width : Int) (h : Hd) : Bool := inR width 1 32 && inR h.num 0 399 && rootOkM width h.size h.root && rootOkM width h.taken h.troot
set_option maxRecDepth 100000 in
set_option maxHeartbeats 400000 in
theorem specHeadOk_c (width : Int) (h : Hd) (w : World) (hz : h.bulk ≤ 1048576) : Calls Try.prog 90 #[.int .i64 width, .agg #[.int .i64 h.num, .int .i64 h.size, .string h.root, .int .i64 h.taken, .string h.troot]] w fun e w' => e = .returned (.bool (headOk width h)) ∧ Below w.heap.size w w' := by
 have hr1 : h.root.size ≤ 1048576 := by unfold Hd.bulk at hz; omega
 have hr2 : h.troot.size ≤ 1048576 := by unfold Hd.bulk at hz; omega
 clear hz
 have hbq := beq_iff (a := h.root) (b := emptyT width)
 have HBQ := Lib.hid hbq
 have hbt := beq_iff (a := h.troot) (b := emptyT width)
 have HBT := Lib.hid hbt
 clear hbq hbt
 have HE := Lib.hid (fun W => specEmptyRoot_c width W)
 have HK : Hid (headOk width h = (inR width 1 32 && inR h.num 0 399 && (inR h.size 0 512 && decide ((h.root.size : Int) = width) && (decide (0 < h.size) || decide (h.root = emptyT width))) && (inR h.taken 0 512 && decide ((h.troot.size : Int) = width) && (decide (0 < h.taken) || decide (h.troot = emptyT width))))) := Lib.hid rfl
 generalize headOk width h = hk at *
 generalize emptyT width = em at *
 generalize inR width 1 32 = q1 at *
 have HB : Hid (Below w.heap.size w w) := Below.refl _ _
 go_enter Try.func90, Try.ntmps90
 go_wp2_with fail
 refine calls_named (fun w1 hw => ?_)
 have hz1 : w.heap.size + 1 ≤ w1.heap.size := by rw [hw]; first | omega | (simp [World.setCell]; done) | (simp [World.setCell]; omega)
 have hzz1 : w.heap.size ≤ w1.heap.size := by omega
 have hbn : Below w.heap.size w w1 := by rw [hw]; exact (by ((repeat (first | ((with_reducible refine Below.alloc ?_ ?_ _); rotate_left 1; (focus (first | omega | (simp; done) | (simp; omega)))) | (with_reducible refine Below.drew ?_) | ((with_reducible refine Below.setCell ?_ ?_ _); rotate_left 1; (focus (first | omega | (simp; done) | (simp; omega)))))); exact Below.refl _ _))
 replace HB := Lib.hid (below_then HB.out hbn HB.out.size)
 clear hbn
 have HXh : Hid (NewBox w1 (w.heap.size) [.int .i64 h.num, .int .i64 h.size, .string h.root, .int .i64 h.taken, .string h.troot]) := by rw [Hid, hw]; exact ⟨by first | omega | (simp [World.setCell]; done) | (simp [World.setCell]; omega), fun o => by rcases o with _ | _ | _ | _ | _ | o <;> go_simp, fun o => by go_simp⟩
 have hxh := HXh.out.2.1
 have hfh := HXh.out.2.2
 have hkh := HXh.out.1
 clear hw
 refine (HE.out _).mono ?_
 rintro e w2 ⟨rfl, hb⟩
 have hzw2 : w1.heap.size ≤ w2.heap.size := hb.size
 have hzzw2 : w.heap.size ≤ w2.heap.size := by omega
 replace HB := Lib.hid (below_then HB.out hb HB.out.size)
 replace HXh := Lib.hid (HXh.out.below hb)
 clear hxh hfh hkh
 have hxh := HXh.out.2.1
 have hfh := HXh.out.2.2
 have hkh := HXh.out.1
 clear hb
 rcases q1 with _ | _
 ·go_wp2
  go_ret
  exact ⟨ret_bool (by rw [HK.out]; rfl), HB.out⟩
 ·go_wp2_with fail
  refine (l01In_c h.num 0 399 _).mono ?_
  rintro e w3_ ⟨rfl, rfl⟩
  generalize inR h.num 0 399 = q2 at *
  rcases q2 with _ | _
  ·go_wp2
   go_ret
   exact ⟨ret_bool (by rw [HK.out]; rfl), HB.out⟩
  ·go_wp2_with fail
   refine (l04Size_c h.size _).mono ?_
   rintro e w4_ ⟨rfl, rfl⟩
   generalize inR h.size 0 512 = q3 at *
   rcases q3 with _ | _
   ·go_wp2
    go_ret
    exact ⟨ret_bool (by rw [HK.out]; rfl), HB.out⟩
   ·go_wp2_with fail
    refine (l04Size_c h.taken _).mono ?_
    rintro e w5_ ⟨rfl, rfl⟩
    generalize inR h.taken 0 512 = q4 at *
    rcases q4 with _ | _
    ·go_wp2
     go_ret
     exact ⟨ret_bool (by rw [HK.out]; simp), HB.out⟩
    ·by_cases hl : (h.root.size : Int) = width
     ·by_cases hl2 : (h.troot.size : Int) = width
      ·have HL := Lib.hid hl
       have hd1 : ((h.root.size : Int) != width) = false := by simp [hl]
       have hd2 : ((h.troot.size : Int) != width) = false := by simp [hl2]
       have HL2 := Lib.hid hl2
       clear hl hl2
       rcases Decidable.em (0 < h.size) with hp1 | hp1 <;> have HP1 := Lib.hid hp1
       ·rcases Decidable.em (0 < h.taken) with hp2 | hp2 <;> have HP2 := Lib.hid hp2
        ·go_wp2
         go_ret
         exact ⟨ret_bool (by rw [HK.out]; simp [HL.out, HL2.out, HP1.out, HP2.out]), HB.out⟩
        ·go_wp2
         go_ret
         exact ⟨ret_bool (by rw [HK.out, HBT.out]; simp [HL.out, HL2.out, HP1.out, HP2.out]), HB.out⟩
       ·rcases Decidable.em (0 < h.taken) with hp2 | hp2 <;> have HP2 := Lib.hid hp2
        ·rcases hc : (h.root.toList == em.toList) with _ | _
         all_goals
          have HC := Lib.hid (HBQ.out.symm.trans hc)
          go_wp2
          go_ret
          exact ⟨ret_bool (by rw [HK.out, HC.out]; simp [HL.out, HL2.out, HP1.out, HP2.out]), HB.out⟩
        ·rcases hc : (h.root.toList == em.toList) with _ | _
         all_goals
          have HC := Lib.hid (HBQ.out.symm.trans hc)
          go_wp2
          go_ret
          exact ⟨ret_bool (by have n1 : ¬ 0 < h.size := by have := HP1.out; omega
                              have n2 : ¬ 0 < h.taken := by have := HP2.out; omega
                              rw [HK.out, HC.out]; first | (rw [HBT.out]; simp [HL.out, HL2.out, n1, n2]) | simp [HL.out, HL2.out, n1, n2]), HB.out⟩
      ·have HL := Lib.hid hl
       have hd1 : ((h.root.size : Int) != width) = false := by simp [hl]
       have hd2 : ((h.troot.size : Int) != width) = true := by simp [hl2]
       clear hl
       go_wp2
       go_ret
       exact ⟨ret_bool (by rw [HK.out]; simp [hl2]), HB.out⟩
     ·have hd1 : ((h.root.size : Int) != width) = true := by simp [hl]
      go_wp2
      go_ret
      exact ⟨ret_bool (by rw [HK.out]; simp [hl]), HB.out⟩
set_option maxRecDepth 100000 in
set_option maxHeartbeats 400000 in
theorem specHeadNew_c (width : Int) (w : World) : Calls Try.prog 62 #[.int .i64 width] w fun e w' => e = .returned (.tuple #[.agg #[.int .i64 0, .int .i64 0, .string (emptyT width), .int .i64 0, .string (emptyT width)], .bool (inR width 1 32)]) ∧ Below w.heap.size w w' := by
 have HN := Lib.hid (fun h => emptyT_no (width := width) h)
 have HE := Lib.hid (fun W => specEmptyRoot_c width W)
 generalize emptyT width = em at *
 generalize inR width 1 32 = q1 at *
 have HB : Hid (Below w.heap.size w w) := Below.refl _ _
 go_enter Try.func62, Try.ntmps62
 go_wp2_with fail
 refine calls_named (fun w1 hw => ?_)
 have hz1 : w.heap.size + 1 ≤ w1.heap.size := by rw [hw]; first | omega | (simp [World.setCell]; done) | (simp [World.setCell]; omega)
 have hzz1 : w.heap.size ≤ w1.heap.size := by omega
 have hbn : Below w.heap.size w w1 := by rw [hw]; exact (by ((repeat (first | ((with_reducible refine Below.alloc ?_ ?_ _); rotate_left 1; (focus (first | omega | (simp; done) | (simp; omega)))) | (with_reducible refine Below.drew ?_) | ((with_reducible refine Below.setCell ?_ ?_ _); rotate_left 1; (focus (first | omega | (simp; done) | (simp; omega)))))); exact Below.refl _ _))
 replace HB := Lib.hid (below_then HB.out hbn HB.out.size)
 clear hbn
 have HXr : Hid (NewBox w1 (w.heap.size) [.int .i64 0, .int .i64 0, .string ⟨#[]⟩, .int .i64 0, .string ⟨#[]⟩]) := by rw [Hid, hw]; exact ⟨by first | omega | (simp [World.setCell]; done) | (simp [World.setCell]; omega), fun o => by rcases o with _ | _ | _ | _ | _ | o <;> go_simp, fun o => by go_simp⟩
 have hxr := HXr.out.2.1
 have hfr := HXr.out.2.2
 have hkr := HXr.out.1
 clear hw
 refine (HE.out _).mono ?_
 rintro e w2 ⟨rfl, hb⟩
 have hzw2 : w1.heap.size ≤ w2.heap.size := hb.size
 have hzzw2 : w.heap.size ≤ w2.heap.size := by omega
 replace HB := Lib.hid (below_then HB.out hb HB.out.size)
 replace HXr := Lib.hid (HXr.out.below hb)
 clear hxr hfr hkr
 have hxr := HXr.out.2.1
 have hfr := HXr.out.2.2
 have hkr := HXr.out.1
 clear hb
 rcases q1 with _ | _
 ·obtain rfl := HN.out rfl
  go_wp2
  refine bodyPost_named (fun w3 hw => ?_)
  have hz3 : w2.heap.size + 0 ≤ w3.heap.size := by rw [hw]; first | omega | (simp [World.setCell]; done) | (simp [World.setCell]; omega)
  have hzz3 : w.heap.size ≤ w3.heap.size := by omega
  replace HB : Hid (Below w.heap.size w w3) := by rw [Hid, hw]; exact (by ((repeat (first | ((with_reducible refine Below.alloc ?_ ?_ _); rotate_left 1; (focus (first | omega | (simp; done) | (simp; omega)))) | (with_reducible refine Below.drew ?_) | ((with_reducible refine Below.setCell ?_ ?_ _); rotate_left 1; (focus (first | omega | (simp; done) | (simp; omega)))))); exact HB.out))
  replace HXr : Hid (NewBox w3 (w.heap.size) [.int .i64 0, .int .i64 0, .string ⟨#[]⟩, .int .i64 0, .string ⟨#[]⟩]) := by rw [Hid, hw]; apply NewBox.cast; (focus ((repeat (first | (with_reducible apply NewBox.alloc) | (with_reducible apply NewBox.drew) | (with_reducible apply NewBox.set1) | ((with_reducible apply NewBox.far); (focus (first | omega | (simp; done) | (simp; omega)))))); exact HXr.out)); rfl
  clear hxr hfr hkr
  have hxr := HXr.out.2.1
  have hfr := HXr.out.2.2
  have hkr := HXr.out.1
  clear hw
  refine bodyPost_ret (v := .tuple #[.agg #[.int .i64 0, .int .i64 0, .string ⟨#[]⟩, .int .i64 0, .string ⟨#[]⟩], .bool false]) (by simp [results, Try.results62, go_sem, hxr]) rfl ?_
  exact ⟨rfl, HB.out⟩
 ·skip
  go_wp2
  refine bodyPost_named (fun w3 hw => ?_)
  have hz3 : w2.heap.size + 0 ≤ w3.heap.size := by rw [hw]; first | omega | (simp [World.setCell]; done) | (simp [World.setCell]; omega)
  have hzz3 : w.heap.size ≤ w3.heap.size := by omega
  replace HB : Hid (Below w.heap.size w w3) := by rw [Hid, hw]; exact (by ((repeat (first | ((with_reducible refine Below.alloc ?_ ?_ _); rotate_left 1; (focus (first | omega | (simp; done) | (simp; omega)))) | (with_reducible refine Below.drew ?_) | ((with_reducible refine Below.setCell ?_ ?_ _); rotate_left 1; (focus (first | omega | (simp; done) | (simp; omega)))))); exact HB.out))
  replace HXr : Hid (NewBox w3 (w.heap.size) [.int .i64 0, .int .i64 0, .string em, .int .i64 0, .string em]) := by rw [Hid, hw]; apply NewBox.cast; (focus ((repeat (first | (with_reducible apply NewBox.alloc) | (with_reducible apply NewBox.drew) | (with_reducible apply NewBox.set1) | ((with_reducible apply NewBox.far); (focus (first | omega | (simp; done) | (simp; omega)))))); exact HXr.out)); rfl
  clear hxr hfr hkr
  have hxr := HXr.out.2.1
  have hfr := HXr.out.2.2
  have hkr := HXr.out.1
  clear hw
  refine bodyPost_ret (v := .tuple #[.agg #[.int .i64 0, .int .i64 0, .string em, .int .i64 0, .string em], .bool true]) (by simp [results, Try.results62, go_sem, hxr]) rfl ?_
  exact ⟨rfl, HB.out⟩
end Go.Proofs.Ytoccjgcokffkbaa
namespace Go.Proofs.Ytoccjgcokffkbaa
set_option linter.unusedVariables false
set_option linter.unusedSimpArgs false
open Go.RowKit
theorem rootOkM_all {width size : Int} {root : ByteArray} (h : rootOkM width size root = true) : 0 ≤ size ∧ size ≤ 512 ∧ (root.size : Int) = width := by
 rw [rootOkM, Bool.and_eq_true, Bool.and_eq_true] at h
 have h1 := inR_true.1 h.1.1
 have h2 := of_decide_eq_true h.1.2
 exact ⟨h1.1, h1.2, h2⟩
theorem headOk_all {width : Int} {h : Hd} (hq : headOk width h = true) : 0 ≤ h.num ∧ h.num ≤ 399 ∧ 0 ≤ h.size ∧ h.size ≤ 512 ∧ 0 ≤ h.taken ∧ h.taken ≤ 512 ∧ h.root.size ≤ 32 ∧ h.troot.size ≤ 32 := by
 rw [headOk, Bool.and_eq_true, Bool.and_eq_true, Bool.and_eq_true] at hq
 have h0 := inR_true.1 hq.1.1.1
 have h1 := inR_true.1 hq.1.1.2
 have h2 := rootOkM_all hq.1.2
 have h3 := rootOkM_all hq.2
 omega
def headTextM (width : Int) (h : Hd) : ByteArray := if headOk width h then pairB h.num ++ pairB h.size ++ h.root ++ pairB h.taken ++ h.troot else ByteArray.empty
theorem headTextM_size (width : Int) (h : Hd) : (headTextM width h).size ≤ 70 := by
 by_cases hq : headOk width h = true
 ·have := headOk_all hq
  rw [headTextM, if_pos hq]
  simp only [ByteArray.size_append, pairB_size]
  omega
 ·rw [headTextM, if_neg hq]; exact Nat.zero_le _
theorem l03Number2_c {n : Int} (w : World) (h0 : 0 ≤ n) (h : n ≤ 100000000) : Calls Try.prog 137 #[.int .i64 n, .int .i64 2] w fun e w' => e = .returned (.string (pairB n)) ∧ Below w.heap.size w w' := by
 have := l03Number_c n 2 w h0 (by omega) (by omega)
 rwa [numUp_2] at this
set_option maxRecDepth 100000 in
set_option maxHeartbeats 400000 in
theorem specHeadText_c (width : Int) (h : Hd) (w : World) (hz : h.bulk ≤ 1048576) : Calls Try.prog 108 #[.int .i64 width, .agg #[.int .i64 h.num, .int .i64 h.size, .string h.root, .int .i64 h.taken, .string h.troot]] w fun e w' => e = .returned (.tuple #[.string (headTextM width h), .bool (headOk width h)]) ∧ Below w.heap.size w w' := by
 have HO := Lib.hid (fun W => specHeadOk_c width h W hz)
 rcases hq : headOk width h with _ | _
 ·have HM : Hid (headTextM width h = ⟨#[]⟩) := by rw [Hid, headTextM, hq]; rfl
  rw [hq] at HO
  clear hq
  have HB : Hid (Below w.heap.size w w) := Below.refl _ _
  go_enter Try.func108, Try.ntmps108
  go_wp2_with fail
  refine calls_named (fun w1 hw => ?_)
  have hz1 : w.heap.size + 1 ≤ w1.heap.size := by rw [hw]; first | omega | (simp [World.setCell]; done) | (simp [World.setCell]; omega)
  have hzz1 : w.heap.size ≤ w1.heap.size := by omega
  have hbn : Below w.heap.size w w1 := by rw [hw]; exact (by ((repeat (first | ((with_reducible refine Below.alloc ?_ ?_ _); rotate_left 1; (focus (first | omega | (simp; done) | (simp; omega)))) | (with_reducible refine Below.drew ?_) | ((with_reducible refine Below.setCell ?_ ?_ _); rotate_left 1; (focus (first | omega | (simp; done) | (simp; omega)))))); exact Below.refl _ _))
  replace HB := Lib.hid (below_then HB.out hbn HB.out.size)
  clear hbn
  have HXh : Hid (NewBox w1 (w.heap.size) [.int .i64 h.num, .int .i64 h.size, .string h.root, .int .i64 h.taken, .string h.troot]) := by rw [Hid, hw]; exact ⟨by first | omega | (simp [World.setCell]; done) | (simp [World.setCell]; omega), fun o => by rcases o with _ | _ | _ | _ | _ | o <;> go_simp, fun o => by go_simp⟩
  have hxh := HXh.out.2.1
  have hfh := HXh.out.2.2
  have hkh := HXh.out.1
  clear hw
  refine (HO.out _).mono ?_
  rintro e w2 ⟨rfl, hb⟩
  have hzw2 : w1.heap.size ≤ w2.heap.size := hb.size
  have hzzw2 : w.heap.size ≤ w2.heap.size := by omega
  replace HB := Lib.hid (below_then HB.out hb HB.out.size)
  replace HXh := Lib.hid (HXh.out.below hb)
  clear hxh hfh hkh
  have hxh := HXh.out.2.1
  have hfh := HXh.out.2.2
  have hkh := HXh.out.1
  clear hb
  go_wp2
  refine bodyPost_ret (v := .tuple #[.string ⟨#[]⟩, .bool false]) (by simp [results, Try.results108, go_sem]) rfl ?_
  exact ⟨by rw [HM.out], HB.out⟩
 ·have hb := headOk_all hq
  obtain ⟨g1, g2, g3, g4, g5, g6, g7, g8⟩ := hb
  have HM : Hid (headTextM width h = pairB h.num ++ pairB h.size ++ h.root ++ pairB h.taken ++ h.troot) := by rw [Hid, headTextM, hq]; rfl
  rw [hq] at HO
  have n1 := Lib.hid (fun W => l03Number2_c (n := h.num) W g1 (by omega))
  have n2 := Lib.hid (fun W => l03Number2_c (n := h.size) W g3 (by omega))
  have n3 := Lib.hid (fun W => l03Number2_c (n := h.taken) W g5 (by omega))
  have e1 := pairB_size h.num
  have e2 := pairB_size h.size
  have e3 := pairB_size h.taken
  clear hq hz
  generalize pairB h.num = p1 at *
  generalize pairB h.size = p2 at *
  generalize pairB h.taken = p3 at *
  obtain ⟨s1, hs1⟩ : ∃ s, s = p1 ++ p2 := ⟨_, rfl⟩
  have c1 := fun W : World => run_string_add_sum (P := Try.prog) W p1 p2 (by omega)
  have z1 : s1.size ≤ 4 := by rw [hs1, ByteArray.size_append]; omega
  rw [← hs1] at c1
  have HS1 := Lib.hid hs1
  clear hs1
  obtain ⟨s2, hs2⟩ : ∃ s, s = s1 ++ h.root := ⟨_, rfl⟩
  have c2 := fun W : World => run_string_add_sum (P := Try.prog) W s1 h.root (by omega)
  have z2 : s2.size ≤ 40 := by rw [hs2, ByteArray.size_append]; omega
  rw [← hs2] at c2
  have HS2 := Lib.hid hs2
  clear hs2
  obtain ⟨s3, hs3⟩ : ∃ s, s = s2 ++ p3 := ⟨_, rfl⟩
  have c3 := fun W : World => run_string_add_sum (P := Try.prog) W s2 p3 (by omega)
  have z3 : s3.size ≤ 50 := by rw [hs3, ByteArray.size_append]; omega
  rw [← hs3] at c3
  have HS3 := Lib.hid hs3
  clear hs3
  obtain ⟨s4, hs4⟩ : ∃ s, s = s3 ++ h.troot := ⟨_, rfl⟩
  have c4 := fun W : World => run_string_add_sum (P := Try.prog) W s3 h.troot (by omega)
  have z4 : s4.size ≤ 90 := by rw [hs4, ByteArray.size_append]; omega
  rw [← hs4] at c4
  have HS4 := Lib.hid hs4
  clear hs4
  have HB : Hid (Below w.heap.size w w) := Below.refl _ _
  go_enter Try.func108, Try.ntmps108
  go_wp2_with fail
  refine calls_named (fun w1 hw => ?_)
  have hz1 : w.heap.size + 1 ≤ w1.heap.size := by rw [hw]; first | omega | (simp [World.setCell]; done) | (simp [World.setCell]; omega)
  have hzz1 : w.heap.size ≤ w1.heap.size := by omega
  have hbn : Below w.heap.size w w1 := by rw [hw]; exact (by ((repeat (first | ((with_reducible refine Below.alloc ?_ ?_ _); rotate_left 1; (focus (first | omega | (simp; done) | (simp; omega)))) | (with_reducible refine Below.drew ?_) | ((with_reducible refine Below.setCell ?_ ?_ _); rotate_left 1; (focus (first | omega | (simp; done) | (simp; omega)))))); exact Below.refl _ _))
  replace HB := Lib.hid (below_then HB.out hbn HB.out.size)
  clear hbn
  have HXh : Hid (NewBox w1 (w.heap.size) [.int .i64 h.num, .int .i64 h.size, .string h.root, .int .i64 h.taken, .string h.troot]) := by rw [Hid, hw]; exact ⟨by first | omega | (simp [World.setCell]; done) | (simp [World.setCell]; omega), fun o => by rcases o with _ | _ | _ | _ | _ | o <;> go_simp, fun o => by go_simp⟩
  have hxh := HXh.out.2.1
  have hfh := HXh.out.2.2
  have hkh := HXh.out.1
  clear hw
  refine (HO.out _).mono ?_
  rintro e w2 ⟨rfl, hb⟩
  have hzw2 : w1.heap.size ≤ w2.heap.size := hb.size
  have hzzw2 : w.heap.size ≤ w2.heap.size := by omega
  replace HB := Lib.hid (below_then HB.out hb HB.out.size)
  replace HXh := Lib.hid (HXh.out.below hb)
  clear hxh hfh hkh
  have hxh := HXh.out.2.1
  have hfh := HXh.out.2.2
  have hkh := HXh.out.1
  clear hb
  have l0 : ∀ v : Later w2, v.v.cell? ⟨w.heap.size, 0, none⟩ = some (.int .i64 h.num) := fun v => (later_cell v _ _ hkh).trans (hxh 0)
  have l1 : ∀ v : Later w2, v.v.cell? ⟨w.heap.size, 1, none⟩ = some (.int .i64 h.size) := fun v => (later_cell v _ _ hkh).trans (hxh 1)
  have l2 : ∀ v : Later w2, v.v.cell? ⟨w.heap.size, 2, none⟩ = some (.string h.root) := fun v => (later_cell v _ _ hkh).trans (hxh 2)
  have l3 : ∀ v : Later w2, v.v.cell? ⟨w.heap.size, 3, none⟩ = some (.int .i64 h.taken) := fun v => (later_cell v _ _ hkh).trans (hxh 3)
  have l4 : ∀ v : Later w2, v.v.cell? ⟨w.heap.size, 4, none⟩ = some (.string h.troot) := fun v => (later_cell v _ _ hkh).trans (hxh 4)
  go_wp2_with fail
  refine wp_region_later (by kernel_rfl) (by kernel_rfl) ?_
  repeat (go_big_quiet_step ((first | with_reducible exact later_call (n1.out _) | with_reducible exact later_call (n2.out _) | with_reducible exact later_call (n3.out _))))
  refine wpQuiet_nil ?_
  intro w9 h9
  have hb9 := later_below h9
  have HB9 := Lib.hid (below_then HB.out hb9 HB.out.size)
  clear l0 l1 l2 l3 l4 h9 hb9 hxh hfh
  go_wp2
  refine bodyPost_ret (v := .tuple #[.string s4, .bool true]) (by simp [results, Try.results108, go_sem]) rfl ?_
  exact ⟨by rw [HM.out, HS4.out, HS3.out, HS2.out, HS1.out], HB9.out⟩
end Go.Proofs.Ytoccjgcokffkbaa
namespace Go.Proofs.Ytoccjgcokffkbaa
set_option linter.unusedVariables false
set_option linter.unusedSimpArgs false
open Go.RowKit
def partedB (s r t u : Bool) : Bool := s && !r || t && !u
def partedM (a b : Hd) : Bool := partedB (a.size == b.size) (a.root.toList == b.root.toList) (a.taken == b.taken) (a.troot.toList == b.troot.toList)
def aheadM (a b : Hd) : Bool := decide (b.num ≤ a.num) || decide (b.size < a.size) || decide (b.taken < a.taken)
def followsM (width : Int) (a b : Hd) : Bool := headOk width a && headOk width b && !aheadM a b && !partedM a b
end Go.Proofs.Ytoccjgcokffkbaa
namespace Go.Proofs.Ytoccjgcokffkbaa
set_option linter.unusedVariables false
set_option linter.unusedSimpArgs false
open Go.RowKit
def headAt (width : Int) (l : List Hd) (i : Nat) : Bool := match l[i]? with
 | some h => (h.num == (i : Int)) && headOk width h && (i == 0 || match l[i - 1]? with | some p => followsM width p h | none => false)
 | none => false
def headsUp (width : Int) (l : List Hd) : Nat → Bool
 | 0 => true
 | k + 1 => headsUp width l k && headAt width l k
def headsOk (width : Int) (l : List Hd) : Bool := inR width 1 32 && decide (l.length ≤ 400) && headsUp width l l.length
theorem headsUp_le {width : Int} {l : List Hd} : ∀ {n k : Nat}, k ≤ n → headsUp width l n = true → headsUp width l k = true
 | 0, k, hk, h => by
   obtain rfl : k = 0 := by omega
   exact h
 | n + 1, k, hk, h => by
   by_cases e : k = n + 1
   ·subst e; exact h
   ·rw [headsUp, Bool.and_eq_true] at h
    exact headsUp_le (by omega) h.1
theorem headAt_0 {width : Int} {l : List Hd} {x : Hd} (hx : l[0]? = some x) : headAt width l 0 = ((x.num == ((0 : Nat) : Int)) && headOk width x) := by
 rw [headAt, hx]; simp
theorem headAt_s {width : Int} {l : List Hd} {x p : Hd} {k q : Nat} (hx : l[k]? = some x) (hp : l[q]? = some p) (hk : k = q + 1) : headAt width l k = ((x.num == (k : Int)) && headOk width x && followsM width p x) := by
 subst hk
 rw [headAt, hx]
 simp [hp]
theorem hd_cells {w : World} {lo hi : Nat} {A : Option Addr} {l : List Hd} (h : Rd w lo hi A (hds l)) {k : Nat} (hk : k < l.length) : ∃ b off x, A = some ⟨b, off, none⟩ ∧ b < w.heap.size ∧ l[k]? = some x ∧
  w.cell? ⟨b, off + k * 5, none⟩ = some (.int .i64 x.num) ∧ w.cell? ⟨b, off + k * 5 + 1, none⟩ = some (.int .i64 x.size) ∧ w.cell? ⟨b, off + k * 5 + 2, none⟩ = some (.string x.root) ∧ w.cell? ⟨b, off + k * 5 + 3, none⟩ = some (.int .i64 x.taken) ∧ w.cell? ⟨b, off + k * 5 + 4, none⟩ = some (.string x.troot) := by
 obtain ⟨b, off, x, h1, _, _, h4, h5, h6⟩ := Rd.flat (f := Hd.cells) (m := 5) (fun _ => rfl) (by omega) h hk
 exact ⟨b, off, x, h1, h4, h5, h6 0 _ rfl, h6 1 _ rfl, h6 2 _ rfl, h6 3 _ rfl, h6 4 _ rfl⟩
end Go.Proofs.Ytoccjgcokffkbaa
namespace Go.Proofs.Ytoccjgcokffkbaa
set_option linter.unusedVariables false
set_option linter.unusedSimpArgs false
open Go.RowKit
theorem entryOk_all {e : Ent} (h : entryOk e = true) : e.topic.size ≤ 20 ∧ 0 ≤ e.index ∧ e.index ≤ 511 ∧ 0 ≤ e.time ∧ e.time ≤ 1000000000 ∧ e.key.size ≤ 40 ∧ e.body.size ≤ 400 := by
 rw [entryOk, Bool.and_eq_true, Bool.and_eq_true, partsOk, Bool.and_eq_true, Bool.and_eq_true, nameOk, Bool.and_eq_true] at h
 have h1 := inR_true.1 h.1.1
 have h2 := inR_true.1 h.2.1
 have h3 := inR_true.1 h.2.2.1
 have h4 := of_decide_eq_true h.2.2.2.1
 have h5 := of_decide_eq_true h.2.2.2.2
 omega
def leafTextB (e : Ent) : ByteArray := ⟨#[69]⟩ ++ shortB e.topic ++ pairB e.index ++ wordText e.time ++ shortB e.key ++ pairB e.body.size ++ e.body
def leafTextM (e : Ent) : ByteArray := if entryOk e then leafTextB e else ByteArray.empty
theorem shortB_size (t : ByteArray) : (shortB t).size = 1 + t.size := by rw [shortB, ByteArray.size_append, octB_size]
theorem leafTextM_size (e : Ent) : (leafTextM e).size ≤ 480 := by
 by_cases h : entryOk e = true
 ·have := entryOk_all h
  rw [leafTextM, if_pos h, leafTextB]
  simp only [ByteArray.size_append, pairB_size, shortB_size, wordText_size]
  rw [show ((⟨#[69]⟩ : ByteArray)).size = 1 from rfl]
  omega
 ·rw [leafTextM, if_neg h]; exact Nat.zero_le _
theorem numUp_4 {n : Int} (h0 : 0 ≤ n) (h : n < 4294967296) : numUp n 4 = wordText n := by
 show octB (n / 256 / 256 / 256) ++ (octB (n / 256 / 256) ++ (octB (n / 256) ++ (octB n ++ ByteArray.empty))) = wordText n
 rw [ByteArray.append_empty]
 have e1 : n / 256 / 256 / 256 % 256 = n / 16777216 := by omega
 have e2 : n / 256 / 256 % 256 = n / 65536 % 256 := by omega
 show strOfNums [n / 256 / 256 / 256 % 256] ++ (strOfNums [n / 256 / 256 % 256] ++ (strOfNums [n / 256 % 256] ++ strOfNums [n % 256])) = strOfNums [n / 16777216, n / 65536 % 256, n / 256 % 256, n % 256]
 rw [e1, e2]
 rfl
theorem l03Number4_c {n : Int} (w : World) (h0 : 0 ≤ n) (h : n ≤ 1000000000) : Calls Try.prog 137 #[.int .i64 n, .int .i64 4] w fun e w' => e = .returned (.string (wordText n)) ∧ Below w.heap.size w w' := by
 have := l03Number_c n 4 w h0 (by omega) (by omega)
 rwa [numUp_4 h0 (by omega)] at this
def leafHashM (width : Int) (e : Ent) : ByteArray := if entryOk e = true then digM width 0 (leafTextM e) else ⟨#[]⟩
def leafHashOk (width : Int) (e : Ent) : Bool := entryOk e && digOk width 0 (leafTextM e)
set_option maxRecDepth 100000 in
set_option maxHeartbeats 4000000 in
theorem specLeafText_c (e : Ent) (w : World) (hf : e.fits) : Calls Try.prog 116 #[.agg #[.string e.topic, .int .i64 e.index, .int .i64 e.time, .string e.key, .string e.body]] w fun r w' => r = .returned (.tuple #[.string (leafTextM e), .bool (entryOk e)]) ∧ Below w.heap.size w w' := by
 have HO := Lib.hid (fun W => specEntryOk_c e W hf)
 rcases hq : entryOk e with _ | _
 ·have HM : Hid (leafTextM e = ⟨#[]⟩) := by rw [Hid, leafTextM, hq]; rfl
  rw [hq] at HO
  clear hq
  have HB : Hid (Below w.heap.size w w) := Below.refl _ _
  go_enter Try.func116, Try.ntmps116
  go_wp2_with fail
  refine calls_named (fun w1 hw => ?_)
  have hz1 : w.heap.size + 1 ≤ w1.heap.size := by rw [hw]; first | omega | (simp [World.setCell]; done) | (simp [World.setCell]; omega)
  have hzz1 : w.heap.size ≤ w1.heap.size := by omega
  have hbn : Below w.heap.size w w1 := by rw [hw]; exact (by ((repeat (first | ((with_reducible refine Below.alloc ?_ ?_ _); rotate_left 1; (focus (first | omega | (simp; done) | (simp; omega)))) | (with_reducible refine Below.drew ?_) | ((with_reducible refine Below.setCell ?_ ?_ _); rotate_left 1; (focus (first | omega | (simp; done) | (simp; omega)))))); exact Below.refl _ _))
  replace HB := Lib.hid (below_then HB.out hbn HB.out.size)
  clear hbn
  have HXh : Hid (NewBox w1 (w.heap.size) [.string e.topic, .int .i64 e.index, .int .i64 e.time, .string e.key, .string e.body]) := by rw [Hid, hw]; exact ⟨by first | omega | (simp [World.setCell]; done) | (simp [World.setCell]; omega), fun o => by rcases o with _ | _ | _ | _ | _ | o <;> go_simp, fun o => by go_simp⟩
  have hxh := HXh.out.2.1
  have hfh := HXh.out.2.2
  have hkh := HXh.out.1
  clear hw
  refine (HO.out _).mono ?_
  rintro e w2 ⟨rfl, hb⟩
  have hzw2 : w1.heap.size ≤ w2.heap.size := hb.size
  have hzzw2 : w.heap.size ≤ w2.heap.size := by omega
  replace HB := Lib.hid (below_then HB.out hb HB.out.size)
  replace HXh := Lib.hid (HXh.out.below hb)
  clear hxh hfh hkh
  have hxh := HXh.out.2.1
  have hfh := HXh.out.2.2
  have hkh := HXh.out.1
  clear hb
  go_wp2
  refine bodyPost_ret (v := .tuple #[.string ⟨#[]⟩, .bool false]) (by simp [results, Try.results116, go_sem]) rfl ?_
  exact ⟨by rw [HM.out], HB.out⟩
 ·obtain ⟨g1, g2, g3, g4, g5, g6, g7⟩ := entryOk_all hq
  have HM : Hid (leafTextM e = ⟨#[69]⟩ ++ shortB e.topic ++ pairB e.index ++ wordText e.time ++ shortB e.key ++ pairB e.body.size ++ e.body) := by rw [Hid, leafTextM, hq]; rfl
  rw [hq] at HO
  have n1 := Lib.hid (fun W => l03Short_c e.topic W (by omega))
  have n2 := Lib.hid (fun W => l03Number2_c (n := e.index) W g2 (by omega))
  have n3 := Lib.hid (fun W => l03Number4_c (n := e.time) W g4 g5)
  have n4 := Lib.hid (fun W => l03Short_c e.key W (by omega))
  have n5 := Lib.hid (fun W => l03Number2_c (n := (e.body.size : Nat)) W (by omega) (by omega))
  have e1 := shortB_size e.topic
  have e2 := pairB_size e.index
  have e3 := wordText_size e.time
  have e4 := shortB_size e.key
  have e5 := pairB_size e.body.size
  have e0 : ((⟨#[69]⟩ : ByteArray)).size = 1 := rfl
  clear hq hf
  generalize shortB e.topic = p1 at *
  generalize pairB e.index = p2 at *
  generalize wordText e.time = p3 at *
  generalize shortB e.key = p4 at *
  generalize pairB e.body.size = p5 at *
  obtain ⟨s1, hs1⟩ : ∃ s, s = ⟨#[69]⟩ ++ p1 := ⟨_, rfl⟩
  have c1 := fun W : World => run_string_add_sum (P := Try.prog) W ⟨#[69]⟩ p1 (by omega)
  have z1 : s1.size ≤ 22 := by rw [hs1, ByteArray.size_append]; omega
  rw [← hs1] at c1
  have HS1 := Lib.hid hs1
  clear hs1
  obtain ⟨s2, hs2⟩ : ∃ s, s = s1 ++ p2 := ⟨_, rfl⟩
  have c2 := fun W : World => run_string_add_sum (P := Try.prog) W s1 p2 (by omega)
  have z2 : s2.size ≤ 24 := by rw [hs2, ByteArray.size_append]; omega
  rw [← hs2] at c2
  have HS2 := Lib.hid hs2
  clear hs2
  obtain ⟨s3, hs3⟩ : ∃ s, s = s2 ++ p3 := ⟨_, rfl⟩
  have c3 := fun W : World => run_string_add_sum (P := Try.prog) W s2 p3 (by omega)
  have z3 : s3.size ≤ 28 := by rw [hs3, ByteArray.size_append]; omega
  rw [← hs3] at c3
  have HS3 := Lib.hid hs3
  clear hs3
  obtain ⟨s4, hs4⟩ : ∃ s, s = s3 ++ p4 := ⟨_, rfl⟩
  have c4 := fun W : World => run_string_add_sum (P := Try.prog) W s3 p4 (by omega)
  have z4 : s4.size ≤ 80 := by rw [hs4, ByteArray.size_append]; omega
  rw [← hs4] at c4
  have HS4 := Lib.hid hs4
  clear hs4
  obtain ⟨s5, hs5⟩ : ∃ s, s = s4 ++ p5 := ⟨_, rfl⟩
  have c5 := fun W : World => run_string_add_sum (P := Try.prog) W s4 p5 (by omega)
  have z5 : s5.size ≤ 90 := by rw [hs5, ByteArray.size_append]; omega
  rw [← hs5] at c5
  have HS5 := Lib.hid hs5
  clear hs5
  obtain ⟨s6, hs6⟩ : ∃ s, s = s5 ++ e.body := ⟨_, rfl⟩
  have c6 := fun W : World => run_string_add_sum (P := Try.prog) W s5 e.body (by omega)
  have z6 : s6.size ≤ 500 := by rw [hs6, ByteArray.size_append]; omega
  rw [← hs6] at c6
  have HS6 := Lib.hid hs6
  clear hs6
  have HB : Hid (Below w.heap.size w w) := Below.refl _ _
  go_enter Try.func116, Try.ntmps116
  go_wp2_with fail
  refine calls_named (fun w1 hw => ?_)
  have hz1 : w.heap.size + 1 ≤ w1.heap.size := by rw [hw]; first | omega | (simp [World.setCell]; done) | (simp [World.setCell]; omega)
  have hzz1 : w.heap.size ≤ w1.heap.size := by omega
  have hbn : Below w.heap.size w w1 := by rw [hw]; exact (by ((repeat (first | ((with_reducible refine Below.alloc ?_ ?_ _); rotate_left 1; (focus (first | omega | (simp; done) | (simp; omega)))) | (with_reducible refine Below.drew ?_) | ((with_reducible refine Below.setCell ?_ ?_ _); rotate_left 1; (focus (first | omega | (simp; done) | (simp; omega)))))); exact Below.refl _ _))
  replace HB := Lib.hid (below_then HB.out hbn HB.out.size)
  clear hbn
  have HXh : Hid (NewBox w1 (w.heap.size) [.string e.topic, .int .i64 e.index, .int .i64 e.time, .string e.key, .string e.body]) := by rw [Hid, hw]; exact ⟨by first | omega | (simp [World.setCell]; done) | (simp [World.setCell]; omega), fun o => by rcases o with _ | _ | _ | _ | _ | o <;> go_simp, fun o => by go_simp⟩
  have hxh := HXh.out.2.1
  have hfh := HXh.out.2.2
  have hkh := HXh.out.1
  clear hw
  refine (HO.out _).mono ?_
  rintro e w2 ⟨rfl, hb⟩
  have hzw2 : w1.heap.size ≤ w2.heap.size := hb.size
  have hzzw2 : w.heap.size ≤ w2.heap.size := by omega
  replace HB := Lib.hid (below_then HB.out hb HB.out.size)
  replace HXh := Lib.hid (HXh.out.below hb)
  clear hxh hfh hkh
  have hxh := HXh.out.2.1
  have hfh := HXh.out.2.2
  have hkh := HXh.out.1
  clear hb
  have l0 : ∀ v : Later w2, v.v.cell? ⟨w.heap.size, 0, none⟩ = some (.string e.topic) := fun v => (later_cell v _ _ hkh).trans (hxh 0)
  have l1 : ∀ v : Later w2, v.v.cell? ⟨w.heap.size, 1, none⟩ = some (.int .i64 e.index) := fun v => (later_cell v _ _ hkh).trans (hxh 1)
  have l2 : ∀ v : Later w2, v.v.cell? ⟨w.heap.size, 2, none⟩ = some (.int .i64 e.time) := fun v => (later_cell v _ _ hkh).trans (hxh 2)
  have l3 : ∀ v : Later w2, v.v.cell? ⟨w.heap.size, 3, none⟩ = some (.string e.key) := fun v => (later_cell v _ _ hkh).trans (hxh 3)
  have l4 : ∀ v : Later w2, v.v.cell? ⟨w.heap.size, 4, none⟩ = some (.string e.body) := fun v => (later_cell v _ _ hkh).trans (hxh 4)
  go_wp2_with fail
  refine wp_region_later (by kernel_rfl) (by kernel_rfl) ?_
  repeat (go_big_quiet_step ((first | with_reducible exact later_call (n1.out _) | with_reducible exact later_call (n2.out _) | with_reducible exact later_call (n3.out _) | with_reducible exact later_call (n4.out _) | with_reducible exact later_call (n5.out _))))
  refine wpQuiet_nil ?_
  intro w8 h8
  have hb8 := later_below h8
  have HB8 := Lib.hid (below_then HB.out hb8 HB.out.size)
  clear l0 l1 l2 l3 l4 h8 hb8
  go_wp2
  refine bodyPost_ret (v := .tuple #[.string s6, .bool true]) (by simp [results, Try.results116, go_sem]) rfl ?_
  exact ⟨by rw [HM.out, HS6.out, HS5.out, HS4.out, HS3.out, HS2.out, HS1.out], HB8.out⟩
set_option maxRecDepth 100000 in
set_option maxHeartbeats 400000 in
theorem specLeafHash_c (width : Int) (e : Ent) (w : World) (hf : e.fits) : Calls Try.prog 135 #[.int .i64 width, .agg #[.string e.topic, .int .i64 e.index, .int .i64 e.time, .string e.key, .string e.body]] w fun r w' => r = .returned (.tuple #[.string (leafHashM width e), .bool (leafHashOk width e)]) ∧ Below w.heap.size w w' := by
 have HO := Lib.hid (fun W => specLeafText_c e W hf)
 have HD := Lib.hid (fun W => specDigest_c width 0 (leafTextM e) W (by have := leafTextM_size e; unfold maxLen; omega))
 have HB1 : Hid (leafHashM width e = if entryOk e = true then digM width 0 (leafTextM e) else ⟨#[]⟩) := Lib.hid rfl
 have HB2 : Hid (leafHashOk width e = (entryOk e && digOk width 0 (leafTextM e))) := Lib.hid rfl
 clear hf
 generalize entryOk e = q at *
 generalize leafTextM e = tx at *
 generalize leafHashM width e = lh at *
 generalize leafHashOk width e = lo at *
 generalize digM width 0 tx = dg at *
 generalize digOk width 0 tx = dk at *
 have HB : Hid (Below w.heap.size w w) := Below.refl _ _
 go_enter Try.func135, Try.ntmps135
 go_wp2_with fail
 refine calls_named (fun w1 hw => ?_)
 have hz1 : w.heap.size + 1 ≤ w1.heap.size := by rw [hw]; first | omega | (simp [World.setCell]; done) | (simp [World.setCell]; omega)
 have hzz1 : w.heap.size ≤ w1.heap.size := by omega
 have hbn : Below w.heap.size w w1 := by rw [hw]; exact (by ((repeat (first | ((with_reducible refine Below.alloc ?_ ?_ _); rotate_left 1; (focus (first | omega | (simp; done) | (simp; omega)))) | (with_reducible refine Below.drew ?_) | ((with_reducible refine Below.setCell ?_ ?_ _); rotate_left 1; (focus (first | omega | (simp; done) | (simp; omega)))))); exact Below.refl _ _))
 replace HB := Lib.hid (below_then HB.out hbn HB.out.size)
 clear hbn
 have HXh : Hid (NewBox w1 (w.heap.size) [.string e.topic, .int .i64 e.index, .int .i64 e.time, .string e.key, .string e.body]) := by rw [Hid, hw]; exact ⟨by first | omega | (simp [World.setCell]; done) | (simp [World.setCell]; omega), fun o => by rcases o with _ | _ | _ | _ | _ | o <;> go_simp, fun o => by go_simp⟩
 have hxh := HXh.out.2.1
 have hfh := HXh.out.2.2
 have hkh := HXh.out.1
 clear hw
 refine (HO.out _).mono ?_
 rintro e w2 ⟨rfl, hb⟩
 have hzw2 : w1.heap.size ≤ w2.heap.size := hb.size
 have hzzw2 : w.heap.size ≤ w2.heap.size := by omega
 replace HB := Lib.hid (below_then HB.out hb HB.out.size)
 replace HXh := Lib.hid (HXh.out.below hb)
 clear hxh hfh hkh
 have hxh := HXh.out.2.1
 have hfh := HXh.out.2.2
 have hkh := HXh.out.1
 clear hb
 rcases q with _ | _
 ·go_wp2
  refine bodyPost_ret (v := .tuple #[.string ⟨#[]⟩, .bool false]) (by simp [results, Try.results135, go_sem]) rfl ?_
  exact ⟨by rw [HB1.out, HB2.out]; rfl, HB.out⟩
 ·go_wp2_with fail
  refine calls_named (fun w3 hw => ?_)
  have hz3 : w2.heap.size + 0 ≤ w3.heap.size := by rw [hw]; first | omega | (simp [World.setCell]; done) | (simp [World.setCell]; omega)
  have hzz3 : w.heap.size ≤ w3.heap.size := by omega
  have hbn : Below w2.heap.size w2 w3 := by rw [hw]; exact (by ((repeat (first | ((with_reducible refine Below.alloc ?_ ?_ _); rotate_left 1; (focus (first | omega | (simp; done) | (simp; omega)))) | (with_reducible refine Below.drew ?_) | ((with_reducible refine Below.setCell ?_ ?_ _); rotate_left 1; (focus (first | omega | (simp; done) | (simp; omega)))))); exact Below.refl _ _))
  replace HB := Lib.hid (below_then HB.out hbn HB.out.size)
  replace HXh := Lib.hid (HXh.out.below hbn)
  clear hxh hfh hkh
  have hxh := HXh.out.2.1
  have hfh := HXh.out.2.2
  have hkh := HXh.out.1
  clear hbn
  clear hw
  refine (HD.out _).mono ?_
  rintro e w4 ⟨rfl, hb⟩
  have hzw4 : w3.heap.size ≤ w4.heap.size := hb.size
  have hzzw4 : w.heap.size ≤ w4.heap.size := by omega
  replace HB := Lib.hid (below_then HB.out hb HB.out.size)
  replace HXh := Lib.hid (HXh.out.below hb)
  clear hxh hfh hkh
  have hxh := HXh.out.2.1
  have hfh := HXh.out.2.2
  have hkh := HXh.out.1
  clear hb
  go_wp2
  refine bodyPost_ret (v := .tuple #[.string dg, .bool dk]) (by simp [results, Try.results135, go_sem]) rfl ?_
  exact ⟨by rw [HB1.out, HB2.out]; rfl, HB.out⟩
end Go.Proofs.Ytoccjgcokffkbaa
namespace Go.Proofs.Ytoccjgcokffkbaa
set_option linter.unusedVariables false
set_option linter.unusedSimpArgs false
open Go.RowKit Go.Maps Go.WideMaps
theorem strLaw : Keyed Try.prog 9 := string_keyed Try.underlying9
theorem zeroInt (w : World) : (zeroValue 3).run Try.prog w = .ok (.int .i64 0) w := by kernel_rfl
/-- the map reads as the counts of the first k entries -/
def Counts (l : List Ent) (k : Nat) (D : DataW Unit) : Prop :=
 Maps.IsMap D ∧ ∀ t : ByteArray, D.atKey (.string t.data.toList) (.lit (.int .i64 0)) = .lit (.int .i64 (cnt (l.take k) t : Nat))
theorem counts_0 (l : List Ent) : Counts l 0 (.map []) := ⟨Maps.isMap_empty, fun t => rfl⟩
theorem counts_succ {l : List Ent} {k : Nat} {D : DataW Unit} {e : Ent} (h : Counts l k D) (he : l[k]? = some e) : Counts l (k + 1) (D.put (.string e.topic.data.toList) (.lit (.int .i64 ((cnt (l.take k) e.topic : Nat) + 1)))) := by
 refine ⟨h.1.put _ _, fun t => ?_⟩
 by_cases ht : e.topic = t
 ·rw [← ht, Maps.atKey_put_same (k := .string e.topic.data.toList) h.1 (show WideAt.IsKeyLit (.string _) from trivial), cnt_yes he rfl]; rfl
 ·rw [Maps.atKey_put_other (fun e1 => ht (ByteArray.ext (Array.toList_inj.1 (Lit.string.inj e1).symm))), h.2 t, cnt_no he ht]
theorem ownsMap_below {w w' : World} {P : Program} {k : TypeId} {R : Value → Option (DataW Unit × List MemPlace)} {b n : Nat} {D : DataW Unit} (h : w.ownsMap P k R b n D) (hb : Below w.heap.size w w') : w'.ownsMap P k R b n D :=
 h.kept (row := none) ⟨hb.os, hb.tape, hb.output, hb.size, fun i hi _ => hb.block i hi⟩ (by simp)
set_option maxRecDepth 100000 in
set_option maxHeartbeats 400000 in
theorem implLogOk_c (A : Option Addr) (c lo hi n : Nat) (l : List Ent) (w : World) (hr : Rd w lo hi A (ents l)) (hn : l.length = n) (hl : n ≤ 1048576) (hf : ∀ x ∈ l, x.fits) :
  Calls Try.prog 18 #[.agg #[.slice A n c]] w fun e w' => e = .returned (.bool (logOk l)) ∧ Below w.heap.size w w' := by
 have HN := Lib.hid hn
 have HF := Lib.hid hf
 clear hn hf
 have hmm := @run_makeMap Try.prog
 go_enter Try.func18, Try.ntmps18
 rcases (show n ≤ 512 ∨ 512 < n by omega) with h5 | h5
 ·go_wp2
  go_loopw [14] (fun i wr => ∃ (k : Nat) (D : DataW Unit), k ≤ n ∧ i = .int .i64 k ∧ rightTo l k = true ∧ Counts l k D ∧ wr.ownsMap Try.prog 9 (plainElem Try.prog 3) (w.heap.size + 1) k D ∧ Below w.heap.size w wr) (fun i _ => n - (intOf i).toNat)
  case atStart => exact ⟨0, _, Nat.zero_le _, rfl, rfl, counts_0 l, by have := World.ownsMap_made (H := Unit) (w.alloc (.cells #[.slice A n c] 42)) Try.prog 9 (plainElem Try.prog 3); simpa using this, ((Below.refl _ _).alloc (Nat.le_refl _) _).alloc (by first | omega | (simp; done) | (simp; omega)) _⟩
  case round =>
   obtain ⟨k, D, hk, rfl, hrt, hct, hown, hb0⟩ := hrel
   have HRT := Lib.hid hrt
   have HCT := Lib.hid hct
   clear hrt hct
   by_cases hlt : k < n
   ·obtain ⟨b, off, x, rfl, _, _, hb, hks, hcell⟩ := (hr.below hb0).flat (f := Ent.cells) (m := 5) (fun _ => rfl) (by omega) (k := k) (by rw [HN.out]; exact hlt)
    have hc0 : wr.cell? ⟨b, off + k * 5, none⟩ = some (.string x.topic) := hcell 0 _ rfl
    have hc1 : wr.cell? ⟨b, off + k * 5 + 1, none⟩ = some (.int .i64 x.index) := hcell 1 _ rfl
    have hc2 : wr.cell? ⟨b, off + k * 5 + 2, none⟩ = some (.int .i64 x.time) := hcell 2 _ rfl
    have hc3 : wr.cell? ⟨b, off + k * 5 + 3, none⟩ = some (.string x.key) := hcell 3 _ rfl
    have hc4 : wr.cell? ⟨b, off + k * 5 + 4, none⟩ = some (.string x.body) := hcell 4 _ rfl
    have HK := Lib.hid hks
    have HB0 := Lib.hid hb0
    have HO := Lib.hid hown
    have HX := Lib.hid (HF.out x (List.mem_of_getElem? hks))
    have hle := cnt_take_le l x.topic k
    clear hcell hks hr hb0 hown
    go_wp2_with fail
    refine (implEntryOk_c x _ HX.out).mono ?_
    rintro e w2 ⟨rfl, hb2⟩
    have hd0 : w2.cell? ⟨wr.heap.size, 0, none⟩ = some (.string x.topic) := cell_later hb2 (by go_simp)
    have hd1 : w2.cell? ⟨wr.heap.size, 1, none⟩ = some (.int .i64 x.index) := cell_later hb2 (by go_simp)
    have hq2 : wr.heap.size < w2.heap.size := by have := hb2.size; simp at this; omega
    have HB2 : Hid (Below w.heap.size w w2) := below_then (HB0.out.alloc HB0.out.size _) hb2 (by have := HB0.out.size; simp; omega)
    have hown2 := ownsMap_below (HO.out.alloc _) hb2
    clear hb2 hc0 hc1 hc2 hc3 hc4
    rcases h1 : entryOk x with _ | _
    ·clear hown2
     go_wp2
     go_ret
     exact ⟨ret_bool (logOk_bad (by rw [HN.out]; exact hlt) (by rw [rightAt_eq HK.out, h1]; rfl)).symm, HB2.out⟩
    ·have H1 := Lib.hid h1
     clear h1
     obtain ⟨tp, htp⟩ : ∃ tp, tp = x.topic := ⟨_, rfl⟩
     have hkey : keyOf Try.prog 9 (.string x.topic) = some (.string x.topic.data.toList) := keyOf_string_mk Try.underlying9 HX.out.2.2.1
     obtain ⟨z, hrun, hat, hwz⟩ := hown2.lookup_int strLaw Try.underlying97 Try.underlying3 (zeroInt _) hkey
     have hzc : z = (cnt (l.take k) x.topic : Nat) := by
      have := (HCT.out.2 x.topic).symm.trans hat
      injection this with this
      injection this with _ this
      exact this.symm
     subst hzc
     have HAT := Lib.hid hat
     clear hat htp
     rcases (show ((cnt (l.take k) x.topic : Nat) : Int) = x.index ∨ ((cnt (l.take k) x.topic : Nat) : Int) ≠ x.index by omega) with h6 | h6
     ·have hbq : (x.index != ((cnt (l.take k) x.topic : Nat) : Int)) = false := by simp [h6]
      have HR1 : Hid (rightTo l (k + 1) = true) := by rw [Hid, rightTo_succ, HRT.out, rightAt_eq HK.out, H1.out]; simp [h6]
      have hc6 := counts_succ HCT.out HK.out
      rw [h6] at hc6
      have HC1 := Lib.hid hc6
      clear hc6
      have hub : x.index ≤ 512 := by omega
      have hlb : 0 ≤ x.index := by omega
      generalize hgz : cnt (l.take k) x.topic = y at *
      go_wp2_with (first
       | (at_mapUpdate; go_loud (refine wpList_mapUpdate_own _ rfl _ _ _ 97 rfl 9 3 strLaw Try.underlying97 _ (w.heap.size + 1) k _ rfl hown2 (by unfold maxLen; omega) _ _ _ rfl rfl hkey _ [] (plainElem_int Try.underlying3 (WalkArith.wf_i64 (by omega))) ?_))
       | go_in)
      intro w3 hown3 hgrow3
      have HB3 := Lib.hid (HB2.out.grown hgrow3 HB2.out.size (fun j hj => by cases hj; omega))
      clear hgrow3 hown2 hrun hkey
      go_wp2
      go_roundw
      case rel => exact ⟨k + 1, _, by omega, by go_num, HR1.out, HC1.out, hown3, HB3.out⟩
      case measure => simp [intOf]; omega
     ·have hbq : (x.index != ((cnt (l.take k) x.topic : Nat) : Int)) = true := by simp [bne_iff_ne]; omega
      generalize hgz : cnt (l.take k) x.topic = y at *
      clear hown2
      go_wp2
      go_ret
      exact ⟨ret_bool (logOk_bad (by rw [HN.out]; exact hlt) (by rw [rightAt_eq HK.out, H1.out, hgz]; simp [h6])).symm, HB2.out⟩
   ·obtain rfl : k = n := by omega
    have HB0 := Lib.hid hb0
    clear hb0 hr hown
    go_wp2
    go_ret
    exact ⟨ret_bool (by rw [logOk, HN.out, HRT.out]; simp [h5]), HB0.out⟩
 ·go_wp2
  go_ret
  exact ⟨ret_bool (logOk_big (by rw [HN.out]; exact h5)).symm, (Below.refl _ _).alloc (Nat.le_refl _) _⟩
end Go.Proofs.Ytoccjgcokffkbaa
namespace Go.Proofs.Ytoccjgcokffkbaa
set_option linter.unusedVariables false
set_option linter.unusedSimpArgs false
open Go.RowKit
theorem strs_app (a b : List ByteArray) : strs (a ++ b) = strs a ++ strs b := by simp [strs]
theorem ent_cells {w : World} {lo hi : Nat} {A : Option Addr} {l : List Ent} (h : Rd w lo hi A (ents l)) {k : Nat} (hk : k < l.length) : ∃ b off x, A = some ⟨b, off, none⟩ ∧ b < w.heap.size ∧ l[k]? = some x ∧
  w.cell? ⟨b, off + k * 5, none⟩ = some (.string x.topic) ∧ w.cell? ⟨b, off + k * 5 + 1, none⟩ = some (.int .i64 x.index) ∧ w.cell? ⟨b, off + k * 5 + 2, none⟩ = some (.int .i64 x.time) ∧ w.cell? ⟨b, off + k * 5 + 3, none⟩ = some (.string x.key) ∧ w.cell? ⟨b, off + k * 5 + 4, none⟩ = some (.string x.body) := by
 obtain ⟨b, off, x, h1, _, _, h4, h5, h6⟩ := Rd.flat (f := Ent.cells) (m := 5) (fun _ => rfl) (by omega) h hk
 exact ⟨b, off, x, h1, h4, h5, h6 0 _ rfl, h6 1 _ rfl, h6 2 _ rfl, h6 3 _ rfl, h6 4 _ rfl⟩
set_option maxRecDepth 100000 in
set_option maxHeartbeats 4000000 in
theorem l09Hashes_c (width : Int) (A : Option Addr) (c lo hi n : Nat) (l : List Ent) (w : World) (hr : Rd w lo hi A (ents l)) (hn : l.length = n) (hl : n ≤ 1048576) (hf : ∀ x ∈ l, x.fits) :
  Calls Try.prog 106 #[.int .i64 width, .slice A n c] w fun e w' => ∃ A' c', e = .returned (.slice A' n c') ∧ w'.ownsRow w.heap.size 9 1 (.slice A' n c') n (strs (l.map (leafHashM width))) ∧ Below w.heap.size w w' := by
 have HN := Lib.hid hn
 have HR := Lib.hid hr
 have HF := Lib.hid hf
 obtain ⟨L, hL⟩ : ∃ L, L = l.map (leafHashM width) := ⟨_, rfl⟩
 have HLL := Lib.hid hL
 rw [← hL]
 have hrow := row_made w 9 0
 have hbl : Below w.heap.size w (w.alloc (.cells #[] 9)) := (Below.refl _ _).alloc (Nat.le_refl _) _
 have HROW := Lib.hid hrow
 have HBL := Lib.hid hbl
 clear hn hr hf hL hrow hbl
 go_enter Try.func106, Try.ntmps106
 go_wp2
 go_loopw [5, 6] (fun v i wx => ∃ (k : Nat) (A0 : Option Addr) (c0 : Nat), k ≤ n ∧ i = .int .i64 k ∧ v = .slice A0 k c0 ∧ wx.ownsRow w.heap.size 9 1 (.slice A0 k c0) k (strs (L.take k)) ∧ Below w.heap.size w wx ) (fun _ i _ => n - (intOf i).toNat)
 case atStart => exact ⟨0, _, 0, Nat.zero_le _, rfl, rfl, HROW.out, HBL.out⟩
 case round =>
  obtain ⟨k, A0, c0, hk, rfl, rfl, how, hbr⟩ := hrel
  have HBR := Lib.hid hbr
  have HOW := Lib.hid how
  clear hbr how
  by_cases hlt : k < n
  ·skip
   obtain ⟨b, off, x, rfl, hb, hx, hc⟩ := ent_cells (HR.out.below HBR.out) (k := k) (by rw [HN.out]; exact hlt)
   have hc0 := hc.1
   have hc1 := hc.2.1
   have hc2 := hc.2.2.1
   have hc3 := hc.2.2.2.1
   have hc4 := hc.2.2.2.2
   have HT : Hid (L.take (k + 1) = L.take k ++ [leafHashM width x]) := Lib.hid (take_succ (by rw [HLL.out, List.getElem?_map, hx]; rfl))
   have HLH := Lib.hid (fun W => specLeafHash_c width x W (HF.out x (List.mem_of_getElem? hx)))
   have hI : (k : Int) < n := by omega
   clear hc hx
   generalize leafHashM width x = lh at *
   generalize leafHashOk width x = lk at *
   go_wp2_with fail
   refine (HLH.out _).mono ?_
   rintro e w1 ⟨rfl, hb1⟩
   have HB1 := Lib.hid (below_then HBR.out hb1 (by first | exact HBR.out.size | (have := HBR.out.size; simp; omega)))
   have HO1 := Lib.hid (row_below HOW.out hb1)
   have hz1 := HB1.out.size
   clear hb1 HOW hc0 hc1 hc2 hc3 hc4
   go_wp2_with (at_builtin; refine app1Str rfl _ _ rfl w.heap.size _ _ _ rfl (HO1.out.alloc _) w1.heap.size lh rfl (NewBox.new w1 _ _) (by omega) (by first | omega | (simp; done) | (simp; omega)) ?_)
   intro v2 w2 hown2 hg2
   have hon := grown_only (HO1.out.alloc _) hg2
   obtain ⟨A2, c2, rfl, _, _, _⟩ := ownsRow_slice hown2
   have HB2 : Hid (Below w.heap.size w w2) := below_only (HB1.out.alloc HB1.out.size _) hon (Nat.le_refl _) (by simp; omega)
   rw [← strs_app, ← HT.out] at hown2
   have HO2 := Lib.hid hown2
   clear hown2 hg2 hon HO1
   go_wp2
   go_roundw
   case measure => simp [intOf]; omega
   case rel => exact ⟨k + 1, A2, c2, by omega, by go_num, rfl, HO2.out, HB2.out⟩
  ·obtain rfl : k = n := by omega
   have hlt : L.take k = L := List.take_of_length_le (by rw [HLL.out, List.length_map, HN.out]; exact Nat.le_refl _)
   rw [hlt] at HOW
   clear hlt
   go_wp2
   go_ret
   exact ⟨A0, c0, rfl, HOW.out, HBR.out⟩
end Go.Proofs.Ytoccjgcokffkbaa
namespace Go.Proofs.Ytoccjgcokffkbaa
set_option linter.unusedVariables false
set_option linter.unusedSimpArgs false
open Go.RowKit
/-- how many trees are joined when a leaf is added to so many -/
def tzF : Nat → Nat → Nat
 | 0, _ => 0
 | f + 1, n => if n % 2 = 1 then tzF f (n / 2) + 1 else 0
def tz (n : Nat) : Nat := tzF 10 n
theorem tz_pop : ∀ n : Nat, n < 512 → popN n + 1 = popN (n + 1) + tz n ∧ 1 ≤ popN (n + 1) := by decide +kernel
theorem tz_le (n : Nat) : tz n ≤ 10 := by
 have : ∀ f n, tzF f n ≤ f := by
  intro f
  induction f with
  | zero => intro n; exact Nat.le_refl _
  | succ f ih => intro n; rw [tzF]; split
                 ·have := ih (n / 2); omega
                 ·exact Nat.zero_le _
 exact this 10 n
/-- the last two joined -/
def merge1 (width : Int) (l : List ByteArray) : List ByteArray := l.take (l.length - 2) ++ [nodeT width (l.getD (l.length - 2) ByteArray.empty) (l.getD (l.length - 1) ByteArray.empty)]
def mergeK (width : Int) (l : List ByteArray) : Nat → List ByteArray
 | 0 => l
 | j + 1 => merge1 width (mergeK width l j)
theorem merge1_len {width : Int} {l : List ByteArray} (h : 2 ≤ l.length) : (merge1 width l).length = l.length - 1 := by
 rw [merge1, List.length_append, List.length_take]; simp; omega
theorem mergeK_len {width : Int} {l : List ByteArray} : ∀ {j : Nat}, j < l.length → (mergeK width l j).length = l.length - j
 | 0, _ => rfl
 | j + 1, h => by
   have ih := mergeK_len (width := width) (l := l) (j := j) (by omega)
   rw [mergeK, merge1_len (by omega), ih]; omega
theorem areH_of {width : Int} {l : List ByteArray} (h : ∀ s ∈ l, (s.size : Int) = width) : areH width l = true := by
 rw [areH, List.all_eq_true]; intro s hs; exact decide_eq_true (h s hs)
theorem getD_mem {l : List ByteArray} {i : Nat} (h : i < l.length) : l.getD i ByteArray.empty ∈ l := by
 rw [List.getD_eq_getElem?_getD, List.getElem?_eq_getElem h]; exact List.getElem_mem h
theorem merge1_are {width : Int} {l : List ByteArray} (hw : inR width 1 32 = true) (h : areH width l = true) (h2 : 2 ≤ l.length) : areH width (merge1 width l) = true := by
 have hm := areH_mem h
 refine areH_of fun s hs => ?_
 rw [merge1, List.mem_append] at hs
 rcases hs with hs | hs
 ·exact hm s (List.mem_of_mem_take hs)
 ·rw [List.mem_singleton.1 hs]
  exact nodeT_size hw (hm _ (getD_mem (by omega))) (hm _ (getD_mem (by omega)))
theorem mergeK_are {width : Int} {l : List ByteArray} (hw : inR width 1 32 = true) (h : areH width l = true) : ∀ {j : Nat}, j < l.length → areH width (mergeK width l j) = true
 | 0, _ => h
 | j + 1, hj => by
   have hl := mergeK_len (width := width) (l := l) (j := j) (by omega)
   exact merge1_are hw (mergeK_are hw h (by omega)) (by omega)
def growOne (width : Int) (n : Nat) (l : List ByteArray) (leaf : ByteArray) : List ByteArray := mergeK width (l ++ [leaf]) (tz n)
theorem growOne_len {width : Int} {n : Nat} {l : List ByteArray} {leaf : ByteArray} (hn : n < 512) (hl : l.length = popN n) : (growOne width n l leaf).length = popN (n + 1) := by
 obtain ⟨h1, h2⟩ := tz_pop n hn
 rw [growOne, mergeK_len (by simp; omega)]
 simp; omega
theorem growOne_are {width : Int} {n : Nat} {l : List ByteArray} {leaf : ByteArray} (hw : inR width 1 32 = true) (hn : n < 512) (hl : l.length = popN n) (ha : areH width l = true) (hf : (leaf.size : Int) = width) : areH width (growOne width n l leaf) = true := by
 obtain ⟨h1, h2⟩ := tz_pop n hn
 refine mergeK_are hw (areH_of fun s hs => ?_) (by simp; omega)
 rw [List.mem_append] at hs
 rcases hs with hs | hs
 ·exact areH_mem ha s hs
 ·rw [List.mem_singleton.1 hs]; exact hf
def growUp (width : Int) (n : Nat) (l leaves : List ByteArray) : Nat → List ByteArray
 | 0 => l
 | k + 1 => growOne width (n + k) (growUp width n l leaves k) (leaves.getD k ByteArray.empty)
def callsUp (n : Nat) : Nat → Nat
 | 0 => 0
 | k + 1 => callsUp n k + tz (n + k)
theorem callsUp_le (n : Nat) : ∀ k, callsUp n k ≤ 10 * k
 | 0 => Nat.le_refl _
 | k + 1 => by have := callsUp_le n k; have := tz_le (n + k); rw [callsUp]; omega
theorem growUp_len {width : Int} {n : Nat} {l leaves : List ByteArray} (hl : l.length = popN n) : ∀ {k : Nat}, n + k ≤ 512 → (growUp width n l leaves k).length = popN (n + k)
 | 0, _ => hl
 | k + 1, h => growOne_len (by omega) (growUp_len hl (by omega))
theorem growUp_are {width : Int} {n : Nat} {l leaves : List ByteArray} (hw : inR width 1 32 = true) (hl : l.length = popN n) (ha : areH width l = true) (hv : areH width leaves = true) : ∀ {k : Nat}, n + k ≤ 512 → k ≤ leaves.length → areH width (growUp width n l leaves k) = true
 | 0, _, _ => ha
 | k + 1, h, hk => growOne_are hw (by omega) (growUp_len hl (by omega)) (growUp_are hw hl ha hv (by omega) (by omega)) (areH_mem hv _ (getD_mem (by omega)))
/-- the same row, seen shorter -/
theorem row_take {w : World} {base e g n cap : Nat} {xs : List Value} (h : w.ownsRow base e 1 (.slice (some ⟨g, 0, none⟩) n cap) n xs) {k : Nat} (hk : k ≤ n) : w.ownsRow base e 1 (.slice (some ⟨g, 0, none⟩) k cap) k (xs.take k) := by
 refine ⟨by rw [List.length_take, h.1]; omega, ?_⟩
 rcases h.2 with ⟨h1, _⟩ | ⟨g', cap', cur, h1, h2, h3, h4, h5, h6, h7⟩
 ·cases h1
 ·injection h1 with e1 _ e3
  cases e1
  subst e3
  refine .inr ⟨g, cap, cur, rfl, h2, h3, by omega, h5, h6, ?_⟩
  rw [← h7, List.take_take]
  congr 1
  omega
/-- a block whose cells are no strings -/
def Typed (w : World) (p : Nat) : Prop := ∃ cs T, w.heap[p]? = some (.cells cs T (0, 0)) ∧ T ≠ 9
theorem Typed.lt {w : World} {p : Nat} (h : Typed w p) : p < w.heap.size := by
 obtain ⟨cs, T, h1, _⟩ := h
 exact (Array.getElem?_eq_some_iff.1 h1).1
theorem Typed.keep {w w' : World} {p : Nat} (h : Typed w p) (hb : w'.heap[p]? = w.heap[p]?) : Typed w' p := by
 obtain ⟨cs, T, h1, h2⟩ := h
 exact ⟨cs, T, hb.trans h1, h2⟩
theorem Typed.below {w w' : World} {p : Nat} (h : Typed w p) (hb : Below w.heap.size w w') : Typed w' p := h.keep (hb.block p h.lt)
theorem Typed.set {w : World} {p : Nat} (h : Typed w p) (a : Addr) (v : Value) : Typed (w.setCell a v) p := by
 obtain ⟨cs, T, h1, h2⟩ := h
 by_cases ha : a.block = p
 ·subst ha
  refine ⟨if a.spot.isSome then cs else cs.setIfInBounds a.off v, T, ?_, h2⟩
  simp [World.setCell, Array.getElem?_modify, h1]
 ·refine ⟨cs, T, ?_, h2⟩
  simp [World.setCell, Array.getElem?_modify, ha, h1]
theorem Typed.not_row {w : World} {p base n : Nat} {v : Value} {xs : List Value} (h : Typed w p) (hr : w.ownsRow base 9 1 v n xs) : some p ≠ v.ownBlock := by
 obtain ⟨cs, T, h1, h2⟩ := h
 intro e
 rcases hr.2 with ⟨rfl, _⟩ | ⟨g, cap, cur, rfl, _, h3, _⟩
 ·cases e
 ·injection e with e
  have e' : p = g := e
  subst e'
  rw [h1] at h3
  injection h3 with h3
  injection h3 with _ h4
  exact h2 h4
/-- a range in memory: its size and its peaks at two cells of block p -/
structure RngAt (w : World) (base p o : Nat) (n : Int) (v : Value) (m : Nat) (l : List ByteArray) : Prop where
 typed : Typed w p
 c0 : w.cell? ⟨p, o, none⟩ = some (.int .i64 n)
 c1 : w.cell? ⟨p, o + 1, none⟩ = some v
 row : w.ownsRow base 9 1 v m (strs l)
/-- what a range that grows may turn: its two cells, its row -/
structure GrowRel (p o : Nat) (v v' : Value) (w w' : World) : Prop where
 os : w'.os = w.os
 tape : w'.tape = w.tape
 output : w'.output = w.output
 size : w.heap.size ≤ w'.heap.size
 block : ∀ k, k < w.heap.size → k ≠ p → some k ≠ v.ownBlock → w'.heap[k]? = w.heap[k]?
 cell : ∀ j, j ≠ o → j ≠ o + 1 → w'.cell? ⟨p, j, none⟩ = w.cell? ⟨p, j, none⟩
 own : ∀ k, v'.ownBlock = some k → v.ownBlock = some k ∨ w.heap.size ≤ k
theorem GrowRel.refl (p o : Nat) (v : Value) (w : World) : GrowRel p o v v w w := ⟨rfl, rfl, rfl, Nat.le_refl _, fun _ _ _ _ => rfl, fun _ _ _ => rfl, fun _ h => .inl h⟩
theorem GrowRel.trans {p o : Nat} {v1 v2 v3 : Value} {a b c : World} (h : GrowRel p o v1 v2 a b) (k : GrowRel p o v2 v3 b c) : GrowRel p o v1 v3 a c := by
 refine ⟨k.os.trans h.os, k.tape.trans h.tape, k.output.trans h.output, Nat.le_trans h.size k.size, fun i h1 h2 h3 => ?_, fun j h1 h2 => (k.cell j h1 h2).trans (h.cell j h1 h2), fun i hi => ?_⟩
 ·refine (k.block i (Nat.lt_of_lt_of_le h1 h.size) h2 (fun e => ?_)).trans (h.block i h1 h2 h3)
  rcases h.own i e.symm with h4 | h4
  ·exact h3 h4.symm
  ·omega
 ·rcases k.own i hi with h4 | h4
  ·exact h.own i h4
  ·exact .inr (Nat.le_trans h.size h4)
theorem GrowRel.of_below {p o : Nat} {v : Value} {w w' : World} (h : Below w.heap.size w w') (hp : p < w.heap.size) : GrowRel p o v v w w' :=
 ⟨h.os, h.tape, h.output, h.size, fun k hk _ _ => h.block k hk, fun j _ _ => h.cell (p := ⟨p, j, none⟩) hp, fun _ h => .inl h⟩
theorem GrowRel.toBelow {p o B base : Nat} {v v' : Value} {w w' : World} {m : Nat} {xs : List Value} (h : GrowRel p o v v' w w') (hr : w.ownsRow base 9 1 v m xs) (hp : B ≤ p) (hb : B ≤ base) (hs : B ≤ w.heap.size) : Below B w w' :=
 ⟨h.os, h.tape, h.output, h.size, fun k hk => h.block k (by omega) (by omega) (fun e => by have := (hr.lt k e.symm).1; omega)⟩
theorem RngAt.below {w w' : World} {base p o : Nat} {n : Int} {v : Value} {m : Nat} {l : List ByteArray} (h : RngAt w base p o n v m l) (hb : Below w.heap.size w w') : RngAt w' base p o n v m l :=
 ⟨h.typed.below hb, (hb.cell (p := ⟨p, o, none⟩) h.typed.lt).trans h.c0, (hb.cell (p := ⟨p, o + 1, none⟩) h.typed.lt).trans h.c1, row_below h.row hb⟩
end Go.Proofs.Ytoccjgcokffkbaa
namespace Go.Proofs.Ytoccjgcokffkbaa
set_option linter.unusedVariables false
set_option linter.unusedSimpArgs false
open Go.RowKit
theorem Rd.lowB {w w' : World} {lo hi B : Nat} {A : Option Addr} {xs : List Value} (h : Rd w lo hi A xs) (hb : Below B w w') (hh : hi ≤ B) : Rd w' lo hi A xs := h.keep hb.size (fun k _ hk => hb.block k (by omega))
theorem row_mono {w : World} {b b' : Nat} {e : TypeId} {size n : Nat} {v : Value} {xs : List Value} (h : w.ownsRow b e size v n xs) (hb : b' ≤ b) : w.ownsRow b' e size v n xs := by
 refine ⟨h.1, ?_⟩
 rcases h.2 with h1 | ⟨g, cap, cur, h1, h2, h3⟩
 ·exact .inl h1
 ·exact .inr ⟨g, cap, cur, h1, Nat.le_trans hb h2, h3⟩
theorem row_set {w : World} {b : Nat} {e : TypeId} {size n : Nat} {v : Value} {xs : List Value} (h : w.ownsRow b e size v n xs) {p : Addr} (hp : p.block < b) (u : Value) : (w.setCell p u).ownsRow b e size v n xs :=
 h.kept (row := some p.block) ⟨rfl, rfl, rfl, by simp [World.setCell], fun k hk hn => Below.heap_setCell _ _ _ _ (fun e => hn (congrArg some e))⟩ (.inr (fun e => by have := (h.lt p.block e).1; omega))
end Go.Proofs.Ytoccjgcokffkbaa
namespace Go.Proofs.Ytoccjgcokffkbaa
set_option linter.unusedVariables false
set_option linter.unusedSimpArgs false
open Go.RowKit
def growOk (width z : Int) (l leaves : List ByteArray) : Bool := rngOk width z l && areH width leaves && decide ((leaves.length : Int) ≤ 512 - z)
def gSize (width z : Int) (l leaves : List ByteArray) : Int := if growOk width z l leaves then z + leaves.length else 0
def gPeaks (width z : Int) (l leaves : List ByteArray) : List ByteArray := if growOk width z l leaves then growUp width z.toNat l leaves leaves.length else []
def gCalls (width z : Int) (l leaves : List ByteArray) : Int := if growOk width z l leaves then (callsUp z.toNat leaves.length : Nat) else 0
theorem rngOk_all {width z : Int} {l : List ByteArray} (h : rngOk width z l = true) : 0 ≤ z ∧ z ≤ 512 ∧ l.length = popC z ∧ areH width l = true ∧ inR width 1 32 = true := by
 rw [rngOk, Bool.and_eq_true, Bool.and_eq_true, Bool.and_eq_true] at h
 have h1 := inR_true.1 h.1.1
 exact ⟨h1.1, h1.2, of_decide_eq_true h.1.2, h.2.1, h.2.2⟩
theorem popC_nat {n : Nat} (h : n ≤ 512) : popC n = popN n := by
 rw [popC, if_pos (inR_true.2 ⟨by omega, by omega⟩), Int.toNat_natCast]
theorem GrowRel.only {p o base m : Nat} {v v' : Value} {w w' : World} {xs : List Value} (h : GrowRel p o v v' w w') (hr : w.ownsRow base 9 1 v m xs) (hp : base ≤ p) : Only base w.heap.size w w' :=
 ⟨h.os, h.tape, h.output, h.size, fun k hk hd => h.block k hk (by omega) (fun e => by have := (hr.lt k e.symm).1; omega)⟩
end Go.Proofs.Ytoccjgcokffkbaa
namespace Go.Proofs.Ytoccjgcokffkbaa
set_option linter.unusedVariables false
set_option linter.unusedSimpArgs false
open Go.RowKit
structure GAt (w : World) (z : Int) (A : Option Addr) (m c : Nat) (wx : World) : Prop where
 below : Below w.heap.size w wx
 r : NewBox wx w.heap.size [.int .i64 z, .slice A m c]
 q : NewBox wx (w.heap.size + 1) [.int .i64 0, .slice none 0 0]
theorem GAt.next {w : World} {z : Int} {A : Option Addr} {m c : Nat} {wx wy : World} (h : GAt w z A m c wx) (hb : Below wx.heap.size wx wy) : GAt w z A m c wy := ⟨below_then h.below hb h.below.size, h.r.below hb, h.q.below hb⟩
theorem GAt.only {w : World} {z : Int} {A : Option Addr} {m c hi : Nat} {wx wy : World} (h : GAt w z A m c wx) (ho : Only (w.heap.size + 2) hi wx wy) : GAt w z A m c wy := ⟨below_only h.below ho (by omega) h.below.size, h.r.only ho (.inl (by omega)), h.q.only ho (.inl (by omega))⟩
def lenOfV : Value → Nat
 | .slice _ n _ => n
 | _ => 0
set_option maxRecDepth 100000 in
set_option maxHeartbeats 4000000 in
theorem specGrowAllN_c (width z : Int) (A : Option Addr) (c lo hi m : Nat) (l : List ByteArray) (X : Option Addr) (g lo' hi' k0 : Nat) (leaves : List ByteArray) (w : World) (hr : Rd w lo hi A (strs l)) (hn : l.length = m) (hl : m ≤ 1048576) (hA : A = none → c = 0)
  (hX : Rd w lo' hi' X (strs leaves)) (hk : leaves.length = k0) (hkl : k0 ≤ 1048576) (hz : I64 z) :
  Calls Try.prog 60 #[.int .i64 width, .agg #[.int .i64 z, .slice A m c], .slice X k0 g] w fun e w' => ∃ A' c', e = .returned (.tuple #[.agg #[.int .i64 (gSize width z l leaves), .slice A' (gPeaks width z l leaves).length c'], .int .i64 (gCalls width z l leaves), .bool (growOk width z l leaves)]) ∧
   (Own w' w.heap.size w'.heap.size A' (strs (gPeaks width z l leaves)) ∧ (A' = none → c' = 0)) ∧ Below w.heap.size w w' := by
 have HDEF : Hid (growOk width z l leaves = (rngOk width z l && areH width leaves && decide ((k0 : Int) ≤ 512 - z))) := Lib.hid (by rw [growOk, hk])
 have HBAD : Hid (growOk width z l leaves = false → gSize width z l leaves = 0 ∧ gPeaks width z l leaves = [] ∧ gCalls width z l leaves = 0) := Lib.hid (fun h => by rw [gSize, gPeaks, gCalls, h]; exact ⟨rfl, rfl, rfl⟩)
 have HGOOD : Hid (growOk width z l leaves = true → gSize width z l leaves = z + k0 ∧ gPeaks width z l leaves = growUp width z.toNat l leaves k0 ∧ gCalls width z l leaves = (callsUp z.toNat k0 : Nat)) := Lib.hid (fun h => by rw [gSize, gPeaks, gCalls, h, hk]; exact ⟨rfl, rfl, rfl⟩)
 have HRK := Lib.hid (fun W (h : Rd W 0 W.heap.size A (strs l)) => specRangeOk_c width z A c 0 W.heap.size m l W h hn hl)
 have HAR := Lib.hid (fun W (h : Rd W 0 W.heap.size X (strs leaves)) => l04Hashes_c width X g 0 W.heap.size k0 leaves W h hk hkl)
 have HKN := Lib.hid (And.intro hn hk)
 have HX0 : Hid (Rd w 0 w.heap.size X (strs leaves)) := Lib.hid hX.base
 have HR0 : Hid (Rd w 0 w.heap.size A (strs l)) := Lib.hid hr.base
 have HAC := Lib.hid hA
 generalize growOk width z l leaves = ok at *
 generalize gSize width z l leaves = gs at *
 generalize gPeaks width z l leaves = gp at *
 generalize gCalls width z l leaves = gc at *
 have HB : Hid (Below w.heap.size w w) := Below.refl _ _
 have HOA : Hid (Rd w (0) (w.heap.size) (A) (strs l)) := Rd.base hr
 have HOX : Hid (Rd w (0) (w.heap.size) (X) (strs leaves)) := Rd.base hX
 clear hr hX hn hk hA
 go_enter Try.func60, Try.ntmps60
 go_wp2_with fail
 refine calls_named (fun w1 hw => ?_)
 have hz1 : w.heap.size + 2 ≤ w1.heap.size := by rw [hw]; first | omega | (simp [World.setCell]; done) | (simp [World.setCell]; omega)
 have hzz1 : w.heap.size ≤ w1.heap.size := by omega
 have hbn : Below w.heap.size w w1 := by rw [hw]; exact (by ((repeat (first | ((with_reducible refine Below.alloc ?_ ?_ _); rotate_left 1; (focus (first | omega | (simp; done) | (simp; omega)))) | (with_reducible refine Below.drew ?_) | ((with_reducible refine Below.setCell ?_ ?_ _); rotate_left 1; (focus (first | omega | (simp; done) | (simp; omega)))))); exact Below.refl _ _))
 replace HB := Lib.hid (below_then HB.out hbn HB.out.size)
 replace HOA := Lib.hid (HOA.out.below hbn)
 replace HOX := Lib.hid (HOX.out.below hbn)
 clear hbn
 have HXr : Hid (NewBox w1 (w.heap.size) [.int .i64 z, .slice A m c]) := by rw [Hid, hw]; exact ⟨by first | omega | (simp [World.setCell]; done) | (simp [World.setCell]; omega), fun o => by rcases o with _ | _ | o <;> go_simp, fun o => by go_simp⟩
 have hxr := HXr.out.2.1
 have hfr := HXr.out.2.2
 have hkr := HXr.out.1
 have HXq : Hid (NewBox w1 (w.heap.size + 1) [.int .i64 0, .slice none 0 0]) := by rw [Hid, hw]; exact ⟨by first | omega | (simp [World.setCell]; done) | (simp [World.setCell]; omega), fun o => by rcases o with _ | _ | o <;> go_simp, fun o => by go_simp⟩
 have hxq := HXq.out.2.1
 have hfq := HXq.out.2.2
 have hkq := HXq.out.1
 clear hw
 refine (HRK.out _ HOA.out.base).mono ?_
 rintro e w2 ⟨rfl, hb⟩
 have hzw2 : w1.heap.size ≤ w2.heap.size := hb.size
 have hzzw2 : w.heap.size ≤ w2.heap.size := by omega
 replace HB := Lib.hid (below_then HB.out hb HB.out.size)
 replace HOA := Lib.hid (HOA.out.below hb)
 replace HOX := Lib.hid (HOX.out.below hb)
 replace HXr := Lib.hid (HXr.out.below hb)
 clear hxr hfr hkr
 have hxr := HXr.out.2.1
 have hfr := HXr.out.2.2
 have hkr := HXr.out.1
 replace HXq := Lib.hid (HXq.out.below hb)
 clear hxq hfq hkq
 have hxq := HXq.out.2.1
 have hfq := HXq.out.2.2
 have hkq := HXq.out.1
 clear hb
 rcases hq1 : rngOk width z l with _ | _
 ·obtain ⟨rfl, rfl, rfl⟩ := HBAD.out (by rw [HDEF.out, hq1]; rfl)
  have hz0 : ok = false := by rw [HDEF.out, hq1]; rfl
  subst hz0
  go_wp2
  refine bodyPost_named (fun w3 hw => ?_)
  have hz3 : w2.heap.size + 0 ≤ w3.heap.size := by rw [hw]; first | omega | (simp [World.setCell]; done) | (simp [World.setCell]; omega)
  have hzz3 : w.heap.size ≤ w3.heap.size := by omega
  replace HB : Hid (Below w.heap.size w w3) := by rw [Hid, hw]; exact (by ((repeat (first | ((with_reducible refine Below.alloc ?_ ?_ _); rotate_left 1; (focus (first | omega | (simp; done) | (simp; omega)))) | (with_reducible refine Below.drew ?_) | ((with_reducible refine Below.setCell ?_ ?_ _); rotate_left 1; (focus (first | omega | (simp; done) | (simp; omega)))))); exact HB.out))
  replace HOA : Hid (Rd w3 (0) (w.heap.size) (A) (strs l)) := by rw [Hid, hw]; (repeat (first | (with_reducible refine Rd.alloc ?_ _) | (with_reducible refine Rd.drew ?_) | ((with_reducible refine Rd.setCell ?_ ?_ _); rotate_left 1; (focus (first | omega | (simp; done) | (simp; omega)))))); exact HOA.out
  replace HOX : Hid (Rd w3 (0) (w.heap.size) (X) (strs leaves)) := by rw [Hid, hw]; (repeat (first | (with_reducible refine Rd.alloc ?_ _) | (with_reducible refine Rd.drew ?_) | ((with_reducible refine Rd.setCell ?_ ?_ _); rotate_left 1; (focus (first | omega | (simp; done) | (simp; omega)))))); exact HOX.out
  replace HXr : Hid (NewBox w3 (w.heap.size) [.int .i64 z, .slice A m c]) := by rw [Hid, hw]; (repeat (first | (with_reducible refine NewBox.alloc ?_ _) | (with_reducible refine NewBox.drew ?_) | ((with_reducible refine NewBox.setCell ?_ ?_ _); rotate_left 1; (focus (first | omega | (simp; done) | (simp; omega)))))); exact HXr.out
  clear hxr hfr hkr
  have hxr := HXr.out.2.1
  have hfr := HXr.out.2.2
  have hkr := HXr.out.1
  replace HXq : Hid (NewBox w3 (w.heap.size + 1) [.int .i64 0, .slice none 0 0]) := by rw [Hid, hw]; apply NewBox.cast; (focus ((repeat (first | (with_reducible apply NewBox.alloc) | (with_reducible apply NewBox.drew) | (with_reducible apply NewBox.set1) | ((with_reducible apply NewBox.far); (focus (first | omega | (simp; done) | (simp; omega)))))); exact HXq.out)); rfl
  clear hxq hfq hkq
  have hxq := HXq.out.2.1
  have hfq := HXq.out.2.2
  have hkq := HXq.out.1
  clear hw
  refine bodyPost_ret (v := .tuple #[.agg #[.int .i64 0, .slice none 0 0], .int .i64 0, .bool false]) (by simp [results, Try.results60, go_sem, hxq]) rfl ?_
  exact ⟨none, 0, rfl, ⟨Own.nil, fun _ => rfl⟩, HB.out⟩
 ·obtain ⟨hz1, hz2, hpl, hah, hwd⟩ := rngOk_all hq1
  rw [hq1] at HDEF
  rw [hwd] at HAR
  clear hq1
  go_wp2_with fail
  refine (HAR.out _ HOX.out.base).mono ?_
  rintro e w3_ ⟨rfl, rfl⟩
  rcases hq2 : areH width leaves with _ | _
  ·obtain ⟨rfl, rfl, rfl⟩ := HBAD.out (by rw [HDEF.out, hq2]; rfl)
   have hz0 : ok = false := by rw [HDEF.out, hq2]; rfl
   subst hz0
   go_wp2
   refine bodyPost_named (fun w4 hw => ?_)
   have hz4 : w2.heap.size + 0 ≤ w4.heap.size := by rw [hw]; first | omega | (simp [World.setCell]; done) | (simp [World.setCell]; omega)
   have hzz4 : w.heap.size ≤ w4.heap.size := by omega
   replace HB : Hid (Below w.heap.size w w4) := by rw [Hid, hw]; exact (by ((repeat (first | ((with_reducible refine Below.alloc ?_ ?_ _); rotate_left 1; (focus (first | omega | (simp; done) | (simp; omega)))) | (with_reducible refine Below.drew ?_) | ((with_reducible refine Below.setCell ?_ ?_ _); rotate_left 1; (focus (first | omega | (simp; done) | (simp; omega)))))); exact HB.out))
   replace HOA : Hid (Rd w4 (0) (w.heap.size) (A) (strs l)) := by rw [Hid, hw]; (repeat (first | (with_reducible refine Rd.alloc ?_ _) | (with_reducible refine Rd.drew ?_) | ((with_reducible refine Rd.setCell ?_ ?_ _); rotate_left 1; (focus (first | omega | (simp; done) | (simp; omega)))))); exact HOA.out
   replace HOX : Hid (Rd w4 (0) (w.heap.size) (X) (strs leaves)) := by rw [Hid, hw]; (repeat (first | (with_reducible refine Rd.alloc ?_ _) | (with_reducible refine Rd.drew ?_) | ((with_reducible refine Rd.setCell ?_ ?_ _); rotate_left 1; (focus (first | omega | (simp; done) | (simp; omega)))))); exact HOX.out
   replace HXr : Hid (NewBox w4 (w.heap.size) [.int .i64 z, .slice A m c]) := by rw [Hid, hw]; (repeat (first | (with_reducible refine NewBox.alloc ?_ _) | (with_reducible refine NewBox.drew ?_) | ((with_reducible refine NewBox.setCell ?_ ?_ _); rotate_left 1; (focus (first | omega | (simp; done) | (simp; omega)))))); exact HXr.out
   clear hxr hfr hkr
   have hxr := HXr.out.2.1
   have hfr := HXr.out.2.2
   have hkr := HXr.out.1
   replace HXq : Hid (NewBox w4 (w.heap.size + 1) [.int .i64 0, .slice none 0 0]) := by rw [Hid, hw]; apply NewBox.cast; (focus ((repeat (first | (with_reducible apply NewBox.alloc) | (with_reducible apply NewBox.drew) | (with_reducible apply NewBox.set1) | ((with_reducible apply NewBox.far); (focus (first | omega | (simp; done) | (simp; omega)))))); exact HXq.out)); rfl
   clear hxq hfq hkq
   have hxq := HXq.out.2.1
   have hfq := HXq.out.2.2
   have hkq := HXq.out.1
   clear hw
   refine bodyPost_ret (v := .tuple #[.agg #[.int .i64 0, .slice none 0 0], .int .i64 0, .bool false]) (by simp [results, Try.results60, go_sem, hxq]) rfl ?_
   exact ⟨none, 0, rfl, ⟨Own.nil, fun _ => rfl⟩, HB.out⟩
  ·have HV := Lib.hid hq2
   rw [hq2] at HDEF
   clear hq2
   rcases (show (k0 : Int) ≤ 512 - z ∨ 512 - z < (k0 : Int) by omega) with h3 | h3
   ·have hok : ok = true := by rw [HDEF.out, decide_eq_true h3]; rfl
    obtain ⟨n, hnz⟩ : ∃ n, n = z.toNat := ⟨_, rfl⟩
    have hzn : (n : Int) = z := by omega
    have hg3 := HGOOD.out hok
    rw [← hnz] at hg3
    obtain ⟨rfl, rfl, rfl⟩ := hg3
    subst hok
    have hnk : n + k0 ≤ 512 := by omega
    have hpm : m = popN n := by rw [← HKN.out.1, hpl, ← hzn, popC_nat (by omega)]
    have hlm : l.length = popN n := by rw [HKN.out.1, hpm]
    have HGL := Lib.hid (growUp_len (width := width) (leaves := leaves) hlm hnk)
    have HZN := Lib.hid hzn
    have HLM := Lib.hid hlm
    have HAH := Lib.hid hah
    have HWD := Lib.hid hwd
    have HPM := Lib.hid hpm
    have hm10 : m ≤ 10 := by rw [hpm]; exact popUp_le n 10
    have HGT : Hid (GAt w z A m c w2) := Lib.hid ⟨HB.out, HXr.out, HXq.out⟩
    have HR2 := Lib.hid (HR0.out.lowB HB.out (Nat.le_refl _))
    have hrow := row_mono (row_made w2 9 0) (show w.heap.size + 2 ≤ w2.heap.size by omega)
    have HROW := Lib.hid hrow
    have hcb0 : w.heap.size + 2 ≤ w2.heap.size := by omega
    clear hpl hah hpm hlm hzn hnz hwd hrow HGOOD HBAD HDEF HRK HAR
    clear HOA HOX
    go_wp2_with (at_builtin; refine appStr rfl _ _ rfl (w.heap.size + 2) _ 0 [] rfl HROW.out A m c 0 w.heap.size l rfl HKN.out.1 (HR2.out.below ((Below.refl _ _).alloc (Nat.le_refl _) _)) HAC.out (by omega) (by simp; omega) ?_)
    intro v2 w12 hown2 hg2
    try simp only [Nat.zero_add, List.nil_append] at hown2
    have hon := grown_only HROW.out hg2
    obtain ⟨A2, c2, rfl, _, _, _⟩ := ownsRow_slice hown2
    have HGT2 := Lib.hid ((HGT.out.next ((Below.refl _ _).alloc (Nat.le_refl _) _)).only hon)
    have HO2 := Lib.hid hown2
    clear hown2 hg2 hon HROW HGT HXr HXq hxr hxq hfr hfq hkr hkq HR2
    go_wp2
    go_loopw [9, 10, 11] (fun pk cl i wx => ∃ (k : Nat) (A0 : Option Addr) (c0 : Nat), k ≤ k0 ∧ i = .int .i64 k ∧ cl = .int .i64 (callsUp n k : Nat) ∧ pk = .slice A0 (popN (n + k)) c0 ∧ wx.ownsRow (w.heap.size + 2) 9 1 (.slice A0 (popN (n + k)) c0) (popN (n + k)) (strs (growUp width n l leaves k)) ∧ GAt w z A m c wx ∧ w.heap.size + 2 ≤ wx.heap.size) (fun _ _ i _ => k0 - (intOf i).toNat)
    case atStart => exact ⟨0, A2, c2, Nat.zero_le _, rfl, rfl, by rw [HPM.out]; rfl, by have h := HO2.out; rw [HPM.out] at h; exact h, HGT2.out, by have := HGT2.out.q.1; omega⟩
    case round =>
     clear HO2 HGT2
     obtain ⟨k, A0, c0, hkk, rfl, rfl, rfl, how, hga, hwz⟩ := hrel
     have HOW := Lib.hid how
     have HGA := Lib.hid hga
     clear how
     by_cases hlt : k < k0
     ·obtain ⟨b, off, s, rfl, hb, hks, hc⟩ := (HX0.out.lowB hga.below (Nat.le_refl _)).str (k := k) (by rw [HKN.out.2]; exact hlt)
      have hsd : leaves.getD k ByteArray.empty = s := by rw [List.getD_eq_getElem?_getD, hks]; rfl
      have hss : (s.size : Int) = width := areH_mem HV.out s (List.mem_of_getElem? hks)
      have HGU : Hid (growUp width n l leaves (k + 1) = mergeK width (growUp width n l leaves k ++ [s]) (tz (n + k))) := Lib.hid (by rw [growUp, hsd]; rfl)
      have HCU : Hid (callsUp n (k + 1) = callsUp n k + tz (n + k)) := Lib.hid rfl
      have hgl := growUp_len (width := width) (leaves := leaves) HLM.out (k := k) (by omega)
      have hgaa := growUp_are HWD.out HLM.out HAH.out HV.out (k := k) (by omega) (by rw [HKN.out.2]; omega)
      obtain ⟨hpop, hpop1⟩ := tz_pop (n + k) (by omega)
      have hI : (k : Int) < k0 := by omega
      have hcl := callsUp_le n k
      have htl := tz_le (n + k)
      have hp10 : popN (n + k) ≤ 10 := popUp_le _ 10
      have HPK : Hid (∀ W, Calls Try.prog 92 #[.int .i64 (z + k + 1)] W fun e w' => ∃ A c, e = .returned (.slice A (popN (n + k + 1)) c) ∧ Below W.heap.size W w') := Lib.hid (fun W => by
       have h := specPeaksOf_c (n + k + 1) W (by omega)
       rw [popC_nat (by omega)] at h
       rwa [show ((n + k + 1 : Nat) : Int) = z + k + 1 by have := HZN.out; omega] at h)
      obtain ⟨L, hL⟩ : ∃ L, L = growUp width n l leaves k ++ [s] := ⟨_, rfl⟩
      have hLL : L.length = popN (n + k) + 1 := by rw [hL]; simp [hgl]
      have hLA : areH width L = true := areH_of fun x hx => by
       rw [hL, List.mem_append] at hx
       rcases hx with hx | hx
       ·exact areH_mem hgaa x hx
       ·rw [List.mem_singleton.1 hx]; exact hss
      have HSA : Hid (strs L = strs (growUp width n l leaves k) ++ strs [s]) := Lib.hid (by rw [hL, strs_app])
      rw [← hL] at HGU
      have hadd : n + (k + 1) = n + k + 1 := by omega
      have HLL := Lib.hid hLL
      have HLA := Lib.hid hLA
      have HPOP := Lib.hid (And.intro hpop hpop1)
      have hnk1 : n + k < 512 := by omega
      clear hks hsd hss hgl hgaa hL hLL hLA hadd hpop hpop1
      generalize growUp width n l leaves k = gu at *
      generalize callsUp n k = cu at *
      generalize tz (n + k) = tk at *
      generalize popN (n + k) = pm at *
      generalize hm1 : popN (n + k + 1) = m1 at *
      have HPN : Hid (popN (n + (k + 1)) = m1) := Lib.hid hm1
      clear hm1
      go_wp2_with (at_builtin; refine app1Str rfl _ _ rfl (w.heap.size + 2) _ _ _ rfl (HOW.out.alloc _) wr.heap.size s rfl (NewBox.new wr _ _) (by omega) (by first | omega | (simp; done) | (simp; omega)) ?_)
      intro v5 w5 hown5 hg5
      have hon5 := grown_only (HOW.out.alloc _) hg5
      obtain ⟨A5, c5, rfl, _, _, _⟩ := ownsRow_slice hown5
      rw [← HSA.out] at hown5
      have HGA5 := Lib.hid ((HGA.out.next ((Below.refl _ _).alloc (Nat.le_refl _) _)).only hon5)
      have HO5 := Lib.hid hown5
      have hz5 : w.heap.size + 2 ≤ w5.heap.size := by have := HGA5.out.q.1; omega
      have hxr := HGA5.out.r.2.1
      clear hown5 hg5 hon5 HOW HGA hga hc hb hwz
      go_wp2
      obtain ⟨wo, rfl⟩ : ∃ wo : World, wo = wr := ⟨_, rfl⟩
      clear hxr
      go_loopw [9, 10] (fun pk cl wx => ∃ (j q : Nat) (A0 : Option Addr) (c0 : Nat), j ≤ tk ∧ q + j = pm + 1 ∧ pk = .slice A0 q c0 ∧ cl = .int .i64 ((cu + j : Nat) : Int) ∧ wx.ownsRow (w.heap.size + 2) 9 1 (.slice A0 q c0) q (strs (mergeK width L j)) ∧ GAt w z A m c wx ∧ w.heap.size + 2 ≤ wx.heap.size) (fun pk _ _ => lenOfV pk)
      case atStart => exact ⟨0, pm + 1, A5, c5, Nat.zero_le _, rfl, rfl, rfl, HO5.out, HGA5.out, hz5⟩
      case round =>
       clear HO5 HGA5 hz5
       obtain ⟨j, q, A0, c0, hj, hq, rfl, rfl, how, hga, hwz⟩ := hrel
       have HOW := Lib.hid how
       have HGA := Lib.hid hga
       have hpop := HPOP.out
       clear hga
       by_cases hlj : j < tk
       ·obtain ⟨q0, hq0⟩ : ∃ q0, q = q0 + 2 := ⟨q - 2, by omega⟩
        obtain ⟨q1, hq1⟩ : ∃ q1, q1 = q0 + 1 := ⟨_, rfl⟩
        have hjl : j < L.length := by rw [HLL.out]; omega
        have hlen := mergeK_len (width := width) hjl
        have hare := mergeK_are HWD.out HLA.out hjl
        have HMK : Hid (mergeK width L (j + 1) = merge1 width (mergeK width L j)) := Lib.hid rfl
        rw [HLL.out] at hlen
        generalize mergeK width L j = M at *
        have hMl : M.length = q := by omega
        have hM1 : merge1 width M = M.take q0 ++ [nodeT width (M.getD q0 ByteArray.empty) (M.getD q1 ByteArray.empty)] := by
         rw [merge1, hMl, show q - 2 = q0 by omega, show q - 1 = q1 by omega]
        have ha0 := areH_mem hare _ (getD_mem (show q0 < M.length by omega))
        have ha1 := areH_mem hare _ (getD_mem (show q1 < M.length by omega))
        obtain ⟨gb, cap, hge⟩ := row_form how (by omega)
        injection hge with hge1 _ hge2
        subst hge1
        subst hge2
        have hx0 := how.cellAt q0 (by omega)
        have hx1 := how.cellAt q1 (by omega)
        have hsg : ∀ i, i < M.length → (strs M)[i]? = some (.string (M.getD i ByteArray.empty)) := fun i hi => strs_get (by rw [List.getD_eq_getElem?_getD, List.getElem?_eq_getElem hi]; rfl)
        rw [hsg q0 (by omega)] at hx0
        rw [hsg q1 (by omega)] at hx1
        have HTL : Hid ((M.take q0).length = q0) := Lib.hid (by rw [List.length_take]; omega)
        have HSTK : Hid (strs (M.take q0) = (strs M).take q0) := Lib.hid (by simp [strs])
        have HM1 := Lib.hid hM1
        generalize M.getD q0 ByteArray.empty = a0 at *
        generalize M.getD q1 ByteArray.empty = a1 at *
        have HND := Lib.hid (fun W => specNodeHash_c width a0 a1 W HWD.out ha0 ha1)
        generalize nodeT width a0 a1 = nd at *
        have hgb : gb < wr.heap.size := (how.lt gb rfl).2
        have E1 : IntKind.i64.wrap ((q : Int) - 2) = q0 := by rw [IntKind.wrap_i64]; omega
        have E2 : IntKind.i64.wrap ((q : Int) - 1) = q1 := by rw [IntKind.wrap_i64]; omega
        have E3 : (q : Int) - 2 = q0 := by omega
        have E4 : (q : Int) - 1 = q1 := by omega
        have E5 : (q0 : Int) < q := by omega
        have E6 : (q1 : Int) < q := by omega
        have hdm : decide (m1 < q) = true := decide_eq_true (by omega)
        have hq12 : (q : Int) ≤ 11 := by omega
        have hcub : ((cu + j : Nat) : Int) ≤ 100000 := by omega
        have HQ := Lib.hid (And.intro hq (And.intro hq0 hq1))
        clear how hsg hM1 hMl ha0 ha1 hare hlen hjl hq hq0 hq1 hpop
        generalize hcj : cu + j = cj at *
        have HCJ := Lib.hid hcj
        clear hcj
        go_wp2_with fail
        refine (HPK.out _).mono ?_
        rintro e w6 ⟨Ap, cp, rfl, hb6⟩
        have HGA6 := Lib.hid (HGA.out.next hb6)
        have HOW6 := Lib.hid (row_below HOW.out hb6)
        have hgb6 : gb < w6.heap.size := Nat.lt_of_lt_of_le hgb hb6.size
        have hz6 : w.heap.size + 2 ≤ w6.heap.size := by have := hb6.size; omega
        have l1 : ∀ v : Later w6, v.v.cell? ⟨gb, q0, none⟩ = some (.string a0) := fun v => (later_cell v _ _ hgb6).trans ((hb6.cell (p := ⟨gb, q0, none⟩) hgb).trans hx0)
        have l2 : ∀ v : Later w6, v.v.cell? ⟨gb, q1, none⟩ = some (.string a1) := fun v => (later_cell v _ _ hgb6).trans ((hb6.cell (p := ⟨gb, q1, none⟩) hgb).trans hx1)
        clear hb6 HGA HOW hx0 hx1
        go_wp2
        refine wp_region_later (by kernel_rfl) (by kernel_rfl) ?_
        repeat (go_big_quiet_step ((with_reducible exact later_call (HND.out _))))
        refine wpQuiet_nil ?_
        intro w7 h7
        have hb7 := later_below h7
        have HGA7 := Lib.hid (HGA6.out.next hb7)
        have HOW7 := Lib.hid (row_below HOW6.out hb7)
        have hz7 : w.heap.size + 2 ≤ w7.heap.size := by have := hb7.size; omega
        have hE9 : (q0 : Int) ≤ (c0 : Int) := by
         rcases HOW7.out.2 with ⟨e, _⟩ | ⟨_, _, _, e, _, _, h9, _⟩
         ·cases e
         ·cases e; omega
        clear l1 l2 h7 hb7 HGA6 HOW6
        have hsrc : Rd w7 0 w7.heap.size (some ⟨gb, 0, none⟩) (strs (M.take q0)) := by
         have h := (Own.of_ownsRow (row_take HOW7.out (show q0 ≤ q by omega))).rd.base
         rw [HSTK.out]; exact h
        have HSRC := Lib.hid hsrc
        have HROW := Lib.hid (row_mono (row_made w7 9 0) (show w.heap.size + 2 ≤ w7.heap.size by omega))
        clear hsrc
        go_wp2_with (at_builtin; refine appStr rfl _ _ rfl (w.heap.size + 2) _ 0 [] rfl HROW.out (some ⟨gb, 0, none⟩) q0 c0 0 w7.heap.size (M.take q0) rfl HTL.out (HSRC.out.below ((Below.refl _ _).alloc (Nat.le_refl _) _)) (fun h => by cases h) (by omega) (by simp; omega) ?_)
        intro v8 w8 hown8 hg8
        try simp only [Nat.zero_add, List.nil_append] at hown8
        have hon8 := grown_only HROW.out hg8
        obtain ⟨A8, c8, rfl, _, _, _⟩ := ownsRow_slice hown8
        have HGA8 := Lib.hid ((HGA7.out.next ((Below.refl _ _).alloc (Nat.le_refl _) _)).only hon8)
        have HO8 := Lib.hid hown8
        have hz8 : w.heap.size + 2 ≤ w8.heap.size := by have := HGA8.out.q.1; omega
        clear hown8 hg8 hon8 HROW HGA7 HOW7 HSRC
        go_wp2_with (at_builtin; refine app1Str rfl _ _ rfl (w.heap.size + 2) _ _ _ rfl (HO8.out.alloc _) w8.heap.size nd rfl (NewBox.new w8 _ _) (by omega) (by first | omega | (simp; done) | (simp; omega)) ?_)
        intro v9 w9 hown9 hg9
        have hon9 := grown_only (HO8.out.alloc _) hg9
        obtain ⟨A9, c9, rfl, _, _, _⟩ := ownsRow_slice hown9
        rw [← strs_app, ← HM1.out, ← HMK.out] at hown9
        have HGA9 := Lib.hid ((HGA8.out.next ((Below.refl _ _).alloc (Nat.le_refl _) _)).only hon9)
        have HO9 := Lib.hid hown9
        have hz9 : w.heap.size + 2 ≤ w9.heap.size := by have := HGA9.out.q.1; omega
        clear hown9 hg9 hon9 HO8 HGA8 E1 E2 E3 E4 E5 E6
        go_wp2
        go_roundw
        case rel =>
         obtain ⟨k4, k5, k6⟩ := HQ.out
         exact ⟨j + 1, q0 + 1, A9, c9, by omega, by omega, rfl, by rw [← HCJ.out]; go_num, HO9.out, HGA9.out, hz9⟩
        case measure => obtain ⟨k4, k5, k6⟩ := HQ.out; show q0 + 1 < q; omega
       ·obtain rfl : j = tk := by omega
        have hqm : q = m1 := by omega
        subst hqm
        have hdm : decide (q < q) = false := decide_eq_false (by omega)
        clear how hpop hq
        go_wp2_with fail
        refine (HPK.out _).mono ?_
        rintro e w6 ⟨Ap, cp, rfl, hb6⟩
        have HGA6 := Lib.hid (HGA.out.next hb6)
        have HOW6 := Lib.hid (row_below HOW.out hb6)
        have hz6 : w.heap.size + 2 ≤ w6.heap.size := by have := hb6.size; omega
        clear hb6 HGA HOW
        go_wp2
        go_roundw
        case rel => exact ⟨k + 1, A0, c0, by omega, by go_num, by rw [HCU.out]; go_num, by rw [HPN.out], by rw [HPN.out, HGU.out]; exact HOW6.out, HGA6.out, hz6⟩
        case measure => simp [intOf]; omega
     ·obtain rfl : k = k0 := by omega
      have hxr := HGA.out.r.2.1
      have hfq := HGA.out.q.2.2
      have hxq := HGA.out.q.2.1
      have hzb : z ≤ 512 := hz2
      have HGS : Hid (z + (k : Int) = z + k) := Lib.hid rfl
      have hwz2 : w.heap.size + 2 ≤ wr.heap.size := hwz
      clear hga
      go_wp2
      refine bodyPost_named (fun w9 hw => ?_)
      have hQ9 : NewBox w9 (w.heap.size + 1) [.int .i64 (z + k), .slice A0 (popN (n + k)) c0] := by rw [hw]; exact (HGA.out.q.set1 0 _).set1 1 _
      have hB9 : Hid (Below w.heap.size w w9) := by rw [Hid, hw]; exact (HGA.out.below.setCell (Nat.le_succ _) _).setCell (Nat.le_succ _) _
      have hR9 : Hid (w9.ownsRow (w.heap.size + 2) 9 1 (.slice A0 (popN (n + k)) c0) (popN (n + k)) (strs (growUp width n l leaves k))) := by rw [Hid, hw]; exact row_set (row_set HOW.out (Nat.lt_succ_self _) _) (Nat.lt_succ_self _) _
      have hx9 := hQ9.2.1
      clear hw hxr hxq hfq
      refine bodyPost_ret (v := .tuple #[.agg #[.int .i64 (z + k), .slice A0 (popN (n + k)) c0], .int .i64 (callsUp n k : Nat), .bool true]) (by simp [results, Try.results60, go_sem, hx9]) rfl ?_
      obtain ⟨_, _, he9, _, hAn9, _⟩ := ownsRow_slice hR9.out
      cases he9
      exact ⟨A0, c0, by rw [HGL.out], ⟨(Own.of_ownsRow hR9.out).mono (by omega) (Nat.le_refl _) (Nat.le_refl _), hAn9⟩, hB9.out⟩
   ·obtain ⟨rfl, rfl, rfl⟩ := HBAD.out (by rw [HDEF.out, decide_eq_false (by omega)]; rfl)
    have hz0 : ok = false := by rw [HDEF.out, decide_eq_false (by omega)]; rfl
    subst hz0
    go_wp2
    refine bodyPost_named (fun w4 hw => ?_)
    have hz4 : w2.heap.size + 0 ≤ w4.heap.size := by rw [hw]; first | omega | (simp [World.setCell]; done) | (simp [World.setCell]; omega)
    have hzz4 : w.heap.size ≤ w4.heap.size := by omega
    replace HB : Hid (Below w.heap.size w w4) := by rw [Hid, hw]; exact (by ((repeat (first | ((with_reducible refine Below.alloc ?_ ?_ _); rotate_left 1; (focus (first | omega | (simp; done) | (simp; omega)))) | (with_reducible refine Below.drew ?_) | ((with_reducible refine Below.setCell ?_ ?_ _); rotate_left 1; (focus (first | omega | (simp; done) | (simp; omega)))))); exact HB.out))
    replace HOA : Hid (Rd w4 (0) (w.heap.size) (A) (strs l)) := by rw [Hid, hw]; (repeat (first | (with_reducible refine Rd.alloc ?_ _) | (with_reducible refine Rd.drew ?_) | ((with_reducible refine Rd.setCell ?_ ?_ _); rotate_left 1; (focus (first | omega | (simp; done) | (simp; omega)))))); exact HOA.out
    replace HOX : Hid (Rd w4 (0) (w.heap.size) (X) (strs leaves)) := by rw [Hid, hw]; (repeat (first | (with_reducible refine Rd.alloc ?_ _) | (with_reducible refine Rd.drew ?_) | ((with_reducible refine Rd.setCell ?_ ?_ _); rotate_left 1; (focus (first | omega | (simp; done) | (simp; omega)))))); exact HOX.out
    replace HXr : Hid (NewBox w4 (w.heap.size) [.int .i64 z, .slice A m c]) := by rw [Hid, hw]; (repeat (first | (with_reducible refine NewBox.alloc ?_ _) | (with_reducible refine NewBox.drew ?_) | ((with_reducible refine NewBox.setCell ?_ ?_ _); rotate_left 1; (focus (first | omega | (simp; done) | (simp; omega)))))); exact HXr.out
    clear hxr hfr hkr
    have hxr := HXr.out.2.1
    have hfr := HXr.out.2.2
    have hkr := HXr.out.1
    replace HXq : Hid (NewBox w4 (w.heap.size + 1) [.int .i64 0, .slice none 0 0]) := by rw [Hid, hw]; apply NewBox.cast; (focus ((repeat (first | (with_reducible apply NewBox.alloc) | (with_reducible apply NewBox.drew) | (with_reducible apply NewBox.set1) | ((with_reducible apply NewBox.far); (focus (first | omega | (simp; done) | (simp; omega)))))); exact HXq.out)); rfl
    clear hxq hfq hkq
    have hxq := HXq.out.2.1
    have hfq := HXq.out.2.2
    have hkq := HXq.out.1
    clear hw
    refine bodyPost_ret (v := .tuple #[.agg #[.int .i64 0, .slice none 0 0], .int .i64 0, .bool false]) (by simp [results, Try.results60, go_sem, hxq]) rfl ?_
    exact ⟨none, 0, rfl, ⟨Own.nil, fun _ => rfl⟩, HB.out⟩
end Go.Proofs.Ytoccjgcokffkbaa
namespace Go.Proofs.Ytoccjgcokffkbaa
set_option linter.unusedVariables false
set_option linter.unusedSimpArgs false
open Go.RowKit
def rootF (width : Int) (l : List ByteArray) : Nat → ByteArray
 | 0 => l.getD (l.length - 1) ByteArray.empty
 | j + 1 => nodeT width (l.getD (l.length - 2 - j) ByteArray.empty) (rootF width l j)
def rngRoot (width : Int) (l : List ByteArray) : ByteArray := if l.length = 0 then emptyT width else rootF width l (l.length - 1)
def rngMade (l : List ByteArray) : Nat := l.length - 1
theorem rootF_size {width : Int} {l : List ByteArray} (hw : inR width 1 32 = true) (ha : areH width l = true) : ∀ {j : Nat}, j < l.length → ((rootF width l j).size : Int) = width
 | 0, h => areH_mem ha _ (getD_mem (by omega))
 | j + 1, h => nodeT_size hw (areH_mem ha _ (getD_mem (by omega))) (rootF_size hw ha (by omega))
theorem rngRoot_size {width : Int} {l : List ByteArray} (hw : inR width 1 32 = true) (ha : areH width l = true) : ((rngRoot width l).size : Int) = width := by
 rw [rngRoot]; split
 ·exact emptyT_size hw
 ·exact rootF_size hw ha (by omega)
def rrT (width z : Int) (l : List ByteArray) : ByteArray := if rngOk width z l then rngRoot width l else ByteArray.empty
def rrN (width z : Int) (l : List ByteArray) : Nat := if rngOk width z l then rngMade l else 0
structure RAt (w : World) (z : Int) (A : Option Addr) (m c : Nat) (wx : World) : Prop where
 below : Below w.heap.size w wx
 r : NewBox wx w.heap.size [.int .i64 z, .slice A m c]
theorem RAt.next {w : World} {z : Int} {A : Option Addr} {m c : Nat} {wx wy : World} (h : RAt w z A m c wx) (hb : Below wx.heap.size wx wy) : RAt w z A m c wy := ⟨below_then h.below hb h.below.size, h.r.below hb⟩
set_option maxRecDepth 100000 in
set_option maxHeartbeats 4000000 in
theorem specRangeRoot_c (width z : Int) (A : Option Addr) (c lo hi m : Nat) (l : List ByteArray) (w : World) (hr : Rd w lo hi A (strs l)) (hn : l.length = m) (hl : m ≤ 1048576) :
  Calls Try.prog 61 #[.int .i64 width, .agg #[.int .i64 z, .slice A m c]] w fun e w' => e = .returned (.tuple #[.string (rrT width z l), .int .i64 (rrN width z l : Nat), .bool (rngOk width z l)]) ∧ Below w.heap.size w w' := by
 have HN := Lib.hid hn
 have HR : Hid (Rd w 0 w.heap.size A (strs l)) := Lib.hid hr.base
 have HRK := Lib.hid (fun W (h : Rd W 0 W.heap.size A (strs l)) => specRangeOk_c width z A c 0 W.heap.size m l W h hn hl)
 rcases hq : rngOk width z l with _ | _
 ·have HD : Hid (rrT width z l = ⟨#[]⟩ ∧ rrN width z l = 0) := Lib.hid ⟨by rw [rrT, hq]; rfl, by rw [rrN, hq]; rfl⟩
  rw [hq] at HRK
  clear hq hr hn
  have HB : Hid (Below w.heap.size w w) := Below.refl _ _
  go_enter Try.func61, Try.ntmps61
  go_wp2_with fail
  refine calls_named (fun w1 hw => ?_)
  have hz1 : w.heap.size + 1 ≤ w1.heap.size := by rw [hw]; first | omega | (simp [World.setCell]; done) | (simp [World.setCell]; omega)
  have hzz1 : w.heap.size ≤ w1.heap.size := by omega
  have hbn : Below w.heap.size w w1 := by rw [hw]; exact (by ((repeat (first | ((with_reducible refine Below.alloc ?_ ?_ _); rotate_left 1; (focus (first | omega | (simp; done) | (simp; omega)))) | (with_reducible refine Below.drew ?_) | ((with_reducible refine Below.setCell ?_ ?_ _); rotate_left 1; (focus (first | omega | (simp; done) | (simp; omega)))))); exact Below.refl _ _))
  replace HB := Lib.hid (below_then HB.out hbn HB.out.size)
  clear hbn
  have HXr : Hid (NewBox w1 (w.heap.size) [.int .i64 z, .slice A m c]) := by rw [Hid, hw]; exact ⟨by first | omega | (simp [World.setCell]; done) | (simp [World.setCell]; omega), fun o => by rcases o with _ | _ | o <;> go_simp, fun o => by go_simp⟩
  have hxr := HXr.out.2.1
  have hfr := HXr.out.2.2
  have hkr := HXr.out.1
  clear hw
  refine (HRK.out _ (HR.out.below HB.out).base).mono ?_
  rintro e w2 ⟨rfl, hb⟩
  have hzw2 : w1.heap.size ≤ w2.heap.size := hb.size
  have hzzw2 : w.heap.size ≤ w2.heap.size := by omega
  replace HB := Lib.hid (below_then HB.out hb HB.out.size)
  replace HXr := Lib.hid (HXr.out.below hb)
  clear hxr hfr hkr
  have hxr := HXr.out.2.1
  have hfr := HXr.out.2.2
  have hkr := HXr.out.1
  clear hb
  go_wp2
  refine bodyPost_ret (v := .tuple #[.string ⟨#[]⟩, .int .i64 0, .bool false]) (by simp [results, Try.results61, go_sem]) rfl ?_
  exact ⟨by rw [HD.out.1, HD.out.2]; rfl, HB.out⟩
 ·obtain ⟨hz1, hz2, hpl, ha, hw⟩ := rngOk_all hq
  have hw2 := inR_true.1 hw
  have HD : Hid (rrT width z l = rngRoot width l ∧ rrN width z l = rngMade l) := Lib.hid ⟨by rw [rrT, hq]; rfl, by rw [rrN, hq]; rfl⟩
  rw [hq] at HRK
  have HW := Lib.hid hw
  have HA := Lib.hid ha
  have hm10 : m ≤ 10 := by have := popC_le z; omega
  rcases (show z = 0 ∨ 0 < z by omega) with h0 | h0
  ·have hm0 : m = 0 := by rw [← hn, hpl, h0]; decide
   have HD2 : Hid (rngRoot width l = emptyT width ∧ rngMade l = 0) := Lib.hid ⟨by rw [rngRoot, if_pos (by omega)], by rw [rngMade]; omega⟩
   have HE := Lib.hid (fun W => specEmptyRoot_c width W)
   rw [hw] at HE
   subst h0
   clear hq hr hn ha hw hpl hm0
   generalize emptyT width = em at *
   have HB : Hid (Below w.heap.size w w) := Below.refl _ _
   go_enter Try.func61, Try.ntmps61
   go_wp2_with fail
   refine calls_named (fun w1 hw => ?_)
   have hz1 : w.heap.size + 1 ≤ w1.heap.size := by rw [hw]; first | omega | (simp [World.setCell]; done) | (simp [World.setCell]; omega)
   have hzz1 : w.heap.size ≤ w1.heap.size := by omega
   have hbn : Below w.heap.size w w1 := by rw [hw]; exact (by ((repeat (first | ((with_reducible refine Below.alloc ?_ ?_ _); rotate_left 1; (focus (first | omega | (simp; done) | (simp; omega)))) | (with_reducible refine Below.drew ?_) | ((with_reducible refine Below.setCell ?_ ?_ _); rotate_left 1; (focus (first | omega | (simp; done) | (simp; omega)))))); exact Below.refl _ _))
   replace HB := Lib.hid (below_then HB.out hbn HB.out.size)
   clear hbn
   have HXr : Hid (NewBox w1 (w.heap.size) [.int .i64 0, .slice A m c]) := by rw [Hid, hw]; exact ⟨by first | omega | (simp [World.setCell]; done) | (simp [World.setCell]; omega), fun o => by rcases o with _ | _ | o <;> go_simp, fun o => by go_simp⟩
   have hxr := HXr.out.2.1
   have hfr := HXr.out.2.2
   have hkr := HXr.out.1
   clear hw
   refine (HRK.out _ (HR.out.below HB.out).base).mono ?_
   rintro e w2 ⟨rfl, hb⟩
   have hzw2 : w1.heap.size ≤ w2.heap.size := hb.size
   have hzzw2 : w.heap.size ≤ w2.heap.size := by omega
   replace HB := Lib.hid (below_then HB.out hb HB.out.size)
   replace HXr := Lib.hid (HXr.out.below hb)
   clear hxr hfr hkr
   have hxr := HXr.out.2.1
   have hfr := HXr.out.2.2
   have hkr := HXr.out.1
   clear hb
   go_wp2_with fail
   refine calls_named (fun w3 hw => ?_)
   have hz3 : w2.heap.size + 0 ≤ w3.heap.size := by rw [hw]; first | omega | (simp [World.setCell]; done) | (simp [World.setCell]; omega)
   have hzz3 : w.heap.size ≤ w3.heap.size := by omega
   have hbn : Below w2.heap.size w2 w3 := by rw [hw]; exact (by ((repeat (first | ((with_reducible refine Below.alloc ?_ ?_ _); rotate_left 1; (focus (first | omega | (simp; done) | (simp; omega)))) | (with_reducible refine Below.drew ?_) | ((with_reducible refine Below.setCell ?_ ?_ _); rotate_left 1; (focus (first | omega | (simp; done) | (simp; omega)))))); exact Below.refl _ _))
   replace HB := Lib.hid (below_then HB.out hbn HB.out.size)
   replace HXr := Lib.hid (HXr.out.below hbn)
   clear hxr hfr hkr
   have hxr := HXr.out.2.1
   have hfr := HXr.out.2.2
   have hkr := HXr.out.1
   clear hbn
   clear hw
   refine (HE.out _).mono ?_
   rintro e w4 ⟨rfl, hb⟩
   have hzw4 : w3.heap.size ≤ w4.heap.size := hb.size
   have hzzw4 : w.heap.size ≤ w4.heap.size := by omega
   replace HB := Lib.hid (below_then HB.out hb HB.out.size)
   replace HXr := Lib.hid (HXr.out.below hb)
   clear hxr hfr hkr
   have hxr := HXr.out.2.1
   have hfr := HXr.out.2.2
   have hkr := HXr.out.1
   clear hb
   go_wp2
   refine bodyPost_ret (v := .tuple #[.string em, .int .i64 0, .bool true]) (by simp [results, Try.results61, go_sem]) rfl ?_
   exact ⟨by rw [HD.out.1, HD.out.2, HD2.out.1, HD2.out.2]; rfl, HB.out⟩
  ·have hm0 : 0 < m := by
    obtain ⟨n1, hn1⟩ : ∃ n1 : Nat, z.toNat = n1 + 1 := ⟨z.toNat - 1, by omega⟩
    have h1 := (tz_pop n1 (by omega)).2
    rw [← hn, hpl, show z = ((n1 + 1 : Nat) : Int) by omega, popC_nat (by omega)]
    omega
   obtain ⟨t0, ht0⟩ : ∃ t0, m = t0 + 1 := ⟨m - 1, by omega⟩
   have HD2 : Hid (rngRoot width l = rootF width l t0 ∧ rngMade l = t0) := Lib.hid ⟨by rw [rngRoot, if_neg (by omega)]; congr 1; omega, by rw [rngMade]; omega⟩
   obtain ⟨b, off, s, rfl, hb, hks, hc⟩ := hr.str (k := t0) (by omega)
   have hs0 : Hid (s = rootF width l 0) := Lib.hid (by rw [rootF, hn, show m - 1 = t0 by omega, List.getD_eq_getElem?_getD, hks]; rfl)
   have E1 : IntKind.i64.wrap ((m : Int) - 1) = t0 := by rw [IntKind.wrap_i64]; omega
   have E2 : (m : Int) - 1 = t0 := by omega
   have E3 : (0 : Int) ≤ t0 := by omega
   have E4 : (t0 : Int) < m := by omega
   have E6 : IntKind.i64.wrap ((m : Int) - 2) = t0 - 1 := by rw [IntKind.wrap_i64]; omega
   have hz0 : ¬ z = 0 := by omega
   have hz00 : (z == 0) = false := by simpa using hz0
   have HT0 := Lib.hid ht0
   have HE6 : Hid ((m : Int) - 2 = t0 - 1) := Lib.hid (by omega)
   clear hq hr hn hw ha hks hpl ht0 hz0
   have HB : Hid (Below w.heap.size w w) := Below.refl _ _
   go_enter Try.func61, Try.ntmps61
   go_wp2_with fail
   refine calls_named (fun w1 hw => ?_)
   have hz1 : w.heap.size + 1 ≤ w1.heap.size := by rw [hw]; first | omega | (simp [World.setCell]; done) | (simp [World.setCell]; omega)
   have hzz1 : w.heap.size ≤ w1.heap.size := by omega
   have hbn : Below w.heap.size w w1 := by rw [hw]; exact (by ((repeat (first | ((with_reducible refine Below.alloc ?_ ?_ _); rotate_left 1; (focus (first | omega | (simp; done) | (simp; omega)))) | (with_reducible refine Below.drew ?_) | ((with_reducible refine Below.setCell ?_ ?_ _); rotate_left 1; (focus (first | omega | (simp; done) | (simp; omega)))))); exact Below.refl _ _))
   replace HB := Lib.hid (below_then HB.out hbn HB.out.size)
   clear hbn
   have HXr : Hid (NewBox w1 (w.heap.size) [.int .i64 z, .slice (some ⟨b, off, none⟩) m c]) := by rw [Hid, hw]; exact ⟨by first | omega | (simp [World.setCell]; done) | (simp [World.setCell]; omega), fun o => by rcases o with _ | _ | o <;> go_simp, fun o => by go_simp⟩
   have hxr := HXr.out.2.1
   have hfr := HXr.out.2.2
   have hkr := HXr.out.1
   clear hw
   refine (HRK.out _ (HR.out.below HB.out).base).mono ?_
   rintro e w2 ⟨rfl, hb⟩
   have hzw2 : w1.heap.size ≤ w2.heap.size := hb.size
   have hzzw2 : w.heap.size ≤ w2.heap.size := by omega
   replace HB := Lib.hid (below_then HB.out hb HB.out.size)
   replace HXr := Lib.hid (HXr.out.below hb)
   clear hxr hfr hkr
   have hxr := HXr.out.2.1
   have hfr := HXr.out.2.2
   have hkr := HXr.out.1
   clear hb
   have hc2 := (Below.cell HB.out (p := ⟨b, off + t0, none⟩) hb).trans hc
   have HAT : Hid (RAt w z (some ⟨b, off, none⟩) m c w2) := Lib.hid ⟨HB.out, HXr.out⟩
   clear hc
   go_wp2
   go_loopw [9, 10] (fun rv iv wx => ∃ (j t : Nat) (i : Int), t + j + 1 = m ∧ i = t - 1 ∧ iv = .int .i64 i ∧ rv = .string (rootF width l j) ∧ RAt w z (some ⟨b, off, none⟩) m c wx) (fun _ iv _ => (intOf iv + 1).toNat)
   case atStart => exact ⟨0, t0, _, by have := HT0.out; omega, HE6.out, by first | rfl | exact congrArg (Value.int .i64) HE6.out.symm, by rw [hs0.out], HAT.out⟩
   case round =>
    clear E1 E2 E3 E4 E6 hc2 hs0 HAT HXr hxr hfr hkr
    obtain ⟨j, t, i, htj, hi, rfl, rfl, hA⟩ := hrel
    have HA2 := Lib.hid hA
    have hxr := hA.r.2.1
    rcases (show t = 0 ∨ 0 < t by omega) with h0 | h0
    ·have hjt : j = t0 := by have := HT0.out; omega
     subst hjt
     have hi2 : i = -1 := by omega
     subst hi2
     have E8 : IntKind.i64.wrap ((m : Int) - 1) = j := by rw [IntKind.wrap_i64]; have := HT0.out; omega
     have E9 : (m : Int) - 1 = j := by have := HT0.out; omega
     clear hA hi htj
     clear h0
     generalize rootF width l j = rr at *
     go_wp2
     go_quiet (fail)
     go_wp2
     refine bodyPost_ret (v := .tuple #[.string rr, .int .i64 (j : Nat), .bool true]) (by simp [results, Try.results61, go_sem]) rfl ?_
     exact ⟨by rw [HD.out.1, HD.out.2, HD2.out.1, HD2.out.2], HA2.out.below.trans (Below.mono (below_drewN _ _) HA2.out.below.size)⟩
    ·obtain ⟨p, hp⟩ : ∃ p, t = p + 1 := ⟨t - 1, by omega⟩
     obtain rfl : i = (p : Int) := by omega
     obtain ⟨b2, off2, s, e2, hb2, hks, hc⟩ := (HR.out.lowB hA.below (Nat.le_refl _)).str (k := p) (by rw [HN.out]; omega)
     cases e2
     have HNX : Hid (rootF width l (j + 1) = nodeT width s (rootF width l j)) := Lib.hid (by rw [rootF, HN.out, show m - 2 - j = p by omega, List.getD_eq_getElem?_getD, hks]; rfl)
     have hsz := areH_mem HA.out s (List.mem_of_getElem? hks)
     have hrz := rootF_size HW.out HA.out (j := j) (by rw [HN.out]; omega)
     have E4 : (p : Int) < m := by omega
     have E5 : IntKind.i64.wrap ((p : Int) - 1) = p - 1 := by rw [IntKind.wrap_i64]; omega
     have HQ := Lib.hid (And.intro htj hp)
     clear hA hks htj hp hi h0
     generalize rootF width l j = rr at *
     have HND := Lib.hid (fun W => specNodeHash_c width s rr W HW.out hsz hrz)
     generalize nodeT width s rr = nd at *
     clear hsz hrz
     go_wp2_with fail
     refine (HND.out _).mono ?_
     rintro e w5 ⟨rfl, hb5⟩
     have HA5 := Lib.hid (HA2.out.next hb5)
     clear hb5 HA2 hxr hc
     go_wp2
     go_roundw
     case rel => exact ⟨j + 1, p, _, by have := HQ.out; omega, rfl, by first | rfl | (congr 1), by rw [HNX.out], HA5.out⟩
     case measure => first | (simp [intOf]; done) | (simp [intOf]; omega)
end Go.Proofs.Ytoccjgcokffkbaa
namespace Go.Proofs.Ytoccjgcokffkbaa
set_option linter.unusedVariables false
set_option linter.unusedSimpArgs false
open Go.Shelf Go.RowKit
def halfN (n : Nat) : Nat := 2 ^ (Lib.bitLen (n - 1) - 1)
theorem bitLen_bd {x : Nat} (h0 : x ≠ 0) (h : x < 512) : 1 ≤ Lib.bitLen x ∧ Lib.bitLen x ≤ 9 ∧ 2 ^ (Lib.bitLen x - 1) ≤ x ∧ x < 2 ^ Lib.bitLen x := by
 obtain ⟨h1, h2, h3⟩ := Lib.bitLenAux_bounds 64 x (Nat.lt_trans h (by decide)) h0
 refine ⟨h1, ?_, h2, h3⟩
 rcases Nat.lt_or_ge 9 (Lib.bitLen x) with h9 | h9
 ·exfalso
  have h4 : 2 ^ 9 ≤ 2 ^ (Lib.bitLenAux 64 x - 1) := Nat.pow_le_pow_right (by omega) (by have : Lib.bitLen x = Lib.bitLenAux 64 x := rfl; omega)
  omega
 ·exact h9
theorem halfN_bd {n : Nat} (h2 : 2 ≤ n) (h : n ≤ 512) : 1 ≤ halfN n ∧ halfN n < n ∧ n ≤ 2 * halfN n := by
 obtain ⟨h1, h9, h3, h4⟩ := bitLen_bd (x := n - 1) (by omega) (by omega)
 have h5 : 2 ^ Lib.bitLen (n - 1) = 2 * 2 ^ (Lib.bitLen (n - 1) - 1) := by
  rw [← Nat.pow_succ', Nat.succ_eq_add_one, Nat.sub_add_cancel h1]
 have h6 : 0 < 2 ^ (Lib.bitLen (n - 1) - 1) := Nat.two_pow_pos _
 unfold halfN
 omega
theorem halfN_eq {n j : Nat} (h2 : 2 ≤ n) (h : n ≤ 512) (h1 : 2 ^ j < n) (h3 : n ≤ 2 * 2 ^ j) : halfN n = 2 ^ j := by
 obtain ⟨k1, k2, k3⟩ := halfN_bd h2 h
 unfold halfN at *
 generalize Lib.bitLen (n - 1) - 1 = b at *
 have : b = j := by
  rcases Nat.lt_trichotomy b j with hb | hb | hb
  ·have h5 : 2 ^ (b + 1) ≤ 2 ^ j := Nat.pow_le_pow_right (by omega) hb
   rw [Nat.pow_succ] at h5
   omega
  ·exact hb
  ·have h5 : 2 ^ (j + 1) ≤ 2 ^ b := Nat.pow_le_pow_right (by omega) hb
   rw [Nat.pow_succ] at h5
   omega
 rw [this]
end Go.Proofs.Ytoccjgcokffkbaa
namespace Go.Proofs.Ytoccjgcokffkbaa
set_option linter.unusedVariables false
set_option linter.unusedSimpArgs false
open Go.RowKit
def rootFu (width : Int) : Nat → List ByteArray → ByteArray
 | 0, _ => ByteArray.empty
 | f + 1, l => if l.length = 0 then emptyT width else if l.length = 1 then l.getD 0 ByteArray.empty else nodeT width (rootFu width f (l.take (halfN l.length))) (rootFu width f (l.drop (halfN l.length)))
theorem fu_step {width : Int} {f n : Nat} {l : List ByteArray} (hn : l.length = n) (h2 : 2 ≤ n) : rootFu width (f + 1) l = nodeT width (rootFu width f (l.take (halfN n))) (rootFu width f (l.drop (halfN n))) := by
 rw [rootFu, if_neg (by omega), if_neg (by omega), hn]
theorem fu_zero {width : Int} {f : Nat} {l : List ByteArray} (hn : l.length = 0) : rootFu width (f + 1) l = emptyT width := by rw [rootFu, if_pos hn]
theorem fu_one {width : Int} {f : Nat} {l : List ByteArray} {s : ByteArray} (hn : l.length = 1) (hs : l[0]? = some s) : rootFu width (f + 1) l = s := by
 rw [rootFu, if_neg (by omega), if_pos hn, List.getD_eq_getElem?_getD, hs]; rfl
end Go.Proofs.Ytoccjgcokffkbaa
namespace Go.Proofs.Ytoccjgcokffkbaa
set_option linter.unusedVariables false
set_option linter.unusedSimpArgs false
/-- the root of 2 ^ j leaves -/
def perf (width : Int) : Nat → List ByteArray → ByteArray
 | 0, l => l.getD 0 ByteArray.empty
 | j + 1, l => nodeT width (perf width j (l.take (2 ^ j))) (perf width j (l.drop (2 ^ j)))
/-- the peaks of fewer than 2 ^ j leaves -/
def pks (width : Int) : Nat → List ByteArray → List ByteArray
 | 0, _ => []
 | j + 1, l => if 2 ^ j ≤ l.length then perf width j (l.take (2 ^ j)) :: pks width j (l.drop (2 ^ j)) else pks width j l
theorem pks_nil (width : Int) : ∀ j, pks width j [] = []
 | 0 => rfl
 | j + 1 => by rw [pks, if_neg (by have := Nat.pow_pos (n := j) (show 0 < 2 by omega); simp)]; exact pks_nil width j
theorem tz_low : ∀ j : Nat, j < 10 → ∀ m : Nat, m < 512 → m + 1 < 2 ^ j → tz (2 ^ j + m) = tz m := by decide +kernel
theorem tz_top : ∀ j : Nat, j < 10 → tz (2 ^ j - 1) = j := by decide +kernel
theorem merge1_cons {width : Int} {p : ByteArray} {q : List ByteArray} (h : 2 ≤ q.length) : merge1 width (p :: q) = p :: merge1 width q := by
 obtain ⟨n, hn⟩ : ∃ n, q.length = n + 2 := ⟨q.length - 2, by omega⟩
 rw [merge1, merge1, List.length_cons, hn]
 simp
theorem mergeK_cons {width : Int} {p : ByteArray} {q : List ByteArray} : ∀ {j : Nat}, j < q.length → mergeK width (p :: q) j = p :: mergeK width q j
 | 0, _ => rfl
 | j + 1, h => by
   rw [mergeK, mergeK_cons (by omega), mergeK]
   exact merge1_cons (by rw [mergeK_len (by omega)]; omega)
theorem pks_grow (width : Int) (x : ByteArray) : ∀ (j : Nat) (l : List ByteArray), j < 10 → l.length < 2 ^ j → tz l.length ≤ (pks width j l).length ∧
  (l.length + 1 < 2 ^ j → mergeK width (pks width j l ++ [x]) (tz l.length) = pks width j (l ++ [x])) ∧
  (l.length + 1 = 2 ^ j → mergeK width (pks width j l ++ [x]) (tz l.length) = [perf width j (l ++ [x])])
 | 0, l, _, h => by
   have : l = [] := List.eq_nil_of_length_eq_zero (by simpa using h)
   subst this
   refine ⟨Nat.zero_le _, fun h => by simp at h, fun _ => rfl⟩
 | j + 1, l, hj, h => by
   have hp : 0 < 2 ^ j := Nat.pow_pos (by omega)
   have hq : 2 ^ j ≤ 2 ^ 8 := Nat.pow_le_pow_right (by omega) (by omega)
   have hs : 2 ^ (j + 1) = 2 * 2 ^ j := by rw [Nat.pow_succ]; omega
   by_cases hl : 2 ^ j ≤ l.length
   ·obtain ⟨a, b, rfl, ha⟩ : ∃ a b, l = a ++ b ∧ a.length = 2 ^ j := ⟨l.take (2 ^ j), l.drop (2 ^ j), (List.take_append_drop _ _).symm, by rw [List.length_take]; omega⟩
    rw [List.length_append] at h hl ⊢
    obtain ⟨i1, i2, i3⟩ := pks_grow width x j b (by omega) (by omega)
    have e1 : pks width (j + 1) (a ++ b) = perf width j a :: pks width j b := by
     rw [pks, if_pos (by rw [List.length_append]; omega), ← ha, List.take_left, List.drop_left]
    have e2 : pks width (j + 1) (a ++ b ++ [x]) = perf width j a :: pks width j (b ++ [x]) := by
     rw [pks, if_pos (by simp; omega), List.append_assoc, ← ha, List.take_left, List.drop_left]
    have hc : mergeK width (perf width j a :: (pks width j b ++ [x])) (tz b.length) = perf width j a :: mergeK width (pks width j b ++ [x]) (tz b.length) := mergeK_cons (by rw [List.length_append]; simp; omega)
    rcases (show b.length + 1 < 2 ^ j ∨ b.length + 1 = 2 ^ j by omega) with hb | hb
    ·have ht : tz (a.length + b.length) = tz b.length := by rw [ha]; exact tz_low j (by omega) _ (by omega) hb
     rw [ht, e1]
     refine ⟨by simp; omega, fun _ => ?_, fun hx => by omega⟩
     rw [e2, List.cons_append, hc, i2 hb]
    ·have ht : tz (a.length + b.length) = tz b.length + 1 := by
      rw [show a.length + b.length = 2 ^ (j + 1) - 1 by omega, show b.length = 2 ^ j - 1 by omega, tz_top _ (by omega), tz_top _ (by omega)]
     rw [ht, e1]
     refine ⟨by simp; omega, fun hx => by omega, fun _ => ?_⟩
     rw [List.cons_append, mergeK, hc, i3 hb, perf, List.append_assoc, ← ha, List.take_left, List.drop_left]
     rfl
   ·obtain ⟨i1, i2, i3⟩ := pks_grow width x j l (by omega) (by omega)
    have e1 : pks width (j + 1) l = pks width j l := by rw [pks, if_neg hl]
    rw [e1]
    refine ⟨i1, fun _ => ?_, fun hx => by omega⟩
    rcases (show l.length + 1 < 2 ^ j ∨ l.length + 1 = 2 ^ j by omega) with hb | hb
    ·rw [i2 hb, pks, if_neg (by simp; omega)]
    ·rw [i3 hb, pks, if_pos (by simp; omega), List.take_of_length_le (by simp; omega), List.drop_of_length_le (by simp; omega), pks_nil]
theorem growUp_pks (width : Int) (L : List ByteArray) : ∀ k : Nat, k ≤ L.length → k < 512 → growUp width 0 [] L k = pks width 9 (L.take k)
 | 0, _, _ => by rw [List.take_zero, pks_nil]; rfl
 | k + 1, hk, h5 => by
   have hg : L[k]? = some (L.getD k ByteArray.empty) := by rw [List.getD_eq_getElem?_getD, List.getElem?_eq_getElem (by omega)]; rfl
   have hlen : (L.take k).length = k := by rw [List.length_take]; omega
   obtain ⟨_, h2, _⟩ := pks_grow width (L.getD k ByteArray.empty) 9 (L.take k) (by omega) (by rw [hlen]; exact (by omega : k < 2 ^ 9))
   rw [growUp, growUp_pks width L k (by omega) (by omega), growOne, Nat.zero_add]
   rw [hlen] at h2
   rw [h2 (show k + 1 < 2 ^ 9 by omega), List.take_add_one, hg]
   rfl
theorem perf_fu {width : Int} : ∀ {j f : Nat} {l : List ByteArray}, j ≤ 9 → l.length = 2 ^ j → l.length < f → perf width j l = rootFu width f l
 | 0, 0, l, _, h, hf => by omega
 | 0, f + 1, l, _, h, hf => by
   rw [fu_one h (s := l.getD 0 ByteArray.empty) (by rw [List.getD_eq_getElem?_getD, List.getElem?_eq_getElem (by rw [h]; exact Nat.one_pos)]; rfl)]; rfl
 | j + 1, 0, l, _, h, hf => by omega
 | j + 1, f + 1, l, hj, h, hf => by
   have hp : 0 < 2 ^ j := Nat.pow_pos (by omega)
   have hq : 2 ^ j ≤ 2 ^ 8 := Nat.pow_le_pow_right (by omega) (by omega)
   have hs : 2 ^ (j + 1) = 2 * 2 ^ j := by rw [Nat.pow_succ]; omega
   rw [fu_step h (by omega), halfN_eq (j := j) (by omega) (by omega) (by omega) (by omega), perf]
   rw [perf_fu (f := f) (by omega) (by rw [List.length_take]; omega) (by rw [List.length_take]; omega), perf_fu (f := f) (by omega) (by rw [List.length_drop]; omega) (by rw [List.length_drop]; omega)]
theorem rootF_cons {width : Int} {p : ByteArray} {q : List ByteArray} : ∀ {j : Nat}, j < q.length → rootF width (p :: q) j = rootF width q j
 | 0, h => by
   obtain ⟨n, hn⟩ : ∃ n, q.length = n + 1 := ⟨q.length - 1, by omega⟩
   rw [rootF, rootF, List.length_cons, hn, Nat.add_sub_cancel, Nat.add_sub_cancel, List.getD_cons_succ]
 | j + 1, h => by
   rw [rootF, rootF, rootF_cons (by omega), List.length_cons, show q.length + 1 - 2 - j = (q.length - 2 - j) + 1 by omega, List.getD_cons_succ]
theorem rngRoot_cons {width : Int} {p : ByteArray} {q : List ByteArray} (h : q ≠ []) : rngRoot width (p :: q) = nodeT width p (rngRoot width q) := by
 obtain ⟨n, hn⟩ : ∃ n, q.length = n + 1 := ⟨q.length - 1, by have := List.length_pos_iff.2 h; omega⟩
 rw [rngRoot, rngRoot, if_neg (by simp), if_neg (by omega), List.length_cons, hn, Nat.add_sub_cancel, rootF, rootF_cons (by omega), Nat.add_sub_cancel, List.length_cons, hn, show n + 1 + 1 - 2 - n = 0 by omega]
 rfl
theorem pks_root {width : Int} : ∀ {j f : Nat} {l : List ByteArray}, j ≤ 9 → l.length < 2 ^ j → l.length < f → l ≠ [] → pks width j l ≠ [] ∧ rngRoot width (pks width j l) = rootFu width f l
 | 0, f, l, _, h, hf, hn => absurd (List.eq_nil_of_length_eq_zero (by simpa using h)) hn
 | j + 1, f, l, hj, h, hf, hn => by
   have hp : 0 < 2 ^ j := Nat.pow_pos (by omega)
   have hq : 2 ^ j ≤ 2 ^ 8 := Nat.pow_le_pow_right (by omega) (by omega)
   have hs : 2 ^ (j + 1) = 2 * 2 ^ j := by rw [Nat.pow_succ]; omega
   by_cases hl : 2 ^ j ≤ l.length
   ·obtain ⟨a, b, rfl, ha⟩ : ∃ a b, l = a ++ b ∧ a.length = 2 ^ j := ⟨l.take (2 ^ j), l.drop (2 ^ j), (List.take_append_drop _ _).symm, by rw [List.length_take]; omega⟩
    have e1 : pks width (j + 1) (a ++ b) = perf width j a :: pks width j b := by
     rw [pks, if_pos (by rw [List.length_append]; omega), ← ha, List.take_left, List.drop_left]
    rw [List.length_append] at h hl hf
    rw [e1]
    refine ⟨List.cons_ne_nil _ _, ?_⟩
    by_cases hb : b = []
    ·subst hb
     rw [pks_nil, List.append_nil]
     rw [← perf_fu (j := j) (by omega) ha (by simp at hf; omega)]
     rfl
    ·have hb1 := List.length_pos_iff.2 hb
     obtain ⟨g, rfl⟩ : ∃ g, f = g + 1 := ⟨f - 1, by omega⟩
     obtain ⟨i1, i2⟩ := pks_root (width := width) (j := j) (f := g) (l := b) (by omega) (by omega) (by omega) hb
     rw [rngRoot_cons i1, i2, fu_step (n := 2 ^ j + b.length) (by rw [List.length_append]; omega) (by omega), halfN_eq (j := j) (by omega) (by omega) (by omega) (by omega)]
     rw [← ha, List.take_left, List.drop_left, perf_fu (j := j) (f := g) (by omega) ha (by omega)]
   ·rw [pks, if_neg hl]
    exact pks_root (by omega) (by omega) hf hn
/-- the root of a range that grew from nothing is the root of the leaves -/
theorem growUp_root {width : Int} {L : List ByteArray} {k : Nat} (hk : k ≤ L.length) (h5 : k ≤ 512) : rngRoot width (growUp width 0 [] L k) = rootFu width 513 (L.take k) := by
 have hlen : (L.take k).length = k := by rw [List.length_take]; omega
 rcases (show k = 0 ∨ (0 < k ∧ k < 512) ∨ k = 512 by omega) with h | h | h
 ·subst h
  rw [List.take_zero, fu_zero rfl]; rfl
 ·rw [growUp_pks width L k hk h.2]
  exact (pks_root (j := 9) (by omega) (by rw [hlen]; exact h.2) (by omega) (fun e => by rw [e] at hlen; simp at hlen; omega)).2
 ·subst h
  have hg : L[511]? = some (L.getD 511 ByteArray.empty) := by rw [List.getD_eq_getElem?_getD, List.getElem?_eq_getElem (by omega)]; rfl
  have h3 := (pks_grow width (L.getD 511 ByteArray.empty) 9 (L.take 511) (by omega) (by rw [List.length_take]; omega)).2.2
  have hl1 : (L.take 511).length = 511 := by rw [List.length_take]; omega
  rw [hl1] at h3
  have ht : L.take 512 = L.take 511 ++ [L.getD 511 ByteArray.empty] := by rw [List.take_add_one (l := L) (i := 511), hg]; rfl
  rw [growUp, growUp_pks width L 511 (by omega) (by omega), growOne, Nat.zero_add, h3 rfl, ← perf_fu (j := 9) (by omega) hlen (by omega), ht]
  rfl
end Go.Proofs.Ytoccjgcokffkbaa
namespace Go.Proofs.Ytoccjgcokffkbaa
set_option linter.unusedVariables false
set_option linter.unusedSimpArgs false
open Go.RowKit
theorem info_Receipt : (Try.prog.info? 57).map (fun i => (i.zero, i.size, i.bytes)) = some (some (.agg #[.string ByteArray.empty, .string ByteArray.empty, .int .i64 0]), 3, 40) := by kernel_rfl
end Go.Proofs.Ytoccjgcokffkbaa
namespace Go.Proofs.Ytoccjgcokffkbaa
set_option linter.unusedVariables false
set_option linter.unusedSimpArgs false
open Go.RowKit
def rcpOk (r : Rcp) : Bool := nameOk r.reader && (nameOk r.topic && inR r.index 0 511)
theorem rcpOk_all {r : Rcp} (h : rcpOk r = true) : r.reader.size ≤ 20 ∧ r.topic.size ≤ 20 ∧ 0 ≤ r.index ∧ r.index ≤ 511 := by
 rw [rcpOk, Bool.and_eq_true, Bool.and_eq_true, nameOk, nameOk, Bool.and_eq_true, Bool.and_eq_true] at h
 have h1 := inR_true.1 h.1.1
 have h2 := inR_true.1 h.2.1.1
 have h3 := inR_true.1 h.2.2
 omega
def rcpTextB (r : Rcp) : ByteArray := ⟨#[82]⟩ ++ shortB r.reader ++ shortB r.topic ++ pairB r.index
def rcpTextM (r : Rcp) : ByteArray := if rcpOk r then rcpTextB r else ByteArray.empty
theorem rcpTextM_size (r : Rcp) : (rcpTextM r).size ≤ 100 := by
 by_cases h : rcpOk r = true
 ·have := rcpOk_all h
  rw [rcpTextM, if_pos h, rcpTextB]
  simp only [ByteArray.size_append, pairB_size, shortB_size]
  rw [show ((⟨#[82]⟩ : ByteArray)).size = 1 from rfl]
  omega
 ·rw [rcpTextM, if_neg h]; exact Nat.zero_le _
def rcpHashM (width : Int) (r : Rcp) : ByteArray := if rcpOk r = true then digM width 2 (rcpTextM r) else ⟨#[]⟩
def rcpHashOk (width : Int) (r : Rcp) : Bool := rcpOk r && digOk width 2 (rcpTextM r)
set_option maxRecDepth 100000 in
set_option maxHeartbeats 400000 in
theorem specReceiptOk_c (r : Rcp) (w : World) (hf : r.fits) :
  Calls Try.prog 111 #[.agg #[.string r.reader, .string r.topic, .int .i64 r.index]] w fun e w' => e = .returned (.bool (rcpOk r)) ∧ Below w.heap.size w w' := by
 obtain ⟨reader, topic, index⟩ := r
 obtain ⟨_, hreader, htopic⟩ := hf
 simp only at htopic hreader
 go_enter Try.func111, Try.ntmps111
 go_wp2_with fail
 refine (specNameOk_c _ _ hreader).mono ?_
 rintro e w1 ⟨rfl, rfl⟩
 rcases h1 : nameOk reader with _ | _
 ·go_wp2
  go_ret
  exact ⟨ret_bool (by rw [rcpOk, h1]; rfl), (Below.refl _ _).alloc (Nat.le_refl _) _⟩
 ·have H1 := Lib.hid h1
  clear h1
  go_wp2_with fail
  refine (specNameOk_c _ _ htopic).mono ?_
  rintro e w1 ⟨rfl, rfl⟩
  rcases h2 : nameOk topic with _ | _
  ·go_wp2
   go_ret
   exact ⟨ret_bool (by rw [rcpOk, H1.out, h2]; rfl), (Below.refl _ _).alloc (Nat.le_refl _) _⟩
  ·have H2 := Lib.hid h2
   clear h2
   go_wp2_with fail
   refine (l01In_c _ 0 511 _).mono ?_
   rintro e w1 ⟨rfl, rfl⟩
   go_wp2
   go_ret
   exact ⟨ret_bool (by rw [rcpOk, H1.out, H2.out]; rfl), (Below.refl _ _).alloc (Nat.le_refl _) _⟩
set_option maxRecDepth 100000 in
set_option maxHeartbeats 4000000 in
theorem specReceiptText_c (e : Rcp) (w : World) (hf : e.fits) : Calls Try.prog 114 #[.agg #[.string e.reader, .string e.topic, .int .i64 e.index]] w fun r w' => r = .returned (.tuple #[.string (rcpTextM e), .bool (rcpOk e)]) ∧ Below w.heap.size w w' := by
 have HO := Lib.hid (fun W => specReceiptOk_c e W hf)
 rcases hq : rcpOk e with _ | _
 ·have HM : Hid (rcpTextM e = ⟨#[]⟩) := by rw [Hid, rcpTextM, hq]; rfl
  rw [hq] at HO
  clear hq
  have HB : Hid (Below w.heap.size w w) := Below.refl _ _
  go_enter Try.func114, Try.ntmps114
  go_wp2_with fail
  refine calls_named (fun w1 hw => ?_)
  have hz1 : w.heap.size + 1 ≤ w1.heap.size := by rw [hw]; first | omega | (simp [World.setCell]; done) | (simp [World.setCell]; omega)
  have hzz1 : w.heap.size ≤ w1.heap.size := by omega
  have hbn : Below w.heap.size w w1 := by rw [hw]; exact (by ((repeat (first | ((with_reducible refine Below.alloc ?_ ?_ _); rotate_left 1; (focus (first | omega | (simp; done) | (simp; omega)))) | (with_reducible refine Below.drew ?_) | ((with_reducible refine Below.setCell ?_ ?_ _); rotate_left 1; (focus (first | omega | (simp; done) | (simp; omega)))))); exact Below.refl _ _))
  replace HB := Lib.hid (below_then HB.out hbn HB.out.size)
  clear hbn
  have HXh : Hid (NewBox w1 (w.heap.size) [.string e.reader, .string e.topic, .int .i64 e.index]) := by rw [Hid, hw]; exact ⟨by first | omega | (simp [World.setCell]; done) | (simp [World.setCell]; omega), fun o => by rcases o with _ | _ | _ | o <;> go_simp, fun o => by go_simp⟩
  have hxh := HXh.out.2.1
  have hfh := HXh.out.2.2
  have hkh := HXh.out.1
  clear hw
  refine (HO.out _).mono ?_
  rintro e w2 ⟨rfl, hb⟩
  have hzw2 : w1.heap.size ≤ w2.heap.size := hb.size
  have hzzw2 : w.heap.size ≤ w2.heap.size := by omega
  replace HB := Lib.hid (below_then HB.out hb HB.out.size)
  replace HXh := Lib.hid (HXh.out.below hb)
  clear hxh hfh hkh
  have hxh := HXh.out.2.1
  have hfh := HXh.out.2.2
  have hkh := HXh.out.1
  clear hb
  go_wp2
  refine bodyPost_ret (v := .tuple #[.string ⟨#[]⟩, .bool false]) (by simp [results, Try.results114, go_sem]) rfl ?_
  exact ⟨by rw [HM.out], HB.out⟩
 ·obtain ⟨g1, g2, g3, g4⟩ := rcpOk_all hq
  have HM : Hid (rcpTextM e = ⟨#[82]⟩ ++ shortB e.reader ++ shortB e.topic ++ pairB e.index) := by rw [Hid, rcpTextM, hq]; rfl
  rw [hq] at HO
  have n1 := Lib.hid (fun W => l03Short_c e.reader W (by omega))
  have n2 := Lib.hid (fun W => l03Short_c e.topic W (by omega))
  have n3 := Lib.hid (fun W => l03Number2_c (n := e.index) W g3 (by omega))
  have e1 := shortB_size e.reader
  have e2 := shortB_size e.topic
  have e3 := pairB_size e.index
  have e0 : ((⟨#[82]⟩ : ByteArray)).size = 1 := rfl
  clear hq hf
  generalize shortB e.reader = p1 at *
  generalize shortB e.topic = p2 at *
  generalize pairB e.index = p3 at *
  obtain ⟨s1, hs1⟩ : ∃ s, s = ⟨#[82]⟩ ++ p1 := ⟨_, rfl⟩
  have c1 := fun W : World => run_string_add_sum (P := Try.prog) W ⟨#[82]⟩ p1 (by omega)
  have z1 : s1.size ≤ 22 := by rw [hs1, ByteArray.size_append]; omega
  rw [← hs1] at c1
  have HS1 := Lib.hid hs1
  clear hs1
  obtain ⟨s2, hs2⟩ : ∃ s, s = s1 ++ p2 := ⟨_, rfl⟩
  have c2 := fun W : World => run_string_add_sum (P := Try.prog) W s1 p2 (by omega)
  have z2 : s2.size ≤ 44 := by rw [hs2, ByteArray.size_append]; omega
  rw [← hs2] at c2
  have HS2 := Lib.hid hs2
  clear hs2
  obtain ⟨s3, hs3⟩ : ∃ s, s = s2 ++ p3 := ⟨_, rfl⟩
  have c3 := fun W : World => run_string_add_sum (P := Try.prog) W s2 p3 (by omega)
  have z3 : s3.size ≤ 48 := by rw [hs3, ByteArray.size_append]; omega
  rw [← hs3] at c3
  have HS3 := Lib.hid hs3
  clear hs3
  have HB : Hid (Below w.heap.size w w) := Below.refl _ _
  go_enter Try.func114, Try.ntmps114
  go_wp2_with fail
  refine calls_named (fun w1 hw => ?_)
  have hz1 : w.heap.size + 1 ≤ w1.heap.size := by rw [hw]; first | omega | (simp [World.setCell]; done) | (simp [World.setCell]; omega)
  have hzz1 : w.heap.size ≤ w1.heap.size := by omega
  have hbn : Below w.heap.size w w1 := by rw [hw]; exact (by ((repeat (first | ((with_reducible refine Below.alloc ?_ ?_ _); rotate_left 1; (focus (first | omega | (simp; done) | (simp; omega)))) | (with_reducible refine Below.drew ?_) | ((with_reducible refine Below.setCell ?_ ?_ _); rotate_left 1; (focus (first | omega | (simp; done) | (simp; omega)))))); exact Below.refl _ _))
  replace HB := Lib.hid (below_then HB.out hbn HB.out.size)
  clear hbn
  have HXh : Hid (NewBox w1 (w.heap.size) [.string e.reader, .string e.topic, .int .i64 e.index]) := by rw [Hid, hw]; exact ⟨by first | omega | (simp [World.setCell]; done) | (simp [World.setCell]; omega), fun o => by rcases o with _ | _ | _ | o <;> go_simp, fun o => by go_simp⟩
  have hxh := HXh.out.2.1
  have hfh := HXh.out.2.2
  have hkh := HXh.out.1
  clear hw
  refine (HO.out _).mono ?_
  rintro e w2 ⟨rfl, hb⟩
  have hzw2 : w1.heap.size ≤ w2.heap.size := hb.size
  have hzzw2 : w.heap.size ≤ w2.heap.size := by omega
  replace HB := Lib.hid (below_then HB.out hb HB.out.size)
  replace HXh := Lib.hid (HXh.out.below hb)
  clear hxh hfh hkh
  have hxh := HXh.out.2.1
  have hfh := HXh.out.2.2
  have hkh := HXh.out.1
  clear hb
  have l0 : ∀ v : Later w2, v.v.cell? ⟨w.heap.size, 0, none⟩ = some (.string e.reader) := fun v => (later_cell v _ _ hkh).trans (hxh 0)
  have l1 : ∀ v : Later w2, v.v.cell? ⟨w.heap.size, 1, none⟩ = some (.string e.topic) := fun v => (later_cell v _ _ hkh).trans (hxh 1)
  have l2 : ∀ v : Later w2, v.v.cell? ⟨w.heap.size, 2, none⟩ = some (.int .i64 e.index) := fun v => (later_cell v _ _ hkh).trans (hxh 2)
  go_wp2_with fail
  refine wp_region_later (by kernel_rfl) (by kernel_rfl) ?_
  repeat (go_big_quiet_step ((first | with_reducible exact later_call (n1.out _) | with_reducible exact later_call (n2.out _) | with_reducible exact later_call (n3.out _))))
  refine wpQuiet_nil ?_
  intro w9 h9
  have hb9 := later_below h9
  have HB9 := Lib.hid (below_then HB.out hb9 HB.out.size)
  clear l0 l1 l2 h9 hb9
  go_wp2
  refine bodyPost_ret (v := .tuple #[.string s3, .bool true]) (by simp [results, Try.results114, go_sem]) rfl ?_
  exact ⟨by rw [HM.out, HS3.out, HS2.out, HS1.out], HB9.out⟩
set_option maxRecDepth 100000 in
set_option maxHeartbeats 400000 in
theorem specReceiptHash_c (width : Int) (e : Rcp) (w : World) (hf : e.fits) : Calls Try.prog 136 #[.int .i64 width, .agg #[.string e.reader, .string e.topic, .int .i64 e.index]] w fun r w' => r = .returned (.tuple #[.string (rcpHashM width e), .bool (rcpHashOk width e)]) ∧ Below w.heap.size w w' := by
 have HO := Lib.hid (fun W => specReceiptText_c e W hf)
 have HD := Lib.hid (fun W => specDigest_c width 2 (rcpTextM e) W (by have := rcpTextM_size e; unfold maxLen; omega))
 have HB1 : Hid (rcpHashM width e = if rcpOk e = true then digM width 2 (rcpTextM e) else ⟨#[]⟩) := Lib.hid rfl
 have HB2 : Hid (rcpHashOk width e = (rcpOk e && digOk width 2 (rcpTextM e))) := Lib.hid rfl
 clear hf
 generalize rcpOk e = q at *
 generalize rcpTextM e = tx at *
 generalize rcpHashM width e = lh at *
 generalize rcpHashOk width e = lo at *
 generalize digM width 2 tx = dg at *
 generalize digOk width 2 tx = dk at *
 have HB : Hid (Below w.heap.size w w) := Below.refl _ _
 go_enter Try.func136, Try.ntmps136
 go_wp2_with fail
 refine calls_named (fun w1 hw => ?_)
 have hz1 : w.heap.size + 1 ≤ w1.heap.size := by rw [hw]; first | omega | (simp [World.setCell]; done) | (simp [World.setCell]; omega)
 have hzz1 : w.heap.size ≤ w1.heap.size := by omega
 have hbn : Below w.heap.size w w1 := by rw [hw]; exact (by ((repeat (first | ((with_reducible refine Below.alloc ?_ ?_ _); rotate_left 1; (focus (first | omega | (simp; done) | (simp; omega)))) | (with_reducible refine Below.drew ?_) | ((with_reducible refine Below.setCell ?_ ?_ _); rotate_left 1; (focus (first | omega | (simp; done) | (simp; omega)))))); exact Below.refl _ _))
 replace HB := Lib.hid (below_then HB.out hbn HB.out.size)
 clear hbn
 have HXh : Hid (NewBox w1 (w.heap.size) [.string e.reader, .string e.topic, .int .i64 e.index]) := by rw [Hid, hw]; exact ⟨by first | omega | (simp [World.setCell]; done) | (simp [World.setCell]; omega), fun o => by rcases o with _ | _ | _ | o <;> go_simp, fun o => by go_simp⟩
 have hxh := HXh.out.2.1
 have hfh := HXh.out.2.2
 have hkh := HXh.out.1
 clear hw
 refine (HO.out _).mono ?_
 rintro e w2 ⟨rfl, hb⟩
 have hzw2 : w1.heap.size ≤ w2.heap.size := hb.size
 have hzzw2 : w.heap.size ≤ w2.heap.size := by omega
 replace HB := Lib.hid (below_then HB.out hb HB.out.size)
 replace HXh := Lib.hid (HXh.out.below hb)
 clear hxh hfh hkh
 have hxh := HXh.out.2.1
 have hfh := HXh.out.2.2
 have hkh := HXh.out.1
 clear hb
 rcases q with _ | _
 ·go_wp2
  refine bodyPost_ret (v := .tuple #[.string ⟨#[]⟩, .bool false]) (by simp [results, Try.results136, go_sem]) rfl ?_
  exact ⟨by rw [HB1.out, HB2.out]; rfl, HB.out⟩
 ·go_wp2_with fail
  refine calls_named (fun w3 hw => ?_)
  have hz3 : w2.heap.size + 0 ≤ w3.heap.size := by rw [hw]; first | omega | (simp [World.setCell]; done) | (simp [World.setCell]; omega)
  have hzz3 : w.heap.size ≤ w3.heap.size := by omega
  have hbn : Below w2.heap.size w2 w3 := by rw [hw]; exact (by ((repeat (first | ((with_reducible refine Below.alloc ?_ ?_ _); rotate_left 1; (focus (first | omega | (simp; done) | (simp; omega)))) | (with_reducible refine Below.drew ?_) | ((with_reducible refine Below.setCell ?_ ?_ _); rotate_left 1; (focus (first | omega | (simp; done) | (simp; omega)))))); exact Below.refl _ _))
  replace HB := Lib.hid (below_then HB.out hbn HB.out.size)
  replace HXh := Lib.hid (HXh.out.below hbn)
  clear hxh hfh hkh
  have hxh := HXh.out.2.1
  have hfh := HXh.out.2.2
  have hkh := HXh.out.1
  clear hbn
  clear hw
  refine (HD.out _).mono ?_
  rintro e w4 ⟨rfl, hb⟩
  have hzw4 : w3.heap.size ≤ w4.heap.size := hb.size
  have hzzw4 : w.heap.size ≤ w4.heap.size := by omega
  replace HB := Lib.hid (below_then HB.out hb HB.out.size)
  replace HXh := Lib.hid (HXh.out.below hb)
  clear hxh hfh hkh
  have hxh := HXh.out.2.1
  have hfh := HXh.out.2.2
  have hkh := HXh.out.1
  clear hb
  go_wp2
  refine bodyPost_ret (v := .tuple #[.string dg, .bool dk]) (by simp [results, Try.results136, go_sem]) rfl ?_
  exact ⟨by rw [HB1.out, HB2.out]; rfl, HB.out⟩
end Go.Proofs.Ytoccjgcokffkbaa
namespace Go.Proofs.Ytoccjgcokffkbaa
set_option linter.unusedVariables false
set_option linter.unusedSimpArgs false
open Go.RowKit Go.Shelf
/-- the first place that has a property, counted from k; or -1 -/
def firstFrom (p : Ent → Bool) : List Ent → Nat → Int
 | [], _ => -1
 | e :: r, k => if p e then (k : Int) else firstFrom p r (k + 1)
theorem drop_cons {l : List Ent} {k : Nat} {e : Ent} (h : l[k]? = some e) : l.drop k = e :: l.drop (k + 1) := by
 obtain ⟨hk, he⟩ := List.getElem?_eq_some_iff.1 h
 rw [List.drop_eq_getElem_cons hk, he]
theorem firstFrom_hit {p : Ent → Bool} {l : List Ent} {k : Nat} {e : Ent} (h : l[k]? = some e) (hp : p e = true) : firstFrom p (l.drop k) k = k := by
 rw [drop_cons h, firstFrom, if_pos hp]
theorem firstFrom_miss {p : Ent → Bool} {l : List Ent} {k : Nat} {e : Ent} (h : l[k]? = some e) (hp : p e = false) : firstFrom p (l.drop k) k = firstFrom p (l.drop (k + 1)) (k + 1) := by
 rw [drop_cons h, firstFrom, if_neg (by simp [hp])]
theorem firstFrom_end {p : Ent → Bool} {l : List Ent} : firstFrom p (l.drop l.length) l.length = -1 := by
 rw [List.drop_length, firstFrom]
def isTI (t : ByteArray) (i : Int) (e : Ent) : Bool := (e.topic.toList == t.toList) && (e.index == i)
def leafOfM (l : List Ent) (t : ByteArray) (i : Int) : Int := if logOk l then firstFrom (isTI t i) l 0 else -1
set_option maxRecDepth 100000 in
set_option maxHeartbeats 400000 in
theorem l09Leaf_c (A : Option Addr) (c lo hi n : Nat) (l : List Ent) (t : ByteArray) (q : Int) (w : World) (hr : Rd w lo hi A (ents l)) (hn : l.length = n) (hl : n ≤ 1048576) :
  Calls Try.prog 112 #[.slice A n c, .string t, .int .i64 q] w fun e w' => e = .returned (.int .i64 (firstFrom (isTI t q) l 0)) ∧ w = w' := by
 have HN := Lib.hid hn
 clear hn
 go_enter Try.func112, Try.ntmps112
 go_wp2
 go_loop [7] (fun i => ∃ k : Nat, k ≤ n ∧ i = .int .i64 k ∧ firstFrom (isTI t q) l 0 = firstFrom (isTI t q) (l.drop k) k) (fun i => n - (intOf i).toNat)
 case atStart => exact ⟨0, Nat.zero_le _, rfl, rfl⟩
 case round =>
  obtain ⟨k, hk, rfl, hst⟩ := hrel
  have HST := Lib.hid hst
  clear hst
  by_cases hlt : k < n
  ·obtain ⟨b, off, x, rfl, _, _, hb, hks, hcell⟩ := hr.flat (f := Ent.cells) (m := 5) (fun _ => rfl) (by omega) (k := k) (by rw [HN.out]; exact hlt)
   have hc0 : w.cell? ⟨b, off + k * 5, none⟩ = some (.string x.topic) := hcell 0 _ rfl
   have hc1 : w.cell? ⟨b, off + k * 5 + 1, none⟩ = some (.int .i64 x.index) := hcell 1 _ rfl
   have hI1 : (0 : Int) ≤ (k : Int) := by omega
   have hI2 : (k : Int) < (n : Int) := by omega
   have HK := Lib.hid hks
   clear hcell hks hr
   rcases ht : (x.topic.toList == t.toList) with _ | _
   ·have HS := Lib.hid (firstFrom_miss (p := isTI t q) HK.out (by rw [isTI, ht, Bool.false_and]))
    go_wp2
    go_round
    case rel => exact ⟨k + 1, by omega, by go_num, by rw [HST.out, HS.out]⟩
    case measure => simp [intOf]; omega
   ·rcases hy : (x.index == q) with _ | _
    ·have HS := Lib.hid (firstFrom_miss (p := isTI t q) HK.out (by rw [isTI, hy, Bool.and_false]))
     go_wp2
     go_round
     case rel => exact ⟨k + 1, by omega, by go_num, by rw [HST.out, HS.out]⟩
     case measure => simp [intOf]; omega
    ·have HS := Lib.hid (firstFrom_hit (p := isTI t q) HK.out (by rw [isTI, hy, ht]; rfl))
     go_wp2
     go_ret
     exact ⟨ret_int (by rw [HST.out, HS.out]), rfl⟩
  ·obtain rfl : k = n := by omega
   go_wp2
   go_ret
   exact ⟨ret_int (by rw [HST.out, ← HN.out, firstFrom_end]), rfl⟩
set_option maxRecDepth 100000 in
set_option maxHeartbeats 400000 in
theorem leafPred_c (t : ByteArray) (q : Int) (B1 B2 : Nat) (x : Ent) (w : World) (h1 : B1 < w.heap.size) (h2 : B2 < w.heap.size) (hc1 : w.cell? ⟨B1, 0, none⟩ = some (.string t)) (hc2 : w.cell? ⟨B2, 0, none⟩ = some (.int .i64 q)) :
  Calls Try.prog 84 #[.agg #[.string x.topic, .int .i64 x.index, .int .i64 x.time, .string x.key, .string x.body], .pointer (some ⟨B1, 0, none⟩), .pointer (some ⟨B2, 0, none⟩)] w fun e w' => e = .returned (.bool (isTI t q x)) ∧ Below w.heap.size w w' := by
 obtain ⟨topic, index, time, key, body⟩ := x
 rcases ht : (topic.toList == t.toList) with _ | _
 ·go_enter Try.func84, Try.ntmps84
  go_wp2
  go_ret
  exact ⟨ret_bool (by rw [isTI]; simp only; rw [ht]; rfl), (Below.refl _ _).alloc (Nat.le_refl _) _⟩
 ·go_enter Try.func84, Try.ntmps84
  go_wp2
  go_ret
  exact ⟨ret_bool (by rw [isTI]; simp only; rw [ht]; rfl), (Below.refl _ _).alloc (Nat.le_refl _) _⟩
set_option maxRecDepth 100000 in
set_option maxHeartbeats 400000 in
theorem indexFunc_c (A : Option Addr) (c lo hi n : Nat) (l : List Ent) (t : ByteArray) (q : Int) (B1 B2 : Nat) (w : World) (hr : Rd w lo hi A (ents l)) (hn : l.length = n) (hl : n ≤ 1048576)
  (h1 : B1 < w.heap.size) (h2 : B2 < w.heap.size) (hc1 : w.cell? ⟨B1, 0, none⟩ = some (.string t)) (hc2 : w.cell? ⟨B2, 0, none⟩ = some (.int .i64 q)) :
  Calls Try.prog 83 #[.slice A n c, .func (.func 84) #[] #[.pointer (some ⟨B1, 0, none⟩), .pointer (some ⟨B2, 0, none⟩)]] w fun e w' => e = .returned (.int .i64 (firstFrom (isTI t q) l 0)) ∧ Below w.heap.size w w' := by
 have HN := Lib.hid hn
 clear hn
 have eg : ∀ args w, (callFunc 84 args).run Try.prog w = .ok (.enter 84 args) w := enters_of Try.func84 (by kernel_rfl) rfl
 go_enter Try.func83, Try.ntmps83
 go_wp2
 go_loopw [5, 8] (fun _ i wr => ∃ k : Nat, k ≤ n ∧ i = .int .i64 k ∧ firstFrom (isTI t q) l 0 = firstFrom (isTI t q) (l.drop k) k ∧ Below w.heap.size w wr) (fun _ i _ => n - (intOf i).toNat)
 case atStart => exact ⟨0, Nat.zero_le _, rfl, rfl, Below.refl _ _⟩
 case round =>
  obtain ⟨k, hk, rfl, hst, hb0⟩ := hrel
  have HST := Lib.hid hst
  have HB0 := Lib.hid hb0
  clear hst
  by_cases hlt : k < n
  ·obtain ⟨b, off, x, rfl, _, _, hb, hks, hcell⟩ := (hr.below hb0).flat (f := Ent.cells) (m := 5) (fun _ => rfl) (by omega) (k := k) (by rw [HN.out]; exact hlt)
   have hc0 : wr.cell? ⟨b, off + k * 5, none⟩ = some (.string x.topic) := hcell 0 _ rfl
   have hc1' : wr.cell? ⟨b, off + k * 5 + 1, none⟩ = some (.int .i64 x.index) := hcell 1 _ rfl
   have hc2' : wr.cell? ⟨b, off + k * 5 + 2, none⟩ = some (.int .i64 x.time) := hcell 2 _ rfl
   have hc3 : wr.cell? ⟨b, off + k * 5 + 3, none⟩ = some (.string x.key) := hcell 3 _ rfl
   have hc4 : wr.cell? ⟨b, off + k * 5 + 4, none⟩ = some (.string x.body) := hcell 4 _ rfl
   have hI1 : (0 : Int) ≤ (k : Int) := by omega
   have hI2 : (k : Int) < (n : Int) := by omega
   have HK := Lib.hid hks
   have HP := Lib.hid (leafPred_c t q B1 B2 x wr (Nat.lt_of_lt_of_le h1 hb0.size) (Nat.lt_of_lt_of_le h2 hb0.size) ((hb0.cell (p := ⟨B1, 0, none⟩) h1).trans hc1) ((hb0.cell (p := ⟨B2, 0, none⟩) h2).trans hc2))
   clear hcell hks hr hb0 hc1 hc2
   rcases hp : isTI t q x with _ | _
   ·have HS := Lib.hid (firstFrom_miss (p := isTI t q) HK.out hp)
    rw [hp] at HP
    go_wp2_with (go_at_fn 84; refine HP.out.mono ?_; rintro e w2 ⟨rfl, hb2⟩)
    go_roundw
    case rel => exact ⟨k + 1, by omega, by go_num, by rw [HST.out, HS.out], below_then HB0.out hb2 HB0.out.size⟩
    case measure => simp [intOf]; omega
   ·have HS := Lib.hid (firstFrom_hit (p := isTI t q) HK.out hp)
    rw [hp] at HP
    go_wp2_with (go_at_fn 84; refine HP.out.mono ?_; rintro e w2 ⟨rfl, hb2⟩)
    go_ret
    exact ⟨ret_int (by rw [HST.out, HS.out]), below_then HB0.out hb2 HB0.out.size⟩
  ·obtain rfl : k = n := by omega
   clear hr hb0
   go_wp2
   go_ret
   exact ⟨ret_int (by rw [HST.out, ← HN.out, firstFrom_end]), HB0.out⟩
set_option maxRecDepth 100000 in
set_option maxHeartbeats 400000 in
theorem leafOf_c (A : Option Addr) (c lo hi n : Nat) (l : List Ent) (t : ByteArray) (q : Int) (w : World) (hr : Rd w lo hi A (ents l)) (hn : l.length = n) (hl : n ≤ 1048576) :
  Calls Try.prog 52 #[.agg #[.slice A n c], .string t, .int .i64 q] w fun e w' => e = .returned (.int .i64 (firstFrom (isTI t q) l 0)) ∧ Below w.heap.size w w' := by
 go_enter Try.func52, Try.ntmps52
 go_wp2_with fail
 refine (indexFunc_c A c _ _ n l t q _ _ _ (((hr.alloc _).alloc _).alloc _) hn hl (by first | omega | (simp; done) | (simp; omega)) (by simp) (by go_simp) (by go_simp)).mono ?_
 rintro e w1 ⟨rfl, hb1⟩
 have HB1 : Hid (Below w.heap.size w w1) := below_then ((((Below.refl _ _).alloc (Nat.le_refl _) _).alloc (by first | omega | (simp; done) | (simp; omega)) _).alloc (by first | omega | (simp; done) | (simp; omega)) _) hb1 (by first | omega | (simp; done) | (simp; omega))
 clear hb1
 go_wp2
 go_ret
 exact ⟨rfl, HB1.out⟩
set_option maxRecDepth 100000 in
set_option maxHeartbeats 400000 in
theorem implLeafOf_c (A : Option Addr) (c lo hi n : Nat) (l : List Ent) (t : ByteArray) (q : Int) (w : World) (hr : Rd w lo hi A (ents l)) (hn : l.length = n) (hl : n ≤ 1048576) (hf : ∀ x ∈ l, x.fits) :
  Calls Try.prog 20 #[.agg #[.slice A n c], .string t, .int .i64 q] w fun e w' => e = .returned (.int .i64 (leafOfM l t q)) ∧ Below w.heap.size w w' := by
 go_enter Try.func20, Try.ntmps20
 go_wp2_with fail
 refine (implLogOk_c A c _ _ n l _ (hr.alloc _) hn hl hf).mono ?_
 rintro e w1 ⟨rfl, hb1⟩
 have hx1 : w1.cell? ⟨w.heap.size, 0, none⟩ = some (.slice A n c) := cell_later hb1 (by go_simp)
 have hq1 : w.heap.size < w1.heap.size := by have := hb1.size; simp at this; omega
 have HB1 : Hid (Below w.heap.size w w1) := below_then ((Below.refl _ _).alloc (Nat.le_refl _) _) hb1 (by first | omega | (simp; done) | (simp; omega))
 clear hb1
 rcases h1 : logOk l with _ | _
 ·go_wp2
  go_ret
  exact ⟨ret_int (by rw [leafOfM, h1]; rfl), HB1.out⟩
 ·have H1 := Lib.hid h1
  clear h1
  go_wp2_with fail
  refine (leafOf_c A c _ _ n l t q _ (hr.below HB1.out) hn hl).mono ?_
  rintro e w2 ⟨rfl, hb2⟩
  have HB2 := Lib.hid (below_then HB1.out hb2 HB1.out.size)
  clear hb2
  go_wp2
  go_ret
  exact ⟨ret_int (by rw [leafOfM, H1.out]; rfl), HB2.out⟩
end Go.Proofs.Ytoccjgcokffkbaa
namespace Go.Proofs.Ytoccjgcokffkbaa
set_option linter.unusedVariables false
set_option linter.unusedSimpArgs false
open Go.RowKit
def sealFit (h : Hd) (z1 z2 : Int) (r1 r2 : ByteArray) : Bool := (h.size == z1) && (h.root.toList == r1.toList) && (h.taken == z2) && (h.troot.toList == r2.toList)
def sealOk (width z1 : Int) (l1 : List ByteArray) (z2 : Int) (l2 : List ByteArray) (h : Hd) : Bool := rngOk width z1 l1 && rngOk width z2 l2 && headOk width h && sealFit h z1 z2 (rrT width z1 l1) (rrT width z2 l2)
set_option maxRecDepth 100000 in
set_option maxHeartbeats 4000000 in
theorem specSealOk_c (width z1 z2 : Int) (A1 A2 : Option Addr) (c1 c2 lo1 hi1 lo2 hi2 m1 m2 : Nat) (l1 l2 : List ByteArray) (h : Hd) (w : World) (hR1 : Rd w lo1 hi1 A1 (strs l1)) (hR2 : Rd w lo2 hi2 A2 (strs l2)) (hn1 : l1.length = m1) (hn2 : l2.length = m2) (hm1 : m1 ≤ 1048576) (hm2 : m2 ≤ 1048576) (hz : h.bulk ≤ 1048576) :
  Calls Try.prog 58 #[.int .i64 width, .agg #[.int .i64 z1, .slice A1 m1 c1, .int .i64 z2, .slice A2 m2 c2, .int .i64 h.num, .int .i64 h.size, .string h.root, .int .i64 h.taken, .string h.troot]] w fun e w' => e = .returned (.bool (sealOk width z1 l1 z2 l2 h)) ∧ Below w.heap.size w w' := by
 have HC1 := Lib.hid (fun W (h : Rd W 0 W.heap.size A1 (strs l1)) => specRangeRoot_c width z1 A1 c1 0 W.heap.size m1 l1 W h hn1 hm1)
 have HC2 := Lib.hid (fun W (h : Rd W 0 W.heap.size A2 (strs l2)) => specRangeRoot_c width z2 A2 c2 0 W.heap.size m2 l2 W h hn2 hm2)
 have HC3 := Lib.hid (fun W => specHeadOk_c width h W hz)
 have HR1 : Hid (Rd w 0 w.heap.size A1 (strs l1)) := Lib.hid hR1.base
 have HR2 : Hid (Rd w 0 w.heap.size A2 (strs l2)) := Lib.hid hR2.base
 have HDEF : Hid (sealOk width z1 l1 z2 l2 h = (rngOk width z1 l1 && rngOk width z2 l2 && headOk width h && ((h.size == z1) && (h.root.toList == (rrT width z1 l1).toList) && (h.taken == z2) && (h.troot.toList == (rrT width z2 l2).toList)))) := Lib.hid rfl
 clear hR1 hR2 hn1 hn2
 generalize sealOk width z1 l1 z2 l2 h = so at *
 generalize rngOk width z1 l1 = q1 at *
 generalize rngOk width z2 l2 = q2 at *
 generalize headOk width h = q3 at *
 generalize rrT width z1 l1 = r1 at *
 generalize rrT width z2 l2 = r2 at *
 generalize rrN width z1 l1 = n1 at *
 generalize rrN width z2 l2 = n2 at *
 have HB : Hid (Below w.heap.size w w) := Below.refl _ _
 go_enter Try.func58, Try.ntmps58
 go_wp2_with fail
 refine calls_named (fun w1 hw => ?_)
 have hz1 : w.heap.size + 1 ≤ w1.heap.size := by rw [hw]; first | omega | (simp [World.setCell]; done) | (simp [World.setCell]; omega)
 have hzz1 : w.heap.size ≤ w1.heap.size := by omega
 have hbn : Below w.heap.size w w1 := by rw [hw]; exact (by ((repeat (first | ((with_reducible refine Below.alloc ?_ ?_ _); rotate_left 1; (focus (first | omega | (simp; done) | (simp; omega)))) | (with_reducible refine Below.drew ?_) | ((with_reducible refine Below.setCell ?_ ?_ _); rotate_left 1; (focus (first | omega | (simp; done) | (simp; omega)))))); exact Below.refl _ _))
 replace HB := Lib.hid (below_then HB.out hbn HB.out.size)
 clear hbn
 have HXs : Hid (NewBox w1 (w.heap.size) [.int .i64 z1, .slice A1 m1 c1, .int .i64 z2, .slice A2 m2 c2, .int .i64 h.num, .int .i64 h.size, .string h.root, .int .i64 h.taken, .string h.troot]) := by rw [Hid, hw]; exact ⟨by first | omega | (simp [World.setCell]; done) | (simp [World.setCell]; omega), fun o => by rcases o with _ | _ | _ | _ | _ | _ | _ | _ | _ | o <;> go_simp, fun o => by go_simp⟩
 have hxs := HXs.out.2.1
 have hfs := HXs.out.2.2
 have hks := HXs.out.1
 clear hw
 refine (HC1.out _ (HR1.out.below HB.out).base).mono ?_
 rintro e w2 ⟨rfl, hb⟩
 have hzw2 : w1.heap.size ≤ w2.heap.size := hb.size
 have hzzw2 : w.heap.size ≤ w2.heap.size := by omega
 replace HB := Lib.hid (below_then HB.out hb HB.out.size)
 replace HXs := Lib.hid (HXs.out.below hb)
 clear hxs hfs hks
 have hxs := HXs.out.2.1
 have hfs := HXs.out.2.2
 have hks := HXs.out.1
 clear hb
 go_wp2_with fail
 refine calls_named (fun w3 hw => ?_)
 have hz3 : w2.heap.size + 0 ≤ w3.heap.size := by rw [hw]; first | omega | (simp [World.setCell]; done) | (simp [World.setCell]; omega)
 have hzz3 : w.heap.size ≤ w3.heap.size := by omega
 have hbn : Below w2.heap.size w2 w3 := by rw [hw]; exact (by ((repeat (first | ((with_reducible refine Below.alloc ?_ ?_ _); rotate_left 1; (focus (first | omega | (simp; done) | (simp; omega)))) | (with_reducible refine Below.drew ?_) | ((with_reducible refine Below.setCell ?_ ?_ _); rotate_left 1; (focus (first | omega | (simp; done) | (simp; omega)))))); exact Below.refl _ _))
 replace HB := Lib.hid (below_then HB.out hbn HB.out.size)
 replace HXs := Lib.hid (HXs.out.below hbn)
 clear hxs hfs hks
 have hxs := HXs.out.2.1
 have hfs := HXs.out.2.2
 have hks := HXs.out.1
 clear hbn
 clear hw
 refine (HC2.out _ (HR2.out.below HB.out).base).mono ?_
 rintro e w4 ⟨rfl, hb⟩
 have hzw4 : w3.heap.size ≤ w4.heap.size := hb.size
 have hzzw4 : w.heap.size ≤ w4.heap.size := by omega
 replace HB := Lib.hid (below_then HB.out hb HB.out.size)
 replace HXs := Lib.hid (HXs.out.below hb)
 clear hxs hfs hks
 have hxs := HXs.out.2.1
 have hfs := HXs.out.2.2
 have hks := HXs.out.1
 clear hb
 rcases q1 with _ | _
 ·go_wp2
  go_ret
  exact ⟨ret_bool (by rw [HDEF.out]; rfl), HB.out⟩
 ·rcases q2 with _ | _
  ·go_wp2
   go_ret
   exact ⟨ret_bool (by rw [HDEF.out]; rfl), HB.out⟩
  ·skip
   go_wp2_with fail
   refine calls_named (fun w5 hw => ?_)
   have hz5 : w4.heap.size + 0 ≤ w5.heap.size := by rw [hw]; first | omega | (simp [World.setCell]; done) | (simp [World.setCell]; omega)
   have hzz5 : w.heap.size ≤ w5.heap.size := by omega
   have hbn : Below w4.heap.size w4 w5 := by rw [hw]; exact (by ((repeat (first | ((with_reducible refine Below.alloc ?_ ?_ _); rotate_left 1; (focus (first | omega | (simp; done) | (simp; omega)))) | (with_reducible refine Below.drew ?_) | ((with_reducible refine Below.setCell ?_ ?_ _); rotate_left 1; (focus (first | omega | (simp; done) | (simp; omega)))))); exact Below.refl _ _))
   replace HB := Lib.hid (below_then HB.out hbn HB.out.size)
   replace HXs := Lib.hid (HXs.out.below hbn)
   clear hxs hfs hks
   have hxs := HXs.out.2.1
   have hfs := HXs.out.2.2
   have hks := HXs.out.1
   clear hbn
   clear hw
   refine (HC3.out _).mono ?_
   rintro e w6 ⟨rfl, hb⟩
   have hzw6 : w5.heap.size ≤ w6.heap.size := hb.size
   have hzzw6 : w.heap.size ≤ w6.heap.size := by omega
   replace HB := Lib.hid (below_then HB.out hb HB.out.size)
   replace HXs := Lib.hid (HXs.out.below hb)
   clear hxs hfs hks
   have hxs := HXs.out.2.1
   have hfs := HXs.out.2.2
   have hks := HXs.out.1
   clear hb
   rcases q3 with _ | _
   ·go_wp2
    go_ret
    exact ⟨ret_bool (by rw [HDEF.out]; rfl), HB.out⟩
   ·rcases h1 : (h.size == z1) with _ | _ <;> rcases h2 : (h.root.toList == r1.toList) with _ | _ <;> rcases h3 : (h.taken == z2) with _ | _ <;> rcases h4 : (h.troot.toList == r2.toList) with _ | _
    all_goals
     rw [h1, h2, h3, h4] at HDEF
     go_wp2
     go_ret
     exact ⟨ret_bool (by rw [HDEF.out]; rfl), HB.out⟩
end Go.Proofs.Ytoccjgcokffkbaa
namespace Go.Proofs.Ytoccjgcokffkbaa
set_option linter.unusedVariables false
set_option linter.unusedSimpArgs false
open Go.RowKit
/-- what SealMore comes to -/
def smFit (z1 z2 : Int) (h : Hd) (k1 k2 : Nat) : Bool := decide ((k1 : Int) ≤ 512 - z1) && decide ((k2 : Int) ≤ 512 - z2) && !(h.num == 399)
def smOk (width z1 : Int) (l1 : List ByteArray) (z2 : Int) (l2 : List ByteArray) (h : Hd) (L T : List ByteArray) : Bool := sealOk width z1 l1 z2 l2 h && areH width L && areH width T && smFit z1 z2 h L.length T.length
def smCode (width z1 : Int) (l1 : List ByteArray) (z2 : Int) (l2 : List ByteArray) (h : Hd) (L T : List ByteArray) : Int :=
 if sealOk width z1 l1 z2 l2 h = false then 1 else if areH width L = false then 2 else if areH width T = false then 3 else if smFit z1 z2 h L.length T.length = false then 4 else 0
def smP (width z : Int) (l L : List ByteArray) : List ByteArray := growUp width z.toNat l L L.length
def smL1 (width z1 : Int) (l1 : List ByteArray) (z2 : Int) (l2 : List ByteArray) (h : Hd) (L T : List ByteArray) : List ByteArray := if smOk width z1 l1 z2 l2 h L T then smP width z1 l1 L else []
def smL2 (width z1 : Int) (l1 : List ByteArray) (z2 : Int) (l2 : List ByteArray) (h : Hd) (L T : List ByteArray) : List ByteArray := if smOk width z1 l1 z2 l2 h L T then smP width z2 l2 T else []
def smZ1 (width z1 : Int) (l1 : List ByteArray) (z2 : Int) (l2 : List ByteArray) (h : Hd) (L T : List ByteArray) : Int := if smOk width z1 l1 z2 l2 h L T then z1 + L.length else 0
def smZ2 (width z1 : Int) (l1 : List ByteArray) (z2 : Int) (l2 : List ByteArray) (h : Hd) (L T : List ByteArray) : Int := if smOk width z1 l1 z2 l2 h L T then z2 + T.length else 0
def smH (width z1 : Int) (l1 : List ByteArray) (z2 : Int) (l2 : List ByteArray) (h : Hd) (L T : List ByteArray) : Hd :=
 if smOk width z1 l1 z2 l2 h L T then ⟨h.num + 1, z1 + L.length, rngRoot width (smP width z1 l1 L), z2 + T.length, rngRoot width (smP width z2 l2 T)⟩ else ⟨0, 0, ByteArray.empty, 0, ByteArray.empty⟩
def smN (width z1 : Int) (l1 : List ByteArray) (z2 : Int) (l2 : List ByteArray) (h : Hd) (L T : List ByteArray) : Int :=
 if smOk width z1 l1 z2 l2 h L T then ((callsUp z1.toNat L.length + callsUp z2.toNat T.length + rngMade (smP width z1 l1 L) + rngMade (smP width z2 l2 T) : Nat) : Int) else 0
theorem sealOk_all {width z1 z2 : Int} {l1 l2 : List ByteArray} {h : Hd} (hs : sealOk width z1 l1 z2 l2 h = true) : rngOk width z1 l1 = true ∧ rngOk width z2 l2 = true ∧ 0 ≤ h.num ∧ h.num ≤ 399 := by
 rw [sealOk, Bool.and_eq_true, Bool.and_eq_true, Bool.and_eq_true] at hs
 obtain ⟨⟨⟨h1, h2⟩, h3⟩, _⟩ := hs
 rw [headOk, Bool.and_eq_true, Bool.and_eq_true, Bool.and_eq_true] at h3
 have := inR_true.1 h3.1.1.2
 exact ⟨h1, h2, this.1, this.2⟩
theorem rng_grow {width z : Int} {l L : List ByteArray} (h : rngOk width z l = true) (ha : areH width L = true) (hk : (L.length : Int) ≤ 512 - z) :
  rngOk width (z + L.length) (smP width z l L) = true ∧ (smP width z l L).length ≤ 20 ∧ callsUp z.toNat L.length ≤ 10 * 512 := by
 obtain ⟨h1, h2, h3, h4, h5⟩ := rngOk_all h
 have h7 : l.length = popN z.toNat := by rw [h3, ← popC_nat (by omega)]; congr 1; omega
 have h8 := growUp_len (width := width) (leaves := L) h7 (k := L.length) (by omega)
 have h9 := growUp_are h5 h7 h4 ha (k := L.length) (by omega) (Nat.le_refl _)
 refine ⟨?_, ?_, ?_⟩
 ·rw [rngOk, Bool.and_eq_true, Bool.and_eq_true, Bool.and_eq_true]
  refine ⟨⟨inR_true.2 ⟨by omega, by omega⟩, decide_eq_true ?_⟩, h9, h5⟩
  rw [smP, h8, ← popC_nat (by omega)]; congr 1; omega
 ·rw [smP, h8]
  have := popUp_le (z.toNat + L.length) 10
  show popUp _ 10 ≤ _
  omega
 ·have := callsUp_le z.toNat L.length; omega
def SmPost (w : World) (z1 : Int) (l1 : List ByteArray) (z2 : Int) (l2 : List ByteArray) (h : Hd) (n code : Int) (e : Ending) (w' : World) : Prop :=
 ∃ (A1 : Option Addr) (c1 a1 b1 : Nat) (A2 : Option Addr) (c2 a2 b2 : Nat), e = .returned (.tuple #[.agg #[.int .i64 z1, .slice A1 l1.length c1, .int .i64 z2, .slice A2 l2.length c2, .int .i64 h.num, .int .i64 h.size, .string h.root, .int .i64 h.taken, .string h.troot], .int .i64 n, .int .i64 code]) ∧
   (w.heap.size ≤ a1 ∧ b1 ≤ w'.heap.size ∧ Own w' a1 b1 A1 (strs l1) ∧ (A1 = none → c1 = 0)) ∧ (w.heap.size ≤ a2 ∧ b2 ≤ w'.heap.size ∧ Own w' a2 b2 A2 (strs l2) ∧ (A2 = none → c2 = 0)) ∧ (b1 ≤ a2 ∨ b2 ≤ a1) ∧ Below w.heap.size w w'
def noHd : Hd := ⟨0, 0, ByteArray.empty, 0, ByteArray.empty⟩
theorem smBad_post {w w' : World} (hB : Below w.heap.size w w') (code : Int) :
  SmPost w 0 [] 0 [] noHd 0 code (.returned (.tuple #[.agg #[.int .i64 0, .slice none 0 0, .int .i64 0, .slice none 0 0, .int .i64 0, .int .i64 0, .string ⟨#[]⟩, .int .i64 0, .string ⟨#[]⟩], .int .i64 0, .int .i64 code])) w' :=
 ⟨none, 0, w'.heap.size, w'.heap.size, none, 0, w'.heap.size, w'.heap.size, rfl, ⟨hB.size, Nat.le_refl _, Own.nil, fun _ => rfl⟩, ⟨hB.size, Nat.le_refl _, Own.nil, fun _ => rfl⟩, .inl (Nat.le_refl _), hB⟩
theorem sm_bad {width z1 z2 : Int} {l1 l2 : List ByteArray} {h : Hd} {L T : List ByteArray} (hb : smOk width z1 l1 z2 l2 h L T = false) :
  smZ1 width z1 l1 z2 l2 h L T = 0 ∧ smL1 width z1 l1 z2 l2 h L T = [] ∧ smZ2 width z1 l1 z2 l2 h L T = 0 ∧ smL2 width z1 l1 z2 l2 h L T = [] ∧ smH width z1 l1 z2 l2 h L T = noHd ∧ smN width z1 l1 z2 l2 h L T = 0 := by
 rw [smZ1, smL1, smZ2, smL2, smH, smN, hb]; exact ⟨rfl, rfl, rfl, rfl, rfl, rfl⟩
theorem sm_good {width z1 z2 : Int} {l1 l2 : List ByteArray} {h : Hd} {L T : List ByteArray} (hb : smOk width z1 l1 z2 l2 h L T = true) :
  smZ1 width z1 l1 z2 l2 h L T = z1 + L.length ∧ smL1 width z1 l1 z2 l2 h L T = smP width z1 l1 L ∧ smZ2 width z1 l1 z2 l2 h L T = z2 + T.length ∧ smL2 width z1 l1 z2 l2 h L T = smP width z2 l2 T ∧
  smH width z1 l1 z2 l2 h L T = ⟨h.num + 1, z1 + L.length, rngRoot width (smP width z1 l1 L), z2 + T.length, rngRoot width (smP width z2 l2 T)⟩ ∧
  smN width z1 l1 z2 l2 h L T = ((callsUp z1.toNat L.length + callsUp z2.toNat T.length + rngMade (smP width z1 l1 L) + rngMade (smP width z2 l2 T) : Nat) : Int) := by
 rw [smZ1, smL1, smZ2, smL2, smH, smN, hb]; exact ⟨rfl, rfl, rfl, rfl, rfl, rfl⟩
set_option maxRecDepth 100000 in
set_option maxHeartbeats 4000000 in
theorem specSealMore_c (width z1 z2 : Int) (A1 A2 : Option Addr) (c1 c2 lo1 hi1 lo2 hi2 m1 m2 : Nat) (l1 l2 : List ByteArray) (h : Hd) (X1 X2 : Option Addr) (g1 g2 lo3 hi3 lo4 hi4 k1 k2 : Nat) (L T : List ByteArray) (w : World)
  (hR1 : Rd w lo1 hi1 A1 (strs l1)) (hR2 : Rd w lo2 hi2 A2 (strs l2)) (hX1 : Rd w lo3 hi3 X1 (strs L)) (hX2 : Rd w lo4 hi4 X2 (strs T)) (hn1 : l1.length = m1) (hn2 : l2.length = m2) (hk1 : L.length = k1) (hk2 : T.length = k2)
  (hm1 : m1 ≤ 1048576) (hm2 : m2 ≤ 1048576) (hm3 : k1 ≤ 1048576) (hm4 : k2 ≤ 1048576) (hA1 : A1 = none → c1 = 0) (hA2 : A2 = none → c2 = 0) (hI1 : I64 z1) (hI2 : I64 z2) (hz : h.bulk ≤ 1048576) :
  Calls Try.prog 23 #[.int .i64 width, .agg #[.int .i64 z1, .slice A1 m1 c1, .int .i64 z2, .slice A2 m2 c2, .int .i64 h.num, .int .i64 h.size, .string h.root, .int .i64 h.taken, .string h.troot], .slice X1 k1 g1, .slice X2 k2 g2] w fun e w' => SmPost w (smZ1 width z1 l1 z2 l2 h L T) (smL1 width z1 l1 z2 l2 h L T) (smZ2 width z1 l1 z2 l2 h L T) (smL2 width z1 l1 z2 l2 h L T) (smH width z1 l1 z2 l2 h L T) (smN width z1 l1 z2 l2 h L T) (smCode width z1 l1 z2 l2 h L T) e w' := by
 have HSO := Lib.hid (fun W (r1 : Rd W 0 W.heap.size A1 (strs l1)) (r2 : Rd W 0 W.heap.size A2 (strs l2)) => specSealOk_c width z1 z2 A1 A2 c1 c2 0 W.heap.size 0 W.heap.size m1 m2 l1 l2 h W r1 r2 hn1 hn2 hm1 hm2 hz)
 have HH1 := Lib.hid (fun W (r : Rd W 0 W.heap.size X1 (strs L)) => l04Hashes_c width X1 g1 0 W.heap.size k1 L W r hk1 hm3)
 have HH2 := Lib.hid (fun W (r : Rd W 0 W.heap.size X2 (strs T)) => l04Hashes_c width X2 g2 0 W.heap.size k2 T W r hk2 hm4)
 have HG1 := Lib.hid (fun W (r1 : Rd W 0 W.heap.size A1 (strs l1)) (r2 : Rd W 0 W.heap.size X1 (strs L)) => specGrowAllN_c width z1 A1 c1 0 W.heap.size m1 l1 X1 g1 0 W.heap.size k1 L W r1 hn1 hm1 hA1 r2 hk1 hm3 hI1)
 have HG2 := Lib.hid (fun W (r1 : Rd W 0 W.heap.size A2 (strs l2)) (r2 : Rd W 0 W.heap.size X2 (strs T)) => specGrowAllN_c width z2 A2 c2 0 W.heap.size m2 l2 X2 g2 0 W.heap.size k2 T W r1 hn2 hm2 hA2 r2 hk2 hm4 hI2)
 have HOK : Hid (smOk width z1 l1 z2 l2 h L T = (sealOk width z1 l1 z2 l2 h && areH width L && areH width T && smFit z1 z2 h k1 k2)) := Lib.hid (by rw [smOk, hk1, hk2])
 have HCD : Hid (smCode width z1 l1 z2 l2 h L T = if sealOk width z1 l1 z2 l2 h = false then 1 else if areH width L = false then 2 else if areH width T = false then 3 else if smFit z1 z2 h k1 k2 = false then 4 else 0) := Lib.hid (by rw [smCode, hk1, hk2])
 have HBD := Lib.hid (fun hb => sm_bad (width := width) (z1 := z1) (z2 := z2) (l1 := l1) (l2 := l2) (h := h) (L := L) (T := T) hb)
 have HGD := Lib.hid (fun hb => sm_good (width := width) (z1 := z1) (z2 := z2) (l1 := l1) (l2 := l2) (h := h) (L := L) (T := T) hb)
 rw [hk1, hk2] at HGD
 have HK := Lib.hid (And.intro hk1 hk2)
 generalize smZ1 width z1 l1 z2 l2 h L T = s1 at *
 generalize smL1 width z1 l1 z2 l2 h L T = p1 at *
 generalize smZ2 width z1 l1 z2 l2 h L T = s2 at *
 generalize smL2 width z1 l1 z2 l2 h L T = p2 at *
 generalize smH width z1 l1 z2 l2 h L T = sh at *
 generalize smN width z1 l1 z2 l2 h L T = sn at *
 generalize smCode width z1 l1 z2 l2 h L T = sc at *
 generalize smOk width z1 l1 z2 l2 h L T = ok at *
 have HB : Hid (Below w.heap.size w w) := Below.refl _ _
 have HOA : Hid (Rd w (0) (w.heap.size) (A1) (strs l1)) := Rd.base hR1
 have HOB : Hid (Rd w (0) (w.heap.size) (A2) (strs l2)) := Rd.base hR2
 have HOX : Hid (Rd w (0) (w.heap.size) (X1) (strs L)) := Rd.base hX1
 have HOY : Hid (Rd w (0) (w.heap.size) (X2) (strs T)) := Rd.base hX2
 clear hR1 hR2 hX1 hX2 hn1 hn2 hk1 hk2 hA1 hA2
 go_enter Try.func23, Try.ntmps23
 go_wp2_with fail
 refine calls_named (fun w1 hw => ?_)
 have hz1 : w.heap.size + 2 ≤ w1.heap.size := by rw [hw]; first | omega | (simp [World.setCell]; done) | (simp [World.setCell]; omega)
 have hzz1 : w.heap.size ≤ w1.heap.size := by omega
 have hbn : Below w.heap.size w w1 := by rw [hw]; exact (by ((repeat (first | ((with_reducible refine Below.alloc ?_ ?_ _); rotate_left 1; (focus (first | omega | (simp; done) | (simp; omega)))) | (with_reducible refine Below.drew ?_) | ((with_reducible refine Below.setCell ?_ ?_ _); rotate_left 1; (focus (first | omega | (simp; done) | (simp; omega)))))); exact Below.refl _ _))
 replace HB := Lib.hid (below_then HB.out hbn HB.out.size)
 replace HOA := Lib.hid (HOA.out.below hbn)
 replace HOB := Lib.hid (HOB.out.below hbn)
 replace HOX := Lib.hid (HOX.out.below hbn)
 replace HOY := Lib.hid (HOY.out.below hbn)
 clear hbn
 have HXs : Hid (NewBox w1 (w.heap.size) [.int .i64 z1, .slice A1 m1 c1, .int .i64 z2, .slice A2 m2 c2, .int .i64 h.num, .int .i64 h.size, .string h.root, .int .i64 h.taken, .string h.troot]) := by rw [Hid, hw]; exact ⟨by first | omega | (simp [World.setCell]; done) | (simp [World.setCell]; omega), fun o => by rcases o with _ | _ | _ | _ | _ | _ | _ | _ | _ | o <;> go_simp, fun o => by go_simp⟩
 have hxs := HXs.out.2.1
 have hfs := HXs.out.2.2
 have hks := HXs.out.1
 have HXq : Hid (NewBox w1 (w.heap.size + 1) [.int .i64 0, .slice none 0 0, .int .i64 0, .slice none 0 0, .int .i64 0, .int .i64 0, .string ⟨#[]⟩, .int .i64 0, .string ⟨#[]⟩]) := by rw [Hid, hw]; exact ⟨by first | omega | (simp [World.setCell]; done) | (simp [World.setCell]; omega), fun o => by rcases o with _ | _ | _ | _ | _ | _ | _ | _ | _ | o <;> go_simp, fun o => by go_simp⟩
 have hxq := HXq.out.2.1
 have hfq := HXq.out.2.2
 have hkq := HXq.out.1
 clear hw
 refine (HSO.out _ HOA.out.base HOB.out.base).mono ?_
 rintro e w2 ⟨rfl, hb⟩
 have hzw2 : w1.heap.size ≤ w2.heap.size := hb.size
 have hzzw2 : w.heap.size ≤ w2.heap.size := by omega
 replace HB := Lib.hid (below_then HB.out hb HB.out.size)
 replace HOA := Lib.hid (HOA.out.below hb)
 replace HOB := Lib.hid (HOB.out.below hb)
 replace HOX := Lib.hid (HOX.out.below hb)
 replace HOY := Lib.hid (HOY.out.below hb)
 replace HXs := Lib.hid (HXs.out.below hb)
 clear hxs hfs hks
 have hxs := HXs.out.2.1
 have hfs := HXs.out.2.2
 have hks := HXs.out.1
 replace HXq := Lib.hid (HXq.out.below hb)
 clear hxq hfq hkq
 have hxq := HXq.out.2.1
 have hfq := HXq.out.2.2
 have hkq := HXq.out.1
 clear hb
 rcases hq1 : sealOk width z1 l1 z2 l2 h with _ | _
 ·skip
  have hz0 : ok = false := by rw [HOK.out, hq1]; simp
  obtain ⟨rfl, rfl, rfl, rfl, rfl, rfl⟩ := HBD.out hz0
  have hsc : sc = 1 := by rw [HCD.out, hq1, if_pos rfl]
  subst hsc
  clear HOK HCD HBD HGD hz0 hq1
  go_wp2
  refine bodyPost_named (fun w3 hw => ?_)
  have hz3 : w2.heap.size + 0 ≤ w3.heap.size := by rw [hw]; first | omega | (simp [World.setCell]; done) | (simp [World.setCell]; omega)
  have hzz3 : w.heap.size ≤ w3.heap.size := by omega
  replace HB : Hid (Below w.heap.size w w3) := by rw [Hid, hw]; exact (by ((repeat (first | ((with_reducible refine Below.alloc ?_ ?_ _); rotate_left 1; (focus (first | omega | (simp; done) | (simp; omega)))) | (with_reducible refine Below.drew ?_) | ((with_reducible refine Below.setCell ?_ ?_ _); rotate_left 1; (focus (first | omega | (simp; done) | (simp; omega)))))); exact HB.out))
  replace HOA : Hid (Rd w3 (0) (w.heap.size) (A1) (strs l1)) := by rw [Hid, hw]; (repeat (first | (with_reducible refine Rd.alloc ?_ _) | (with_reducible refine Rd.drew ?_) | ((with_reducible refine Rd.setCell ?_ ?_ _); rotate_left 1; (focus (first | omega | (simp; done) | (simp; omega)))))); exact HOA.out
  replace HOB : Hid (Rd w3 (0) (w.heap.size) (A2) (strs l2)) := by rw [Hid, hw]; (repeat (first | (with_reducible refine Rd.alloc ?_ _) | (with_reducible refine Rd.drew ?_) | ((with_reducible refine Rd.setCell ?_ ?_ _); rotate_left 1; (focus (first | omega | (simp; done) | (simp; omega)))))); exact HOB.out
  replace HOX : Hid (Rd w3 (0) (w.heap.size) (X1) (strs L)) := by rw [Hid, hw]; (repeat (first | (with_reducible refine Rd.alloc ?_ _) | (with_reducible refine Rd.drew ?_) | ((with_reducible refine Rd.setCell ?_ ?_ _); rotate_left 1; (focus (first | omega | (simp; done) | (simp; omega)))))); exact HOX.out
  replace HOY : Hid (Rd w3 (0) (w.heap.size) (X2) (strs T)) := by rw [Hid, hw]; (repeat (first | (with_reducible refine Rd.alloc ?_ _) | (with_reducible refine Rd.drew ?_) | ((with_reducible refine Rd.setCell ?_ ?_ _); rotate_left 1; (focus (first | omega | (simp; done) | (simp; omega)))))); exact HOY.out
  replace HXs : Hid (NewBox w3 (w.heap.size) [.int .i64 z1, .slice A1 m1 c1, .int .i64 z2, .slice A2 m2 c2, .int .i64 h.num, .int .i64 h.size, .string h.root, .int .i64 h.taken, .string h.troot]) := by rw [Hid, hw]; (repeat (first | (with_reducible refine NewBox.alloc ?_ _) | (with_reducible refine NewBox.drew ?_) | ((with_reducible refine NewBox.setCell ?_ ?_ _); rotate_left 1; (focus (first | omega | (simp; done) | (simp; omega)))))); exact HXs.out
  clear hxs hfs hks
  have hxs := HXs.out.2.1
  have hfs := HXs.out.2.2
  have hks := HXs.out.1
  replace HXq : Hid (NewBox w3 (w.heap.size + 1) [.int .i64 0, .slice none 0 0, .int .i64 0, .slice none 0 0, .int .i64 0, .int .i64 0, .string ⟨#[]⟩, .int .i64 0, .string ⟨#[]⟩]) := by rw [Hid, hw]; apply NewBox.cast; (focus ((repeat (first | (with_reducible apply NewBox.alloc) | (with_reducible apply NewBox.drew) | (with_reducible apply NewBox.set1) | ((with_reducible apply NewBox.far); (focus (first | omega | (simp; done) | (simp; omega)))))); exact HXq.out)); rfl
  clear hxq hfq hkq
  have hxq := HXq.out.2.1
  have hfq := HXq.out.2.2
  have hkq := HXq.out.1
  clear hw
  refine bodyPost_ret (v := .tuple #[.agg #[.int .i64 0, .slice none 0 0, .int .i64 0, .slice none 0 0, .int .i64 0, .int .i64 0, .string ⟨#[]⟩, .int .i64 0, .string ⟨#[]⟩], .int .i64 0, .int .i64 1]) (by simp [results, Try.results23, go_sem, hxq]) rfl ?_
  exact smBad_post HB.out _
 have HQ1 := Lib.hid hq1
 rw [hq1, if_neg (by decide)] at HCD
 rw [hq1] at HOK
 clear hq1
 go_wp2_with fail
 refine (HH1.out _ HOX.out.base).mono ?_
 rintro e w3_ ⟨rfl, rfl⟩
 rcases hq2 : areH width L with _ | _
 ·rw [Bool.false_and]
  have hz0 : ok = false := by rw [HOK.out, hq2]; simp
  obtain ⟨rfl, rfl, rfl, rfl, rfl, rfl⟩ := HBD.out hz0
  have hsc : sc = 2 := by rw [HCD.out, hq2, if_pos rfl]
  subst hsc
  clear HOK HCD HBD HGD hz0 hq2
  go_wp2
  refine bodyPost_named (fun w4 hw => ?_)
  have hz4 : w2.heap.size + 0 ≤ w4.heap.size := by rw [hw]; first | omega | (simp [World.setCell]; done) | (simp [World.setCell]; omega)
  have hzz4 : w.heap.size ≤ w4.heap.size := by omega
  replace HB : Hid (Below w.heap.size w w4) := by rw [Hid, hw]; exact (by ((repeat (first | ((with_reducible refine Below.alloc ?_ ?_ _); rotate_left 1; (focus (first | omega | (simp; done) | (simp; omega)))) | (with_reducible refine Below.drew ?_) | ((with_reducible refine Below.setCell ?_ ?_ _); rotate_left 1; (focus (first | omega | (simp; done) | (simp; omega)))))); exact HB.out))
  replace HOA : Hid (Rd w4 (0) (w.heap.size) (A1) (strs l1)) := by rw [Hid, hw]; (repeat (first | (with_reducible refine Rd.alloc ?_ _) | (with_reducible refine Rd.drew ?_) | ((with_reducible refine Rd.setCell ?_ ?_ _); rotate_left 1; (focus (first | omega | (simp; done) | (simp; omega)))))); exact HOA.out
  replace HOB : Hid (Rd w4 (0) (w.heap.size) (A2) (strs l2)) := by rw [Hid, hw]; (repeat (first | (with_reducible refine Rd.alloc ?_ _) | (with_reducible refine Rd.drew ?_) | ((with_reducible refine Rd.setCell ?_ ?_ _); rotate_left 1; (focus (first | omega | (simp; done) | (simp; omega)))))); exact HOB.out
  replace HOX : Hid (Rd w4 (0) (w.heap.size) (X1) (strs L)) := by rw [Hid, hw]; (repeat (first | (with_reducible refine Rd.alloc ?_ _) | (with_reducible refine Rd.drew ?_) | ((with_reducible refine Rd.setCell ?_ ?_ _); rotate_left 1; (focus (first | omega | (simp; done) | (simp; omega)))))); exact HOX.out
  replace HOY : Hid (Rd w4 (0) (w.heap.size) (X2) (strs T)) := by rw [Hid, hw]; (repeat (first | (with_reducible refine Rd.alloc ?_ _) | (with_reducible refine Rd.drew ?_) | ((with_reducible refine Rd.setCell ?_ ?_ _); rotate_left 1; (focus (first | omega | (simp; done) | (simp; omega)))))); exact HOY.out
  replace HXs : Hid (NewBox w4 (w.heap.size) [.int .i64 z1, .slice A1 m1 c1, .int .i64 z2, .slice A2 m2 c2, .int .i64 h.num, .int .i64 h.size, .string h.root, .int .i64 h.taken, .string h.troot]) := by rw [Hid, hw]; (repeat (first | (with_reducible refine NewBox.alloc ?_ _) | (with_reducible refine NewBox.drew ?_) | ((with_reducible refine NewBox.setCell ?_ ?_ _); rotate_left 1; (focus (first | omega | (simp; done) | (simp; omega)))))); exact HXs.out
  clear hxs hfs hks
  have hxs := HXs.out.2.1
  have hfs := HXs.out.2.2
  have hks := HXs.out.1
  replace HXq : Hid (NewBox w4 (w.heap.size + 1) [.int .i64 0, .slice none 0 0, .int .i64 0, .slice none 0 0, .int .i64 0, .int .i64 0, .string ⟨#[]⟩, .int .i64 0, .string ⟨#[]⟩]) := by rw [Hid, hw]; apply NewBox.cast; (focus ((repeat (first | (with_reducible apply NewBox.alloc) | (with_reducible apply NewBox.drew) | (with_reducible apply NewBox.set1) | ((with_reducible apply NewBox.far); (focus (first | omega | (simp; done) | (simp; omega)))))); exact HXq.out)); rfl
  clear hxq hfq hkq
  have hxq := HXq.out.2.1
  have hfq := HXq.out.2.2
  have hkq := HXq.out.1
  clear hw
  refine bodyPost_ret (v := .tuple #[.agg #[.int .i64 0, .slice none 0 0, .int .i64 0, .slice none 0 0, .int .i64 0, .int .i64 0, .string ⟨#[]⟩, .int .i64 0, .string ⟨#[]⟩], .int .i64 0, .int .i64 2]) (by simp [results, Try.results23, go_sem, hxq]) rfl ?_
  exact smBad_post HB.out _
 have HQ2 := Lib.hid hq2
 obtain ⟨u1, u2, u3, u4⟩ := sealOk_all HQ1.out
 have hwd := (rngOk_all u1).2.2.2.2
 rw [hwd, Bool.and_true]
 rw [hq2, if_neg (by decide)] at HCD
 rw [hq2] at HOK
 clear hq2
 go_wp2_with fail
 refine (HH2.out _ HOY.out.base).mono ?_
 rintro e w4_ ⟨rfl, rfl⟩
 rcases hq3 : areH width T with _ | _
 ·rw [Bool.false_and]
  clear u1 u2 hwd
  have hz0 : ok = false := by rw [HOK.out, hq3]; simp
  obtain ⟨rfl, rfl, rfl, rfl, rfl, rfl⟩ := HBD.out hz0
  have hsc : sc = 3 := by rw [HCD.out, hq3, if_pos rfl]
  subst hsc
  clear HOK HCD HBD HGD hz0 hq3
  go_wp2
  refine bodyPost_named (fun w5 hw => ?_)
  have hz5 : w2.heap.size + 0 ≤ w5.heap.size := by rw [hw]; first | omega | (simp [World.setCell]; done) | (simp [World.setCell]; omega)
  have hzz5 : w.heap.size ≤ w5.heap.size := by omega
  replace HB : Hid (Below w.heap.size w w5) := by rw [Hid, hw]; exact (by ((repeat (first | ((with_reducible refine Below.alloc ?_ ?_ _); rotate_left 1; (focus (first | omega | (simp; done) | (simp; omega)))) | (with_reducible refine Below.drew ?_) | ((with_reducible refine Below.setCell ?_ ?_ _); rotate_left 1; (focus (first | omega | (simp; done) | (simp; omega)))))); exact HB.out))
  replace HOA : Hid (Rd w5 (0) (w.heap.size) (A1) (strs l1)) := by rw [Hid, hw]; (repeat (first | (with_reducible refine Rd.alloc ?_ _) | (with_reducible refine Rd.drew ?_) | ((with_reducible refine Rd.setCell ?_ ?_ _); rotate_left 1; (focus (first | omega | (simp; done) | (simp; omega)))))); exact HOA.out
  replace HOB : Hid (Rd w5 (0) (w.heap.size) (A2) (strs l2)) := by rw [Hid, hw]; (repeat (first | (with_reducible refine Rd.alloc ?_ _) | (with_reducible refine Rd.drew ?_) | ((with_reducible refine Rd.setCell ?_ ?_ _); rotate_left 1; (focus (first | omega | (simp; done) | (simp; omega)))))); exact HOB.out
  replace HOX : Hid (Rd w5 (0) (w.heap.size) (X1) (strs L)) := by rw [Hid, hw]; (repeat (first | (with_reducible refine Rd.alloc ?_ _) | (with_reducible refine Rd.drew ?_) | ((with_reducible refine Rd.setCell ?_ ?_ _); rotate_left 1; (focus (first | omega | (simp; done) | (simp; omega)))))); exact HOX.out
  replace HOY : Hid (Rd w5 (0) (w.heap.size) (X2) (strs T)) := by rw [Hid, hw]; (repeat (first | (with_reducible refine Rd.alloc ?_ _) | (with_reducible refine Rd.drew ?_) | ((with_reducible refine Rd.setCell ?_ ?_ _); rotate_left 1; (focus (first | omega | (simp; done) | (simp; omega)))))); exact HOY.out
  replace HXs : Hid (NewBox w5 (w.heap.size) [.int .i64 z1, .slice A1 m1 c1, .int .i64 z2, .slice A2 m2 c2, .int .i64 h.num, .int .i64 h.size, .string h.root, .int .i64 h.taken, .string h.troot]) := by rw [Hid, hw]; (repeat (first | (with_reducible refine NewBox.alloc ?_ _) | (with_reducible refine NewBox.drew ?_) | ((with_reducible refine NewBox.setCell ?_ ?_ _); rotate_left 1; (focus (first | omega | (simp; done) | (simp; omega)))))); exact HXs.out
  clear hxs hfs hks
  have hxs := HXs.out.2.1
  have hfs := HXs.out.2.2
  have hks := HXs.out.1
  replace HXq : Hid (NewBox w5 (w.heap.size + 1) [.int .i64 0, .slice none 0 0, .int .i64 0, .slice none 0 0, .int .i64 0, .int .i64 0, .string ⟨#[]⟩, .int .i64 0, .string ⟨#[]⟩]) := by rw [Hid, hw]; apply NewBox.cast; (focus ((repeat (first | (with_reducible apply NewBox.alloc) | (with_reducible apply NewBox.drew) | (with_reducible apply NewBox.set1) | ((with_reducible apply NewBox.far); (focus (first | omega | (simp; done) | (simp; omega)))))); exact HXq.out)); rfl
  clear hxq hfq hkq
  have hxq := HXq.out.2.1
  have hfq := HXq.out.2.2
  have hkq := HXq.out.1
  clear hw
  refine bodyPost_ret (v := .tuple #[.agg #[.int .i64 0, .slice none 0 0, .int .i64 0, .slice none 0 0, .int .i64 0, .int .i64 0, .string ⟨#[]⟩, .int .i64 0, .string ⟨#[]⟩], .int .i64 0, .int .i64 3]) (by simp [results, Try.results23, go_sem, hxq]) rfl ?_
  exact smBad_post HB.out _
 have HQ3 := Lib.hid hq3
 rw [hwd, Bool.and_true]
 rw [hq3, if_neg (by decide)] at HCD
 rw [hq3] at HOK
 clear hq3
 obtain ⟨ok1, ho1⟩ : ∃ o, o = growOk width z1 l1 L := ⟨_, rfl⟩
 obtain ⟨ok2, ho2⟩ : ∃ o, o = growOk width z2 l2 T := ⟨_, rfl⟩
 have HO1 : Hid (ok1 = decide ((k1 : Int) ≤ 512 - z1)) := Lib.hid (by rw [ho1, growOk, u1, HQ2.out, HK.out.1]; rfl)
 have HO2 : Hid (ok2 = decide ((k2 : Int) ≤ 512 - z2)) := Lib.hid (by rw [ho2, growOk, u2, HQ3.out, HK.out.2]; rfl)
 have HP1 : Hid (ok1 = true → gSize width z1 l1 L = z1 + k1 ∧ gPeaks width z1 l1 L = smP width z1 l1 L ∧ gCalls width z1 l1 L = (callsUp z1.toNat k1 : Nat)) := Lib.hid (fun hh => by rw [gSize, gPeaks, gCalls, ← ho1, hh, HK.out.1, smP, HK.out.1]; exact ⟨rfl, rfl, rfl⟩)
 have HP2 : Hid (ok2 = true → gSize width z2 l2 T = z2 + k2 ∧ gPeaks width z2 l2 T = smP width z2 l2 T ∧ gCalls width z2 l2 T = (callsUp z2.toNat k2 : Nat)) := Lib.hid (fun hh => by rw [gSize, gPeaks, gCalls, ← ho2, hh, HK.out.2, smP, HK.out.2]; exact ⟨rfl, rfl, rfl⟩)
 have HU := Lib.hid (And.intro u1 u2)
 rw [← ho1] at HG1
 rw [← ho2] at HG2
 clear ho1 ho2 u1 u2 hwd HSO HH1 HH2
 generalize gSize width z1 l1 L = gs1 at *
 generalize gPeaks width z1 l1 L = gp1 at *
 generalize gCalls width z1 l1 L = gc1 at *
 generalize gSize width z2 l2 T = gs2 at *
 generalize gPeaks width z2 l2 T = gp2 at *
 generalize gCalls width z2 l2 T = gc2 at *
 go_wp2_with fail
 refine calls_named (fun w5 hw => ?_)
 have hz5 : w2.heap.size + 0 ≤ w5.heap.size := by rw [hw]; first | omega | (simp [World.setCell]; done) | (simp [World.setCell]; omega)
 have hzz5 : w.heap.size ≤ w5.heap.size := by omega
 have hbn : Below w2.heap.size w2 w5 := by rw [hw]; exact (by ((repeat (first | ((with_reducible refine Below.alloc ?_ ?_ _); rotate_left 1; (focus (first | omega | (simp; done) | (simp; omega)))) | (with_reducible refine Below.drew ?_) | ((with_reducible refine Below.setCell ?_ ?_ _); rotate_left 1; (focus (first | omega | (simp; done) | (simp; omega)))))); exact Below.refl _ _))
 replace HB := Lib.hid (below_then HB.out hbn HB.out.size)
 replace HOA := Lib.hid (HOA.out.below hbn)
 replace HOB := Lib.hid (HOB.out.below hbn)
 replace HOX := Lib.hid (HOX.out.below hbn)
 replace HOY := Lib.hid (HOY.out.below hbn)
 replace HXs := Lib.hid (HXs.out.below hbn)
 clear hxs hfs hks
 have hxs := HXs.out.2.1
 have hfs := HXs.out.2.2
 have hks := HXs.out.1
 replace HXq := Lib.hid (HXq.out.below hbn)
 clear hxq hfq hkq
 have hxq := HXq.out.2.1
 have hfq := HXq.out.2.2
 have hkq := HXq.out.1
 clear hbn
 clear hw
 refine (HG1.out _ HOA.out.base HOX.out.base).mono ?_
 rintro e w6 ⟨A3, c3, rfl, ⟨hown3, hn3⟩, hb⟩
 have hzw6 : w5.heap.size ≤ w6.heap.size := hb.size
 have hzzw6 : w.heap.size ≤ w6.heap.size := by omega
 replace HB := Lib.hid (below_then HB.out hb HB.out.size)
 replace HOA := Lib.hid (HOA.out.below hb)
 replace HOB := Lib.hid (HOB.out.below hb)
 replace HOX := Lib.hid (HOX.out.below hb)
 replace HOY := Lib.hid (HOY.out.below hb)
 replace HXs := Lib.hid (HXs.out.below hb)
 clear hxs hfs hks
 have hxs := HXs.out.2.1
 have hfs := HXs.out.2.2
 have hks := HXs.out.1
 replace HXq := Lib.hid (HXq.out.below hb)
 clear hxq hfq hkq
 have hxq := HXq.out.2.1
 have hfq := HXq.out.2.2
 have hkq := HXq.out.1
 clear hb
 have hb3 : w.heap.size + 2 ≤ w5.heap.size := by omega
 have HOR : Hid (Own w6 (w5.heap.size) (w6.heap.size) (A3) (strs gp1)) := hown3
 have hb4 : Hid (w.heap.size ≤ w5.heap.size) := Lib.hid (by omega)
 obtain ⟨e1, he1⟩ : ∃ e1, e1 = w6.heap.size := ⟨_, rfl⟩
 have HN3 := Lib.hid hn3
 clear hown3 hn3
 go_wp2_with fail
 refine calls_named (fun w7 hw => ?_)
 have hz7 : w6.heap.size + 1 ≤ w7.heap.size := by rw [hw]; first | omega | (simp [World.setCell]; done) | (simp [World.setCell]; omega)
 have hzz7 : w.heap.size ≤ w7.heap.size := by omega
 have hbn : Below w6.heap.size w6 w7 := by rw [hw]; exact (by ((repeat (first | ((with_reducible refine Below.alloc ?_ ?_ _); rotate_left 1; (focus (first | omega | (simp; done) | (simp; omega)))) | (with_reducible refine Below.drew ?_) | ((with_reducible refine Below.setCell ?_ ?_ _); rotate_left 1; (focus (first | omega | (simp; done) | (simp; omega)))))); exact Below.refl _ _))
 replace HB := Lib.hid (below_then HB.out hbn HB.out.size)
 replace HOA := Lib.hid (HOA.out.below hbn)
 replace HOB := Lib.hid (HOB.out.below hbn)
 replace HOX := Lib.hid (HOX.out.below hbn)
 replace HOY := Lib.hid (HOY.out.below hbn)
 replace HOR := Lib.hid (HOR.out.below hbn)
 replace HXs := Lib.hid (HXs.out.below hbn)
 clear hxs hfs hks
 have hxs := HXs.out.2.1
 have hfs := HXs.out.2.2
 have hks := HXs.out.1
 replace HXq := Lib.hid (HXq.out.below hbn)
 clear hxq hfq hkq
 have hxq := HXq.out.2.1
 have hfq := HXq.out.2.2
 have hkq := HXq.out.1
 clear hbn
 have HXa : Hid (NewBox w7 (w6.heap.size) [.int .i64 gs1, .slice A3 gp1.length c3]) := by rw [Hid, hw]; exact ⟨by first | omega | (simp [World.setCell]; done) | (simp [World.setCell]; omega), fun o => by rcases o with _ | _ | o <;> go_simp, fun o => by go_simp⟩
 have hxa := HXa.out.2.1
 have hfa := HXa.out.2.2
 have hka := HXa.out.1
 clear hw
 refine (HG2.out _ HOB.out.base HOY.out.base).mono ?_
 rintro e w8 ⟨A4, c4, rfl, ⟨hown4, hn4⟩, hb⟩
 have hzw8 : w7.heap.size ≤ w8.heap.size := hb.size
 have hzzw8 : w.heap.size ≤ w8.heap.size := by omega
 replace HB := Lib.hid (below_then HB.out hb HB.out.size)
 replace HOA := Lib.hid (HOA.out.below hb)
 replace HOB := Lib.hid (HOB.out.below hb)
 replace HOX := Lib.hid (HOX.out.below hb)
 replace HOY := Lib.hid (HOY.out.below hb)
 replace HOR := Lib.hid (HOR.out.below hb)
 replace HXs := Lib.hid (HXs.out.below hb)
 clear hxs hfs hks
 have hxs := HXs.out.2.1
 have hfs := HXs.out.2.2
 have hks := HXs.out.1
 replace HXq := Lib.hid (HXq.out.below hb)
 clear hxq hfq hkq
 have hxq := HXq.out.2.1
 have hfq := HXq.out.2.2
 have hkq := HXq.out.1
 replace HXa := Lib.hid (HXa.out.below hb)
 clear hxa hfa hka
 have hxa := HXa.out.2.1
 have hfa := HXa.out.2.2
 have hka := HXa.out.1
 clear hb
 have HOZ : Hid (Own w8 (w7.heap.size) (w8.heap.size) (A4) (strs gp2)) := hown4
 have hb5 : e1 ≤ w7.heap.size := by omega
 have HN4 := Lib.hid hn4
 clear hown4 hn4
 have HFIT : Hid (smFit z1 z2 h k1 k2 = (ok1 && ok2 && !(h.num == 399))) := Lib.hid (by rw [smFit, ← HO1.out, ← HO2.out])
 clear HG1 HG2
 rcases ok1 with _ | _
 ·have hq4 : smFit z1 z2 h k1 k2 = false := by rw [HFIT.out]; rfl
  have hz0 : ok = false := by rw [HOK.out, hq4]; simp
  obtain ⟨rfl, rfl, rfl, rfl, rfl, rfl⟩ := HBD.out hz0
  have hsc : sc = 4 := by rw [HCD.out, hq4, if_pos rfl]
  subst hsc
  clear HOK HCD HBD HGD hz0 hq4
  go_wp2
  refine bodyPost_named (fun w9 hw => ?_)
  have hz9 : w8.heap.size + 1 ≤ w9.heap.size := by rw [hw]; first | omega | (simp [World.setCell]; done) | (simp [World.setCell]; omega)
  have hzz9 : w.heap.size ≤ w9.heap.size := by omega
  replace HB : Hid (Below w.heap.size w w9) := by rw [Hid, hw]; exact (by ((repeat (first | ((with_reducible refine Below.alloc ?_ ?_ _); rotate_left 1; (focus (first | omega | (simp; done) | (simp; omega)))) | (with_reducible refine Below.drew ?_) | ((with_reducible refine Below.setCell ?_ ?_ _); rotate_left 1; (focus (first | omega | (simp; done) | (simp; omega)))))); exact HB.out))
  replace HOA : Hid (Rd w9 (0) (w.heap.size) (A1) (strs l1)) := by rw [Hid, hw]; (repeat (first | (with_reducible refine Rd.alloc ?_ _) | (with_reducible refine Rd.drew ?_) | ((with_reducible refine Rd.setCell ?_ ?_ _); rotate_left 1; (focus (first | omega | (simp; done) | (simp; omega)))))); exact HOA.out
  replace HOB : Hid (Rd w9 (0) (w.heap.size) (A2) (strs l2)) := by rw [Hid, hw]; (repeat (first | (with_reducible refine Rd.alloc ?_ _) | (with_reducible refine Rd.drew ?_) | ((with_reducible refine Rd.setCell ?_ ?_ _); rotate_left 1; (focus (first | omega | (simp; done) | (simp; omega)))))); exact HOB.out
  replace HOX : Hid (Rd w9 (0) (w.heap.size) (X1) (strs L)) := by rw [Hid, hw]; (repeat (first | (with_reducible refine Rd.alloc ?_ _) | (with_reducible refine Rd.drew ?_) | ((with_reducible refine Rd.setCell ?_ ?_ _); rotate_left 1; (focus (first | omega | (simp; done) | (simp; omega)))))); exact HOX.out
  replace HOY : Hid (Rd w9 (0) (w.heap.size) (X2) (strs T)) := by rw [Hid, hw]; (repeat (first | (with_reducible refine Rd.alloc ?_ _) | (with_reducible refine Rd.drew ?_) | ((with_reducible refine Rd.setCell ?_ ?_ _); rotate_left 1; (focus (first | omega | (simp; done) | (simp; omega)))))); exact HOY.out
  replace HOR : Hid (Own w9 (w5.heap.size) (w6.heap.size) (A3) (strs gp1)) := by rw [Hid, hw]; (repeat (first | (with_reducible refine Own.alloc ?_ _) | (with_reducible refine Own.drew ?_) | ((with_reducible refine Own.setCell ?_ ?_ _); rotate_left 1; (focus (first | omega | (simp; done) | (simp; omega)))))); exact HOR.out
  replace HOZ : Hid (Own w9 (w7.heap.size) (w8.heap.size) (A4) (strs gp2)) := by rw [Hid, hw]; (repeat (first | (with_reducible refine Own.alloc ?_ _) | (with_reducible refine Own.drew ?_) | ((with_reducible refine Own.setCell ?_ ?_ _); rotate_left 1; (focus (first | omega | (simp; done) | (simp; omega)))))); exact HOZ.out
  replace HXs : Hid (NewBox w9 (w.heap.size) [.int .i64 z1, .slice A1 m1 c1, .int .i64 z2, .slice A2 m2 c2, .int .i64 h.num, .int .i64 h.size, .string h.root, .int .i64 h.taken, .string h.troot]) := by rw [Hid, hw]; (repeat (first | (with_reducible refine NewBox.alloc ?_ _) | (with_reducible refine NewBox.drew ?_) | ((with_reducible refine NewBox.setCell ?_ ?_ _); rotate_left 1; (focus (first | omega | (simp; done) | (simp; omega)))))); exact HXs.out
  clear hxs hfs hks
  have hxs := HXs.out.2.1
  have hfs := HXs.out.2.2
  have hks := HXs.out.1
  replace HXq : Hid (NewBox w9 (w.heap.size + 1) [.int .i64 0, .slice none 0 0, .int .i64 0, .slice none 0 0, .int .i64 0, .int .i64 0, .string ⟨#[]⟩, .int .i64 0, .string ⟨#[]⟩]) := by rw [Hid, hw]; apply NewBox.cast; (focus ((repeat (first | (with_reducible apply NewBox.alloc) | (with_reducible apply NewBox.drew) | (with_reducible apply NewBox.set1) | ((with_reducible apply NewBox.far); (focus (first | omega | (simp; done) | (simp; omega)))))); exact HXq.out)); rfl
  clear hxq hfq hkq
  have hxq := HXq.out.2.1
  have hfq := HXq.out.2.2
  have hkq := HXq.out.1
  replace HXa : Hid (NewBox w9 (w6.heap.size) [.int .i64 gs1, .slice A3 gp1.length c3]) := by rw [Hid, hw]; (repeat (first | (with_reducible refine NewBox.alloc ?_ _) | (with_reducible refine NewBox.drew ?_) | ((with_reducible refine NewBox.setCell ?_ ?_ _); rotate_left 1; (focus (first | omega | (simp; done) | (simp; omega)))))); exact HXa.out
  clear hxa hfa hka
  have hxa := HXa.out.2.1
  have hfa := HXa.out.2.2
  have hka := HXa.out.1
  have HXb : Hid (NewBox w9 (w8.heap.size) [.int .i64 gs2, .slice A4 gp2.length c4]) := by rw [Hid, hw]; exact ⟨by first | omega | (simp [World.setCell]; done) | (simp [World.setCell]; omega), fun o => by rcases o with _ | _ | o <;> go_simp, fun o => by go_simp⟩
  have hxb := HXb.out.2.1
  have hfb := HXb.out.2.2
  have hkb := HXb.out.1
  clear hw
  refine bodyPost_ret (v := .tuple #[.agg #[.int .i64 0, .slice none 0 0, .int .i64 0, .slice none 0 0, .int .i64 0, .int .i64 0, .string ⟨#[]⟩, .int .i64 0, .string ⟨#[]⟩], .int .i64 0, .int .i64 4]) (by simp [results, Try.results23, go_sem, hxq]) rfl ?_
  exact smBad_post HB.out _
 rcases ok2 with _ | _
 ·have hq4 : smFit z1 z2 h k1 k2 = false := by rw [HFIT.out]; rfl
  have hz0 : ok = false := by rw [HOK.out, hq4]; simp
  obtain ⟨rfl, rfl, rfl, rfl, rfl, rfl⟩ := HBD.out hz0
  have hsc : sc = 4 := by rw [HCD.out, hq4, if_pos rfl]
  subst hsc
  clear HOK HCD HBD HGD hz0 hq4
  go_wp2
  refine bodyPost_named (fun w9 hw => ?_)
  have hz9 : w8.heap.size + 1 ≤ w9.heap.size := by rw [hw]; first | omega | (simp [World.setCell]; done) | (simp [World.setCell]; omega)
  have hzz9 : w.heap.size ≤ w9.heap.size := by omega
  replace HB : Hid (Below w.heap.size w w9) := by rw [Hid, hw]; exact (by ((repeat (first | ((with_reducible refine Below.alloc ?_ ?_ _); rotate_left 1; (focus (first | omega | (simp; done) | (simp; omega)))) | (with_reducible refine Below.drew ?_) | ((with_reducible refine Below.setCell ?_ ?_ _); rotate_left 1; (focus (first | omega | (simp; done) | (simp; omega)))))); exact HB.out))
  replace HOA : Hid (Rd w9 (0) (w.heap.size) (A1) (strs l1)) := by rw [Hid, hw]; (repeat (first | (with_reducible refine Rd.alloc ?_ _) | (with_reducible refine Rd.drew ?_) | ((with_reducible refine Rd.setCell ?_ ?_ _); rotate_left 1; (focus (first | omega | (simp; done) | (simp; omega)))))); exact HOA.out
  replace HOB : Hid (Rd w9 (0) (w.heap.size) (A2) (strs l2)) := by rw [Hid, hw]; (repeat (first | (with_reducible refine Rd.alloc ?_ _) | (with_reducible refine Rd.drew ?_) | ((with_reducible refine Rd.setCell ?_ ?_ _); rotate_left 1; (focus (first | omega | (simp; done) | (simp; omega)))))); exact HOB.out
  replace HOX : Hid (Rd w9 (0) (w.heap.size) (X1) (strs L)) := by rw [Hid, hw]; (repeat (first | (with_reducible refine Rd.alloc ?_ _) | (with_reducible refine Rd.drew ?_) | ((with_reducible refine Rd.setCell ?_ ?_ _); rotate_left 1; (focus (first | omega | (simp; done) | (simp; omega)))))); exact HOX.out
  replace HOY : Hid (Rd w9 (0) (w.heap.size) (X2) (strs T)) := by rw [Hid, hw]; (repeat (first | (with_reducible refine Rd.alloc ?_ _) | (with_reducible refine Rd.drew ?_) | ((with_reducible refine Rd.setCell ?_ ?_ _); rotate_left 1; (focus (first | omega | (simp; done) | (simp; omega)))))); exact HOY.out
  replace HOR : Hid (Own w9 (w5.heap.size) (w6.heap.size) (A3) (strs gp1)) := by rw [Hid, hw]; (repeat (first | (with_reducible refine Own.alloc ?_ _) | (with_reducible refine Own.drew ?_) | ((with_reducible refine Own.setCell ?_ ?_ _); rotate_left 1; (focus (first | omega | (simp; done) | (simp; omega)))))); exact HOR.out
  replace HOZ : Hid (Own w9 (w7.heap.size) (w8.heap.size) (A4) (strs gp2)) := by rw [Hid, hw]; (repeat (first | (with_reducible refine Own.alloc ?_ _) | (with_reducible refine Own.drew ?_) | ((with_reducible refine Own.setCell ?_ ?_ _); rotate_left 1; (focus (first | omega | (simp; done) | (simp; omega)))))); exact HOZ.out
  replace HXs : Hid (NewBox w9 (w.heap.size) [.int .i64 z1, .slice A1 m1 c1, .int .i64 z2, .slice A2 m2 c2, .int .i64 h.num, .int .i64 h.size, .string h.root, .int .i64 h.taken, .string h.troot]) := by rw [Hid, hw]; (repeat (first | (with_reducible refine NewBox.alloc ?_ _) | (with_reducible refine NewBox.drew ?_) | ((with_reducible refine NewBox.setCell ?_ ?_ _); rotate_left 1; (focus (first | omega | (simp; done) | (simp; omega)))))); exact HXs.out
  clear hxs hfs hks
  have hxs := HXs.out.2.1
  have hfs := HXs.out.2.2
  have hks := HXs.out.1
  replace HXq : Hid (NewBox w9 (w.heap.size + 1) [.int .i64 0, .slice none 0 0, .int .i64 0, .slice none 0 0, .int .i64 0, .int .i64 0, .string ⟨#[]⟩, .int .i64 0, .string ⟨#[]⟩]) := by rw [Hid, hw]; apply NewBox.cast; (focus ((repeat (first | (with_reducible apply NewBox.alloc) | (with_reducible apply NewBox.drew) | (with_reducible apply NewBox.set1) | ((with_reducible apply NewBox.far); (focus (first | omega | (simp; done) | (simp; omega)))))); exact HXq.out)); rfl
  clear hxq hfq hkq
  have hxq := HXq.out.2.1
  have hfq := HXq.out.2.2
  have hkq := HXq.out.1
  replace HXa : Hid (NewBox w9 (w6.heap.size) [.int .i64 gs1, .slice A3 gp1.length c3]) := by rw [Hid, hw]; (repeat (first | (with_reducible refine NewBox.alloc ?_ _) | (with_reducible refine NewBox.drew ?_) | ((with_reducible refine NewBox.setCell ?_ ?_ _); rotate_left 1; (focus (first | omega | (simp; done) | (simp; omega)))))); exact HXa.out
  clear hxa hfa hka
  have hxa := HXa.out.2.1
  have hfa := HXa.out.2.2
  have hka := HXa.out.1
  have HXb : Hid (NewBox w9 (w8.heap.size) [.int .i64 gs2, .slice A4 gp2.length c4]) := by rw [Hid, hw]; exact ⟨by first | omega | (simp [World.setCell]; done) | (simp [World.setCell]; omega), fun o => by rcases o with _ | _ | o <;> go_simp, fun o => by go_simp⟩
  have hxb := HXb.out.2.1
  have hfb := HXb.out.2.2
  have hkb := HXb.out.1
  clear hw
  refine bodyPost_ret (v := .tuple #[.agg #[.int .i64 0, .slice none 0 0, .int .i64 0, .slice none 0 0, .int .i64 0, .int .i64 0, .string ⟨#[]⟩, .int .i64 0, .string ⟨#[]⟩], .int .i64 0, .int .i64 4]) (by simp [results, Try.results23, go_sem, hxq]) rfl ?_
  exact smBad_post HB.out _
 rcases hq5 : (h.num == 399) with _ | _
 case true =>
  have hq4 : smFit z1 z2 h k1 k2 = false := by rw [HFIT.out, hq5]; rfl
  have hz0 : ok = false := by rw [HOK.out, hq4]; simp
  obtain ⟨rfl, rfl, rfl, rfl, rfl, rfl⟩ := HBD.out hz0
  have hsc : sc = 4 := by rw [HCD.out, hq4, if_pos rfl]
  subst hsc
  clear HOK HCD HBD HGD hz0 hq4
  go_wp2
  refine bodyPost_named (fun w9 hw => ?_)
  have hz9 : w8.heap.size + 1 ≤ w9.heap.size := by rw [hw]; first | omega | (simp [World.setCell]; done) | (simp [World.setCell]; omega)
  have hzz9 : w.heap.size ≤ w9.heap.size := by omega
  replace HB : Hid (Below w.heap.size w w9) := by rw [Hid, hw]; exact (by ((repeat (first | ((with_reducible refine Below.alloc ?_ ?_ _); rotate_left 1; (focus (first | omega | (simp; done) | (simp; omega)))) | (with_reducible refine Below.drew ?_) | ((with_reducible refine Below.setCell ?_ ?_ _); rotate_left 1; (focus (first | omega | (simp; done) | (simp; omega)))))); exact HB.out))
  replace HOA : Hid (Rd w9 (0) (w.heap.size) (A1) (strs l1)) := by rw [Hid, hw]; (repeat (first | (with_reducible refine Rd.alloc ?_ _) | (with_reducible refine Rd.drew ?_) | ((with_reducible refine Rd.setCell ?_ ?_ _); rotate_left 1; (focus (first | omega | (simp; done) | (simp; omega)))))); exact HOA.out
  replace HOB : Hid (Rd w9 (0) (w.heap.size) (A2) (strs l2)) := by rw [Hid, hw]; (repeat (first | (with_reducible refine Rd.alloc ?_ _) | (with_reducible refine Rd.drew ?_) | ((with_reducible refine Rd.setCell ?_ ?_ _); rotate_left 1; (focus (first | omega | (simp; done) | (simp; omega)))))); exact HOB.out
  replace HOX : Hid (Rd w9 (0) (w.heap.size) (X1) (strs L)) := by rw [Hid, hw]; (repeat (first | (with_reducible refine Rd.alloc ?_ _) | (with_reducible refine Rd.drew ?_) | ((with_reducible refine Rd.setCell ?_ ?_ _); rotate_left 1; (focus (first | omega | (simp; done) | (simp; omega)))))); exact HOX.out
  replace HOY : Hid (Rd w9 (0) (w.heap.size) (X2) (strs T)) := by rw [Hid, hw]; (repeat (first | (with_reducible refine Rd.alloc ?_ _) | (with_reducible refine Rd.drew ?_) | ((with_reducible refine Rd.setCell ?_ ?_ _); rotate_left 1; (focus (first | omega | (simp; done) | (simp; omega)))))); exact HOY.out
  replace HOR : Hid (Own w9 (w5.heap.size) (w6.heap.size) (A3) (strs gp1)) := by rw [Hid, hw]; (repeat (first | (with_reducible refine Own.alloc ?_ _) | (with_reducible refine Own.drew ?_) | ((with_reducible refine Own.setCell ?_ ?_ _); rotate_left 1; (focus (first | omega | (simp; done) | (simp; omega)))))); exact HOR.out
  replace HOZ : Hid (Own w9 (w7.heap.size) (w8.heap.size) (A4) (strs gp2)) := by rw [Hid, hw]; (repeat (first | (with_reducible refine Own.alloc ?_ _) | (with_reducible refine Own.drew ?_) | ((with_reducible refine Own.setCell ?_ ?_ _); rotate_left 1; (focus (first | omega | (simp; done) | (simp; omega)))))); exact HOZ.out
  replace HXs : Hid (NewBox w9 (w.heap.size) [.int .i64 z1, .slice A1 m1 c1, .int .i64 z2, .slice A2 m2 c2, .int .i64 h.num, .int .i64 h.size, .string h.root, .int .i64 h.taken, .string h.troot]) := by rw [Hid, hw]; (repeat (first | (with_reducible refine NewBox.alloc ?_ _) | (with_reducible refine NewBox.drew ?_) | ((with_reducible refine NewBox.setCell ?_ ?_ _); rotate_left 1; (focus (first | omega | (simp; done) | (simp; omega)))))); exact HXs.out
  clear hxs hfs hks
  have hxs := HXs.out.2.1
  have hfs := HXs.out.2.2
  have hks := HXs.out.1
  replace HXq : Hid (NewBox w9 (w.heap.size + 1) [.int .i64 0, .slice none 0 0, .int .i64 0, .slice none 0 0, .int .i64 0, .int .i64 0, .string ⟨#[]⟩, .int .i64 0, .string ⟨#[]⟩]) := by rw [Hid, hw]; apply NewBox.cast; (focus ((repeat (first | (with_reducible apply NewBox.alloc) | (with_reducible apply NewBox.drew) | (with_reducible apply NewBox.set1) | ((with_reducible apply NewBox.far); (focus (first | omega | (simp; done) | (simp; omega)))))); exact HXq.out)); rfl
  clear hxq hfq hkq
  have hxq := HXq.out.2.1
  have hfq := HXq.out.2.2
  have hkq := HXq.out.1
  replace HXa : Hid (NewBox w9 (w6.heap.size) [.int .i64 gs1, .slice A3 gp1.length c3]) := by rw [Hid, hw]; (repeat (first | (with_reducible refine NewBox.alloc ?_ _) | (with_reducible refine NewBox.drew ?_) | ((with_reducible refine NewBox.setCell ?_ ?_ _); rotate_left 1; (focus (first | omega | (simp; done) | (simp; omega)))))); exact HXa.out
  clear hxa hfa hka
  have hxa := HXa.out.2.1
  have hfa := HXa.out.2.2
  have hka := HXa.out.1
  have HXb : Hid (NewBox w9 (w8.heap.size) [.int .i64 gs2, .slice A4 gp2.length c4]) := by rw [Hid, hw]; exact ⟨by first | omega | (simp [World.setCell]; done) | (simp [World.setCell]; omega), fun o => by rcases o with _ | _ | o <;> go_simp, fun o => by go_simp⟩
  have hxb := HXb.out.2.1
  have hfb := HXb.out.2.2
  have hkb := HXb.out.1
  clear hw
  refine bodyPost_ret (v := .tuple #[.agg #[.int .i64 0, .slice none 0 0, .int .i64 0, .slice none 0 0, .int .i64 0, .int .i64 0, .string ⟨#[]⟩, .int .i64 0, .string ⟨#[]⟩], .int .i64 0, .int .i64 4]) (by simp [results, Try.results23, go_sem, hxq]) rfl ?_
  exact smBad_post HB.out _
 have hq4 : smFit z1 z2 h k1 k2 = true := by rw [HFIT.out, hq5]; rfl
 have hok : ok = true := by rw [HOK.out, hq4]; rfl
 have hsc : sc = 0 := by rw [HCD.out, hq4]; rfl
 obtain ⟨x1, x2, x3⟩ := HP1.out rfl
 obtain ⟨y1, y2, y3⟩ := HP2.out rfl
 obtain ⟨t1, t2, t3, t4, t5, t6⟩ := HGD.out hok
 have hf1 := of_decide_eq_true HO1.out.symm
 have hf2 := of_decide_eq_true HO2.out.symm
 obtain ⟨v1, v2, v3⟩ := rng_grow (L := L) HU.out.1 HQ2.out (by rw [HK.out.1]; exact hf1)
 obtain ⟨v4, v5, v6⟩ := rng_grow (L := T) HU.out.2 HQ3.out (by rw [HK.out.2]; exact hf2)
 rw [HK.out.1] at v1 v3
 rw [HK.out.2] at v4 v6
 have t7 : sn = gc1 + gc2 + (rngMade gp1 : Nat) + (rngMade gp2 : Nat) := by rw [t6, x3, y3, x2, y2]; simp only [Int.natCast_add]
 rw [← x1, ← x2, ← y1, ← y2] at t5
 rw [← x1] at t1 v1
 rw [← y1] at t3 v4
 rw [← x2] at t2 v1 v2
 rw [← y2] at t4 v4 v5
 obtain ⟨hz11, hz12, _⟩ := rngOk_all HU.out.1
 obtain ⟨hz21, hz22, _⟩ := rngOk_all HU.out.2
 have hgc1 : 0 ≤ gc1 ∧ gc1 ≤ 5120 := by omega
 have hgc2 : 0 ≤ gc2 ∧ gc2 ≤ 5120 := by omega
 have hgs1 : 0 ≤ gs1 ∧ gs1 ≤ 512 := by omega
 have hgs2 : 0 ≤ gs2 ∧ gs2 ≤ 512 := by omega
 clear t6 x1 x2 x3 y1 y2 y3
 replace t1 := t1.symm
 replace t2 := t2.symm
 replace t3 := t3.symm
 replace t4 := t4.symm
 subst t1; subst t2; subst t3; subst t4; subst t5; subst t7; subst hsc
 have HRR1 := Lib.hid (fun W A c (r : Rd W 0 W.heap.size A (strs gp1)) => specRangeRoot_c width gs1 A c 0 W.heap.size _ _ W r rfl (by omega))
 have HRR2 := Lib.hid (fun W A c (r : Rd W 0 W.heap.size A (strs gp2)) => specRangeRoot_c width gs2 A c 0 W.heap.size _ _ W r rfl (by omega))
 have hrt1 : rrT width gs1 gp1 = rngRoot width gp1 := by rw [rrT, v1]; rfl
 have hrt2 : rrT width gs2 gp2 = rngRoot width gp2 := by rw [rrT, v4]; rfl
 have hrn1 : rrN width gs1 gp1 = rngMade gp1 := by rw [rrN, v1]; rfl
 have hrn2 : rrN width gs2 gp2 = rngMade gp2 := by rw [rrN, v4]; rfl
 have hmd1 : rngMade gp1 ≤ 20 := by rw [rngMade]; omega
 have hmd2 : rngMade gp2 ≤ 20 := by rw [rngMade]; omega
 rw [hrt1, hrn1, v1] at HRR1
 rw [hrt2, hrn2, v4] at HRR2
 have hnum : 0 ≤ h.num ∧ h.num ≤ 399 := ⟨u3, u4⟩
 clear hrt1 hrt2 hrn1 hrn2 v1 v4 v3 v6 hf1 hf2 HGD HBD HCD HOK HFIT HO1 HO2 HP1 HP2 HU HQ1 HQ2 HQ3 HK hok hq4
 obtain ⟨rr1, hr1⟩ : ∃ r, r = rngRoot width gp1 := ⟨_, rfl⟩
 obtain ⟨rr2, hr2⟩ : ∃ r, r = rngRoot width gp2 := ⟨_, rfl⟩
 obtain ⟨rm1, hr3⟩ : ∃ r, r = rngMade gp1 := ⟨_, rfl⟩
 obtain ⟨rm2, hr4⟩ : ∃ r, r = rngMade gp2 := ⟨_, rfl⟩
 rw [← hr1, ← hr3] at HRR1
 rw [← hr2, ← hr4] at HRR2
 rw [← hr3] at hmd1
 rw [← hr4] at hmd2
 have HE := Lib.hid (And.intro hr1 (And.intro hr2 (And.intro hr3 hr4)))
 clear hr1 hr2 hr3 hr4
 clear HOA
 clear HOB
 clear HOX
 clear HOY
 go_wp2_with fail
 refine calls_named (fun w9 hw => ?_)
 have hz9 : w8.heap.size + 1 ≤ w9.heap.size := by rw [hw]; first | omega | (simp [World.setCell]; done) | (simp [World.setCell]; omega)
 have hzz9 : w.heap.size ≤ w9.heap.size := by omega
 have hbn : Below w8.heap.size w8 w9 := by rw [hw]; exact (by ((repeat (first | ((with_reducible refine Below.alloc ?_ ?_ _); rotate_left 1; (focus (first | omega | (simp; done) | (simp; omega)))) | (with_reducible refine Below.drew ?_) | ((with_reducible refine Below.setCell ?_ ?_ _); rotate_left 1; (focus (first | omega | (simp; done) | (simp; omega)))))); exact Below.refl _ _))
 replace HB := Lib.hid (below_then HB.out hbn HB.out.size)
 replace HOR := Lib.hid (HOR.out.below hbn)
 replace HOZ := Lib.hid (HOZ.out.below hbn)
 replace HXs := Lib.hid (HXs.out.below hbn)
 clear hxs hfs hks
 have hxs := HXs.out.2.1
 have hfs := HXs.out.2.2
 have hks := HXs.out.1
 replace HXq := Lib.hid (HXq.out.below hbn)
 clear hxq hfq hkq
 have hxq := HXq.out.2.1
 have hfq := HXq.out.2.2
 have hkq := HXq.out.1
 replace HXa := Lib.hid (HXa.out.below hbn)
 clear hxa hfa hka
 have hxa := HXa.out.2.1
 have hfa := HXa.out.2.2
 have hka := HXa.out.1
 clear hbn
 have HXb : Hid (NewBox w9 (w8.heap.size) [.int .i64 gs2, .slice A4 gp2.length c4]) := by rw [Hid, hw]; exact ⟨by first | omega | (simp [World.setCell]; done) | (simp [World.setCell]; omega), fun o => by rcases o with _ | _ | o <;> go_simp, fun o => by go_simp⟩
 have hxb := HXb.out.2.1
 have hfb := HXb.out.2.2
 have hkb := HXb.out.1
 clear hw
 refine (HRR1.out _ _ _ HOR.out.rd.base).mono ?_
 rintro e w10 ⟨rfl, hb⟩
 have hzw10 : w9.heap.size ≤ w10.heap.size := hb.size
 have hzzw10 : w.heap.size ≤ w10.heap.size := by omega
 replace HB := Lib.hid (below_then HB.out hb HB.out.size)
 replace HOR := Lib.hid (HOR.out.below hb)
 replace HOZ := Lib.hid (HOZ.out.below hb)
 replace HXs := Lib.hid (HXs.out.below hb)
 clear hxs hfs hks
 have hxs := HXs.out.2.1
 have hfs := HXs.out.2.2
 have hks := HXs.out.1
 replace HXq := Lib.hid (HXq.out.below hb)
 clear hxq hfq hkq
 have hxq := HXq.out.2.1
 have hfq := HXq.out.2.2
 have hkq := HXq.out.1
 replace HXa := Lib.hid (HXa.out.below hb)
 clear hxa hfa hka
 have hxa := HXa.out.2.1
 have hfa := HXa.out.2.2
 have hka := HXa.out.1
 replace HXb := Lib.hid (HXb.out.below hb)
 clear hxb hfb hkb
 have hxb := HXb.out.2.1
 have hfb := HXb.out.2.2
 have hkb := HXb.out.1
 clear hb
 go_wp2_with fail
 refine calls_named (fun w11 hw => ?_)
 have hz11 : w10.heap.size + 0 ≤ w11.heap.size := by rw [hw]; first | omega | (simp [World.setCell]; done) | (simp [World.setCell]; omega)
 have hzz11 : w.heap.size ≤ w11.heap.size := by omega
 have hbn : Below w10.heap.size w10 w11 := by rw [hw]; exact (by ((repeat (first | ((with_reducible refine Below.alloc ?_ ?_ _); rotate_left 1; (focus (first | omega | (simp; done) | (simp; omega)))) | (with_reducible refine Below.drew ?_) | ((with_reducible refine Below.setCell ?_ ?_ _); rotate_left 1; (focus (first | omega | (simp; done) | (simp; omega)))))); exact Below.refl _ _))
 replace HB := Lib.hid (below_then HB.out hbn HB.out.size)
 replace HOR := Lib.hid (HOR.out.below hbn)
 replace HOZ := Lib.hid (HOZ.out.below hbn)
 replace HXs := Lib.hid (HXs.out.below hbn)
 clear hxs hfs hks
 have hxs := HXs.out.2.1
 have hfs := HXs.out.2.2
 have hks := HXs.out.1
 replace HXq := Lib.hid (HXq.out.below hbn)
 clear hxq hfq hkq
 have hxq := HXq.out.2.1
 have hfq := HXq.out.2.2
 have hkq := HXq.out.1
 replace HXa := Lib.hid (HXa.out.below hbn)
 clear hxa hfa hka
 have hxa := HXa.out.2.1
 have hfa := HXa.out.2.2
 have hka := HXa.out.1
 replace HXb := Lib.hid (HXb.out.below hbn)
 clear hxb hfb hkb
 have hxb := HXb.out.2.1
 have hfb := HXb.out.2.2
 have hkb := HXb.out.1
 clear hbn
 clear hw
 refine (HRR2.out _ _ _ HOZ.out.rd.base).mono ?_
 rintro e w12 ⟨rfl, hb⟩
 have hzw12 : w11.heap.size ≤ w12.heap.size := hb.size
 have hzzw12 : w.heap.size ≤ w12.heap.size := by omega
 replace HB := Lib.hid (below_then HB.out hb HB.out.size)
 replace HOR := Lib.hid (HOR.out.below hb)
 replace HOZ := Lib.hid (HOZ.out.below hb)
 replace HXs := Lib.hid (HXs.out.below hb)
 clear hxs hfs hks
 have hxs := HXs.out.2.1
 have hfs := HXs.out.2.2
 have hks := HXs.out.1
 replace HXq := Lib.hid (HXq.out.below hb)
 clear hxq hfq hkq
 have hxq := HXq.out.2.1
 have hfq := HXq.out.2.2
 have hkq := HXq.out.1
 replace HXa := Lib.hid (HXa.out.below hb)
 clear hxa hfa hka
 have hxa := HXa.out.2.1
 have hfa := HXa.out.2.2
 have hka := HXa.out.1
 replace HXb := Lib.hid (HXb.out.below hb)
 clear hxb hfb hkb
 have hxb := HXb.out.2.1
 have hfb := HXb.out.2.2
 have hkb := HXb.out.1
 clear hb
 go_wp2
 refine bodyPost_named (fun w13 hw => ?_)
 have hz13 : w12.heap.size + 1 ≤ w13.heap.size := by rw [hw]; first | omega | (simp [World.setCell]; done) | (simp [World.setCell]; omega)
 have hzz13 : w.heap.size ≤ w13.heap.size := by omega
 replace HB : Hid (Below w.heap.size w w13) := by rw [Hid, hw]; exact (by ((repeat (first | ((with_reducible refine Below.alloc ?_ ?_ _); rotate_left 1; (focus (first | omega | (simp; done) | (simp; omega)))) | (with_reducible refine Below.drew ?_) | ((with_reducible refine Below.setCell ?_ ?_ _); rotate_left 1; (focus (first | omega | (simp; done) | (simp; omega)))))); exact HB.out))
 replace HOR : Hid (Own w13 (w5.heap.size) (w6.heap.size) (A3) (strs gp1)) := by rw [Hid, hw]; (repeat (first | (with_reducible refine Own.alloc ?_ _) | (with_reducible refine Own.drew ?_) | ((with_reducible refine Own.setCell ?_ ?_ _); rotate_left 1; (focus (first | omega | (simp; done) | (simp; omega)))))); exact HOR.out
 replace HOZ : Hid (Own w13 (w7.heap.size) (w8.heap.size) (A4) (strs gp2)) := by rw [Hid, hw]; (repeat (first | (with_reducible refine Own.alloc ?_ _) | (with_reducible refine Own.drew ?_) | ((with_reducible refine Own.setCell ?_ ?_ _); rotate_left 1; (focus (first | omega | (simp; done) | (simp; omega)))))); exact HOZ.out
 replace HXs : Hid (NewBox w13 (w.heap.size) [.int .i64 z1, .slice A1 m1 c1, .int .i64 z2, .slice A2 m2 c2, .int .i64 h.num, .int .i64 h.size, .string h.root, .int .i64 h.taken, .string h.troot]) := by rw [Hid, hw]; (repeat (first | (with_reducible refine NewBox.alloc ?_ _) | (with_reducible refine NewBox.drew ?_) | ((with_reducible refine NewBox.setCell ?_ ?_ _); rotate_left 1; (focus (first | omega | (simp; done) | (simp; omega)))))); exact HXs.out
 clear hxs hfs hks
 have hxs := HXs.out.2.1
 have hfs := HXs.out.2.2
 have hks := HXs.out.1
 replace HXq : Hid (NewBox w13 (w.heap.size + 1) [.int .i64 gs1, .slice A3 gp1.length c3, .int .i64 gs2, .slice A4 gp2.length c4, .int .i64 (h.num + 1), .int .i64 gs1, .string rr1, .int .i64 gs2, .string rr2]) := by rw [Hid, hw]; apply NewBox.cast; (focus ((repeat (first | (with_reducible apply NewBox.alloc) | (with_reducible apply NewBox.drew) | (with_reducible apply NewBox.set1) | ((with_reducible apply NewBox.far); (focus (first | omega | (simp; done) | (simp; omega)))))); exact HXq.out)); rfl
 clear hxq hfq hkq
 have hxq := HXq.out.2.1
 have hfq := HXq.out.2.2
 have hkq := HXq.out.1
 replace HXa : Hid (NewBox w13 (w6.heap.size) [.int .i64 gs1, .slice A3 gp1.length c3]) := by rw [Hid, hw]; (repeat (first | (with_reducible refine NewBox.alloc ?_ _) | (with_reducible refine NewBox.drew ?_) | ((with_reducible refine NewBox.setCell ?_ ?_ _); rotate_left 1; (focus (first | omega | (simp; done) | (simp; omega)))))); exact HXa.out
 clear hxa hfa hka
 have hxa := HXa.out.2.1
 have hfa := HXa.out.2.2
 have hka := HXa.out.1
 replace HXb : Hid (NewBox w13 (w8.heap.size) [.int .i64 gs2, .slice A4 gp2.length c4]) := by rw [Hid, hw]; (repeat (first | (with_reducible refine NewBox.alloc ?_ _) | (with_reducible refine NewBox.drew ?_) | ((with_reducible refine NewBox.setCell ?_ ?_ _); rotate_left 1; (focus (first | omega | (simp; done) | (simp; omega)))))); exact HXb.out
 clear hxb hfb hkb
 have hxb := HXb.out.2.1
 have hfb := HXb.out.2.2
 have hkb := HXb.out.1
 have HXhd : Hid (NewBox w13 (w12.heap.size) [.int .i64 (h.num + 1), .int .i64 gs1, .string rr1, .int .i64 gs2, .string rr2]) := by rw [Hid, hw]; exact ⟨by first | omega | (simp [World.setCell]; done) | (simp [World.setCell]; omega), fun o => by rcases o with _ | _ | _ | _ | _ | o <;> go_simp, fun o => by go_simp⟩
 have hxhd := HXhd.out.2.1
 have hfhd := HXhd.out.2.2
 have hkhd := HXhd.out.1
 clear hw
 refine bodyPost_ret (v := .tuple #[.agg #[.int .i64 gs1, .slice A3 gp1.length c3, .int .i64 gs2, .slice A4 gp2.length c4, .int .i64 (h.num + 1), .int .i64 gs1, .string rr1, .int .i64 gs2, .string rr2], .int .i64 (gc1 + gc2 + rm1 + rm2), .int .i64 0]) (by simp [results, Try.results23, go_sem, hxq]) rfl ?_
 obtain ⟨e1', e2', e3', e4'⟩ := HE.out
 exact ⟨A3, c3, _, _, A4, c4, _, _, by rw [e1', e2', e3', e4'], ⟨by omega, by omega, HOR.out, HN3.out⟩, ⟨by omega, by omega, HOZ.out, HN4.out⟩, .inl (by omega), HB.out⟩
end Go.Proofs.Ytoccjgcokffkbaa
