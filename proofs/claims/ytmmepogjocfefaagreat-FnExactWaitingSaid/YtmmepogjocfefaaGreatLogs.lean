/- Logs: how often a topic stands in one, LogOk, NextOf, LatestOf, LeafOf. -/
import Derived.Test.YtmmepogjocfefaaGreatEntry
import Derived.Test.YtmmepogjocfefaaGreatKit2
import Derived.Test.YtmmepogjocfefaaGreatWLog
namespace Go.Proofs.YtmmepogjocfefaaGreat
set_option linter.unusedVariables false
set_option linter.unusedSimpArgs false
open Go.RowKit

/-- how often a topic stands in a list of entries -/
def cnt (l : List Ent) (t : ByteArray) : Nat := sumBy (fun e => if e.topic = t then 1 else 0) l
theorem cnt_take {l : List Ent} {k : Nat} {e : Ent} (t : ByteArray) (h : l[k]? = some e) : cnt (l.take (k + 1)) t = cnt (l.take k) t + if e.topic = t then 1 else 0 := sumBy_take _ h
theorem cnt_yes {l : List Ent} {k : Nat} {e : Ent} {t : ByteArray} (h : l[k]? = some e) (ht : e.topic = t) : cnt (l.take (k + 1)) t = cnt (l.take k) t + 1 := by rw [cnt_take t h, if_pos ht]
theorem cnt_no {l : List Ent} {k : Nat} {e : Ent} {t : ByteArray} (h : l[k]? = some e) (ht : ¬ e.topic = t) : cnt (l.take (k + 1)) t = cnt (l.take k) t := by rw [cnt_take t h, if_neg ht]; rfl
theorem cnt_le (l : List Ent) (t : ByteArray) : cnt l t ≤ l.length := by
 induction l with
 | nil => exact Nat.le_refl _
 | cons e l ih =>
   show (if e.topic = t then 1 else 0) + cnt l t ≤ l.length + 1
   split <;> omega
theorem cnt_take_le (l : List Ent) (t : ByteArray) (k : Nat) : cnt (l.take k) t ≤ k := Nat.le_trans (cnt_le _ t) (by simp; omega)

/-- entry k of a log is right, for what stands ahead of it -/
def rightAt (l : List Ent) (k : Nat) : Bool := match l[k]? with
 | some e => entryOk e && decide ((cnt (l.take k) e.topic : Int) = e.index)
 | none => true
def rightTo (l : List Ent) (k : Nat) : Bool := (List.range k).all (rightAt l)
def logOk (l : List Ent) : Bool := decide (l.length ≤ 512) && rightTo l l.length
theorem rightTo_succ (l : List Ent) (k : Nat) : rightTo l (k + 1) = (rightTo l k && rightAt l k) := by
 rw [rightTo, List.range_succ, List.all_append, ← rightTo]; simp
theorem rightAt_eq {l : List Ent} {k : Nat} {e : Ent} (h : l[k]? = some e) : rightAt l k = (entryOk e && decide ((cnt (l.take k) e.topic : Int) = e.index)) := by rw [rightAt, h]
theorem rightTo_bad {l : List Ent} {k n : Nat} (hk : k < n) (h : rightAt l k = false) : rightTo l n = false := by
 rw [rightTo, List.all_eq_false]
 exact ⟨k, List.mem_range.2 hk, by rw [h]; exact Bool.false_ne_true⟩
theorem logOk_bad {l : List Ent} {k : Nat} (hk : k < l.length) (h : rightAt l k = false) : logOk l = false := by rw [logOk, rightTo_bad hk h, Bool.and_false]
theorem logOk_len {l : List Ent} (h : logOk l = true) : l.length ≤ 512 := by rw [logOk, Bool.and_eq_true] at h; simpa using h.1
theorem logOk_big {l : List Ent} (h : 512 < l.length) : logOk l = false := by rw [logOk]; simp; omega
theorem ents_take (l : List Ent) (k : Nat) : ents l = ents (l.take k) ++ ents (l.drop k) := by
 rw [ents, ents, ents, ← List.flatMap_append, List.take_append_drop]
theorem Rd.pre {w : World} {lo hi : Nat} {A : Option Addr} {xs ys : List Value} (h : Rd w lo hi A (xs ++ ys)) : Rd w lo hi A xs := by
 intro hn
 obtain ⟨b, off, h1, h2, h3, h4, h5⟩ := h (by simp [hn])
 refine ⟨b, off, h1, h2, h3, h4, fun j u hu => h5 j u ?_⟩
 rw [List.getElem?_append_left (List.getElem?_eq_some_iff.1 hu).1]; exact hu
theorem Rd.entsTake {w : World} {lo hi : Nat} {A : Option Addr} {l : List Ent} (h : Rd w lo hi A (ents l)) (k : Nat) : Rd w lo hi A (ents (l.take k)) := by
 rw [ents_take l k] at h; exact h.pre

set_option maxRecDepth 100000 in
set_option maxHeartbeats 400000 in
theorem l09Count_c (A : Option Addr) (c lo hi n : Nat) (l : List Ent) (t : ByteArray) (w : World) (hr : Rd w lo hi A (ents l)) (hn : l.length = n) (hl : n ≤ 1048576) :
  Calls Tryz.prog 105 #[.slice A n c, .string t] w fun e w' => e = .returned (.int .i64 (cnt l t : Nat)) ∧ w = w' := by
 have HN := Lib.hid hn
 clear hn
 go_enter Tryz.func105, Tryz.ntmps105
 go_wp2
 go_loop [5, 6] (fun s i => ∃ k : Nat, k ≤ n ∧ i = .int .i64 k ∧ s = .int .i64 (cnt (l.take k) t : Nat)) (fun _ i => n - (intOf i).toNat)
 case atStart => exact ⟨0, Nat.zero_le _, rfl, rfl⟩
 case round =>
  obtain ⟨k, hk, rfl, rfl⟩ := hrel
  by_cases hlt : k < n
  ·obtain ⟨b, off, x, rfl, _, _, hb, hks, hcell⟩ := hr.flat (f := Ent.cells) (m := 5) (fun _ => rfl) (by omega) (k := k) (by rw [HN.out]; exact hlt)
   have hc0 : w.cell? ⟨b, off + k * 5, none⟩ = some (.string x.topic) := hcell 0 _ rfl
   have hle := cnt_take_le l t k
   have HK := Lib.hid hks
   clear hcell hks hr
   by_cases ht : x.topic = t
   ·have HS := Lib.hid (cnt_yes HK.out ht)
    subst ht
    generalize hz : cnt (l.take k) x.topic = z at *
    clear hz
    go_wp2
    go_round
    case rel => exact ⟨k + 1, by omega, by go_num, by rw [HS.out]; go_num⟩
    case measure => simp [intOf]; omega
   ·have HS := Lib.hid (cnt_no HK.out ht)
    have hbq := beq_no ht
    generalize hz : cnt (l.take k) t = z at *
    clear hz
    go_wp2
    go_round
    case rel => exact ⟨k + 1, by omega, by go_num, by rw [HS.out]⟩
    case measure => simp [intOf]; omega
  ·obtain rfl : k = n := by omega
   go_wp2
   go_ret
   exact ⟨ret_int (by rw [← HN.out, List.take_length]), rfl⟩

end Go.Proofs.YtmmepogjocfefaaGreat
