/- Consistency of the program and of the reference. -/
import Derived.Test.YtmmepogjocfefaaGreatCons
namespace Go.Proofs.YtmmepogjocfefaaGreat
set_option linter.unusedVariables false
set_option linter.unusedSimpArgs false
open Go.RowKit

def conOk (width : Int) (l : List ByteArray) (k : Int) : Bool := leavesOk width l && inR k 0 l.length
def conTx (width : Int) (l : List ByteArray) (k : Int) : List ByteArray := if conOk width l k then (if k = 0 then [] else consFu width 513 l k.toNat true) else []
theorem leavesOk_all {width : Int} {l : List ByteArray} (h : leavesOk width l = true) : inR width 1 32 = true ∧ l.length ≤ 512 ∧ areH width l = true := by
 rw [leavesOk, Bool.and_eq_true, Bool.and_eq_true] at h
 exact ⟨h.1.1, of_decide_eq_true h.1.2, h.2⟩
theorem conTx_len {width : Int} {l : List ByteArray} {k : Int} : (conTx width l k).length ≤ 512 := by
 rw [conTx]
 split
 ·rename_i h
  rw [conOk, Bool.and_eq_true] at h
  obtain ⟨h1, h2, h3⟩ := leavesOk_all h.1
  have h4 := inR_true.1 h.2
  split
  ·exact Nat.zero_le _
  ·exact Nat.le_trans (cons_le rfl (by omega) (by omega) h2) h2
 ·exact Nat.zero_le _

set_option maxRecDepth 100000 in
set_option maxHeartbeats 400000 in
theorem consistent_c (width : Int) (hw : inR width 1 32 = true) (A : Option Addr) (c lo hi n k : Nat) (l : List ByteArray) (w : World) (hr : Rd w lo hi A (strs l)) (hn : l.length = n) (h5 : n ≤ 512) (hc : n ≤ c) (ha : areH width l = true) (hk : k ≤ n) :
  Calls Tryz.prog 127 #[.int .i64 width, .slice A n c, .int .i64 k] w fun e w' => ∃ A' c', e = .returned (.slice A' (if k = 0 then [] else consFu width 513 l k true).length c') ∧
   w'.ownsRow w.heap.size 9 1 (.slice A' (if k = 0 then [] else consFu width 513 l k true).length c') (if k = 0 then [] else consFu width 513 l k true).length (strs (if k = 0 then [] else consFu width 513 l k true)) ∧ Below w.heap.size w w' := by
 rcases Nat.eq_zero_or_pos k with h0 | h0
 ·subst h0
  rw [if_pos rfl]
  clear hr hn ha hw
  go_enter Tryz.func127, Tryz.ntmps127
  go_wp2
  go_ret
  exact ⟨none, 0, rfl, World.ownsRow_nil _ _ _ _, Below.refl _ _⟩
 ·rw [if_neg (by omega)]
  have HC := Lib.hid (consistency_c width hw 513 A c lo hi n k l true w hr hn h5 (by omega) hc ha h0 hk)
  have E1 : ((k : Int) == 0) = false := beq_eq_false_iff_ne.2 (by omega)
  clear hr hn ha hw
  generalize consFu width 513 l k true = t at *
  go_enter Tryz.func127, Tryz.ntmps127
  go_wp2_with fail
  refine HC.out.mono ?_
  rintro e w1 ⟨A1, c1, rfl, ho, hb⟩
  have HO := Lib.hid ho
  have HB := Lib.hid hb
  clear ho hb HC
  go_wp2
  go_ret
  exact ⟨A1, c1, rfl, HO.out, HB.out⟩
set_option maxRecDepth 100000 in
set_option maxHeartbeats 400000 in
theorem specConsistency_c (width k : Int) (A : Option Addr) (c lo hi n : Nat) (l : List ByteArray) (w : World) (hr : Rd w lo hi A (strs l)) (hn : l.length = n) (hl : n ≤ 1048576) (hc : n ≤ c) :
  Calls Tryz.prog 126 #[.int .i64 width, .slice A n c, .int .i64 k] w fun e w' => ∃ A' c', e = .returned (.tuple #[.slice A' (conTx width l k).length c', .bool (conOk width l k)]) ∧
   w'.ownsRow w.heap.size 9 1 (.slice A' (conTx width l k).length c') (conTx width l k).length (strs (conTx width l k)) ∧ Below w.heap.size w w' := by
 have HDEF : Hid (conOk width l k = (leavesOk width l && inR k 0 n)) := Lib.hid (by rw [conOk, hn])
 have HL := Lib.hid (specLeavesOk_c width A c lo hi n l w hr hn hl)
 have HI := Lib.hid (fun W => l01In_c k 0 n W)
 rcases hq1 : leavesOk width l with _ | _
 ·have hz : conOk width l k = false := by rw [HDEF.out, hq1]; rfl
  have HT : Hid (conTx width l k = []) := Lib.hid (by rw [conTx, hz]; rfl)
  rw [hq1] at HL
  rw [hz, HT.out]
  clear hr hn HDEF HT hz hq1
  go_enter Tryz.func126, Tryz.ntmps126
  go_wp2_with fail
  refine HL.out.mono ?_
  rintro e w1 ⟨rfl, rfl⟩
  go_wp2
  refine bodyPost_named (fun w2 hw => ?_)
  have HB : Hid (Below w.heap.size w w2) := by rw [Hid, hw]; exact (Below.refl _ _).alloc (Nat.le_refl _) _
  have HO : Hid (w2.ownsRow w.heap.size 9 1 (.slice (some ⟨w.heap.size, 0, none⟩) 0 0) 0 []) := by rw [Hid, hw]; exact row_made _ _ 0
  clear hw
  refine bodyPost_ret (v := .tuple #[.slice (some ⟨w.heap.size, 0, none⟩) 0 0, .bool false]) (by simp [results, Tryz.results126, go_sem]) rfl ?_
  exact ⟨_, _, rfl, HO.out, HB.out⟩
 rw [hq1] at HL
 obtain ⟨g1, g2, g3⟩ := leavesOk_all hq1
 rcases hq2 : inR k 0 n with _ | _
 ·have hz : conOk width l k = false := by rw [HDEF.out, hq2, Bool.and_false]
  have HT : Hid (conTx width l k = []) := Lib.hid (by rw [conTx, hz]; rfl)
  rw [hq2] at HI
  rw [hz, HT.out]
  clear hr hn HDEF HT hz hq1 hq2 g1 g3
  go_enter Tryz.func126, Tryz.ntmps126
  go_wp2_with fail
  refine HL.out.mono ?_
  rintro e w1 ⟨rfl, rfl⟩
  go_wp2_with fail
  refine (HI.out _).mono ?_
  rintro e w1 ⟨rfl, rfl⟩
  go_wp2
  refine bodyPost_named (fun w2 hw => ?_)
  have HB : Hid (Below w.heap.size w w2) := by rw [Hid, hw]; exact (Below.refl _ _).alloc (Nat.le_refl _) _
  have HO : Hid (w2.ownsRow w.heap.size 9 1 (.slice (some ⟨w.heap.size, 0, none⟩) 0 0) 0 []) := by rw [Hid, hw]; exact row_made _ _ 0
  clear hw
  refine bodyPost_ret (v := .tuple #[.slice (some ⟨w.heap.size, 0, none⟩) 0 0, .bool false]) (by simp [results, Tryz.results126, go_sem]) rfl ?_
  exact ⟨_, _, rfl, HO.out, HB.out⟩
 have h1 := inR_true.1 hq2
 rw [hq2] at HI
 have hz : conOk width l k = true := by rw [HDEF.out, hq1, hq2]; rfl
 obtain ⟨m, rfl⟩ : ∃ m : Nat, k = m := ⟨k.toNat, by omega⟩
 have HT : Hid (conTx width l m = if m = 0 then [] else consFu width 513 l m true) := Lib.hid (by rw [conTx, hz, Int.toNat_natCast]; simp)
 rw [hz]
 rcases Nat.eq_zero_or_pos m with h0 | h0
 ·subst h0
  rw [if_pos rfl] at HT
  rw [HT.out]
  clear hr hn HDEF HT hz hq1 hq2 g1 g3
  go_enter Tryz.func126, Tryz.ntmps126
  go_wp2_with fail
  refine HL.out.mono ?_
  rintro e w1 ⟨rfl, rfl⟩
  go_wp2_with fail
  refine (HI.out _).mono ?_
  rintro e w1 ⟨rfl, rfl⟩
  go_wp2
  refine bodyPost_named (fun w2 hw => ?_)
  have HB : Hid (Below w.heap.size w w2) := by rw [Hid, hw]; exact (Below.refl _ _).alloc (Nat.le_refl _) _
  have HO : Hid (w2.ownsRow w.heap.size 9 1 (.slice (some ⟨w.heap.size, 0, none⟩) 0 0) 0 []) := by rw [Hid, hw]; exact row_made _ _ 0
  clear hw
  refine bodyPost_ret (v := .tuple #[.slice (some ⟨w.heap.size, 0, none⟩) 0 0, .bool true]) (by simp [results, Tryz.results126, go_sem]) rfl ?_
  exact ⟨_, _, rfl, HO.out, HB.out⟩
 ·rw [if_neg (by omega)] at HT
  have HC := Lib.hid (fun W (r : Rd W 0 W.heap.size A (strs l)) => l05Consistency_c width g1 513 A c 0 W.heap.size n m l true W r hn (by omega) (by omega) hc g3 h0 (by omega))
  rw [← HT.out] at HC
  have HR := Lib.hid hr.base
  have E1 : ((m : Int) == 0) = false := beq_eq_false_iff_ne.2 (by omega)
  clear hr hn HDEF HT hz hq1 hq2 g1 g3
  generalize conTx width l m = t at *
  go_enter Tryz.func126, Tryz.ntmps126
  go_wp2_with fail
  refine HL.out.mono ?_
  rintro e w1 ⟨rfl, rfl⟩
  go_wp2_with fail
  refine (HI.out _).mono ?_
  rintro e w1 ⟨rfl, rfl⟩
  go_wp2_with fail
  refine (HC.out _ HR.out).mono ?_
  rintro e w1 ⟨A1, c1, rfl, ho, hb⟩
  have HO := Lib.hid ho
  have HB := Lib.hid hb
  clear ho hb HC
  go_wp2
  refine bodyPost_ret (v := .tuple #[.slice A1 t.length c1, .bool true]) (by simp [results, Tryz.results126, go_sem]) rfl ?_
  exact ⟨A1, c1, rfl, HO.out, HB.out⟩
end Go.Proofs.YtmmepogjocfefaaGreat
