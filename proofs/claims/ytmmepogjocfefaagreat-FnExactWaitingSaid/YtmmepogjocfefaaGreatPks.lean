/- Peaks of a size; hashes of a width; ranges that are right. -/
import Derived.Test.YtmmepogjocfefaaGreatHash3
import Derived.Test.YtmmepogjocfefaaGreatAppW
import Derived.Deep.RegionWith
namespace Go.Proofs.YtmmepogjocfefaaGreat
set_option linter.unusedVariables false
set_option linter.unusedSimpArgs false
open Go.RowKit

def pwN (j : Nat) : Nat := 512 / 2 ^ j
def bitN (n j : Nat) : Nat := n / pwN j % 2
def popUp (n : Nat) : Nat → Nat
 | 0 => 0
 | j + 1 => popUp n j + bitN n j
def popN (n : Nat) : Nat := popUp n 10
def popC (n : Int) : Nat := if inR n 0 512 then popN n.toNat else 0
theorem pwN_half (j : Nat) : pwN j / 2 = pwN (j + 1) := by rw [pwN, pwN, Nat.div_div_eq_div_mul, Nat.pow_succ]
theorem pwN_pos {j : Nat} (h : j < 10) : 0 < pwN j := by
 have : ∀ j, j < 10 → 0 < pwN j := by decide
 exact this j h
theorem pwN_le (j : Nat) : pwN j ≤ 512 := Nat.div_le_self _ _
theorem pwN_10 : pwN 10 = 0 := by decide
theorem bitN_le (n j : Nat) : bitN n j ≤ 1 := by unfold bitN; omega
theorem popUp_le (n : Nat) : ∀ j, popUp n j ≤ j
 | 0 => Nat.le_refl _
 | j + 1 => by have := popUp_le n j; have := bitN_le n j; rw [popUp]; omega
theorem popC_le (n : Int) : popC n ≤ 10 := by
 unfold popC; split
 ·exact popUp_le _ 10
 ·exact Nat.zero_le _
theorem and_bit : ∀ n : Nat, n < 513 → ∀ j : Nat, j < 10 → (bits .and .i64 (n : Int) (pwN j : Int) != 0) = (bitN n j == 1) := by decide +kernel
theorem ints_app2 (a b : List Int) : ints (a ++ b) = ints a ++ ints b := by rw [ints, ints, ints, List.map_append]
theorem bne_of_beq' {α : Type} [BEq α] {a b : α} {q : Bool} (h : (a == b) = q) : (a != b) = !q := by rw [bne, h]
def areH (width : Int) (l : List ByteArray) : Bool := l.all fun s => decide ((s.size : Int) = width)
theorem areH_take {width : Int} {l : List ByteArray} {k : Nat} {s : ByteArray} (h : l[k]? = some s) : areH width (l.take (k + 1)) = (areH width (l.take k) && decide ((s.size : Int) = width)) := by
 rw [take_succ h, areH, List.all_append]; simp [areH]
theorem areH_no {width : Int} {l : List ByteArray} {k : Nat} {s : ByteArray} (h : l[k]? = some s) (hs : ¬ (s.size : Int) = width) : areH width l = false := by
 rw [areH, List.all_eq_false]
 exact ⟨s, List.mem_of_getElem? h, by simp [hs]⟩
theorem areH_mem {width : Int} {l : List ByteArray} (h : areH width l = true) : ∀ s ∈ l, (s.size : Int) = width := by
 rw [areH, List.all_eq_true] at h
 intro s hs
 simpa using h s hs
def rngOk (width size : Int) (l : List ByteArray) : Bool := inR size 0 512 && decide (l.length = popC size) && (areH width l && inR width 1 32)

set_option maxRecDepth 100000 in
set_option maxHeartbeats 4000000 in
theorem specPeaksOf_c (n : Nat) (w : World) (hn : n ≤ 512) : Calls Tryz.prog 157 #[.int .i64 n] w fun e w' => ∃ A c, e = .returned (.slice A (popC n) c) ∧ Below w.heap.size w w' := by
 have hq : inR (n : Int) 0 512 = true := inR_true.2 ⟨by omega, by omega⟩
 have HP : Hid (popC n = popUp n 10) := Lib.hid (by rw [popC, if_pos hq]; rfl)
 have HQ := Lib.hid hq
 have hrow := row_made w 3 0
 have hbl : Below w.heap.size w (w.alloc (.cells #[] 3)) := (Below.refl _ _).alloc (Nat.le_refl _) _
 have HROW := Lib.hid hrow
 have HBL := Lib.hid hbl
 clear hq hrow hbl
 go_enter Tryz.func157, Tryz.ntmps157
 go_wp2_with fail
 refine (l04Size_c n _).mono ?_
 rintro e w1 ⟨rfl, rfl⟩
 rw [HQ.out]
 go_wp2
 go_loopw [3, 4] (fun v p wx => ∃ (j : Nat) (A0 : Option Addr) (c0 m : Nat) (q : List Int), j ≤ 10 ∧ m = popUp n j ∧ p = .int .i64 (pwN j : Nat) ∧ v = .slice A0 m c0 ∧ wx.ownsRow w.heap.size 3 1 (.slice A0 m c0) m (ints q) ∧ Below w.heap.size w wx) (fun _ p _ => (intOf p).toNat)
 case atStart => exact ⟨0, _, 0, 0, [], Nat.zero_le _, rfl, rfl, rfl, HROW.out, HBL.out⟩
 case round =>
  obtain ⟨j, A0, c0, m, q, hj, hm, rfl, rfl, how, hbr⟩ := hrel
  have HBR := Lib.hid hbr
  have HOW := Lib.hid how
  have HM := Lib.hid hm
  have hm10 : m ≤ 10 := by have := popUp_le n j; omega
  have hz := hbr.size
  clear hbr how hm
  by_cases hlt : j < 10
  ·have hpos := pwN_pos hlt
   have hle := pwN_le j
   have hhf := pwN_half j
   have HPN : Hid (popUp n (j + 1) = popUp n j + bitN n j) := Lib.hid rfl
   have hb1 := bitN_le n j
   have hbd : bitN n j = n / pwN j % 2 := rfl
   generalize pwN j = p at *
   generalize hp2 : pwN (j + 1) = p2 at *
   have HP2 := Lib.hid hp2
   have hpi : (0 : Int) < (p : Int) := by omega
   have E1 : (p : Int).tdiv 2 = p2 := by rw [Int.tdiv_eq_ediv_of_nonneg (by omega)]; omega
   have hp2b : (p2 : Int) ≤ 512 := by omega
   have HHF := Lib.hid hhf
   obtain ⟨d, hd⟩ : ∃ d, d = n / p := ⟨_, rfl⟩
   have hdn : d ≤ 512 := by rw [hd]; exact Nat.le_trans (Nat.div_le_self _ _) hn
   have E2 : (n : Int).tdiv p = d := by rw [Int.tdiv_eq_ediv_of_nonneg (by omega), hd]; exact (Int.natCast_ediv _ _).symm
   rw [← hd] at hbd
   have E3 : (d : Int).tmod 2 = (d % 2 : Nat) := by rw [Int.tmod_eq_emod_of_nonneg (by omega)]; omega
   have hdi : (d : Int) ≤ 512 := by omega
   clear hhf hp2 hd
   rcases (show d % 2 = 0 ∨ d % 2 = 1 by omega) with hb | hb
   ·have hb0 : Hid (bitN n j = 0) := Lib.hid (by omega)
    rw [hb] at E3
    clear hb hbd
    go_wp2
    go_roundw
    case rel => exact ⟨j + 1, A0, c0, m, q, by omega, by rw [HPN.out, hb0.out, HM.out]; rfl, by rw [HP2.out], rfl, HOW.out, HBR.out⟩
    case measure => simp [intOf]; have := HHF.out; omega
   ·have hb0 : Hid (bitN n j = 1) := Lib.hid (by omega)
    rw [hb] at E3
    clear hb hbd
    go_wp2_with (at_builtin; refine app1Int rfl _ _ rfl w.heap.size _ _ _ rfl (HOW.out.alloc _) wr.heap.size (p : Int) rfl (NewBox.new wr _ _) (by omega) (by first | omega | (simp; done) | (simp; omega)) ?_)
    intro v2 w2 hown2 hg2
    have hon := grown_only (HOW.out.alloc _) hg2
    obtain ⟨A2, c2, rfl, _, _, _⟩ := ownsRow_slice hown2
    have HB2 : Hid (Below w.heap.size w w2) := below_only (HBR.out.alloc HBR.out.size _) hon (Nat.le_refl _) (by simp; omega)
    rw [← ints_app2] at hown2
    have HO2 := Lib.hid hown2
    clear hown2 hg2 hon HOW
    go_wp2
    go_roundw
    case rel => exact ⟨j + 1, A2, c2, m + 1, _, by omega, by rw [HPN.out, hb0.out, HM.out], by rw [HP2.out], rfl, HO2.out, HB2.out⟩
    case measure => simp [intOf]; have := HHF.out; omega
  ·obtain rfl : j = 10 := by omega
   have HM2 : Hid (popC n = m) := Lib.hid (HP.out.trans HM.out.symm)
   rw [pwN_10]
   go_wp2
   go_ret
   exact ⟨A0, c0, by rw [HM2.out]; rfl, HBR.out⟩
set_option maxRecDepth 100000 in
set_option maxHeartbeats 400000 in
theorem l04Hashes_c (width : Int) (A : Option Addr) (c lo hi n : Nat) (l : List ByteArray) (w : World) (hr : Rd w lo hi A (strs l)) (hn : l.length = n) (hl : n ≤ 1048576) :
  Calls Tryz.prog 156 #[.int .i64 width, .slice A n c] w fun e w' => e = .returned (.bool (areH width l && inR width 1 32)) ∧ w = w' := by
 have HR := Lib.hid hr
 have HN := Lib.hid hn
 clear hr hn
 go_enter Tryz.func156, Tryz.ntmps156
 go_wp2
 go_loop [5] (fun i => ∃ k : Nat, k ≤ n ∧ i = .int .i64 k ∧ areH width (l.take k) = true) (fun i => n - (intOf i).toNat)
 case atStart => exact ⟨0, Nat.zero_le _, rfl, rfl⟩
 case round =>
  obtain ⟨k, hk, rfl, hup⟩ := hrel
  have HUP := Lib.hid hup
  clear hup
  by_cases hlt : k < n
  ·obtain ⟨b, off, s, rfl, hb, hks, hc⟩ := HR.out.str (k := k) (by rw [HN.out]; exact hlt)
   have hI : (k : Int) < n := by omega
   rcases hq : ((s.size : Int) == width) with _ | _
   ·have hne := bne_of_beq' hq
    have HNO := Lib.hid (areH_no hks (by simpa using hq))
    clear hks
    go_wp2
    go_ret
    exact ⟨ret_bool (by rw [HNO.out]; first | done | rfl), rfl⟩
   ·have hne := bne_of_beq' hq
    have HT := Lib.hid (areH_take (width := width) hks)
    have hdec : Hid (decide ((s.size : Int) = width) = true) := Lib.hid (by simpa using hq)
    clear hks
    go_wp2
    go_round
    case rel => exact ⟨k + 1, by omega, by go_num, by rw [HT.out, HUP.out, hdec.out]; rfl⟩
    case measure => simp [intOf]; omega
  ·obtain rfl : k = n := by omega
   have HALL : Hid (areH width l = true) := Lib.hid (by have := HUP.out; rwa [List.take_of_length_le (by rw [HN.out]; exact Nat.le_refl _)] at this)
   go_wp2_with fail
   refine (l02Width_c width _).mono ?_
   rintro e w1 ⟨rfl, rfl⟩
   go_wp2
   go_ret
   exact ⟨ret_bool (by rw [HALL.out]; rfl), rfl⟩
set_option maxRecDepth 100000 in
set_option maxHeartbeats 4000000 in
theorem specRangeOk_c (width size : Int) (A : Option Addr) (c lo hi n : Nat) (l : List ByteArray) (w : World) (hr : Rd w lo hi A (strs l)) (hn : l.length = n) (hl : n ≤ 1048576) :
  Calls Tryz.prog 155 #[.int .i64 width, .agg #[.int .i64 size, .slice A n c]] w fun e w' => e = .returned (.bool (rngOk width size l)) ∧ Below w.heap.size w w' := by
 have HDEF : Hid (rngOk width size l = (inR size 0 512 && decide (n = popC size) && (areH width l && inR width 1 32))) := Lib.hid (by rw [rngOk, hn])
 have HAR := Lib.hid (fun W (h : Rd W 0 W.heap.size A (strs l)) => l04Hashes_c width A c 0 W.heap.size n l W h hn hl)
 have HR := Lib.hid hr.base
 have HSZ := Lib.hid (fun W => l04Size_c size W)
 clear hr hn
 generalize rngOk width size l = rk at *
 generalize (areH width l && inR width 1 32) = ah at *
 have HB : Hid (Below w.heap.size w w) := Below.refl _ _
 go_enter Tryz.func155, Tryz.ntmps155
 go_wp2_with fail
 refine wp_named (fun w1 hw => ?_)
 have hz1 : w.heap.size + 1 ≤ w1.heap.size := by rw [hw]; first | omega | (simp [World.setCell]; done) | (simp [World.setCell]; omega)
 have hzz1 : w.heap.size ≤ w1.heap.size := by omega
 have hbn : Below w.heap.size w w1 := by rw [hw]; exact (by ((repeat (first | ((with_reducible refine Below.alloc ?_ ?_ _); rotate_left 1; (focus (first | omega | (simp; done) | (simp; omega)))) | (with_reducible refine Below.drew ?_) | ((with_reducible refine Below.setCell ?_ ?_ _); rotate_left 1; (focus (first | omega | (simp; done) | (simp; omega)))))); exact Below.refl _ _))
 replace HB := Lib.hid (below_then HB.out hbn HB.out.size)
 clear hbn
 have HXr : Hid (NewBox w1 (w.heap.size) [.int .i64 size, .slice A n c]) := by rw [Hid, hw]; exact ⟨by first | omega | (simp [World.setCell]; done) | (simp [World.setCell]; omega), fun o => by rcases o with _ | _ | o <;> go_simp, fun o => by go_simp⟩
 have hxr := HXr.out.2.1
 have hfr := HXr.out.2.2
 have hkr := HXr.out.1
 clear hw
 rcases hq2 : inR size 0 512 with _ | _
 ·have HDN : Hid (rk = false) := Lib.hid (by rw [HDEF.out, hq2]; rfl)
  rw [hq2] at HSZ
  clear hq2
  have l0 : ∀ v : Later w1, v.v.cell? ⟨w.heap.size, 0, none⟩ = some (.int .i64 size) := fun v => (later_cell v _ _ hkr).trans (hxr 0)
  refine wp_region_later (by kernel_rfl) (by kernel_rfl) ?_
  repeat (go_big_quiet_step ((exact later_pure (HSZ.out _))))
  refine wpQuiet_nil ?_
  intro w9 h9
  have HB9 := Lib.hid (below_then HB.out (later_below h9) HB.out.size)
  clear l0 h9
  go_wp2
  go_ret
  exact ⟨by rw [HDN.out]; rfl, HB9.out⟩
 ·have hsz := inR_true.1 hq2
  rw [hq2] at HDEF HSZ
  clear hq2
  have HPK : Hid (∀ W, Calls Tryz.prog 157 #[.int .i64 size] W fun e w' => ∃ A c, e = .returned (.slice A (popC size) c) ∧ Below W.heap.size W w') := Lib.hid (fun W => by
   have := specPeaksOf_c size.toNat W (by omega)
   rwa [show ((size.toNat : Nat) : Int) = size by omega] at this)
  have hpl := popC_le size
  generalize popC size = pz at *
  rcases (show n = pz ∨ ¬ n = pz by omega) with hpz | hpz
  ·have HDN : Hid (rk = ah) := Lib.hid (by rw [HDEF.out, hpz]; simp)
   subst hpz
   go_region_held3 (fun w' => (∀ o, w'.cell? ⟨w.heap.size, o, none⟩ = [.int .i64 size, .slice A n c][o]?))
    (first | exact hxr)
    (first
      | (go_at_call 154
         with_reducible refine (HSZ.out _).mono ?_
         rintro e w10 ⟨rfl, rfl⟩)
      | (go_at_call 157
         with_reducible refine (HPK.out _).mono ?_
         rintro e w9 ⟨A9, c9, rfl, hb9⟩
         replace HB : Hid (Below w.heap.size w w9) := Lib.hid (below_then (by first | exact HB.out | exact HB.out.drew) hb9 (by exact HB.out.size))
         replace hxr : ∀ o, w9.cell? ⟨w.heap.size, o, none⟩ = [.int .i64 size, .slice A n c][o]? := fun o => (hb9.cell (p := ⟨w.heap.size, o, none⟩) (by exact hkr)).trans (hxr o)
         replace hkr : w.heap.size < w9.heap.size := Nat.lt_of_lt_of_le (by exact hkr) hb9.size
         clear hb9)
      | (go_at_call 156
         with_reducible refine (HAR.out _ (HR.out.below (by first | exact HB.out | exact HB.out.drew)).base).mono ?_
         rintro e w10 ⟨rfl, rfl⟩))
   go_wp2
   go_ret
   exact ⟨by rw [HDN.out]; rfl, HB.out⟩
  ·have HDN : Hid (rk = false) := Lib.hid (by rw [HDEF.out, decide_eq_false hpz]; rfl)
   have hni : ¬ (n : Int) = (pz : Int) := by omega
   have hd1 : ((n : Int) == (pz : Int)) = false := by simpa using hni
   refine wp_region_held_drew (S := fun w' => (∀ o, w'.cell? ⟨w.heap.size, o, none⟩ = [.int .i64 size, .slice A n c][o]?)) (by kernel_rfl) ?_ (fun hHeld => ?_)
   ·exact hxr
   refine wpAnyH_take (i := 0) (v := ?_) rfl (by kernel_rfl) (by kernel_rfl) (by kernel_rfl) (fun _ _ _ h => h) (Or.inl ⟨by rfl, ?_⟩) (by assumption) ?_
   rotate_left 1
   ·((intro wS hSw; (try dsimp only at hSw); go_simp) <;> (try with_reducible rfl))
   try simp only [Act.put, List.getElem_toArray, List.getElem_cons_zero, List.getElem_cons_succ, List.setIfInBounds_toArray, List.set_cons_zero, List.set_cons_succ]
   refine wpAnyH_take (i := 1) (v := ?_) rfl (by kernel_rfl) (by kernel_rfl) (by kernel_rfl) (fun _ _ _ h => h) (Or.inl ⟨by rfl, ?_⟩) (by assumption) ?_
   rotate_left 1
   ·((intro wS hSw; (try dsimp only at hSw); go_simp) <;> (try with_reducible rfl))
   try simp only [Act.put, List.getElem_toArray, List.getElem_cons_zero, List.getElem_cons_succ, List.setIfInBounds_toArray, List.set_cons_zero, List.set_cons_succ]
   refine wpAnyH_ready (rs := [2]) (by kernel_rfl) (by simp) ?_
   refine AllReadyH.cons rfl (fun K hK => ?_) AllReadyH.nil
   go_simp
   go_at_call 154
   with_reducible refine (HSZ.out _).mono ?_
   rintro e w10 ⟨rfl, rfl⟩
   show K _ _
   refine hK.out _ _ ?_ (fun hHeld => ?_)
   ·exact hxr
   clear hK K
   try simp only [Act.put, List.getElem_toArray, List.getElem_cons_zero, List.getElem_cons_succ, List.setIfInBounds_toArray, List.set_cons_zero, List.set_cons_succ]
   refine wpAnyH_take (i := 3) (v := ?_) rfl (by kernel_rfl) (by kernel_rfl) (by kernel_rfl) (fun _ _ _ h => h) (Or.inl ⟨by rfl, ?_⟩) (by assumption) ?_
   rotate_left 1
   ·((intro wS hSw; (try dsimp only at hSw); go_simp) <;> (try with_reducible rfl))
   try simp only [Act.put, List.getElem_toArray, List.getElem_cons_zero, List.getElem_cons_succ, List.setIfInBounds_toArray, List.set_cons_zero, List.set_cons_succ]
   refine wpAnyH_take (i := 4) (v := ?_) rfl (by kernel_rfl) (by kernel_rfl) (by kernel_rfl) (fun _ _ _ h => h) (Or.inl ⟨by rfl, ?_⟩) (by assumption) ?_
   rotate_left 1
   ·((intro wS hSw; (try dsimp only at hSw); go_simp) <;> (try with_reducible rfl))
   try simp only [Act.put, List.getElem_toArray, List.getElem_cons_zero, List.getElem_cons_succ, List.setIfInBounds_toArray, List.set_cons_zero, List.set_cons_succ]
   refine wpAnyH_take (i := 5) (v := ?_) rfl (by kernel_rfl) (by kernel_rfl) (by kernel_rfl) (fun _ _ _ h => h) (Or.inl ⟨by rfl, ?_⟩) (by assumption) ?_
   rotate_left 1
   ·((intro wS hSw; (try dsimp only at hSw); go_simp) <;> (try with_reducible rfl))
   try simp only [Act.put, List.getElem_toArray, List.getElem_cons_zero, List.getElem_cons_succ, List.setIfInBounds_toArray, List.set_cons_zero, List.set_cons_succ]
   refine wpAnyH_take (i := 6) (v := ?_) rfl (by kernel_rfl) (by kernel_rfl) (by kernel_rfl) (fun _ _ _ h => h) (Or.inl ⟨by rfl, ?_⟩) (by assumption) ?_
   rotate_left 1
   ·((intro wS hSw; (try dsimp only at hSw); go_simp) <;> (try with_reducible rfl))
   try simp only [Act.put, List.getElem_toArray, List.getElem_cons_zero, List.getElem_cons_succ, List.setIfInBounds_toArray, List.set_cons_zero, List.set_cons_succ]
   refine wpAnyH_take (i := 7) (v := ?_) rfl (by kernel_rfl) (by kernel_rfl) (by kernel_rfl) (fun _ _ _ h => h) (Or.inl ⟨by rfl, ?_⟩) (by assumption) ?_
   rotate_left 1
   ·((intro wS hSw; (try dsimp only at hSw); go_simp) <;> (try with_reducible rfl))
   try simp only [Act.put, List.getElem_toArray, List.getElem_cons_zero, List.getElem_cons_succ, List.setIfInBounds_toArray, List.set_cons_zero, List.set_cons_succ]
   refine wpAnyH_take (i := 8) (v := ?_) rfl (by kernel_rfl) (by kernel_rfl) (by kernel_rfl) (fun _ _ _ h => h) (Or.inl ⟨by rfl, ?_⟩) (by assumption) ?_
   rotate_left 1
   ·((intro wS hSw; (try dsimp only at hSw); go_simp) <;> (try with_reducible rfl))
   try simp only [Act.put, List.getElem_toArray, List.getElem_cons_zero, List.getElem_cons_succ, List.setIfInBounds_toArray, List.set_cons_zero, List.set_cons_succ]
   refine wpAnyH_ready (rs := [9]) (by kernel_rfl) (by simp) ?_
   refine AllReadyH.cons rfl (fun K hK => ?_) AllReadyH.nil
   go_simp
   go_at_call 157
   with_reducible refine (HPK.out _).mono ?_
   rintro e w9 ⟨A9, c9, rfl, hb9⟩
   replace HB : Hid (Below w.heap.size w w9) := Lib.hid (below_then (by first | exact HB.out | exact HB.out.drew) hb9 (by exact HB.out.size))
   replace hxr : ∀ o, w9.cell? ⟨w.heap.size, o, none⟩ = [.int .i64 size, .slice A n c][o]? := fun o => (hb9.cell (p := ⟨w.heap.size, o, none⟩) (by exact hkr)).trans (hxr o)
   clear hb9
   show K _ _
   refine hK.out _ _ ?_ (fun hHeld => ?_)
   ·exact hxr
   clear hK K
   try simp only [Act.put, List.getElem_toArray, List.getElem_cons_zero, List.getElem_cons_succ, List.setIfInBounds_toArray, List.set_cons_zero, List.set_cons_succ]
   refine wpAnyH_take (i := 10) (v := ?_) rfl (by kernel_rfl) (by kernel_rfl) (by kernel_rfl) (fun _ _ _ h => h) (Or.inl ⟨by rfl, ?_⟩) (by assumption) ?_
   rotate_left 1
   ·((intro wS hSw; (try dsimp only at hSw); go_simp) <;> (try with_reducible rfl))
   try simp only [Act.put, List.getElem_toArray, List.getElem_cons_zero, List.getElem_cons_succ, List.setIfInBounds_toArray, List.set_cons_zero, List.set_cons_succ]
   refine wpAnyH_take (i := 11) (v := ?_) rfl (by kernel_rfl) (by kernel_rfl) (by kernel_rfl) (fun _ _ _ h => h) (Or.inl ⟨by rfl, ?_⟩) (by assumption) ?_
   rotate_left 1
   ·((intro wS hSw; (try dsimp only at hSw); go_simp) <;> (try with_reducible rfl))
   try simp only [Act.put, List.getElem_toArray, List.getElem_cons_zero, List.getElem_cons_succ, List.setIfInBounds_toArray, List.set_cons_zero, List.set_cons_succ]
   refine wpAnyH_take (i := 12) (v := ?_) rfl (by kernel_rfl) (by kernel_rfl) (by kernel_rfl) (fun _ _ _ h => h) (Or.inl ⟨by rfl, ?_⟩) (by assumption) ?_
   rotate_left 1
   ·((intro wS hSw; (try dsimp only at hSw); go_simp) <;> (try with_reducible rfl))
   try simp only [Act.put, List.getElem_toArray, List.getElem_cons_zero, List.getElem_cons_succ, List.setIfInBounds_toArray, List.set_cons_zero, List.set_cons_succ]
   refine wpAnyH_take (i := 13) (v := ?_) rfl (by kernel_rfl) (by kernel_rfl) (by kernel_rfl) (fun _ _ _ h => h) (Or.inl ⟨by rfl, ?_⟩) (by assumption) ?_
   rotate_left 1
   ·((intro wS hSw; (try dsimp only at hSw); go_simp) <;> (try with_reducible rfl))
   try simp only [Act.put, List.getElem_toArray, List.getElem_cons_zero, List.getElem_cons_succ, List.setIfInBounds_toArray, List.set_cons_zero, List.set_cons_succ]
   refine wpAnyH_take (i := 14) (v := undef) rfl (by kernel_rfl) (by kernel_rfl) (by kernel_rfl) (fun _ _ _ h => h) (Or.inr ⟨by rfl, rfl⟩) (by assumption) ?_
   try simp only [Act.put, List.getElem_toArray, List.getElem_cons_zero, List.getElem_cons_succ, List.setIfInBounds_toArray, List.set_cons_zero, List.set_cons_succ]
   refine wpAnyH_take (i := 15) (v := undef) rfl (by kernel_rfl) (by kernel_rfl) (by kernel_rfl) (fun _ _ _ h => h) (Or.inr ⟨by rfl, rfl⟩) (by assumption) ?_
   try simp only [Act.put, List.getElem_toArray, List.getElem_cons_zero, List.getElem_cons_succ, List.setIfInBounds_toArray, List.set_cons_zero, List.set_cons_succ]
   refine wpAnyH_take (i := 16) (v := undef) rfl (by kernel_rfl) (by kernel_rfl) (by kernel_rfl) (fun _ _ _ h => h) (Or.inr ⟨by rfl, rfl⟩) (by assumption) ?_
   try simp only [Act.put, List.getElem_toArray, List.getElem_cons_zero, List.getElem_cons_succ, List.setIfInBounds_toArray, List.set_cons_zero, List.set_cons_succ]
   refine wpAnyH_take (i := 17) (v := undef) rfl (by kernel_rfl) (by kernel_rfl) (by kernel_rfl) (fun _ _ _ h => h) (Or.inr ⟨by rfl, rfl⟩) (by assumption) ?_
   try simp only [Act.put, List.getElem_toArray, List.getElem_cons_zero, List.getElem_cons_succ, List.setIfInBounds_toArray, List.set_cons_zero, List.set_cons_succ]
   refine wpAnyH_take (i := 18) (v := ?_) rfl (by kernel_rfl) (by kernel_rfl) (by kernel_rfl) (fun _ _ _ h => h) (Or.inl ⟨by rfl, ?_⟩) (by assumption) ?_
   rotate_left 1
   ·((intro wS hSw; (try dsimp only at hSw); go_simp) <;> (try with_reducible rfl))
   try simp only [Act.put, List.getElem_toArray, List.getElem_cons_zero, List.getElem_cons_succ, List.setIfInBounds_toArray, List.set_cons_zero, List.set_cons_succ]
   refine wpAnyH_take (i := 19) (v := ?_) rfl (by kernel_rfl) (by kernel_rfl) (by kernel_rfl) (fun _ _ _ h => h) (Or.inl ⟨by rfl, ?_⟩) (by assumption) ?_
   rotate_left 1
   ·((intro wS hSw; (try dsimp only at hSw); go_simp) <;> (try with_reducible rfl))
   try simp only [Act.put, List.getElem_toArray, List.getElem_cons_zero, List.getElem_cons_succ, List.setIfInBounds_toArray, List.set_cons_zero, List.set_cons_succ]
   refine wpAnyH_done (by kernel_rfl) ?_ _
   go_wp2
   go_ret
   exact ⟨by rw [HDN.out]; first | rfl | simp, HB.out⟩
end Go.Proofs.YtmmepogjocfefaaGreat
