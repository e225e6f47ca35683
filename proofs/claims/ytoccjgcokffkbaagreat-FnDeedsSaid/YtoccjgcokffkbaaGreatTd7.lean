/- Part 7 of the proof of FnDeeds: lemmas and contracts. -/
import Derived.Test.YtoccjgcokffkbaaGreatTd6
import Derived.Deep.RegionWith
namespace Go.Proofs.YtoccjgcokffkbaaGreat
set_option linter.unusedVariables false
set_option linter.unusedSimpArgs false
set_option maxHeartbeats 20000000
section
open Go.RowKit
def pwN (j : Nat) : Nat := 512 / 2 ^ j
def bitN (n j : Nat) : Nat := n / pwN j % 2
def popUp (n : Nat) : Nat → Nat
 | 0 => 0
 | j + 1 => popUp n j + bitN n j
def aO (n : Nat) : Nat := popUp n 10
def popC (n : Int) : Nat := if inR n 0 512 then aO n.toNat else 0
theorem pwN_half (j : Nat) : pwN j / 2 = pwN (j + 1) := by rw [pwN, pwN, Nat.div_div_eq_div_mul, Nat.pow_succ]
theorem pwN_pos {j : Nat} (h : j < 10) : 0 < pwN j := by
 have : ∀ j, j < 10 → 0 < pwN j := by decide
 exact this j h
theorem pwN_le (j : Nat) : pwN j ≤ 512 := Nat.div_le_self _ _
theorem pwN_10 : pwN 10 = 0 := by decide
theorem bitN_le (n j : Nat) : bitN n j ≤ 1 := by unfold bitN; omega
theorem dM (n : Nat) : ∀ j, popUp n j ≤ j
 | 0 => Nat.le_refl _
 | j + 1 => by have := dM n j; have := bitN_le n j; rw [popUp]; omega
theorem popC_le (n : Int) : popC n ≤ 10 := by
 unfold popC; split
 ·exact dM _ 10
 exact Nat.zero_le _
theorem ints_app2 (a b : List Int) : ints (a ++ b) = ints a ++ ints b := by rw [ints, ints, ints, List.map_append]
theorem bne_of_beq' {α : Type} [BEq α] {a b : α} {q : Bool} (h : (a == b) = q) : (a != b) = !q := by rw [bne, h]
def bE (width : Int) (l : List ByteArray) : Bool := l.all fun s => decide ((s.size : Int) = width)
theorem areH_take {width : Int} {l : List ByteArray} {k : Nat} {s : ByteArray} (h : l[k]? = some s) : bE width (l.take (k + 1)) = (bE width (l.take k) && decide ((s.size : Int) = width)) := by
 rw [bI h, bE, List.all_append]; simp [bE]
theorem areH_no {width : Int} {l : List ByteArray} {k : Nat} {s : ByteArray} (h : l[k]? = some s) (hs : ¬ (s.size : Int) = width) : bE width l = false := by
 rw [bE, List.all_eq_false]
 exact ⟨s, List.mem_of_getElem? h, by simp [hs]⟩
theorem cz {width : Int} {l : List ByteArray} (h : bE width l = true) : ∀ s ∈ l, (s.size : Int) = width := by
 rw [bE, List.all_eq_true] at h
 intro s hs
 simpa using h s hs
def dH (width size : Int) (l : List ByteArray) : Bool := inR size 0 512 && decide (l.length = popC size) && (bE width l && inR width 1 32)
set_option maxRecDepth 100000 in
theorem specPeaksOf_c (n : Nat) (w : World) (hn : n ≤ 512) : Calls Tryz.prog 192 #[.int .i64 n] w fun e w' => ∃ A c, e = .returned (.slice A (popC n) c) ∧ Below w.heap.size w w' := by
 have hq : inR (n : Int) 0 512 = true := az.2 ⟨by omega, by omega⟩
 have HP : Hid (popC n = popUp n 10) := lH (by rw [popC, if_pos hq]; rfl)
 have HQ := lH hq
 have hrow := dL w 3 0
 have hbl : Below w.heap.size w (w.alloc (.cells #[] 3)) := (Below.refl _ _).alloc (Nat.le_refl _) _
 have HROW := lH hrow
 have HBL := lH hbl
 clear hq hrow hbl
 go_enter Tryz.func192, Tryz.ntmps192
 go_wp2_with fail
 refine (l04Size_c n _).mono ?_
 rintro e w1 ⟨rfl, rfl⟩
 rw [HQ.out]
 go_wp2
 go_loopw [3, 4] (fun v p wx => ∃ (j : Nat) (A0 : Option Addr) (c0 m : Nat) (q : List Int), j ≤ 10 ∧ m = popUp n j ∧ p = .int .i64 (pwN j : Nat) ∧ v = .slice A0 m c0 ∧ wx.ownsRow w.heap.size 3 1 (.slice A0 m c0) m (ints q) ∧ Below w.heap.size w wx) (fun _ p _ => (intOf p).toNat)
 case atStart => exact ⟨0, _, 0, 0, [], Nat.zero_le _, rfl, rfl, rfl, HROW.out, HBL.out⟩
 case round =>
  obtain ⟨j, A0, c0, m, q, hj, hm, rfl, rfl, how, hbr⟩ := hrel
  have HBR := lH hbr
  have HOW := lH how
  have HM := lH hm
  have hm10 : m ≤ 10 := by have := dM n j; omega
  have hz := hbr.size; clear hbr how hm
  by_cases hlt : j < 10
  ·have hpos := pwN_pos hlt
   have hle := pwN_le j
   have hhf := pwN_half j
   have HPN : Hid (popUp n (j + 1) = popUp n j + bitN n j) := lH rfl
   have hb1 := bitN_le n j
   have hbd : bitN n j = n / pwN j % 2 := rfl
   generalize pwN j = p at *
   generalize hp2 : pwN (j + 1) = p2 at *
   have HP2 := lH hp2
   have hpi : (0 : Int) < (p : Int) := by omega
   have E1 : (p : Int).tdiv 2 = p2 := by rw [Int.tdiv_eq_ediv_of_nonneg (by omega)]; omega
   have hp2b : (p2 : Int) ≤ 512 := by omega
   have HHF := lH hhf
   obtain ⟨d, hd⟩ : ∃ d, d = n / p := ⟨_, rfl⟩
   have hdn : d ≤ 512 := by rw [hd]; exact Nat.le_trans (Nat.div_le_self _ _) hn
   have E2 : (n : Int).tdiv p = d := by rw [Int.tdiv_eq_ediv_of_nonneg (by omega), hd]; exact (Int.natCast_ediv _ _).symm
   rw [← hd] at hbd
   have E3 : (d : Int).tmod 2 = (d % 2 : Nat) := by rw [Int.tmod_eq_emod_of_nonneg (by omega)]; omega
   have hdi : (d : Int) ≤ 512 := by omega
   clear hhf hp2 hd
   rcases (show d % 2 = 0 ∨ d % 2 = 1 by omega) with hb | hb
   ·have hb0 : Hid (bitN n j = 0) := lH (by omega)
    rw [hb] at E3
    clear hb hbd; go_wp2
    go_roundw
    case rel => exact ⟨j + 1, A0, c0, m, q, by omega, by rw [HPN.out, hb0.out, HM.out]; rfl, by rw [HP2.out], rfl, HOW.out, HBR.out⟩
    case measure => simp [intOf]; have := HHF.out; omega
   have hb0 : Hid (bitN n j = 1) := lH (by omega)
   rw [hb] at E3
   clear hb hbd
   go_wp2_with (at_builtin; refine app1Int rfl _ _ rfl w.heap.size _ _ _ rfl (HOW.out.alloc _) wr.heap.size (p : Int) rfl (aa.new wr _ _) (by omega) (by first | omega | (simp; done) | (simp; omega)) ?_)
   intro v2 w2 hown2 hg2
   have hon := bG (HOW.out.alloc _) hg2
   obtain ⟨A2, c2, rfl, _, _, _⟩ := ay hown2
   have HB2 : Hid (Below w.heap.size w w2) := au (HBR.out.alloc HBR.out.size _) hon (Nat.le_refl _) (by simp; omega)
   rw [← ints_app2] at hown2
   have HO2 := lH hown2
   clear hown2 hg2 hon HOW; go_wp2
   go_roundw
   case rel => exact ⟨j + 1, A2, c2, m + 1, _, by omega, by rw [HPN.out, hb0.out, HM.out], by rw [HP2.out], rfl, HO2.out, HB2.out⟩
   case measure => simp [intOf]; have := HHF.out; omega
  obtain rfl : j = 10 := by omega
  have HM2 : Hid (popC n = m) := lH (HP.out.trans HM.out.symm)
  rw [pwN_10]
  go_wp2
  go_ret
  exact ⟨A0, c0, by rw [HM2.out]; rfl, HBR.out⟩
set_option maxRecDepth 100000 in
theorem l04Hashes_c (width : Int) (A : Option Addr) (c lo hi n : Nat) (l : List ByteArray) (w : World) (hr : Rd w lo hi A (strs l)) (hn : l.length = n) (hl : n ≤ 1048576) :
  Calls Tryz.prog 157 #[.int .i64 width, .slice A n c] w fun e w' => e = .returned (.bool (bE width l && inR width 1 32)) ∧ w = w' := by
 have HR := lH hr
 have HN := lH hn
 clear hr hn
 go_enter Tryz.func157, Tryz.ntmps157
 go_wp2
 go_loop [5] (fun i => ∃ k : Nat, k ≤ n ∧ i = .int .i64 k ∧ bE width (l.take k) = true) (fun i => n - (intOf i).toNat)
 case atStart => exact ⟨0, Nat.zero_le _, rfl, rfl⟩
 case round =>
  obtain ⟨k, hk, rfl, hup⟩ := hrel
  have HUP := lH hup
  clear hup
  by_cases hlt : k < n
  ·obtain ⟨b, off, s, rfl, hb, hks, hc⟩ := HR.out.str (k := k) (by rw [HN.out]; exact hlt)
   have hI : (k : Int) < n := by omega
   rcases hq : ((s.size : Int) == width) with _ | _
   ·have hne := bne_of_beq' hq
    have HNO := lH (areH_no hks (by simpa using hq))
    clear hks; go_wp2
    go_ret
    exact ⟨aj (by rw [HNO.out]; first | done | rfl), rfl⟩
   have hne := bne_of_beq' hq
   have HT := lH (areH_take (width := width) hks)
   have hdec : Hid (decide ((s.size : Int) = width) = true) := lH (by simpa using hq)
   clear hks; go_wp2
   go_round
   case rel => exact ⟨k + 1, by omega, by go_num, by rw [HT.out, HUP.out, hdec.out]; rfl⟩
   case measure => simp [intOf]; omega
  obtain rfl : k = n := by omega
  have HALL : Hid (bE width l = true) := lH (by have := HUP.out; rwa [List.take_of_length_le (by rw [HN.out]; exact Nat.le_refl _)] at this)
  go_wp2_with fail
  refine (l02Width_c width _).mono ?_
  rintro e w1 ⟨rfl, rfl⟩
  go_wp2
  go_ret
  exact ⟨aj (by rw [HALL.out]; rfl), rfl⟩
set_option maxRecDepth 100000 in
theorem specRangeOk_c (width size : Int) (A : Option Addr) (c lo hi n : Nat) (l : List ByteArray) (w : World) (hr : Rd w lo hi A (strs l)) (hn : l.length = n) (hl : n ≤ 1048576) :
  Calls Tryz.prog 191 #[.int .i64 width, .agg #[.int .i64 size, .slice A n c]] w fun e w' => e = .returned (.bool (dH width size l)) ∧ Below w.heap.size w w' := by
 have HDEF : Hid (dH width size l = (inR size 0 512 && decide (n = popC size) && (bE width l && inR width 1 32))) := lH (by rw [dH, hn])
 have HAR := lH (fun W (h : Rd W 0 W.heap.size A (strs l)) => l04Hashes_c width A c 0 W.heap.size n l W h hn hl)
 have HR := lH hr.base
 have HSZ := lH (fun W => l04Size_c size W)
 clear hr hn
 generalize dH width size l = rk at *
 generalize (bE width l && inR width 1 32) = ah at *
 have HB : Hid (Below w.heap.size w w) := Below.refl _ _
 go_enter Tryz.func191, Tryz.ntmps191
 go_wp2_with fail
 refine aD (fun w1 hw => ?_)
 have hz1 : w.heap.size + 1 ≤ w1.heap.size := zA
 have hbn : Below w.heap.size w w1 := zB
 replace HB := bT HB hbn
 clear hbn
 have HXr : Hid (aa w1 (w.heap.size) [.int .i64 size, .slice A n c]) := zG2
 obtain ⟨hkr, hxr, hfr⟩ := HXr.out
 clear hw
 rcases hq2 : inR size 0 512 with _ | _
 ·have HDN : Hid (rk = false) := lH (by rw [HDEF.out, hq2]; rfl)
  rw [hq2] at HSZ
  clear hq2
  have l0 : ∀ v : Later w1, v.v.cell? ⟨w.heap.size, 0, none⟩ = some (.int .i64 size) := fun v => (ag v _ _ hkr).trans (hxr 0)
  refine aA (by kernel_rfl) (by kernel_rfl) ?_
  repeat (go_big_quiet_step ((exact later_pure (HSZ.out _))))
  refine wpQuiet_nil ?_
  intro w9 h9
  have HB9 := lH (ak HB.out (aP h9) HB.out.size)
  clear l0 h9; go_wp2
  go_ret
  exact ⟨by rw [HDN.out]; rfl, HB9.out⟩
 have hsz := az.1 hq2
 rw [hq2] at HDEF HSZ
 clear hq2
 have HPK : Hid (∀ W, Calls Tryz.prog 192 #[.int .i64 size] W fun e w' => ∃ A c, e = .returned (.slice A (popC size) c) ∧ Below W.heap.size W w') := lH (fun W => by
  have := specPeaksOf_c size.toNat W (by omega)
  rwa [show ((size.toNat : Nat) : Int) = size by omega] at this)
 have hpl := popC_le size
 generalize popC size = pz at *
 rcases (show n = pz ∨ ¬ n = pz by omega) with hpz | hpz
 ·have HDN : Hid (rk = ah) := lH (by rw [HDEF.out, hpz]; simp)
  subst hpz
  go_region_held3 (fun w' => (∀ o, w'.cell? ⟨w.heap.size, o, none⟩ = [.int .i64 size, .slice A n c][o]?))
   (first | exact hxr)
   (first
     | (go_at_call 194
        with_reducible refine (HSZ.out _).mono ?_
        rintro e w10 ⟨rfl, rfl⟩)
     | (go_at_call 192
        with_reducible refine (HPK.out _).mono ?_
        rintro e w9 ⟨A9, c9, rfl, hb9⟩
        replace HB : Hid (Below w.heap.size w w9) := lH (ak (by first | exact HB.out | exact HB.out.drew) hb9 (by exact HB.out.size))
        replace hxr : ∀ o, w9.cell? ⟨w.heap.size, o, none⟩ = [.int .i64 size, .slice A n c][o]? := fun o => (hb9.cell (p := ⟨w.heap.size, o, none⟩) (by exact hkr)).trans (hxr o)
        replace hkr : w.heap.size < w9.heap.size := Nat.lt_of_lt_of_le (by exact hkr) hb9.size
        clear hb9)
     | (go_at_call 157
        with_reducible refine (HAR.out _ (HR.out.below (by first | exact HB.out | exact HB.out.drew)).base).mono ?_
        rintro e w10 ⟨rfl, rfl⟩))
  go_wp2
  go_ret
  exact ⟨by rw [HDN.out]; rfl, HB.out⟩
 have HDN : Hid (rk = false) := lH (by rw [HDEF.out, decide_eq_false hpz]; rfl)
 have hni : ¬ (n : Int) = (pz : Int) := by omega
 have hd1 : ((n : Int) == (pz : Int)) = false := by simpa using hni
 refine wp_region_held_drew (S := fun w' => (∀ o, w'.cell? ⟨w.heap.size, o, none⟩ = [.int .i64 size, .slice A n c][o]?)) (by kernel_rfl) ?_ (fun hHeld => ?_)
 ·exact hxr
 refine wpAnyH_take (i := 0) (v := ?_) rfl (by kernel_rfl) (by kernel_rfl) (by kernel_rfl) (fun _ _ _ h => h) (Or.inl ⟨by rfl, ?_⟩) (by assumption) ?_
 rotate_left 1
 ·((intro wS hSw; (try dsimp only at hSw); go_simp) <;> (try with_reducible rfl))
 try simp only [Act.put, List.getElem_toArray, List.getElem_cons_zero, List.getElem_cons_succ, List.setIfInBounds_toArray, List.set_cons_zero, List.set_cons_succ]
 refine wpAnyH_take (i := 1) (v := ?_) rfl (by kernel_rfl) (by kernel_rfl) (by kernel_rfl) (fun _ _ _ h => h) (Or.inl ⟨by rfl, ?_⟩) (by assumption) ?_
 rotate_left 1
 ·((intro wS hSw; (try dsimp only at hSw); go_simp) <;> (try with_reducible rfl))
 try simp only [Act.put, List.getElem_toArray, List.getElem_cons_zero, List.getElem_cons_succ, List.setIfInBounds_toArray, List.set_cons_zero, List.set_cons_succ]
 refine wpAnyH_ready (rs := [2]) (by kernel_rfl) (by simp) ?_
 refine AllReadyH.cons rfl (fun K hK => ?_) AllReadyH.nil
 go_simp
 go_at_call 194
 with_reducible refine (HSZ.out _).mono ?_
 rintro e w10 ⟨rfl, rfl⟩
 show K _ _
 refine hK.out _ _ ?_ (fun hHeld => ?_)
 ·exact hxr
 clear hK K
 try simp only [Act.put, List.getElem_toArray, List.getElem_cons_zero, List.getElem_cons_succ, List.setIfInBounds_toArray, List.set_cons_zero, List.set_cons_succ]
 refine wpAnyH_take (i := 3) (v := ?_) rfl (by kernel_rfl) (by kernel_rfl) (by kernel_rfl) (fun _ _ _ h => h) (Or.inl ⟨by rfl, ?_⟩) (by assumption) ?_
 rotate_left 1
 ·((intro wS hSw; (try dsimp only at hSw); go_simp) <;> (try with_reducible rfl))
 try simp only [Act.put, List.getElem_toArray, List.getElem_cons_zero, List.getElem_cons_succ, List.setIfInBounds_toArray, List.set_cons_zero, List.set_cons_succ]
 refine wpAnyH_take (i := 4) (v := ?_) rfl (by kernel_rfl) (by kernel_rfl) (by kernel_rfl) (fun _ _ _ h => h) (Or.inl ⟨by rfl, ?_⟩) (by assumption) ?_
 rotate_left 1
 ·((intro wS hSw; (try dsimp only at hSw); go_simp) <;> (try with_reducible rfl))
 try simp only [Act.put, List.getElem_toArray, List.getElem_cons_zero, List.getElem_cons_succ, List.setIfInBounds_toArray, List.set_cons_zero, List.set_cons_succ]
 refine wpAnyH_take (i := 5) (v := ?_) rfl (by kernel_rfl) (by kernel_rfl) (by kernel_rfl) (fun _ _ _ h => h) (Or.inl ⟨by rfl, ?_⟩) (by assumption) ?_
 rotate_left 1
 ·((intro wS hSw; (try dsimp only at hSw); go_simp) <;> (try with_reducible rfl))
 try simp only [Act.put, List.getElem_toArray, List.getElem_cons_zero, List.getElem_cons_succ, List.setIfInBounds_toArray, List.set_cons_zero, List.set_cons_succ]
 refine wpAnyH_take (i := 6) (v := ?_) rfl (by kernel_rfl) (by kernel_rfl) (by kernel_rfl) (fun _ _ _ h => h) (Or.inl ⟨by rfl, ?_⟩) (by assumption) ?_
 rotate_left 1
 ·((intro wS hSw; (try dsimp only at hSw); go_simp) <;> (try with_reducible rfl))
 try simp only [Act.put, List.getElem_toArray, List.getElem_cons_zero, List.getElem_cons_succ, List.setIfInBounds_toArray, List.set_cons_zero, List.set_cons_succ]
 refine wpAnyH_take (i := 7) (v := ?_) rfl (by kernel_rfl) (by kernel_rfl) (by kernel_rfl) (fun _ _ _ h => h) (Or.inl ⟨by rfl, ?_⟩) (by assumption) ?_
 rotate_left 1
 ·((intro wS hSw; (try dsimp only at hSw); go_simp) <;> (try with_reducible rfl))
 try simp only [Act.put, List.getElem_toArray, List.getElem_cons_zero, List.getElem_cons_succ, List.setIfInBounds_toArray, List.set_cons_zero, List.set_cons_succ]
 refine wpAnyH_take (i := 8) (v := ?_) rfl (by kernel_rfl) (by kernel_rfl) (by kernel_rfl) (fun _ _ _ h => h) (Or.inl ⟨by rfl, ?_⟩) (by assumption) ?_
 rotate_left 1
 ·((intro wS hSw; (try dsimp only at hSw); go_simp) <;> (try with_reducible rfl))
 try simp only [Act.put, List.getElem_toArray, List.getElem_cons_zero, List.getElem_cons_succ, List.setIfInBounds_toArray, List.set_cons_zero, List.set_cons_succ]
 refine wpAnyH_ready (rs := [9]) (by kernel_rfl) (by simp) ?_
 refine AllReadyH.cons rfl (fun K hK => ?_) AllReadyH.nil
 go_simp
 go_at_call 192
 with_reducible refine (HPK.out _).mono ?_
 rintro e w9 ⟨A9, c9, rfl, hb9⟩
 replace HB : Hid (Below w.heap.size w w9) := lH (ak (by first | exact HB.out | exact HB.out.drew) hb9 (by exact HB.out.size))
 replace hxr : ∀ o, w9.cell? ⟨w.heap.size, o, none⟩ = [.int .i64 size, .slice A n c][o]? := fun o => (hb9.cell (p := ⟨w.heap.size, o, none⟩) (by exact hkr)).trans (hxr o)
 clear hb9
 show K _ _
 refine hK.out _ _ ?_ (fun hHeld => ?_)
 ·exact hxr
 clear hK K
 try simp only [Act.put, List.getElem_toArray, List.getElem_cons_zero, List.getElem_cons_succ, List.setIfInBounds_toArray, List.set_cons_zero, List.set_cons_succ]
 refine wpAnyH_take (i := 10) (v := ?_) rfl (by kernel_rfl) (by kernel_rfl) (by kernel_rfl) (fun _ _ _ h => h) (Or.inl ⟨by rfl, ?_⟩) (by assumption) ?_
 rotate_left 1
 ·((intro wS hSw; (try dsimp only at hSw); go_simp) <;> (try with_reducible rfl))
 try simp only [Act.put, List.getElem_toArray, List.getElem_cons_zero, List.getElem_cons_succ, List.setIfInBounds_toArray, List.set_cons_zero, List.set_cons_succ]
 refine wpAnyH_take (i := 11) (v := ?_) rfl (by kernel_rfl) (by kernel_rfl) (by kernel_rfl) (fun _ _ _ h => h) (Or.inl ⟨by rfl, ?_⟩) (by assumption) ?_
 rotate_left 1
 ·((intro wS hSw; (try dsimp only at hSw); go_simp) <;> (try with_reducible rfl))
 try simp only [Act.put, List.getElem_toArray, List.getElem_cons_zero, List.getElem_cons_succ, List.setIfInBounds_toArray, List.set_cons_zero, List.set_cons_succ]
 refine wpAnyH_take (i := 12) (v := ?_) rfl (by kernel_rfl) (by kernel_rfl) (by kernel_rfl) (fun _ _ _ h => h) (Or.inl ⟨by rfl, ?_⟩) (by assumption) ?_
 rotate_left 1
 ·((intro wS hSw; (try dsimp only at hSw); go_simp) <;> (try with_reducible rfl))
 try simp only [Act.put, List.getElem_toArray, List.getElem_cons_zero, List.getElem_cons_succ, List.setIfInBounds_toArray, List.set_cons_zero, List.set_cons_succ]
 refine wpAnyH_take (i := 13) (v := ?_) rfl (by kernel_rfl) (by kernel_rfl) (by kernel_rfl) (fun _ _ _ h => h) (Or.inl ⟨by rfl, ?_⟩) (by assumption) ?_
 rotate_left 1
 ·((intro wS hSw; (try dsimp only at hSw); go_simp) <;> (try with_reducible rfl))
 try simp only [Act.put, List.getElem_toArray, List.getElem_cons_zero, List.getElem_cons_succ, List.setIfInBounds_toArray, List.set_cons_zero, List.set_cons_succ]
 refine wpAnyH_take (i := 14) (v := undef) rfl (by kernel_rfl) (by kernel_rfl) (by kernel_rfl) (fun _ _ _ h => h) (Or.inr ⟨by rfl, rfl⟩) (by assumption) ?_
 try simp only [Act.put, List.getElem_toArray, List.getElem_cons_zero, List.getElem_cons_succ, List.setIfInBounds_toArray, List.set_cons_zero, List.set_cons_succ]
 refine wpAnyH_take (i := 15) (v := undef) rfl (by kernel_rfl) (by kernel_rfl) (by kernel_rfl) (fun _ _ _ h => h) (Or.inr ⟨by rfl, rfl⟩) (by assumption) ?_
 try simp only [Act.put, List.getElem_toArray, List.getElem_cons_zero, List.getElem_cons_succ, List.setIfInBounds_toArray, List.set_cons_zero, List.set_cons_succ]
 refine wpAnyH_take (i := 16) (v := undef) rfl (by kernel_rfl) (by kernel_rfl) (by kernel_rfl) (fun _ _ _ h => h) (Or.inr ⟨by rfl, rfl⟩) (by assumption) ?_
 try simp only [Act.put, List.getElem_toArray, List.getElem_cons_zero, List.getElem_cons_succ, List.setIfInBounds_toArray, List.set_cons_zero, List.set_cons_succ]
 refine wpAnyH_take (i := 17) (v := undef) rfl (by kernel_rfl) (by kernel_rfl) (by kernel_rfl) (fun _ _ _ h => h) (Or.inr ⟨by rfl, rfl⟩) (by assumption) ?_
 try simp only [Act.put, List.getElem_toArray, List.getElem_cons_zero, List.getElem_cons_succ, List.setIfInBounds_toArray, List.set_cons_zero, List.set_cons_succ]
 refine wpAnyH_take (i := 18) (v := ?_) rfl (by kernel_rfl) (by kernel_rfl) (by kernel_rfl) (fun _ _ _ h => h) (Or.inl ⟨by rfl, ?_⟩) (by assumption) ?_
 rotate_left 1
 ·((intro wS hSw; (try dsimp only at hSw); go_simp) <;> (try with_reducible rfl))
 try simp only [Act.put, List.getElem_toArray, List.getElem_cons_zero, List.getElem_cons_succ, List.setIfInBounds_toArray, List.set_cons_zero, List.set_cons_succ]
 refine wpAnyH_take (i := 19) (v := ?_) rfl (by kernel_rfl) (by kernel_rfl) (by kernel_rfl) (fun _ _ _ h => h) (Or.inl ⟨by rfl, ?_⟩) (by assumption) ?_
 rotate_left 1
 ·((intro wS hSw; (try dsimp only at hSw); go_simp) <;> (try with_reducible rfl))
 try simp only [Act.put, List.getElem_toArray, List.getElem_cons_zero, List.getElem_cons_succ, List.setIfInBounds_toArray, List.set_cons_zero, List.set_cons_succ]
 refine wpAnyH_done (by kernel_rfl) ?_ _
 go_wp2
 go_ret
 exact ⟨by rw [HDN.out]; first | rfl | simp, HB.out⟩
def nb (x : Int) : Bool := (decide (97 ≤ x) && decide (x ≤ 122)) || (decide (48 ≤ x) && decide (x ≤ 57)) || decide (x = 45)
def nbs (l : List UInt8) : Bool := l.all fun b => nb (b.toNat : Int)
def bU (s : ByteArray) : Bool := inR s.size 1 20 && nbs s.data.toList
theorem take_snoc (s : ByteArray) (k : Nat) (h : k < s.size) : s.data.toList.take (k + 1) = s.data.toList.take k ++ [s[k]] := by
 have hl : k < s.data.toList.length := by rw [Array.length_toList]; exact h
 rw [List.take_succ_eq_append_getElem hl]; rfl
theorem nbs_snoc {s : ByteArray} {k : Nat} (h : k < s.size) (h1 : nbs (s.data.toList.take k) = true) (h2 : nb ((s[k]'h).toNat : Int) = true) : nbs (s.data.toList.take (k + 1)) = true := by
 rw [take_snoc s k h, nbs, List.all_append, ← nbs, h1, List.all_cons, h2]; rfl
theorem nbs_bad {s : ByteArray} {k : Nat} (h : k < s.size) (h2 : nb ((s[k]'h).toNat : Int) = false) : nbs s.data.toList = false := by
 have hl : k < s.data.toList.length := by rw [Array.length_toList]; exact h
 rw [nbs, List.all_eq_false]
 exact ⟨s.data.toList[k]'hl, List.getElem_mem _, by rw [Bool.not_eq_true]; exact h2⟩
theorem nbs_all {s : ByteArray} (h1 : nbs (s.data.toList.take s.size) = true) : nbs s.data.toList = true := by
 rwa [List.take_of_length_le (by rw [Array.length_toList]; exact Nat.le_refl _)] at h1
set_option maxRecDepth 100000 in
theorem implNameOk_c (s : ByteArray) (w : World) (hs : s.size ≤ maxLen) : Calls Tryz.prog 177 #[.string s] w fun e w' => e = .returned (.bool (bU s)) ∧ w = w' := by
 unfold maxLen at hs
 go_enter Tryz.func177, Tryz.ntmps177
 go_wp2
 go_loop [3] (fun i => ∃ k : Nat, k ≤ s.size ∧ i = .int .i64 k ∧ nbs (s.data.toList.take k) = true) (fun i => s.size - (intOf i).toNat)
 case atStart => exact ⟨0, Nat.zero_le _, rfl, rfl⟩
 case round =>
  obtain ⟨k, hk, rfl, hp⟩ := hrel
  have HP := lH hp
  clear hp
  by_cases hlt : k < s.size
  ·go_wp2
   all_goals first
    | (go_round
       case rel => exact ⟨k + 1, by omega, by go_num, nbs_snoc hlt HP.out (by clear HP; simp only [nb, Bool.not_eq_true', Bool.not_eq_false', decide_eq_true_eq, decide_eq_false_iff_not, beq_iff_eq, beq_eq_false_iff_ne, Bool.or_eq_true, Bool.or_eq_false_iff, Bool.and_eq_true, Bool.and_eq_false_iff, ne_eq] at *; omega)⟩
       case measure => simp [intOf]; omega)
    | (go_ret
       exact ⟨aj (by rw [bU, nbs_bad hlt (by clear HP; simp only [nb, Bool.not_eq_true', Bool.not_eq_false', decide_eq_true_eq, decide_eq_false_iff_not, beq_iff_eq, beq_eq_false_iff_ne, Bool.or_eq_true, Bool.or_eq_false_iff, Bool.and_eq_true, Bool.and_eq_false_iff, ne_eq] at *; omega), Bool.and_false]), rfl⟩)
  obtain rfl : k = s.size := by omega
  go_wp2_with fail
  refine (eP _ 1 20 _).mono ?_
  rintro e w1 ⟨rfl, rfl⟩
  go_wp2
  go_ret
  exact ⟨aj (by rw [bU, nbs_all HP.out, Bool.and_true]), rfl⟩
set_option maxRecDepth 100000 in
theorem specNameOk_c (s : ByteArray) (w : World) (hs : s.size ≤ maxLen) : Calls Tryz.prog 163 #[.string s] w fun e w' => e = .returned (.bool (bU s)) ∧ w = w' := by
 unfold maxLen at hs
 go_enter Tryz.func163, Tryz.ntmps163
 go_wp2_with fail
 refine (gK _ 1 20 _).mono ?_
 rintro e w1 ⟨rfl, rfl⟩
 rcases h1 : inR s.size 1 20 with _ | _
 ·go_wp2
  go_ret
  exact ⟨aj (by rw [bU, h1]; rfl), rfl⟩
 have H1 := lH h1
 go_wp2
 clear h1
 go_loop [3] (fun i => ∃ k : Nat, k ≤ s.size ∧ i = .int .i64 k ∧ nbs (s.data.toList.take k) = true) (fun i => s.size - (intOf i).toNat)
 case atStart => exact ⟨0, Nat.zero_le _, rfl, rfl⟩
 case round =>
  obtain ⟨k, hk, rfl, hp⟩ := hrel
  have HP := lH hp
  clear hp
  by_cases hlt : k < s.size
  ·go_wp2
   all_goals first
    | (go_round
       case rel => exact ⟨k + 1, by omega, by go_num, nbs_snoc hlt HP.out (by clear HP; simp only [nb, Bool.not_eq_true', Bool.not_eq_false', decide_eq_true_eq, decide_eq_false_iff_not, beq_iff_eq, beq_eq_false_iff_ne, Bool.or_eq_true, Bool.or_eq_false_iff, Bool.and_eq_true, Bool.and_eq_false_iff, ne_eq] at *; omega)⟩
       case measure => simp [intOf]; omega)
    | (go_ret
       exact ⟨aj (by rw [bU, nbs_bad hlt (by clear HP; simp only [nb, Bool.not_eq_true', Bool.not_eq_false', decide_eq_true_eq, decide_eq_false_iff_not, beq_iff_eq, beq_eq_false_iff_ne, Bool.or_eq_true, Bool.or_eq_false_iff, Bool.and_eq_true, Bool.and_eq_false_iff, ne_eq] at *; omega), Bool.and_false]), rfl⟩)
  obtain rfl : k = s.size := by omega
  go_wp2
  go_ret
  exact ⟨aj (by rw [bU, nbs_all HP.out, Bool.and_true, H1.out]), rfl⟩
def dG (t : Int) (k b : ByteArray) : Bool := inR t 0 1000000000 && (decide (k.size ≤ 40) && decide (b.size ≤ 400))
def aV (e : Ent) : Bool := bU e.topic && (inR e.index 0 511 && dG e.time e.key e.body)
set_option maxRecDepth 100000 in
theorem partsOk_c (t : Int) (k b : ByteArray) (w : World) (hk : k.size ≤ maxLen) (hb : b.size ≤ maxLen) :
  Calls Tryz.prog 178 #[.int .i64 t, .string k, .string b] w fun e w' => e = .returned (.bool (dG t k b)) ∧ w = w' := by
 unfold maxLen at hk hb
 go_enter Tryz.func178, Tryz.ntmps178
 go_wp2_with fail
 refine (eP _ 0 1000000000 _).mono ?_
 rintro e w1 ⟨rfl, rfl⟩
 rcases h1 : inR t 0 1000000000 with _ | _
 ·go_wp2
  go_ret
  exact ⟨aj (by rw [dG, h1]; rfl), rfl⟩
 have H1 := lH h1
 clear h1
 rcases (show k.size ≤ 40 ∨ 40 < k.size by omega) with h2 | h2
 ·go_wp2
  go_ret
  exact ⟨aj (by rw [dG, H1.out]; simp [h2]; try omega), rfl⟩
 go_wp2
 go_ret
 exact ⟨aj (by rw [dG, H1.out]; simp; omega), rfl⟩
set_option maxRecDepth 100000 in
theorem implEntryOk_c (e : Ent) (w : World) (hf : e.fits) :
  Calls Tryz.prog 144 #[.agg #[.string e.topic, .int .i64 e.index, .int .i64 e.time, .string e.key, .string e.body]] w fun r w' => r = .returned (.bool (aV e)) ∧ Below w.heap.size w w' := by
 obtain ⟨topic, index, time, key, body⟩ := e
 obtain ⟨_, _, htopic, hkey, hbody⟩ := hf
 simp only at htopic hkey hbody
 go_enter Tryz.func144, Tryz.ntmps144
 go_wp2_with fail
 refine (implNameOk_c _ _ htopic).mono ?_
 rintro e w1 ⟨rfl, rfl⟩
 rcases h1 : bU topic with _ | _
 ·go_wp2
  go_ret
  exact ⟨aj (by rw [aV, h1]; rfl), (Below.refl _ _).alloc (Nat.le_refl _) _⟩
 have H1 := lH h1
 clear h1
 go_wp2_with fail
 refine (isIndex_c _ _).mono ?_
 rintro e w1 ⟨rfl, rfl⟩
 rcases h2 : inR index 0 511 with _ | _
 ·go_wp2
  go_ret
  exact ⟨aj (by rw [aV, H1.out, h2]; rfl), (Below.refl _ _).alloc (Nat.le_refl _) _⟩
 have H2 := lH h2
 clear h2
 go_wp2_with fail
 refine (partsOk_c _ _ _ _ hkey hbody).mono ?_
 rintro e w1 ⟨rfl, rfl⟩
 go_wp2
 go_ret
 exact ⟨aj (by rw [aV, H1.out, H2.out]; rfl), (Below.refl _ _).alloc (Nat.le_refl _) _⟩
set_option maxRecDepth 100000 in
theorem specEntryOk_c (e : Ent) (w : World) (hf : e.fits) :
  Calls Tryz.prog 126 #[.agg #[.string e.topic, .int .i64 e.index, .int .i64 e.time, .string e.key, .string e.body]] w fun r w' => r = .returned (.bool (aV e)) ∧ Below w.heap.size w w' := by
 obtain ⟨topic, index, time, key, body⟩ := e
 obtain ⟨_, _, htopic, hkey, hbody⟩ := hf
 simp only at htopic hkey hbody
 have HT := lH htopic
 simp only [maxLen] at hkey hbody
 go_enter Tryz.func126, Tryz.ntmps126
 go_wp2_with fail
 refine (specNameOk_c _ _ HT.out).mono ?_
 rintro e w1 ⟨rfl, rfl⟩
 rcases h1 : bU topic with _ | _
 ·go_wp2
  go_ret
  exact ⟨aj (by rw [aV, h1]; rfl), (Below.refl _ _).alloc (Nat.le_refl _) _⟩
 have H1 := lH h1
 clear h1
 go_wp2_with fail
 refine (gK _ 0 511 _).mono ?_
 rintro e w1 ⟨rfl, rfl⟩
 rcases h2 : inR index 0 511 with _ | _
 ·go_wp2
  go_ret
  exact ⟨aj (by rw [aV, H1.out, h2]; rfl), (Below.refl _ _).alloc (Nat.le_refl _) _⟩
 have H2 := lH h2
 clear h2
 go_wp2_with fail
 refine (gK _ 0 1000000000 _).mono ?_
 rintro e w1 ⟨rfl, rfl⟩
 rcases h3 : inR time 0 1000000000 with _ | _
 ·go_wp2
  go_ret
  exact ⟨aj (by rw [aV, H1.out, H2.out]; simp only [dG, h3]; rfl), (Below.refl _ _).alloc (Nat.le_refl _) _⟩
 have H3 := lH h3
 clear h3
 rcases (show key.size ≤ 40 ∨ 40 < key.size by omega) with h4 | h4
 ·go_wp2
  go_ret
  exact ⟨aj (by rw [aV, H1.out, H2.out]; simp only [dG, H3.out]; simp [h4]; try omega), (Below.refl _ _).alloc (Nat.le_refl _) _⟩
 go_wp2
 go_ret
 exact ⟨aj (by rw [aV, H1.out, H2.out]; simp only [dG, H3.out]; simp; omega), (Below.refl _ _).alloc (Nat.le_refl _) _⟩
def cnt (l : List Ent) (t : ByteArray) : Nat := dW (fun e => if e.topic = t then 1 else 0) l
theorem cnt_take {l : List Ent} {k : Nat} {e : Ent} (t : ByteArray) (h : l[k]? = some e) : cnt (l.take (k + 1)) t = cnt (l.take k) t + if e.topic = t then 1 else 0 := sumBy_take _ h
theorem cnt_yes {l : List Ent} {k : Nat} {e : Ent} {t : ByteArray} (h : l[k]? = some e) (ht : e.topic = t) : cnt (l.take (k + 1)) t = cnt (l.take k) t + 1 := by rw [cnt_take t h, if_pos ht]
theorem cnt_no {l : List Ent} {k : Nat} {e : Ent} {t : ByteArray} (h : l[k]? = some e) (ht : ¬ e.topic = t) : cnt (l.take (k + 1)) t = cnt (l.take k) t := by rw [cnt_take t h, if_neg ht]; rfl
theorem cnt_le (l : List Ent) (t : ByteArray) : cnt l t ≤ l.length := by
 induction l with
 | nil => exact Nat.le_refl _
 | cons e l ih =>
   show (if e.topic = t then 1 else 0) + cnt l t ≤ l.length + 1
   split <;> omega
theorem cnt_take_le (l : List Ent) (t : ByteArray) (k : Nat) : cnt (l.take k) t ≤ k := Nat.le_trans (cnt_le _ t) (by simp; omega)
def rightAt (l : List Ent) (k : Nat) : Bool := match l[k]? with
 | some e => aV e && decide ((cnt (l.take k) e.topic : Int) = e.index)
 | none => true
def gH (l : List Ent) (k : Nat) : Bool := (List.range k).all (rightAt l)
def gy (l : List Ent) : Bool := decide (l.length ≤ 512) && gH l l.length
theorem rightTo_succ (l : List Ent) (k : Nat) : gH l (k + 1) = (gH l k && rightAt l k) := by
 rw [gH, List.range_succ, List.all_append, ← gH]; simp
theorem rightAt_eq {l : List Ent} {k : Nat} {e : Ent} (h : l[k]? = some e) : rightAt l k = (aV e && decide ((cnt (l.take k) e.topic : Int) = e.index)) := by rw [rightAt, h]
theorem rightTo_bad {l : List Ent} {k n : Nat} (hk : k < n) (h : rightAt l k = false) : gH l n = false := by
 rw [gH, List.all_eq_false]
 exact ⟨k, List.mem_range.2 hk, by rw [h]; exact Bool.false_ne_true⟩
theorem logOk_bad {l : List Ent} {k : Nat} (hk : k < l.length) (h : rightAt l k = false) : gy l = false := by rw [gy, rightTo_bad hk h, Bool.and_false]
theorem logOk_len {l : List Ent} (h : gy l = true) : l.length ≤ 512 := by rw [gy, Bool.and_eq_true] at h; simpa using h.1
theorem logOk_big {l : List Ent} (h : 512 < l.length) : gy l = false := by rw [gy]; simp; omega
theorem ents_take (l : List Ent) (k : Nat) : aR l = aR (l.take k) ++ aR (l.drop k) := by
 rw [aR, aR, aR, ← List.flatMap_append, List.take_append_drop]
theorem Rd.pre {w : World} {lo hi : Nat} {A : Option Addr} {xs ys : List Value} (h : Rd w lo hi A (xs ++ ys)) : Rd w lo hi A xs := by
 intro hn
 obtain ⟨b, off, h1, h2, h3, h4, h5⟩ := h (by simp [hn])
 refine ⟨b, off, h1, h2, h3, h4, fun j u hu => h5 j u ?_⟩
 rw [List.getElem?_append_left (List.getElem?_eq_some_iff.1 hu).1]; exact hu
theorem Rd.entsTake {w : World} {lo hi : Nat} {A : Option Addr} {l : List Ent} (h : Rd w lo hi A (aR l)) (k : Nat) : Rd w lo hi A (aR (l.take k)) := by
 rw [ents_take l k] at h; exact h.pre
set_option maxRecDepth 100000 in
theorem l09Count_c (A : Option Addr) (c lo hi n : Nat) (l : List Ent) (t : ByteArray) (w : World) (hr : Rd w lo hi A (aR l)) (hn : l.length = n) (hl : n ≤ 1048576) :
  Calls Tryz.prog 127 #[.slice A n c, .string t] w fun e w' => e = .returned (.int .i64 (cnt l t : Nat)) ∧ w = w' := by
 have HN := lH hn
 clear hn
 go_enter Tryz.func127, Tryz.ntmps127
 go_wp2
 go_loop [5, 6] (fun s i => ∃ k : Nat, k ≤ n ∧ i = .int .i64 k ∧ s = .int .i64 (cnt (l.take k) t : Nat)) (fun _ i => n - (intOf i).toNat)
 case atStart => exact ⟨0, Nat.zero_le _, rfl, rfl⟩
 case round =>
  obtain ⟨k, hk, rfl, rfl⟩ := hrel
  by_cases hlt : k < n
  ·obtain ⟨b, off, x, rfl, _, _, hb, hks, hcell⟩ := hr.flat (f := Ent.cells) (m := 5) (fun _ => rfl) (by omega) (k := k) (by rw [HN.out]; exact hlt)
   have hc0 : w.cell? ⟨b, off + k * 5, none⟩ = some (.string x.topic) := hcell 0 _ rfl
   have hle := cnt_take_le l t k
   have HK := lH hks
   clear hcell hks hr
   by_cases ht : x.topic = t
   ·have HS := lH (cnt_yes HK.out ht)
    subst ht
    generalize hz : cnt (l.take k) x.topic = z at *
    clear hz; go_wp2
    go_round
    case rel => exact ⟨k + 1, by omega, by go_num, by rw [HS.out]; go_num⟩
    case measure => simp [intOf]; omega
   have HS := lH (cnt_no HK.out ht)
   have hbq := beq_no ht
   generalize hz : cnt (l.take k) t = z at *
   clear hz; go_wp2
   go_round
   case rel => exact ⟨k + 1, by omega, by go_num, by rw [HS.out]⟩
   case measure => simp [intOf]; omega
  obtain rfl : k = n := by omega
  go_wp2
  go_ret
  exact ⟨gI (by rw [← HN.out, List.take_length]), rfl⟩
set_option maxRecDepth 100000 in
theorem nextOf_c (A : Option Addr) (c lo hi n : Nat) (l : List Ent) (t : ByteArray) (w : World) (hr : Rd w lo hi A (aR l)) (hn : l.length = n) (hl : n ≤ 1048576) :
  Calls Tryz.prog 179 #[.agg #[.slice A n c], .string t] w fun e w' => e = .returned (.int .i64 (cnt l t : Nat)) ∧ Below w.heap.size w w' := by
 have HN := lH hn
 clear hn
 go_enter Tryz.func179, Tryz.ntmps179
 go_wp2
 go_loopw [5, 11] (fun s i wr => ∃ k : Nat, k ≤ n ∧ i = .int .i64 k ∧ s = .int .i64 (cnt (l.take k) t : Nat) ∧ Below w.heap.size w wr) (fun _ i _ => n - (intOf i).toNat)
 case atStart => exact ⟨0, Nat.zero_le _, rfl, rfl, (Below.refl _ _).alloc (Nat.le_refl _) _⟩
 case round =>
  obtain ⟨k, hk, rfl, rfl, hb0⟩ := hrel
  by_cases hlt : k < n
  ·obtain ⟨b, off, x, rfl, _, _, hb, hks, hcell⟩ := (hr.below hb0).flat (f := Ent.cells) (m := 5) (fun _ => rfl) (by omega) (k := k) (by rw [HN.out]; exact hlt)
   have hc0 : wr.cell? ⟨b, off + k * 5, none⟩ = some (.string x.topic) := hcell 0 _ rfl
   have hc1 : wr.cell? ⟨b, off + k * 5 + 1, none⟩ = some (.int .i64 x.index) := hcell 1 _ rfl
   have hc2 : wr.cell? ⟨b, off + k * 5 + 2, none⟩ = some (.int .i64 x.time) := hcell 2 _ rfl
   have hc3 : wr.cell? ⟨b, off + k * 5 + 3, none⟩ = some (.string x.key) := hcell 3 _ rfl
   have hc4 : wr.cell? ⟨b, off + k * 5 + 4, none⟩ = some (.string x.body) := hcell 4 _ rfl
   have hle := cnt_take_le l t k
   have HK := lH hks
   have HB0 := lH hb0
   clear hcell hks hr hb0
   by_cases ht : x.topic = t
   ·have HS := lH (cnt_yes HK.out ht)
    subst ht
    generalize hz : cnt (l.take k) x.topic = z at *
    clear hz; go_wp2
    go_roundw
    case rel => exact ⟨k + 1, by omega, by go_num, by rw [HS.out]; go_num, HB0.out.alloc HB0.out.size _⟩
    case measure => simp [intOf]; omega
   have HS := lH (cnt_no HK.out ht)
   have hbq := beq_no ht
   generalize hz : cnt (l.take k) t = z at *
   clear hz; go_wp2
   go_roundw
   case rel => exact ⟨k + 1, by omega, by go_num, by rw [HS.out], HB0.out.alloc HB0.out.size _⟩
   case measure => simp [intOf]; omega
  obtain rfl : k = n := by omega
  have HB0 := lH hb0
  clear hb0 hr; go_wp2
  go_ret
  exact ⟨gI (by rw [← HN.out, List.take_length]), HB0.out⟩
theorem cell_setCell_none {w : World} {a b : Addr} {v : Value} (h : w.cell? a = none) : (w.setCell a v).cell? b = w.cell? b := by
 by_cases hab : a = b
 ·subst hab
  rw [h]
  unfold World.cell? at h
  simp only [World.setCell, World.cell?, Array.getElem?_modify, ↓reduceIte]
  split at h
  ·rename_i c e f hb
   rw [hb]
   cases hs : a.spot.isSome with
   | true => simp
   | false =>
     simp only [hs, Bool.false_eq_true, if_false] at h
     simp only [Option.map_some, Bool.false_eq_true, if_false]
     rw [Array.getElem?_eq_none_iff] at h
     rw [Array.getElem?_eq_none_iff, Array.size_setIfInBounds]
     exact h
  rename_i hx
  split
  ·rename_i c e f hc
   exfalso
   cases hh : w.heap[a.block]? with
   | none => rw [hh] at hc; cases hc
   | some x =>
     rw [hh] at hc
     cases x with
     | cells c2 e2 f2 => exact hx c2 e2 f2 hh
     | _ => cases hc
  rfl
 exact World.cell?_setCell_other _ _ _ _ hab
theorem aa.set1 {w : World} {k : Nat} {cs : List Value} (h : aa w k cs) (o : Nat) (u : Value) : aa (w.setCell ⟨k, o, none⟩ u) k (cs.set o u) := by
 by_cases ho : o < cs.length
 ·exact h.set ho u
 have hn : w.cell? ⟨k, o, none⟩ = none := (h.2.1 o).trans (List.getElem?_eq_none (by omega))
 rw [List.set_eq_of_length_le (by omega)]
 exact ⟨by simpa [World.setCell] using h.1, fun i => (cell_setCell_none hn).trans (h.2.1 i), fun i => by simpa using h.2.2 i⟩
theorem aa.cast {w : World} {k : Nat} {cs cs' : List Value} (h : aa w k cs) (e : cs = cs') : aa w k cs' := e ▸ h
theorem aa.far {w : World} {k k' o : Nat} {cs : List Value} (hk : k' ≠ k) (u : Value) (h : aa w k cs) : aa (w.setCell ⟨k', o, none⟩ u) k cs := h.setCell hk u
end
end Go.Proofs.YtoccjgcokffkbaaGreat
