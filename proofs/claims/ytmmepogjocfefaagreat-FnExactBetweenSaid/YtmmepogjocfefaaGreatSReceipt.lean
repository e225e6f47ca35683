/- What the laws' helpers do to a Receipt and to a slice of them. Written by gen_struct.py. -/
import Derived.Test.YtmmepogjocfefaaGreatStr
import Derived.Test.YtmmepogjocfefaaGreatData
namespace Go.Proofs.YtmmepogjocfefaaGreat
set_option linter.unusedVariables false
set_option linter.unusedSimpArgs false
open Go.RowKit

set_option maxRecDepth 100000 in
set_option maxHeartbeats 400000 in
theorem szReceipt_c (e : Rcp) (left : Int) (w : World) (hf : e.fits) (h0 : 0 ≤ left) (h1 : left ≤ 1048576) :
  Calls Tryz.prog 11 #[.agg #[.string e.reader, .string e.topic, .int .i64 e.index], .int .i64 left] w fun r w' => r = .returned (.int .i64 (szF left e.bulk)) ∧ Below w.heap.size w w' := by
 obtain ⟨reader, topic, index⟩ := e
 obtain ⟨_, hreader, htopic⟩ := hf
 simp only [maxLen] at hreader htopic
 go_enter Tryz.func11, Tryz.ntmps11
 go_wp2
 all_goals go_ret
 all_goals first
  | exact ⟨ret_int (szF_lt (b := reader.size + topic.size) (by omega)).symm, (Below.refl _ _).alloc (Nat.le_refl _) _⟩
  | exact ⟨ret_int (by show _ = szF left (reader.size + topic.size); rw [szF_ge (by omega)]; try omega), (Below.refl _ _).alloc (Nat.le_refl _) _⟩

set_option maxRecDepth 100000 in
set_option maxHeartbeats 400000 in
theorem toReceipt_c (e : Rcp) (w : World) :
  Calls Tryz.prog 14 #[.agg #[.string e.reader, .string e.topic, .int .i64 e.index]] w fun r w' => r = .returned (.agg #[.string e.reader, .string e.topic, .int .i64 e.index]) ∧ Below w.heap.size w w' := by
 obtain ⟨reader, topic, index⟩ := e
 go_enter Tryz.func14, Tryz.ntmps14
 go_wp2
 exact bodyPost_ret (v := .agg #[.string reader, .string topic, .int .i64 index]) (by simp [results, Tryz.results14, go_sem]) rfl ⟨rfl, (((Below.refl _ _).alloc (Nat.le_refl _) _).alloc (by first | omega | (simp; done) | (simp; omega)) _).alloc (by first | omega | (simp; done) | (simp; omega)) _⟩

set_option maxRecDepth 100000 in
set_option maxHeartbeats 400000 in
theorem eqReceipt_c (e : Rcp) (w : World) :
  Calls Tryz.prog 94 #[.agg #[.string e.reader, .string e.topic, .int .i64 e.index], .agg #[.string e.reader, .string e.topic, .int .i64 e.index]] w fun r w' => r = .returned (.bool true) ∧ Below w.heap.size w w' := by
 obtain ⟨reader, topic, index⟩ := e
 go_enter Tryz.func94, Tryz.ntmps94
 go_wp2
 go_ret
 exact ⟨rfl, ((Below.refl _ _).alloc (Nat.le_refl _) _).alloc (by first | omega | (simp; done) | (simp; omega)) _⟩

set_option maxRecDepth 100000 in
set_option maxHeartbeats 400000 in
theorem szReceiptS_c (A : Option Addr) (c lo hi n : Nat) (l : List Rcp) (left : Int) (w : World) (hr : Rd w lo hi A (rcps l)) (hn : l.length = n) (hl : n ≤ maxLen)
  (hs : ∀ x ∈ l, x.fits) (h0 : 0 ≤ left) (h1 : left ≤ 1048576) :
  Calls Tryz.prog 39 #[.slice A n c, .int .i64 left] w fun r w' => r = .returned (.int .i64 (szF left (n + sumBy Rcp.bulk l))) ∧ Below w.heap.size w w' := by
 unfold maxLen at hl
 have HN := Lib.hid hn
 have HS := Lib.hid hs
 clear hn hs
 go_enter Tryz.func39, Tryz.ntmps39
 by_cases hbig : left < n
 ·go_wp2
  go_ret
  exact ⟨ret_int (szF_lt (by omega)).symm, Below.refl _ _⟩
 ·go_wp2
  go_loopw [1, 5] (fun lf i wr => ∃ k : Nat, k ≤ n ∧ i = .int .i64 k ∧ lf = .int .i64 (left - n - sumBy Rcp.bulk (l.take k)) ∧ 0 ≤ left - n - sumBy Rcp.bulk (l.take k) ∧ Below w.heap.size w wr) (fun _ i _ => n - (intOf i).toNat)
  case atStart => exact ⟨0, Nat.zero_le _, rfl, by simp [sumBy], by simp [sumBy]; omega, Below.refl _ _⟩
  case round =>
   obtain ⟨k, hk, rfl, rfl, hp, hb0⟩ := hrel
   by_cases hlt : k < n
   ·obtain ⟨b, off, x, rfl, hb1, hb2, hb, hks, hcell⟩ := (hr.below hb0).flat (f := Rcp.cells) (m := 3) (fun _ => rfl) (by omega) (k := k) (by rw [HN.out]; exact hlt)
    have hc0 : wr.cell? ⟨b, off + k * 3, none⟩ = some (.string x.reader) := hcell 0 _ rfl
    have hc1 : wr.cell? ⟨b, off + k * 3 + 1, none⟩ = some (.string x.topic) := hcell 1 _ rfl
    have hc2 : wr.cell? ⟨b, off + k * 3 + 2, none⟩ = some (.int .i64 x.index) := hcell 2 _ rfl
    have HF := Lib.hid (HS.out x (List.mem_of_getElem? hks))
    have HB := Lib.hid (sumBy_take Rcp.bulk hks)
    have HL := Lib.hid (sumBy_take_le Rcp.bulk l (k + 1))
    have HB0 := Lib.hid hb0
    clear hcell hks hb0 hr
    go_wp2_with fail
    refine (szReceipt_c x _ _ HF.out hp (by omega)).mono ?_
    rintro e w1 ⟨rfl, hbw⟩
    have HW := Lib.hid hbw
    have HLE := Lib.hid (szF_le (left - n - sumBy Rcp.bulk (l.take k)) x.bulk (by omega))
    clear hbw
    go_wp2
    ·go_ret
     have hneg : szF (left - n - sumBy Rcp.bulk (l.take k)) x.bulk < 0 := by assumption
     have h4 := szF_neg hneg hp
     have h2 := HB.out
     have h3 := HL.out
     exact ⟨ret_int (szF_lt (by omega)).symm, below_then HB0.out HW.out HB0.out.size⟩
    ·have hpos : 0 ≤ szF (left - n - sumBy Rcp.bulk (l.take k)) x.bulk := by assumption
     have h4 := szF_pos hpos
     have h2 := HB.out
     go_roundw
     case rel => exact ⟨k + 1, by omega, by go_num, by rw [HB.out, h4.2]; go_num, by rw [HB.out]; omega, below_then HB0.out HW.out HB0.out.size⟩
     case measure => simp [intOf]; omega
   ·go_wp2
    go_ret
    have hk' : k = n := by omega
    subst hk'
    refine ⟨ret_int ?_, hb0⟩
    have e1 : sumBy Rcp.bulk (l.take k) = sumBy Rcp.bulk l := by rw [← HN.out, List.take_length]
    rw [e1] at hp ⊢
    rw [szF_ge (by omega)]
    omega

theorem info_Receipt : (Tryz.prog.info? 54).map (fun i => (i.zero, i.size, i.bytes)) = some (some (.agg #[.string ByteArray.empty, .string ByteArray.empty, .int .i64 0]), 3, 40) := by kernel_rfl
set_option maxRecDepth 100000 in
set_option maxHeartbeats 400000 in
theorem toReceiptS_c (A : Option Addr) (c lo hi n : Nat) (l : List Rcp) (w : World) (hr : Rd w lo hi A (rcps l)) (hn : l.length = n) (hl : n ≤ 1048576) :
  Calls Tryz.prog 44 #[.slice A n c] w fun r w' => ∃ A', r = .returned (.slice A' n n) ∧ Own w' w.heap.size w'.heap.size A' (rcps l) ∧ Below w.heap.size w w' := by
 obtain ⟨i0, hi0, hz0, hz1, hz2⟩ := info_parts info_Receipt
 have HN := Lib.hid hn
 clear hn
 go_enter Tryz.func44, Tryz.ntmps44
 go_wp2_with (at_make; refine wpList_make_full _ rfl _ _ 45 rfl w.heap.size 54 i0 _ 3 Tryz.underlying45 hi0 hz0 hz1 _ _ _ _ n rfl rfl rfl rfl (by rw [hz2]; omega) (by unfold maxLen; omega) (Nat.le_refl _) ?_)
 intro w1 hown hg
 have hb1 : Below w.heap.size w w1 := (Below.refl _ _).grown hg (Nat.le_refl _) (by simp)
 have hsz : w.heap.size < w1.heap.size := (hown.lt _ rfl).2
 have hlz := hown.1
 generalize hzs : (madeCells _ _).toList = zs at hown hlz
 clear hzs
 have HO := Lib.hid hown
 have HZ := Lib.hid hlz
 clear hown hlz hg
 go_wp2
 go_loopw [4] (fun i wr => ∃ k : Nat, k ≤ n ∧ i = .int .i64 k ∧ Below w.heap.size w wr ∧ w.heap.size < wr.heap.size ∧
   wr.ownsRow w.heap.size 54 3 (.slice (some ⟨w.heap.size, 0, none⟩) n n) n ((rcps l).take (k * 3) ++ zs.drop (k * 3))) (fun i _ => n - (intOf i).toNat)
 case atStart => exact ⟨0, Nat.zero_le _, rfl, hb1, hsz, by rw [Nat.zero_mul, List.take_zero, List.drop_zero, List.nil_append]; exact HO.out⟩
 case round =>
  obtain ⟨k, hk, rfl, hbw, hszr, hownr⟩ := hrel
  by_cases hlt : k < n
  ·obtain ⟨b, off, x, rfl, hb2, hb3, hb, hks, hcell⟩ := (hr.below hbw).flat (f := Rcp.cells) (m := 3) (fun _ => rfl) (by omega) (k := k) (by rw [HN.out]; exact hlt)
   have hc0 : wr.cell? ⟨b, off + k * 3, none⟩ = some (.string x.reader) := hcell 0 _ rfl
   have hc1 : wr.cell? ⟨b, off + k * 3 + 1, none⟩ = some (.string x.topic) := hcell 1 _ rfl
   have hc2 : wr.cell? ⟨b, off + k * 3 + 2, none⟩ = some (.int .i64 x.index) := hcell 2 _ rfl
   have HW := Lib.hid hownr
   have HB := Lib.hid hbw
   have HK := Lib.hid hks
   have HE : Hid (setFrom ((rcps l).take (k * 3) ++ zs.drop (k * 3)) (k * 3) x.cells = (rcps l).take ((k + 1) * 3) ++ zs.drop ((k + 1) * 3)) := set_nextN (f := Rcp.cells) (m := 3) (fun _ => rfl) hks (ys := zs) (by rw [HZ.out]; exact Nat.mul_le_mul_right _ hlt)
   clear hcell hks hbw hownr hr hb1
   go_wp2_with fail
   refine (toReceipt_c x _).mono ?_
   rintro e w2 ⟨rfl, hb4⟩
   have hsz2 : w.heap.size < w2.heap.size := by have := hb4.size; omega
   have HO2 : Hid (w2.ownsRow w.heap.size 54 3 (.slice (some ⟨w.heap.size, 0, none⟩) n n) n ((rcps l).take (k * 3) ++ zs.drop (k * 3))) := ownsRow_below HW.out hb4
   have HB2 := Lib.hid (below_then HB.out hb4 HB.out.size)
   obtain ⟨v0, hv0⟩ := ownsRow_cell HO2.out (j := k * 3) (by omega)
   have hz10 := HO2.out.frozenAt (k * 3)
   obtain ⟨v1, hv1⟩ := ownsRow_cell HO2.out (j := k * 3 + 1) (by omega)
   have hz11 := HO2.out.frozenAt (k * 3 + 1)
   obtain ⟨v2, hv2⟩ := ownsRow_cell HO2.out (j := k * 3 + 2) (by omega)
   have hz12 := HO2.out.frozenAt (k * 3 + 2)
   clear hb4
   go_wp2
   go_roundw
   case rel =>
    refine ⟨k + 1, by omega, by go_num, ?_, by simpa [World.setCell] using hsz2, ?_⟩
    ·exact ((HB2.out.setCell (by simp) _).setCell (by simp) _).setCell (by simp) _
    ·rw [← HE.out]
     exact (((HO2.out.stored _ _).1.stored _ _).1.stored _ _).1
   case measure => simp [intOf]; omega
  ·go_wp2
   go_ret
   have hk' : k = n := by omega
   subst hk'
   refine ⟨_, rfl, ?_, hbw⟩
   have ho := Own.of_ownsRow hownr
   have e1 : (rcps l).take (k * 3) = rcps l := List.take_of_length_le (by rw [rcps_len, HN.out]; exact Nat.le_refl _)
   have e2 : zs.drop (k * 3) = [] := List.drop_eq_nil_of_le (by rw [HZ.out]; exact Nat.le_refl _)
   rw [e1, e2, List.append_nil] at ho
   exact ho

set_option maxRecDepth 100000 in
set_option maxHeartbeats 400000 in
theorem eqReceiptS_c (A A' : Option Addr) (c c' lo hi lo' hi' n n' : Nat) (l : List Rcp) (w : World) (hr : Rd w lo hi A (rcps l)) (hr' : Rd w lo' hi' A' (rcps l)) (hn : l.length = n) (hn' : l.length = n') (hl : n ≤ maxLen) :
  Calls Tryz.prog 49 #[.slice A n c, .slice A' n' c'] w fun r w' => r = .returned (.bool true) ∧ Below w.heap.size w w' := by
 unfold maxLen at hl
 obtain rfl : n = n' := hn.symm.trans hn'
 clear hn'
 have HN := Lib.hid hn
 clear hn
 go_enter Tryz.func49, Tryz.ntmps49
 go_wp2
 go_loopw [5] (fun i wr => ∃ k : Nat, k ≤ n ∧ i = .int .i64 k ∧ Below w.heap.size w wr) (fun i _ => n - (intOf i).toNat)
 case atStart => exact ⟨0, Nat.zero_le _, rfl, Below.refl _ _⟩
 case round =>
  obtain ⟨k, hk, rfl, hb0⟩ := hrel
  by_cases hlt : k < n
  ·obtain ⟨b, off, x, rfl, _, _, hb, hks, hcell⟩ := (hr.below hb0).flat (f := Rcp.cells) (m := 3) (fun _ => rfl) (by omega) (k := k) (by rw [HN.out]; exact hlt)
   obtain ⟨b', off', x', rfl, _, _, hb', hks', hcell'⟩ := (hr'.below hb0).flat (f := Rcp.cells) (m := 3) (fun _ => rfl) (by omega) (k := k) (by rw [HN.out]; exact hlt)
   obtain rfl : x = x' := by rw [hks] at hks'; exact Option.some.inj hks'
   have hc0 : wr.cell? ⟨b, off + k * 3, none⟩ = some (.string x.reader) := hcell 0 _ rfl
   have hc1 : wr.cell? ⟨b, off + k * 3 + 1, none⟩ = some (.string x.topic) := hcell 1 _ rfl
   have hc2 : wr.cell? ⟨b, off + k * 3 + 2, none⟩ = some (.int .i64 x.index) := hcell 2 _ rfl
   have hd0 : wr.cell? ⟨b', off' + k * 3, none⟩ = some (.string x.reader) := hcell' 0 _ rfl
   have hd1 : wr.cell? ⟨b', off' + k * 3 + 1, none⟩ = some (.string x.topic) := hcell' 1 _ rfl
   have hd2 : wr.cell? ⟨b', off' + k * 3 + 2, none⟩ = some (.int .i64 x.index) := hcell' 2 _ rfl
   have HB0 := Lib.hid hb0
   clear hcell hcell' hks hks' hb0 hr hr'
   go_wp2_with fail
   have hI1 : (0 : Int) ≤ (k : Int) := by omega
   have hI2 : (k : Int) < (n : Int) := by omega
   have hlc : ∀ (v : Later wr) (o : Nat), v.v.cell? ⟨b, o, none⟩ = wr.cell? ⟨b, o, none⟩ := fun v o => later_cell v b o hb
   have hlc' : ∀ (v : Later wr) (o : Nat), v.v.cell? ⟨b', o, none⟩ = wr.cell? ⟨b', o, none⟩ := fun v o => later_cell v b' o hb'
   refine wp_region_later (by kernel_rfl) (by kernel_rfl) ?_
   repeat (go_big_quiet_step ((exact later_call (eqReceipt_c x _))))
   refine wpQuiet_nil ?_
   intro w1 hb10
   have hb1 := later_below hb10
   clear hb10
   clear hlc hlc'
   go_wp2
   go_roundw
   case rel => exact ⟨k + 1, by omega, by go_num, below_then HB0.out hb1 HB0.out.size⟩
   case measure => simp [intOf]; omega
  ·go_wp2
   go_ret
   exact ⟨rfl, hb0⟩

/-- the marks of one, and of n -/
def mkReceipt (k : Nat) : Rcp := ⟨mt (k), mt (k + 1), (k : Int) + 1 + 1⟩
def mksReceipt (k n : Nat) : List Rcp := (List.range n).map fun i => mkReceipt (k + i * 3)
theorem mksReceipt_len (k n : Nat) : (mksReceipt k n).length = n := by simp [mksReceipt]
theorem mksReceipt_get {k n i : Nat} (h : i < n) : (mksReceipt k n)[i]? = some (mkReceipt (k + i * 3)) := by simp [mksReceipt, h]

set_option maxRecDepth 100000 in
set_option maxHeartbeats 400000 in
theorem markReceiptS_c (A : Option Addr) (c lo hi k0 n : Nat) (x : Int) (xs : List Value) (w : World) (hx : x = (k0 : Int)) (hr : Own w lo hi A xs) (hn : xs.length = n * 3) (hl : k0 + n * 3 ≤ 100000000) :
  Calls Tryz.prog 53 #[.slice A n c, .int .i64 x] w fun e w' => e = .returned (.int .i64 (k0 + n * 3 : Nat)) ∧ Only lo hi w w' ∧ Own w' lo hi A (rcps (mksReceipt k0 n)) := by
 subst hx
 have HN := Lib.hid hn
 clear hn
 go_enter Tryz.func53, Tryz.ntmps53
 go_wp2
 go_loopw [1, 5] (fun kk i wr => ∃ i0 : Nat, i0 ≤ n ∧ i = .int .i64 i0 ∧ kk = .int .i64 (k0 + i0 * 3 : Nat) ∧ Only lo hi w wr ∧ Own wr lo hi A ((rcps (mksReceipt k0 n)).take (i0 * 3) ++ xs.drop (i0 * 3))) (fun _ i _ => n - (intOf i).toNat)
 case atStart => exact ⟨0, Nat.zero_le _, rfl, by simp, Only.refl _ _ _, by rw [Nat.zero_mul, List.take_zero, List.drop_zero, List.nil_append]; exact hr⟩
 case round =>
  obtain ⟨i0, hi0, rfl, rfl, ho, hw⟩ := hrel
  have HOwr := Lib.hid ho
  clear ho hr
  by_cases hlt : i0 < n
  ·have HE : Hid (setFrom ((rcps (mksReceipt k0 n)).take (i0 * 3) ++ xs.drop (i0 * 3)) (i0 * 3) (mkReceipt (k0 + i0 * 3)).cells = (rcps (mksReceipt k0 n)).take ((i0 + 1) * 3) ++ xs.drop ((i0 + 1) * 3)) :=
    set_nextN (f := Rcp.cells) (m := 3) (fun _ => rfl) (mksReceipt_get hlt) (ys := xs) (by rw [HN.out]; exact Nat.mul_le_mul_right _ hlt)
   have HLwr : Hid (((rcps (mksReceipt k0 n)).take (i0 * 3) ++ xs.drop (i0 * 3)).length = n * 3) := by
    show List.length _ = _
    rw [List.length_append, List.length_take, List.length_drop, rcps_len, mksReceipt_len, HN.out]; omega
   generalize (rcps (mksReceipt k0 n)).take (i0 * 3) ++ xs.drop (i0 * 3) = ys at *
   obtain ⟨b, off, rfl, h2, h3, h4, h5, h6⟩ := hw.at_ (j := i0 * 3) (by rw [HLwr.out]; omega)
   have Hwr := Lib.hid hw
   clear hw h4 h5 h6
   go_wp2_with fail
   refine (markText_c (k0 + i0 * 3) _ _ (by omega) (by omega)).mono ?_
   rintro e wm0 ⟨rfl, hbm⟩
   have Hwm0 := Lib.hid (Hwr.out.below hbm)
   have HOwm0 := Lib.hid (HOwr.out.trans (Only.of_below hbm))
   clear hbm
   obtain ⟨u0, hc0⟩ : ∃ v, wm0.cell? ⟨b, off + i0 * 3, none⟩ = some v := own_cell Hwm0.out (j := i0 * 3) (by (try simp only [List.length_set]); rw [HLwr.out]; omega)
   have hz0 : wm0.frozen? ⟨b, off + i0 * 3, none⟩ = false := own_froz Hwm0.out (by (try simp only [List.length_set]); rw [HLwr.out]; omega) _ (by omega)
   go_wp2_with fail
   refine (markText_c (k0 + i0 * 3 + 1) _ _ (by omega) (by omega)).mono ?_
   rintro e wm1 ⟨rfl, hbm⟩
   have Hwm1 := Lib.hid ((own_set Hwm0.out (j := i0 * 3) (by (try simp only [List.length_set]); rw [HLwr.out]; omega) _ _ (by omega)).below hbm)
   have HOwm1 := Lib.hid ((HOwm0.out.setCell h2 h3 _).trans (Only.of_below hbm))
   clear hc0 hz0
   clear hbm
   obtain ⟨u1, hc1⟩ : ∃ v, wm1.cell? ⟨b, off + i0 * 3 + 1, none⟩ = some v := own_cell Hwm1.out (j := i0 * 3 + 1) (by (try simp only [List.length_set]); rw [HLwr.out]; omega)
   have hz1 : wm1.frozen? ⟨b, off + i0 * 3 + 1, none⟩ = false := own_froz Hwm1.out (by (try simp only [List.length_set]); rw [HLwr.out]; omega) _ (by omega)
   obtain ⟨u2, hc2⟩ : ∃ v, wm1.cell? ⟨b, off + i0 * 3 + 2, none⟩ = some v := own_cell Hwm1.out (j := i0 * 3 + 2) (by (try simp only [List.length_set]); rw [HLwr.out]; omega)
   have hz2 : wm1.frozen? ⟨b, off + i0 * 3 + 2, none⟩ = false := own_froz Hwm1.out (by (try simp only [List.length_set]); rw [HLwr.out]; omega) _ (by omega)
   go_wp2
   go_roundw
   case rel =>
    refine ⟨i0 + 1, by omega, by go_num, by first | go_num | (simp; omega), ((HOwm1.out.setCell h2 h3 _).setCell h2 h3 _), ?_⟩
    rw [← HE.out]
    exact (own_set (own_set Hwm1.out (j := i0 * 3 + 1) (by (try simp only [List.length_set]); rw [HLwr.out]; omega) _ _ (by omega)) (j := i0 * 3 + 2) (by (try simp only [List.length_set]); rw [HLwr.out]; omega) _ _ (by omega))
   case measure => simp [intOf]; omega
  ·go_wp2
   go_ret
   obtain rfl : i0 = n := by omega
   refine ⟨rfl, HOwr.out, ?_⟩
   have := hw
   rwa [List.take_of_length_le (by rw [rcps_len, mksReceipt_len]; exact Nat.le_refl _), List.drop_eq_nil_of_le (by rw [HN.out]; exact Nat.le_refl _), List.append_nil] at this

end Go.Proofs.YtmmepogjocfefaaGreat
