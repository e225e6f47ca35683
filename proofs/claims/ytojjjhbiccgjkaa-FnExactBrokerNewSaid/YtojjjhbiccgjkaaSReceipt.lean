/- What the laws' helpers do to a Receipt and to a slice of them. Written by gen_struct.py. -/
import Derived.Test.YtojjjhbiccgjkaaStr
import Derived.Test.YtojjjhbiccgjkaaData
namespace Go.Proofs.Ytojjjhbiccgjkaa
set_option linter.unusedVariables false
set_option linter.unusedSimpArgs false
open Go.RowKit

set_option maxRecDepth 100000 in
set_option maxHeartbeats 400000 in
theorem eqReceipt_c (e : Rcp) (w : World) :
    Calls Try.prog 193 #[.agg #[.string e.reader, .string e.topic, .int .i64 e.index], .agg #[.string e.reader, .string e.topic, .int .i64 e.index]] w fun r w' => r = .returned (.bool true) ∧ Below w.heap.size w w' := by
  obtain ⟨reader, topic, index⟩ := e
  go_enter Try.func193, Try.ntmps193
  go_wp2
  go_ret
  exact ⟨rfl, ((Below.refl _ _).alloc (Nat.le_refl _) _).alloc (by first | omega | (simp; done) | (simp; omega)) _⟩

set_option maxRecDepth 100000 in
set_option maxHeartbeats 400000 in
theorem eqReceiptS_c (A A' : Option Addr) (c c' lo hi lo' hi' n n' : Nat) (l : List Rcp) (w : World) (hr : Rd w lo hi A (rcps l)) (hr' : Rd w lo' hi' A' (rcps l)) (hn : l.length = n) (hn' : l.length = n') (hl : n ≤ maxLen) :
    Calls Try.prog 150 #[.slice A n c, .slice A' n' c'] w fun r w' => r = .returned (.bool true) ∧ Below w.heap.size w w' := by
  unfold maxLen at hl
  obtain rfl : n = n' := hn.symm.trans hn'
  clear hn'
  have HN := Lib.hid hn
  clear hn
  go_enter Try.func150, Try.ntmps150
  go_wp2
  go_loopw [5] (fun i wr => ∃ k : Nat, k ≤ n ∧ i = .int .i64 k ∧ Below w.heap.size w wr) (fun i _ => n - (intOf i).toNat)
  case atStart => exact ⟨0, Nat.zero_le _, rfl, Below.refl _ _⟩
  case round =>
    obtain ⟨k, hk, rfl, hb0⟩ := hrel
    by_cases hlt : k < n
    · obtain ⟨b, off, x, rfl, _, _, hb, hks, hcell⟩ := (hr.below hb0).flat (f := Rcp.cells) (m := 3) (fun _ => rfl) (by omega) (k := k) (by rw [HN.out]; exact hlt)
      obtain ⟨b', off', x', rfl, _, _, hb', hks', hcell'⟩ := (hr'.below hb0).flat (f := Rcp.cells) (m := 3) (fun _ => rfl) (by omega) (k := k) (by rw [HN.out]; exact hlt)
      obtain rfl : x = x' := by rw [hks] at hks'; exact Option.some.inj hks'
      have hc0 : wr.cell? ⟨b, off + k * 3, none⟩ = some (.string x.reader) := hcell 0 _ rfl
      have hc1 : wr.cell? ⟨b, off + k * 3 + 1, none⟩ = some (.string x.topic) := hcell 1 _ rfl
      have hc2 : wr.cell? ⟨b, off + k * 3 + 2, none⟩ = some (.int .i64 x.index) := hcell 2 _ rfl
      have hd0 : wr.cell? ⟨b', off' + k * 3, none⟩ = some (.string x.reader) := hcell' 0 _ rfl
      have hd1 : wr.cell? ⟨b', off' + k * 3 + 1, none⟩ = some (.string x.topic) := hcell' 1 _ rfl
      have hd2 : wr.cell? ⟨b', off' + k * 3 + 2, none⟩ = some (.int .i64 x.index) := hcell' 2 _ rfl
      have HB0 := Lib.hid hb0
      clear hcell hcell' hks hks' hb0 hr hr'
      go_wp2_with fail
      have hI1 : (0 : Int) ≤ (k : Int) := by omega
      have hI2 : (k : Int) < (n : Int) := by omega
      have hlc : ∀ (v : Later wr) (o : Nat), v.v.cell? ⟨b, o, none⟩ = wr.cell? ⟨b, o, none⟩ := fun v o => later_cell v b o hb
      have hlc' : ∀ (v : Later wr) (o : Nat), v.v.cell? ⟨b', o, none⟩ = wr.cell? ⟨b', o, none⟩ := fun v o => later_cell v b' o hb'
      refine wp_region_later (by kernel_rfl) (by kernel_rfl) ?_
      repeat (go_big_quiet_step ((exact later_call (eqReceipt_c x _))))
      refine wpQuiet_nil ?_
      intro w1 hb10
      have hb1 := later_below hb10
      clear hb10
      clear hlc hlc'
      go_wp2
      go_roundw
      case rel => exact ⟨k + 1, by omega, by go_num, below_then HB0.out hb1 HB0.out.size⟩
      case measure => simp [intOf]; omega
    · go_wp2
      go_ret
      exact ⟨rfl, hb0⟩

/-- the marks of one, and of n -/
def mkReceipt (k : Nat) : Rcp := ⟨mt (k), mt (k + 1), (k : Int) + 1 + 1⟩
def mksReceipt (k n : Nat) : List Rcp := (List.range n).map fun i => mkReceipt (k + i * 3)
theorem mksReceipt_len (k n : Nat) : (mksReceipt k n).length = n := by simp [mksReceipt]
theorem mksReceipt_get {k n i : Nat} (h : i < n) : (mksReceipt k n)[i]? = some (mkReceipt (k + i * 3)) := by simp [mksReceipt, h]

set_option maxRecDepth 100000 in
set_option maxHeartbeats 400000 in
theorem markReceiptS_c (A : Option Addr) (c lo hi k0 n : Nat) (x : Int) (xs : List Value) (w : World) (hx : x = (k0 : Int)) (hr : Own w lo hi A xs) (hn : xs.length = n * 3) (hl : k0 + n * 3 ≤ 100000000) :
    Calls Try.prog 151 #[.slice A n c, .int .i64 x] w fun e w' => e = .returned (.int .i64 (k0 + n * 3 : Nat)) ∧ Only lo hi w w' ∧ Own w' lo hi A (rcps (mksReceipt k0 n)) := by
  subst hx
  have HN := Lib.hid hn
  clear hn
  go_enter Try.func151, Try.ntmps151
  go_wp2
  go_loopw [1, 5] (fun kk i wr => ∃ i0 : Nat, i0 ≤ n ∧ i = .int .i64 i0 ∧ kk = .int .i64 (k0 + i0 * 3 : Nat) ∧ Only lo hi w wr ∧ Own wr lo hi A ((rcps (mksReceipt k0 n)).take (i0 * 3) ++ xs.drop (i0 * 3))) (fun _ i _ => n - (intOf i).toNat)
  case atStart => exact ⟨0, Nat.zero_le _, rfl, by simp, Only.refl _ _ _, by rw [Nat.zero_mul, List.take_zero, List.drop_zero, List.nil_append]; exact hr⟩
  case round =>
    obtain ⟨i0, hi0, rfl, rfl, ho, hw⟩ := hrel
    have HOwr := Lib.hid ho
    clear ho hr
    by_cases hlt : i0 < n
    · have HE : Hid (setFrom ((rcps (mksReceipt k0 n)).take (i0 * 3) ++ xs.drop (i0 * 3)) (i0 * 3) (mkReceipt (k0 + i0 * 3)).cells = (rcps (mksReceipt k0 n)).take ((i0 + 1) * 3) ++ xs.drop ((i0 + 1) * 3)) :=
        set_nextN (f := Rcp.cells) (m := 3) (fun _ => rfl) (mksReceipt_get hlt) (ys := xs) (by rw [HN.out]; exact Nat.mul_le_mul_right _ hlt)
      have HLwr : Hid (((rcps (mksReceipt k0 n)).take (i0 * 3) ++ xs.drop (i0 * 3)).length = n * 3) := by
        show List.length _ = _
        rw [List.length_append, List.length_take, List.length_drop, rcps_len, mksReceipt_len, HN.out]; omega
      generalize (rcps (mksReceipt k0 n)).take (i0 * 3) ++ xs.drop (i0 * 3) = ys at *
      obtain ⟨b, off, rfl, h2, h3, h4, h5, h6⟩ := hw.at_ (j := i0 * 3) (by rw [HLwr.out]; omega)
      have Hwr := Lib.hid hw
      clear hw h4 h5 h6
      go_wp2_with fail
      refine (markText_c (k0 + i0 * 3) _ _ (by omega) (by omega)).mono ?_
      rintro e wm0 ⟨rfl, hbm⟩
      have Hwm0 := Lib.hid (Hwr.out.below hbm)
      have HOwm0 := Lib.hid (HOwr.out.trans (Only.of_below hbm))
      clear hbm
      obtain ⟨u0, hc0⟩ : ∃ v, wm0.cell? ⟨b, off + i0 * 3, none⟩ = some v := own_cell Hwm0.out (j := i0 * 3) (by (try simp only [List.length_set]); rw [HLwr.out]; omega)
      have hz0 : wm0.frozen? ⟨b, off + i0 * 3, none⟩ = false := own_froz Hwm0.out (by (try simp only [List.length_set]); rw [HLwr.out]; omega) _ (by omega)
      go_wp2_with fail
      refine (markText_c (k0 + i0 * 3 + 1) _ _ (by omega) (by omega)).mono ?_
      rintro e wm1 ⟨rfl, hbm⟩
      have Hwm1 := Lib.hid ((own_set Hwm0.out (j := i0 * 3) (by (try simp only [List.length_set]); rw [HLwr.out]; omega) _ _ (by omega)).below hbm)
      have HOwm1 := Lib.hid ((HOwm0.out.setCell h2 h3 _).trans (Only.of_below hbm))
      clear hc0 hz0
      clear hbm
      obtain ⟨u1, hc1⟩ : ∃ v, wm1.cell? ⟨b, off + i0 * 3 + 1, none⟩ = some v := own_cell Hwm1.out (j := i0 * 3 + 1) (by (try simp only [List.length_set]); rw [HLwr.out]; omega)
      have hz1 : wm1.frozen? ⟨b, off + i0 * 3 + 1, none⟩ = false := own_froz Hwm1.out (by (try simp only [List.length_set]); rw [HLwr.out]; omega) _ (by omega)
      obtain ⟨u2, hc2⟩ : ∃ v, wm1.cell? ⟨b, off + i0 * 3 + 2, none⟩ = some v := own_cell Hwm1.out (j := i0 * 3 + 2) (by (try simp only [List.length_set]); rw [HLwr.out]; omega)
      have hz2 : wm1.frozen? ⟨b, off + i0 * 3 + 2, none⟩ = false := own_froz Hwm1.out (by (try simp only [List.length_set]); rw [HLwr.out]; omega) _ (by omega)
      go_wp2
      go_roundw
      case rel =>
        refine ⟨i0 + 1, by omega, by go_num, by first | go_num | (simp; omega), ((HOwm1.out.setCell h2 h3 _).setCell h2 h3 _), ?_⟩
        rw [← HE.out]
        exact (own_set (own_set Hwm1.out (j := i0 * 3 + 1) (by (try simp only [List.length_set]); rw [HLwr.out]; omega) _ _ (by omega)) (j := i0 * 3 + 2) (by (try simp only [List.length_set]); rw [HLwr.out]; omega) _ _ (by omega))
      case measure => simp [intOf]; omega
    · go_wp2
      go_ret
      obtain rfl : i0 = n := by omega
      refine ⟨rfl, HOwr.out, ?_⟩
      have := hw
      rwa [List.take_of_length_le (by rw [rcps_len, mksReceipt_len]; exact Nat.le_refl _), List.drop_eq_nil_of_le (by rw [HN.out]; exact Nat.le_refl _), List.append_nil] at this

set_option maxRecDepth 100000 in
set_option maxHeartbeats 400000 in
theorem heldReceiptS_c (A : Option Addr) (c lo hi k0 n : Nat) (x : Int) (w : World) (hx : x = (k0 : Int)) (hr : Rd w lo hi A (rcps (mksReceipt k0 n))) (hl : k0 + n * 3 ≤ 100000000) :
    Calls Try.prog 154 #[.slice A n c, .int .i64 x] w fun e w' => e = .returned (.int .i64 (k0 + n * 3 : Nat)) ∧ Below w.heap.size w w' := by
  subst hx
  go_enter Try.func154, Try.ntmps154
  go_wp2
  go_loopw [1, 5] (fun kk i wr => ∃ i0 : Nat, i0 ≤ n ∧ i = .int .i64 i0 ∧ kk = .int .i64 (k0 + i0 * 3 : Nat) ∧ Below w.heap.size w wr) (fun _ i _ => n - (intOf i).toNat)
  case atStart => exact ⟨0, Nat.zero_le _, rfl, by simp, Below.refl _ _⟩
  case round =>
    obtain ⟨i0, hi0, rfl, rfl, ho⟩ := hrel
    by_cases hlt : i0 < n
    · obtain ⟨b, off, x, rfl, _, _, hb, hks, hcell⟩ := (hr.below ho).flat (f := Rcp.cells) (m := 3) (fun _ => rfl) (by omega) (k := i0) (by rw [mksReceipt_len]; exact hlt)
      obtain rfl : mkReceipt (k0 + i0 * 3) = x := by rw [mksReceipt_get hlt] at hks; exact Option.some.inj hks
      have HBwr := Lib.hid ho
      clear ho
      have hc0 : wr.cell? ⟨b, off + i0 * 3, none⟩ = some (.string (mt (k0 + i0 * 3))) := hcell 0 _ rfl
      have hc1 : wr.cell? ⟨b, off + i0 * 3 + 1, none⟩ = some (.string (mt (k0 + i0 * 3 + 1))) := hcell 1 _ rfl
      have hc2 : wr.cell? ⟨b, off + i0 * 3 + 2, none⟩ = some (.int .i64 (((k0 + i0 * 3 : Nat) : Int) + 1 + 1)) := hcell 2 _ rfl
      clear hcell hr hks
      go_wp2_with fail
      have hI1 : (0 : Int) ≤ (i0 : Int) := by omega
      have hI2 : (i0 : Int) < (n : Int) := by omega
      have hlc : ∀ (v : Later wr) (o : Nat), v.v.cell? ⟨b, o, none⟩ = wr.cell? ⟨b, o, none⟩ := fun v o => later_cell v b o hb
      refine wp_region_later (by kernel_rfl) (by kernel_rfl) ?_
      repeat (go_big_quiet_step ((exact later_call (markText_c (k0 + i0 * 3) _ _ (by omega) (by omega)))))
      refine wpQuiet_nil ?_
      intro wh0 hbm0
      have hbm := later_below hbm0
      clear hbm0
      clear hlc
      replace hc1 := cell_later hbm hc1
      replace hc2 := cell_later hbm hc2
      clear hc0
      replace hb : b < wh0.heap.size := Nat.lt_of_lt_of_le hb hbm.size
      have HBwh0 := Lib.hid (below_then HBwr.out hbm HBwr.out.size)
      clear hbm
      go_wp2_with fail
      have hlc : ∀ (v : Later wh0) (o : Nat), v.v.cell? ⟨b, o, none⟩ = wh0.cell? ⟨b, o, none⟩ := fun v o => later_cell v b o hb
      refine wp_region_later (by kernel_rfl) (by kernel_rfl) ?_
      repeat (go_big_quiet_step ((exact later_call (markText_c (k0 + i0 * 3 + 1) _ _ (by omega) (by omega)))))
      refine wpQuiet_nil ?_
      intro wh1 hbm0
      have hbm := later_below hbm0
      clear hbm0
      clear hlc
      replace hc2 := cell_later hbm hc2
      clear hc1
      replace hb : b < wh1.heap.size := Nat.lt_of_lt_of_le hb hbm.size
      have HBwh1 := Lib.hid (below_then HBwh0.out hbm HBwh0.out.size)
      clear hbm
      go_wp2
      go_roundw
      case rel => exact ⟨i0 + 1, by omega, by go_num, by first | go_num | (simp; omega), HBwh1.out⟩
      case measure => simp [intOf]; omega
    · go_wp2
      go_ret
      obtain rfl : i0 = n := by omega
      exact ⟨rfl, ho⟩

end Go.Proofs.Ytojjjhbiccgjkaa
