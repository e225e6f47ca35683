/- What the laws' helpers do to a Head and to a slice of them. Written by gen_struct.py. -/
import Derived.Test.YtmmepogjocfefaaGreatStr
import Derived.Test.YtmmepogjocfefaaGreatData
namespace Go.Proofs.YtmmepogjocfefaaGreat
set_option linter.unusedVariables false
set_option linter.unusedSimpArgs false
open Go.RowKit

set_option maxRecDepth 100000 in
set_option maxHeartbeats 400000 in
theorem szHead_c (e : Hd) (left : Int) (w : World) (hf : e.fits) (h0 : 0 ≤ left) (h1 : left ≤ 1048576) :
  Calls Tryz.prog 81 #[.agg #[.int .i64 e.num, .int .i64 e.size, .string e.root, .int .i64 e.taken, .string e.troot], .int .i64 left] w fun r w' => r = .returned (.int .i64 (szF left e.bulk)) ∧ Below w.heap.size w w' := by
 obtain ⟨num, size, root, taken, troot⟩ := e
 obtain ⟨_, _, _, hroot, htroot⟩ := hf
 simp only [maxLen] at hroot htroot
 go_enter Tryz.func81, Tryz.ntmps81
 go_wp2
 all_goals go_ret
 all_goals first
  | exact ⟨ret_int (szF_lt (b := root.size + troot.size) (by omega)).symm, (Below.refl _ _).alloc (Nat.le_refl _) _⟩
  | exact ⟨ret_int (by show _ = szF left (root.size + troot.size); rw [szF_ge (by omega)]; try omega), (Below.refl _ _).alloc (Nat.le_refl _) _⟩

set_option maxRecDepth 100000 in
set_option maxHeartbeats 400000 in
theorem toHead_c (e : Hd) (w : World) :
  Calls Tryz.prog 86 #[.agg #[.int .i64 e.num, .int .i64 e.size, .string e.root, .int .i64 e.taken, .string e.troot]] w fun r w' => r = .returned (.agg #[.int .i64 e.num, .int .i64 e.size, .string e.root, .int .i64 e.taken, .string e.troot]) ∧ Below w.heap.size w w' := by
 obtain ⟨num, size, root, taken, troot⟩ := e
 go_enter Tryz.func86, Tryz.ntmps86
 go_wp2
 exact bodyPost_ret (v := .agg #[.int .i64 num, .int .i64 size, .string root, .int .i64 taken, .string troot]) (by simp [results, Tryz.results86, go_sem]) rfl ⟨rfl, (((Below.refl _ _).alloc (Nat.le_refl _) _).alloc (by first | omega | (simp; done) | (simp; omega)) _).alloc (by first | omega | (simp; done) | (simp; omega)) _⟩

set_option maxRecDepth 100000 in
set_option maxHeartbeats 400000 in
theorem eqHead_c (e : Hd) (w : World) :
  Calls Tryz.prog 28 #[.agg #[.int .i64 e.num, .int .i64 e.size, .string e.root, .int .i64 e.taken, .string e.troot], .agg #[.int .i64 e.num, .int .i64 e.size, .string e.root, .int .i64 e.taken, .string e.troot]] w fun r w' => r = .returned (.bool true) ∧ Below w.heap.size w w' := by
 obtain ⟨num, size, root, taken, troot⟩ := e
 go_enter Tryz.func28, Tryz.ntmps28
 go_wp2
 go_ret
 exact ⟨rfl, ((Below.refl _ _).alloc (Nat.le_refl _) _).alloc (by first | omega | (simp; done) | (simp; omega)) _⟩

set_option maxRecDepth 100000 in
set_option maxHeartbeats 400000 in
theorem szHeadS_c (A : Option Addr) (c lo hi n : Nat) (l : List Hd) (left : Int) (w : World) (hr : Rd w lo hi A (hds l)) (hn : l.length = n) (hl : n ≤ maxLen)
  (hs : ∀ x ∈ l, x.fits) (h0 : 0 ≤ left) (h1 : left ≤ 1048576) :
  Calls Tryz.prog 40 #[.slice A n c, .int .i64 left] w fun r w' => r = .returned (.int .i64 (szF left (n + sumBy Hd.bulk l))) ∧ Below w.heap.size w w' := by
 unfold maxLen at hl
 have HN := Lib.hid hn
 have HS := Lib.hid hs
 clear hn hs
 go_enter Tryz.func40, Tryz.ntmps40
 by_cases hbig : left < n
 ·go_wp2
  go_ret
  exact ⟨ret_int (szF_lt (by omega)).symm, Below.refl _ _⟩
 ·go_wp2
  go_loopw [1, 5] (fun lf i wr => ∃ k : Nat, k ≤ n ∧ i = .int .i64 k ∧ lf = .int .i64 (left - n - sumBy Hd.bulk (l.take k)) ∧ 0 ≤ left - n - sumBy Hd.bulk (l.take k) ∧ Below w.heap.size w wr) (fun _ i _ => n - (intOf i).toNat)
  case atStart => exact ⟨0, Nat.zero_le _, rfl, by simp [sumBy], by simp [sumBy]; omega, Below.refl _ _⟩
  case round =>
   obtain ⟨k, hk, rfl, rfl, hp, hb0⟩ := hrel
   by_cases hlt : k < n
   ·obtain ⟨b, off, x, rfl, hb1, hb2, hb, hks, hcell⟩ := (hr.below hb0).flat (f := Hd.cells) (m := 5) (fun _ => rfl) (by omega) (k := k) (by rw [HN.out]; exact hlt)
    have hc0 : wr.cell? ⟨b, off + k * 5, none⟩ = some (.int .i64 x.num) := hcell 0 _ rfl
    have hc1 : wr.cell? ⟨b, off + k * 5 + 1, none⟩ = some (.int .i64 x.size) := hcell 1 _ rfl
    have hc2 : wr.cell? ⟨b, off + k * 5 + 2, none⟩ = some (.string x.root) := hcell 2 _ rfl
    have hc3 : wr.cell? ⟨b, off + k * 5 + 3, none⟩ = some (.int .i64 x.taken) := hcell 3 _ rfl
    have hc4 : wr.cell? ⟨b, off + k * 5 + 4, none⟩ = some (.string x.troot) := hcell 4 _ rfl
    have HF := Lib.hid (HS.out x (List.mem_of_getElem? hks))
    have HB := Lib.hid (sumBy_take Hd.bulk hks)
    have HL := Lib.hid (sumBy_take_le Hd.bulk l (k + 1))
    have HB0 := Lib.hid hb0
    clear hcell hks hb0 hr
    go_wp2_with fail
    refine (szHead_c x _ _ HF.out hp (by omega)).mono ?_
    rintro e w1 ⟨rfl, hbw⟩
    have HW := Lib.hid hbw
    have HLE := Lib.hid (szF_le (left - n - sumBy Hd.bulk (l.take k)) x.bulk (by omega))
    clear hbw
    go_wp2
    ·go_ret
     have hneg : szF (left - n - sumBy Hd.bulk (l.take k)) x.bulk < 0 := by assumption
     have h4 := szF_neg hneg hp
     have h2 := HB.out
     have h3 := HL.out
     exact ⟨ret_int (szF_lt (by omega)).symm, below_then HB0.out HW.out HB0.out.size⟩
    ·have hpos : 0 ≤ szF (left - n - sumBy Hd.bulk (l.take k)) x.bulk := by assumption
     have h4 := szF_pos hpos
     have h2 := HB.out
     go_roundw
     case rel => exact ⟨k + 1, by omega, by go_num, by rw [HB.out, h4.2]; go_num, by rw [HB.out]; omega, below_then HB0.out HW.out HB0.out.size⟩
     case measure => simp [intOf]; omega
   ·go_wp2
    go_ret
    have hk' : k = n := by omega
    subst hk'
    refine ⟨ret_int ?_, hb0⟩
    have e1 : sumBy Hd.bulk (l.take k) = sumBy Hd.bulk l := by rw [← HN.out, List.take_length]
    rw [e1] at hp ⊢
    rw [szF_ge (by omega)]
    omega

theorem info_Head : (Tryz.prog.info? 48).map (fun i => (i.zero, i.size, i.bytes)) = some (some (.agg #[.int .i64 0, .int .i64 0, .string ByteArray.empty, .int .i64 0, .string ByteArray.empty]), 5, 56) := by kernel_rfl
set_option maxRecDepth 100000 in
set_option maxHeartbeats 400000 in
theorem toHeadS_c (A : Option Addr) (c lo hi n : Nat) (l : List Hd) (w : World) (hr : Rd w lo hi A (hds l)) (hn : l.length = n) (hl : n ≤ 1048576) :
  Calls Tryz.prog 45 #[.slice A n c] w fun r w' => ∃ A', r = .returned (.slice A' n n) ∧ Own w' w.heap.size w'.heap.size A' (hds l) ∧ Below w.heap.size w w' := by
 obtain ⟨i0, hi0, hz0, hz1, hz2⟩ := info_parts info_Head
 have HN := Lib.hid hn
 clear hn
 go_enter Tryz.func45, Tryz.ntmps45
 go_wp2_with (at_make; refine wpList_make_full _ rfl _ _ 46 rfl w.heap.size 48 i0 _ 5 Tryz.underlying46 hi0 hz0 hz1 _ _ _ _ n rfl rfl rfl rfl (by rw [hz2]; omega) (by unfold maxLen; omega) (Nat.le_refl _) ?_)
 intro w1 hown hg
 have hb1 : Below w.heap.size w w1 := (Below.refl _ _).grown hg (Nat.le_refl _) (by simp)
 have hsz : w.heap.size < w1.heap.size := (hown.lt _ rfl).2
 have hlz := hown.1
 generalize hzs : (madeCells _ _).toList = zs at hown hlz
 clear hzs
 have HO := Lib.hid hown
 have HZ := Lib.hid hlz
 clear hown hlz hg
 go_wp2
 go_loopw [4] (fun i wr => ∃ k : Nat, k ≤ n ∧ i = .int .i64 k ∧ Below w.heap.size w wr ∧ w.heap.size < wr.heap.size ∧
   wr.ownsRow w.heap.size 48 5 (.slice (some ⟨w.heap.size, 0, none⟩) n n) n ((hds l).take (k * 5) ++ zs.drop (k * 5))) (fun i _ => n - (intOf i).toNat)
 case atStart => exact ⟨0, Nat.zero_le _, rfl, hb1, hsz, by rw [Nat.zero_mul, List.take_zero, List.drop_zero, List.nil_append]; exact HO.out⟩
 case round =>
  obtain ⟨k, hk, rfl, hbw, hszr, hownr⟩ := hrel
  by_cases hlt : k < n
  ·obtain ⟨b, off, x, rfl, hb2, hb3, hb, hks, hcell⟩ := (hr.below hbw).flat (f := Hd.cells) (m := 5) (fun _ => rfl) (by omega) (k := k) (by rw [HN.out]; exact hlt)
   have hc0 : wr.cell? ⟨b, off + k * 5, none⟩ = some (.int .i64 x.num) := hcell 0 _ rfl
   have hc1 : wr.cell? ⟨b, off + k * 5 + 1, none⟩ = some (.int .i64 x.size) := hcell 1 _ rfl
   have hc2 : wr.cell? ⟨b, off + k * 5 + 2, none⟩ = some (.string x.root) := hcell 2 _ rfl
   have hc3 : wr.cell? ⟨b, off + k * 5 + 3, none⟩ = some (.int .i64 x.taken) := hcell 3 _ rfl
   have hc4 : wr.cell? ⟨b, off + k * 5 + 4, none⟩ = some (.string x.troot) := hcell 4 _ rfl
   have HW := Lib.hid hownr
   have HB := Lib.hid hbw
   have HK := Lib.hid hks
   have HE : Hid (setFrom ((hds l).take (k * 5) ++ zs.drop (k * 5)) (k * 5) x.cells = (hds l).take ((k + 1) * 5) ++ zs.drop ((k + 1) * 5)) := set_nextN (f := Hd.cells) (m := 5) (fun _ => rfl) hks (ys := zs) (by rw [HZ.out]; exact Nat.mul_le_mul_right _ hlt)
   clear hcell hks hbw hownr hr hb1
   go_wp2_with fail
   refine (toHead_c x _).mono ?_
   rintro e w2 ⟨rfl, hb4⟩
   have hsz2 : w.heap.size < w2.heap.size := by have := hb4.size; omega
   have HO2 : Hid (w2.ownsRow w.heap.size 48 5 (.slice (some ⟨w.heap.size, 0, none⟩) n n) n ((hds l).take (k * 5) ++ zs.drop (k * 5))) := ownsRow_below HW.out hb4
   have HB2 := Lib.hid (below_then HB.out hb4 HB.out.size)
   obtain ⟨v0, hv0⟩ := ownsRow_cell HO2.out (j := k * 5) (by omega)
   have hz10 := HO2.out.frozenAt (k * 5)
   obtain ⟨v1, hv1⟩ := ownsRow_cell HO2.out (j := k * 5 + 1) (by omega)
   have hz11 := HO2.out.frozenAt (k * 5 + 1)
   obtain ⟨v2, hv2⟩ := ownsRow_cell HO2.out (j := k * 5 + 2) (by omega)
   have hz12 := HO2.out.frozenAt (k * 5 + 2)
   obtain ⟨v3, hv3⟩ := ownsRow_cell HO2.out (j := k * 5 + 3) (by omega)
   have hz13 := HO2.out.frozenAt (k * 5 + 3)
   obtain ⟨v4, hv4⟩ := ownsRow_cell HO2.out (j := k * 5 + 4) (by omega)
   have hz14 := HO2.out.frozenAt (k * 5 + 4)
   clear hb4
   go_wp2
   go_roundw
   case rel =>
    refine ⟨k + 1, by omega, by go_num, ?_, by simpa [World.setCell] using hsz2, ?_⟩
    ·exact ((((HB2.out.setCell (by simp) _).setCell (by simp) _).setCell (by simp) _).setCell (by simp) _).setCell (by simp) _
    ·rw [← HE.out]
     exact (((((HO2.out.stored _ _).1.stored _ _).1.stored _ _).1.stored _ _).1.stored _ _).1
   case measure => simp [intOf]; omega
  ·go_wp2
   go_ret
   have hk' : k = n := by omega
   subst hk'
   refine ⟨_, rfl, ?_, hbw⟩
   have ho := Own.of_ownsRow hownr
   have e1 : (hds l).take (k * 5) = hds l := List.take_of_length_le (by rw [hds_len, HN.out]; exact Nat.le_refl _)
   have e2 : zs.drop (k * 5) = [] := List.drop_eq_nil_of_le (by rw [HZ.out]; exact Nat.le_refl _)
   rw [e1, e2, List.append_nil] at ho
   exact ho

set_option maxRecDepth 100000 in
set_option maxHeartbeats 400000 in
theorem eqHeadS_c (A A' : Option Addr) (c c' lo hi lo' hi' n n' : Nat) (l : List Hd) (w : World) (hr : Rd w lo hi A (hds l)) (hr' : Rd w lo' hi' A' (hds l)) (hn : l.length = n) (hn' : l.length = n') (hl : n ≤ maxLen) :
  Calls Tryz.prog 50 #[.slice A n c, .slice A' n' c'] w fun r w' => r = .returned (.bool true) ∧ Below w.heap.size w w' := by
 unfold maxLen at hl
 obtain rfl : n = n' := hn.symm.trans hn'
 clear hn'
 have HN := Lib.hid hn
 clear hn
 go_enter Tryz.func50, Tryz.ntmps50
 go_wp2
 go_loopw [5] (fun i wr => ∃ k : Nat, k ≤ n ∧ i = .int .i64 k ∧ Below w.heap.size w wr) (fun i _ => n - (intOf i).toNat)
 case atStart => exact ⟨0, Nat.zero_le _, rfl, Below.refl _ _⟩
 case round =>
  obtain ⟨k, hk, rfl, hb0⟩ := hrel
  by_cases hlt : k < n
  ·obtain ⟨b, off, x, rfl, _, _, hb, hks, hcell⟩ := (hr.below hb0).flat (f := Hd.cells) (m := 5) (fun _ => rfl) (by omega) (k := k) (by rw [HN.out]; exact hlt)
   obtain ⟨b', off', x', rfl, _, _, hb', hks', hcell'⟩ := (hr'.below hb0).flat (f := Hd.cells) (m := 5) (fun _ => rfl) (by omega) (k := k) (by rw [HN.out]; exact hlt)
   obtain rfl : x = x' := by rw [hks] at hks'; exact Option.some.inj hks'
   have hc0 : wr.cell? ⟨b, off + k * 5, none⟩ = some (.int .i64 x.num) := hcell 0 _ rfl
   have hc1 : wr.cell? ⟨b, off + k * 5 + 1, none⟩ = some (.int .i64 x.size) := hcell 1 _ rfl
   have hc2 : wr.cell? ⟨b, off + k * 5 + 2, none⟩ = some (.string x.root) := hcell 2 _ rfl
   have hc3 : wr.cell? ⟨b, off + k * 5 + 3, none⟩ = some (.int .i64 x.taken) := hcell 3 _ rfl
   have hc4 : wr.cell? ⟨b, off + k * 5 + 4, none⟩ = some (.string x.troot) := hcell 4 _ rfl
   have hd0 : wr.cell? ⟨b', off' + k * 5, none⟩ = some (.int .i64 x.num) := hcell' 0 _ rfl
   have hd1 : wr.cell? ⟨b', off' + k * 5 + 1, none⟩ = some (.int .i64 x.size) := hcell' 1 _ rfl
   have hd2 : wr.cell? ⟨b', off' + k * 5 + 2, none⟩ = some (.string x.root) := hcell' 2 _ rfl
   have hd3 : wr.cell? ⟨b', off' + k * 5 + 3, none⟩ = some (.int .i64 x.taken) := hcell' 3 _ rfl
   have hd4 : wr.cell? ⟨b', off' + k * 5 + 4, none⟩ = some (.string x.troot) := hcell' 4 _ rfl
   have HB0 := Lib.hid hb0
   clear hcell hcell' hks hks' hb0 hr hr'
   go_wp2_with fail
   have hI1 : (0 : Int) ≤ (k : Int) := by omega
   have hI2 : (k : Int) < (n : Int) := by omega
   have hlc : ∀ (v : Later wr) (o : Nat), v.v.cell? ⟨b, o, none⟩ = wr.cell? ⟨b, o, none⟩ := fun v o => later_cell v b o hb
   have hlc' : ∀ (v : Later wr) (o : Nat), v.v.cell? ⟨b', o, none⟩ = wr.cell? ⟨b', o, none⟩ := fun v o => later_cell v b' o hb'
   refine wp_region_later (by kernel_rfl) (by kernel_rfl) ?_
   repeat (go_big_quiet_step ((exact later_call (eqHead_c x _))))
   refine wpQuiet_nil ?_
   intro w1 hb10
   have hb1 := later_below hb10
   clear hb10
   clear hlc hlc'
   go_wp2
   go_roundw
   case rel => exact ⟨k + 1, by omega, by go_num, below_then HB0.out hb1 HB0.out.size⟩
   case measure => simp [intOf]; omega
  ·go_wp2
   go_ret
   exact ⟨rfl, hb0⟩

/-- the marks of one, and of n -/
def mkHead (k : Nat) : Hd := ⟨(k : Int), (k : Int) + 1, mt (k + 2), (k : Int) + 1 + 1 + 1, mt (k + 4)⟩
def mksHead (k n : Nat) : List Hd := (List.range n).map fun i => mkHead (k + i * 5)
theorem mksHead_len (k n : Nat) : (mksHead k n).length = n := by simp [mksHead]
theorem mksHead_get {k n i : Nat} (h : i < n) : (mksHead k n)[i]? = some (mkHead (k + i * 5)) := by simp [mksHead, h]

set_option maxRecDepth 100000 in
set_option maxHeartbeats 400000 in
theorem markHeadS_c (A : Option Addr) (c lo hi k0 n : Nat) (x : Int) (xs : List Value) (w : World) (hx : x = (k0 : Int)) (hr : Own w lo hi A xs) (hn : xs.length = n * 5) (hl : k0 + n * 5 ≤ 100000000) :
  Calls Tryz.prog 54 #[.slice A n c, .int .i64 x] w fun e w' => e = .returned (.int .i64 (k0 + n * 5 : Nat)) ∧ Only lo hi w w' ∧ Own w' lo hi A (hds (mksHead k0 n)) := by
 subst hx
 have HN := Lib.hid hn
 clear hn
 go_enter Tryz.func54, Tryz.ntmps54
 go_wp2
 go_loopw [1, 5] (fun kk i wr => ∃ i0 : Nat, i0 ≤ n ∧ i = .int .i64 i0 ∧ kk = .int .i64 (k0 + i0 * 5 : Nat) ∧ Only lo hi w wr ∧ Own wr lo hi A ((hds (mksHead k0 n)).take (i0 * 5) ++ xs.drop (i0 * 5))) (fun _ i _ => n - (intOf i).toNat)
 case atStart => exact ⟨0, Nat.zero_le _, rfl, by simp, Only.refl _ _ _, by rw [Nat.zero_mul, List.take_zero, List.drop_zero, List.nil_append]; exact hr⟩
 case round =>
  obtain ⟨i0, hi0, rfl, rfl, ho, hw⟩ := hrel
  have HOwr := Lib.hid ho
  clear ho hr
  by_cases hlt : i0 < n
  ·have HE : Hid (setFrom ((hds (mksHead k0 n)).take (i0 * 5) ++ xs.drop (i0 * 5)) (i0 * 5) (mkHead (k0 + i0 * 5)).cells = (hds (mksHead k0 n)).take ((i0 + 1) * 5) ++ xs.drop ((i0 + 1) * 5)) :=
    set_nextN (f := Hd.cells) (m := 5) (fun _ => rfl) (mksHead_get hlt) (ys := xs) (by rw [HN.out]; exact Nat.mul_le_mul_right _ hlt)
   have HLwr : Hid (((hds (mksHead k0 n)).take (i0 * 5) ++ xs.drop (i0 * 5)).length = n * 5) := by
    show List.length _ = _
    rw [List.length_append, List.length_take, List.length_drop, hds_len, mksHead_len, HN.out]; omega
   generalize (hds (mksHead k0 n)).take (i0 * 5) ++ xs.drop (i0 * 5) = ys at *
   obtain ⟨b, off, rfl, h2, h3, h4, h5, h6⟩ := hw.at_ (j := i0 * 5) (by rw [HLwr.out]; omega)
   have Hwr := Lib.hid hw
   clear hw h4 h5 h6
   obtain ⟨u0, hc0⟩ : ∃ v, wr.cell? ⟨b, off + i0 * 5, none⟩ = some v := own_cell Hwr.out (j := i0 * 5) (by (try simp only [List.length_set]); rw [HLwr.out]; omega)
   have hz0 : wr.frozen? ⟨b, off + i0 * 5, none⟩ = false := own_froz Hwr.out (by (try simp only [List.length_set]); rw [HLwr.out]; omega) _ (by omega)
   obtain ⟨u1, hc1⟩ : ∃ v, wr.cell? ⟨b, off + i0 * 5 + 1, none⟩ = some v := own_cell Hwr.out (j := i0 * 5 + 1) (by (try simp only [List.length_set]); rw [HLwr.out]; omega)
   have hz1 : wr.frozen? ⟨b, off + i0 * 5 + 1, none⟩ = false := own_froz Hwr.out (by (try simp only [List.length_set]); rw [HLwr.out]; omega) _ (by omega)
   go_wp2_with fail
   refine (markText_c (k0 + i0 * 5 + 2) _ _ (by omega) (by omega)).mono ?_
   rintro e wm2 ⟨rfl, hbm⟩
   have Hwm2 := Lib.hid ((own_set (own_set Hwr.out (j := i0 * 5) (by (try simp only [List.length_set]); rw [HLwr.out]; omega) _ _ (by omega)) (j := i0 * 5 + 1) (by (try simp only [List.length_set]); rw [HLwr.out]; omega) _ _ (by omega)).below hbm)
   have HOwm2 := Lib.hid (((HOwr.out.setCell h2 h3 _).setCell h2 h3 _).trans (Only.of_below hbm))
   clear hc0 hz0
   clear hc1 hz1
   clear hbm
   obtain ⟨u2, hc2⟩ : ∃ v, wm2.cell? ⟨b, off + i0 * 5 + 2, none⟩ = some v := own_cell Hwm2.out (j := i0 * 5 + 2) (by (try simp only [List.length_set]); rw [HLwr.out]; omega)
   have hz2 : wm2.frozen? ⟨b, off + i0 * 5 + 2, none⟩ = false := own_froz Hwm2.out (by (try simp only [List.length_set]); rw [HLwr.out]; omega) _ (by omega)
   obtain ⟨u3, hc3⟩ : ∃ v, wm2.cell? ⟨b, off + i0 * 5 + 3, none⟩ = some v := own_cell Hwm2.out (j := i0 * 5 + 3) (by (try simp only [List.length_set]); rw [HLwr.out]; omega)
   have hz3 : wm2.frozen? ⟨b, off + i0 * 5 + 3, none⟩ = false := own_froz Hwm2.out (by (try simp only [List.length_set]); rw [HLwr.out]; omega) _ (by omega)
   go_wp2_with fail
   refine (markText_c (k0 + i0 * 5 + 4) _ _ (by omega) (by omega)).mono ?_
   rintro e wm4 ⟨rfl, hbm⟩
   have Hwm4 := Lib.hid ((own_set (own_set Hwm2.out (j := i0 * 5 + 2) (by (try simp only [List.length_set]); rw [HLwr.out]; omega) _ _ (by omega)) (j := i0 * 5 + 3) (by (try simp only [List.length_set]); rw [HLwr.out]; omega) _ _ (by omega)).below hbm)
   have HOwm4 := Lib.hid (((HOwm2.out.setCell h2 h3 _).setCell h2 h3 _).trans (Only.of_below hbm))
   clear hc2 hz2
   clear hc3 hz3
   clear hbm
   obtain ⟨u4, hc4⟩ : ∃ v, wm4.cell? ⟨b, off + i0 * 5 + 4, none⟩ = some v := own_cell Hwm4.out (j := i0 * 5 + 4) (by (try simp only [List.length_set]); rw [HLwr.out]; omega)
   have hz4 : wm4.frozen? ⟨b, off + i0 * 5 + 4, none⟩ = false := own_froz Hwm4.out (by (try simp only [List.length_set]); rw [HLwr.out]; omega) _ (by omega)
   go_wp2
   go_roundw
   case rel =>
    refine ⟨i0 + 1, by omega, by go_num, by first | go_num | (simp; omega), (HOwm4.out.setCell h2 h3 _), ?_⟩
    rw [← HE.out]
    exact (own_set Hwm4.out (j := i0 * 5 + 4) (by (try simp only [List.length_set]); rw [HLwr.out]; omega) _ _ (by omega))
   case measure => simp [intOf]; omega
  ·go_wp2
   go_ret
   obtain rfl : i0 = n := by omega
   refine ⟨rfl, HOwr.out, ?_⟩
   have := hw
   rwa [List.take_of_length_le (by rw [hds_len, mksHead_len]; exact Nat.le_refl _), List.drop_eq_nil_of_le (by rw [HN.out]; exact Nat.le_refl _), List.append_nil] at this

end Go.Proofs.YtmmepogjocfefaaGreat
