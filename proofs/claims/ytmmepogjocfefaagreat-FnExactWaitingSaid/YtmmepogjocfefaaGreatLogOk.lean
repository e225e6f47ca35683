/- LogOk of the program (with its map) and of the reference. -/
import Derived.Test.YtmmepogjocfefaaGreatLogs
import Derived.Maps.OwnOps
import Derived.Maps.Views
namespace Go.Proofs.YtmmepogjocfefaaGreat
set_option linter.unusedVariables false
set_option linter.unusedSimpArgs false
open Go.RowKit Go.Maps Go.WideMaps

theorem strLaw : Keyed Tryz.prog 9 := string_keyed Tryz.underlying9
theorem zeroInt (w : World) : (zeroValue 3).run Tryz.prog w = .ok (.int .i64 0) w := by kernel_rfl
/-- the map reads as the counts of the first k entries -/
def Counts (l : List Ent) (k : Nat) (D : DataW Unit) : Prop :=
 Maps.IsMap D ∧ ∀ t : ByteArray, D.atKey (.string t.data.toList) (.lit (.int .i64 0)) = .lit (.int .i64 (cnt (l.take k) t : Nat))
theorem counts_0 (l : List Ent) : Counts l 0 (.map []) := ⟨Maps.isMap_empty, fun t => rfl⟩
theorem counts_succ {l : List Ent} {k : Nat} {D : DataW Unit} {e : Ent} (h : Counts l k D) (he : l[k]? = some e) : Counts l (k + 1) (D.put (.string e.topic.data.toList) (.lit (.int .i64 ((cnt (l.take k) e.topic : Nat) + 1)))) := by
 refine ⟨h.1.put _ _, fun t => ?_⟩
 by_cases ht : e.topic = t
 ·rw [← ht, Maps.atKey_put_same (k := .string e.topic.data.toList) h.1 (show WideAt.IsKeyLit (.string _) from trivial), cnt_yes he rfl]; rfl
 ·rw [Maps.atKey_put_other (fun e1 => ht (ByteArray.ext (Array.toList_inj.1 (Lit.string.inj e1).symm))), h.2 t, cnt_no he ht]
theorem ownsMap_below {w w' : World} {P : Program} {k : TypeId} {R : Value → Option (DataW Unit × List MemPlace)} {b n : Nat} {D : DataW Unit} (h : w.ownsMap P k R b n D) (hb : Below w.heap.size w w') : w'.ownsMap P k R b n D :=
 h.kept (row := none) ⟨hb.os, hb.tape, hb.output, hb.size, fun i hi _ => hb.block i hi⟩ (by simp)

set_option maxRecDepth 100000 in
set_option maxHeartbeats 400000 in
theorem implLogOk_c (A : Option Addr) (c lo hi n : Nat) (l : List Ent) (w : World) (hr : Rd w lo hi A (ents l)) (hn : l.length = n) (hl : n ≤ 1048576) (hf : ∀ x ∈ l, x.fits) :
  Calls Tryz.prog 117 #[.agg #[.slice A n c]] w fun e w' => e = .returned (.bool (logOk l)) ∧ Below w.heap.size w w' := by
 have HN := Lib.hid hn
 have HF := Lib.hid hf
 clear hn hf
 have hmm := @run_makeMap Tryz.prog
 go_enter Tryz.func117, Tryz.ntmps117
 rcases (show n ≤ 512 ∨ 512 < n by omega) with h5 | h5
 ·go_wp2
  go_loopw [14] (fun i wr => ∃ (k : Nat) (D : DataW Unit), k ≤ n ∧ i = .int .i64 k ∧ rightTo l k = true ∧ Counts l k D ∧ wr.ownsMap Tryz.prog 9 (plainElem Tryz.prog 3) (w.heap.size + 1) k D ∧ Below w.heap.size w wr) (fun i _ => n - (intOf i).toNat)
  case atStart => exact ⟨0, _, Nat.zero_le _, rfl, rfl, counts_0 l, by have := World.ownsMap_made (H := Unit) (w.alloc (.cells #[.slice A n c] 44)) Tryz.prog 9 (plainElem Tryz.prog 3); simpa using this, ((Below.refl _ _).alloc (Nat.le_refl _) _).alloc (by first | omega | (simp; done) | (simp; omega)) _⟩
  case round =>
   obtain ⟨k, D, hk, rfl, hrt, hct, hown, hb0⟩ := hrel
   have HRT := Lib.hid hrt
   have HCT := Lib.hid hct
   clear hrt hct
   by_cases hlt : k < n
   ·obtain ⟨b, off, x, rfl, _, _, hb, hks, hcell⟩ := (hr.below hb0).flat (f := Ent.cells) (m := 5) (fun _ => rfl) (by omega) (k := k) (by rw [HN.out]; exact hlt)
    have hc0 : wr.cell? ⟨b, off + k * 5, none⟩ = some (.string x.topic) := hcell 0 _ rfl
    have hc1 : wr.cell? ⟨b, off + k * 5 + 1, none⟩ = some (.int .i64 x.index) := hcell 1 _ rfl
    have hc2 : wr.cell? ⟨b, off + k * 5 + 2, none⟩ = some (.int .i64 x.time) := hcell 2 _ rfl
    have hc3 : wr.cell? ⟨b, off + k * 5 + 3, none⟩ = some (.string x.key) := hcell 3 _ rfl
    have hc4 : wr.cell? ⟨b, off + k * 5 + 4, none⟩ = some (.string x.body) := hcell 4 _ rfl
    have HK := Lib.hid hks
    have HB0 := Lib.hid hb0
    have HO := Lib.hid hown
    have HX := Lib.hid (HF.out x (List.mem_of_getElem? hks))
    have hle := cnt_take_le l x.topic k
    clear hcell hks hr hb0 hown
    go_wp2_with fail
    refine (implEntryOk_c x _ HX.out).mono ?_
    rintro e w2 ⟨rfl, hb2⟩
    have hd0 : w2.cell? ⟨wr.heap.size, 0, none⟩ = some (.string x.topic) := cell_later hb2 (by go_simp)
    have hd1 : w2.cell? ⟨wr.heap.size, 1, none⟩ = some (.int .i64 x.index) := cell_later hb2 (by go_simp)
    have hq2 : wr.heap.size < w2.heap.size := by have := hb2.size; simp at this; omega
    have HB2 : Hid (Below w.heap.size w w2) := below_then (HB0.out.alloc HB0.out.size _) hb2 (by have := HB0.out.size; simp; omega)
    have hown2 := ownsMap_below (HO.out.alloc _) hb2
    clear hb2 hc0 hc1 hc2 hc3 hc4
    rcases h1 : entryOk x with _ | _
    ·clear hown2
     go_wp2
     go_ret
     exact ⟨ret_bool (logOk_bad (by rw [HN.out]; exact hlt) (by rw [rightAt_eq HK.out, h1]; rfl)).symm, HB2.out⟩
    ·have H1 := Lib.hid h1
     clear h1
     obtain ⟨tp, htp⟩ : ∃ tp, tp = x.topic := ⟨_, rfl⟩
     have hkey : keyOf Tryz.prog 9 (.string x.topic) = some (.string x.topic.data.toList) := keyOf_string_mk Tryz.underlying9 HX.out.2.2.1
     obtain ⟨z, hrun, hat, hwz⟩ := hown2.lookup_int strLaw Tryz.underlying192 Tryz.underlying3 (zeroInt _) hkey
     have hzc : z = (cnt (l.take k) x.topic : Nat) := by
      have := (HCT.out.2 x.topic).symm.trans hat
      injection this with this
      injection this with _ this
      exact this.symm
     subst hzc
     have HAT := Lib.hid hat
     clear hat htp
     rcases (show ((cnt (l.take k) x.topic : Nat) : Int) = x.index ∨ ((cnt (l.take k) x.topic : Nat) : Int) ≠ x.index by omega) with h6 | h6
     ·have hbq : (x.index != ((cnt (l.take k) x.topic : Nat) : Int)) = false := by simp [h6]
      have HR1 : Hid (rightTo l (k + 1) = true) := by rw [Hid, rightTo_succ, HRT.out, rightAt_eq HK.out, H1.out]; simp [h6]
      have hc6 := counts_succ HCT.out HK.out
      rw [h6] at hc6
      have HC1 := Lib.hid hc6
      clear hc6
      have hub : x.index ≤ 512 := by omega
      have hlb : 0 ≤ x.index := by omega
      generalize hgz : cnt (l.take k) x.topic = y at *
      go_wp2_with (first
       | (at_mapUpdate; go_loud (refine wpList_mapUpdate_own _ rfl _ _ _ 192 rfl 9 3 strLaw Tryz.underlying192 _ (w.heap.size + 1) k _ rfl hown2 (by unfold maxLen; omega) _ _ _ rfl rfl hkey _ [] (plainElem_int Tryz.underlying3 (WalkArith.wf_i64 (by omega))) ?_))
       | go_in)
      intro w3 hown3 hgrow3
      have HB3 := Lib.hid (HB2.out.grown hgrow3 HB2.out.size (fun j hj => by cases hj; omega))
      clear hgrow3 hown2 hrun hkey
      go_wp2
      go_roundw
      case rel => exact ⟨k + 1, _, by omega, by go_num, HR1.out, HC1.out, hown3, HB3.out⟩
      case measure => simp [intOf]; omega
     ·have hbq : (x.index != ((cnt (l.take k) x.topic : Nat) : Int)) = true := by simp [bne_iff_ne]; omega
      generalize hgz : cnt (l.take k) x.topic = y at *
      clear hown2
      go_wp2
      go_ret
      exact ⟨ret_bool (logOk_bad (by rw [HN.out]; exact hlt) (by rw [rightAt_eq HK.out, H1.out, hgz]; simp [h6])).symm, HB2.out⟩
   ·obtain rfl : k = n := by omega
    have HB0 := Lib.hid hb0
    clear hb0 hr hown
    go_wp2
    go_ret
    exact ⟨ret_bool (by rw [logOk, HN.out, HRT.out]; simp [h5]), HB0.out⟩
 ·go_wp2
  go_ret
  exact ⟨ret_bool (logOk_big (by rw [HN.out]; exact h5)).symm, (Below.refl _ _).alloc (Nat.le_refl _) _⟩

set_option maxRecDepth 100000 in
set_option maxHeartbeats 400000 in
theorem specLogOk_c (A : Option Addr) (c lo hi n : Nat) (l : List Ent) (w : World) (hr : Rd w lo hi A (ents l)) (hn : l.length = n) (hl : n ≤ 1048576) (hcap : n ≤ c) (hf : ∀ x ∈ l, x.fits) :
  Calls Tryz.prog 62 #[.agg #[.slice A n c]] w fun e w' => e = .returned (.bool (logOk l)) ∧ Below w.heap.size w w' := by
 have HN := Lib.hid hn
 have HF := Lib.hid hf
 clear hn hf
 go_enter Tryz.func62, Tryz.ntmps62
 rcases (show n ≤ 512 ∨ 512 < n by omega) with h5 | h5
 ·go_wp2
  go_loopw [3] (fun i wr => ∃ (k : Nat), k ≤ n ∧ i = .int .i64 k ∧ rightTo l k = true ∧ Below (w.heap.size + 1) (w.alloc (.cells #[.slice A n c] 44)) wr) (fun i _ => n - (intOf i).toNat)
  case atStart => exact ⟨0, Nat.zero_le _, rfl, rfl, Below.refl _ _⟩
  case round =>
   obtain ⟨k, hk, rfl, hrt, hb0⟩ := hrel
   have HRT := Lib.hid hrt
   clear hrt
   have hx0 : wr.cell? ⟨w.heap.size, 0, none⟩ = some (.slice A n c) := (hb0.cell (p := ⟨w.heap.size, 0, none⟩) (by simp)).trans (by go_simp)
   have hz0 : w.heap.size < wr.heap.size := by have := hb0.size; simp at this; omega
   have HB0 : Hid (Below w.heap.size w wr) := ((Below.refl _ _).alloc (Nat.le_refl _) _).trans (hb0.mono (by omega))
   by_cases hlt : k < n
   ·obtain ⟨b, off, x, rfl, _, _, hb, hks, hcell⟩ := (hr.below HB0.out).flat (f := Ent.cells) (m := 5) (fun _ => rfl) (by omega) (k := k) (by rw [HN.out]; exact hlt)
    have hc0 : wr.cell? ⟨b, off + k * 5, none⟩ = some (.string x.topic) := hcell 0 _ rfl
    have hc1 : wr.cell? ⟨b, off + k * 5 + 1, none⟩ = some (.int .i64 x.index) := hcell 1 _ rfl
    have hc2 : wr.cell? ⟨b, off + k * 5 + 2, none⟩ = some (.int .i64 x.time) := hcell 2 _ rfl
    have hc3 : wr.cell? ⟨b, off + k * 5 + 3, none⟩ = some (.string x.key) := hcell 3 _ rfl
    have hc4 : wr.cell? ⟨b, off + k * 5 + 4, none⟩ = some (.string x.body) := hcell 4 _ rfl
    have HK := Lib.hid hks
    have HBR := Lib.hid hb0
    have HX := Lib.hid (HF.out x (List.mem_of_getElem? hks))
    have hle := cnt_take_le l x.topic k
    have HRD := Lib.hid ((hr.below HB0.out).entsTake k)
    clear hcell hks hr hb0
    have hI1 : (0 : Int) ≤ (k : Int) := by omega
    have hI2 : (k : Int) < (n : Int) := by omega
    have hI3 : (k : Int) ≤ (c : Int) := by omega
    generalize hW : wr.alloc (.cells #[.string x.topic, .int .i64 x.index, .int .i64 x.time, .string x.key, .string x.body] 79) = W2
    have hWB : Below wr.heap.size wr W2 := by rw [← hW]; exact (Below.refl _ _).alloc (Nat.le_refl _) _
    have hl0 : ∀ v : Later W2, v.v.cell? ⟨w.heap.size, 0, none⟩ = some (.slice (some ⟨b, off, none⟩) n c) := fun v => (later_cell v _ _ (Nat.lt_of_lt_of_le hz0 hWB.size)).trans ((hWB.cell (p := ⟨w.heap.size, 0, none⟩) hz0).trans hx0)
    have he0 : ∀ v : Later W2, v.v.cell? ⟨wr.heap.size, 0, none⟩ = some (.string x.topic) := fun v => (later_cell v _ _ (by rw [← hW]; simp)).trans (by rw [← hW]; clear hW; go_simp)
    have he1 : ∀ v : Later W2, v.v.cell? ⟨wr.heap.size, 1, none⟩ = some (.int .i64 x.index) := fun v => (later_cell v _ _ (by rw [← hW]; simp)).trans (by rw [← hW]; clear hW; go_simp)
    have he2 : ∀ v : Later W2, v.v.cell? ⟨wr.heap.size, 2, none⟩ = some (.int .i64 x.time) := fun v => (later_cell v _ _ (by rw [← hW]; simp)).trans (by rw [← hW]; clear hW; go_simp)
    have he3 : ∀ v : Later W2, v.v.cell? ⟨wr.heap.size, 3, none⟩ = some (.string x.key) := fun v => (later_cell v _ _ (by rw [← hW]; simp)).trans (by rw [← hW]; clear hW; go_simp)
    have he4 : ∀ v : Later W2, v.v.cell? ⟨wr.heap.size, 4, none⟩ = some (.string x.body) := fun v => (later_cell v _ _ (by rw [← hW]; simp)).trans (by rw [← hW]; clear hW; go_simp)
    have HW := Lib.hid hW
    have HWB := Lib.hid hWB
    have hkl : (l.take k).length = k := by rw [List.length_take, HN.out]; omega
    have HC : ∀ (v : Later W2) (c' : Nat), Hid (Calls Tryz.prog 105 #[.slice (some ⟨b, off, none⟩) k c', .string x.topic] v.v fun e w' => e = .returned (.int .i64 (cnt (l.take k) x.topic : Nat)) ∧ v.v = w') :=
     fun v c' => l09Count_c _ c' _ _ k _ _ _ ((HRD.out.below HWB.out).below v.h) hkl (by omega)
    have HKL := Lib.hid hkl
    clear hW hWB hkl
    rcases h1 : entryOk x with _ | _
    ·have H1 := Lib.hid h1
     clear h1
     go_wp2_with fail
     rw [HW.out]
     refine wp_region_later (by kernel_rfl) (by kernel_rfl) ?_
     repeat (go_big_quiet_step ((exact later_vcall (specEntryOk_c x _ HX.out) (bool_v H1.out))))
     refine wpQuiet_nil ?_
     intro w2 h0
     have HB2 := Lib.hid (later_below h0)
     clear hl0 he0 he1 he2 he3 he4 h0 HC
     go_wp2
     go_ret
     exact ⟨ret_bool (logOk_bad (by rw [HN.out]; exact hlt) (by rw [rightAt_eq HK.out, H1.out]; rfl)).symm, below_then HB0.out (HWB.out.trans (HB2.out.mono HWB.out.size)) HB0.out.size⟩
    ·have H1 := Lib.hid h1
     clear h1
     rcases (show ((cnt (l.take k) x.topic : Nat) : Int) = x.index ∨ ((cnt (l.take k) x.topic : Nat) : Int) ≠ x.index by omega) with h6 | h6
     ·have HR1 : Hid (rightTo l (k + 1) = true) := by rw [Hid, rightTo_succ, HRT.out, rightAt_eq HK.out, H1.out]; simp [h6]
      have hbq : (((cnt (l.take k) x.topic : Nat) : Int) != x.index) = false := by simp [h6]
      go_wp2_with fail
      rw [HW.out]
      refine wp_region_later (by kernel_rfl) (by kernel_rfl) ?_
      repeat (go_big_quiet_step ((first | exact later_vcall (specEntryOk_c x _ HX.out) (bool_v H1.out) | exact later_pure (HC _ _).out)))
      refine wpQuiet_nil ?_
      intro w2 h0
      have HB2 := Lib.hid (later_below h0)
      clear hl0 he0 he1 he2 he3 he4 h0 HC
      go_wp2
      go_roundw
      case rel => exact ⟨k + 1, by omega, by go_num, HR1.out, (HBR.out.trans (HWB.out.mono (by omega))).trans (HB2.out.mono (by have := HWB.out.size; omega))⟩
      case measure => simp [intOf]; omega
     ·have hbq : (((cnt (l.take k) x.topic : Nat) : Int) != x.index) = true := by rw [bne_iff_ne]; exact h6
      go_wp2_with fail
      rw [HW.out]
      refine wp_region_later (by kernel_rfl) (by kernel_rfl) ?_
      repeat (go_big_quiet_step ((first | exact later_vcall (specEntryOk_c x _ HX.out) (bool_v H1.out) | exact later_pure (HC _ _).out)))
      refine wpQuiet_nil ?_
      intro w2 h0
      have HB2 := Lib.hid (later_below h0)
      clear hl0 he0 he1 he2 he3 he4 h0 HC
      go_wp2
      go_ret
      exact ⟨ret_bool (logOk_bad (by rw [HN.out]; exact hlt) (by rw [rightAt_eq HK.out, H1.out]; simp [h6])).symm, below_then HB0.out (HWB.out.trans (HB2.out.mono HWB.out.size)) HB0.out.size⟩
   ·obtain rfl : k = n := by omega
    clear hb0 hr
    go_wp2
    go_ret
    exact ⟨ret_bool (by rw [logOk, HN.out, HRT.out]; simp [h5]), HB0.out⟩
 ·go_wp2
  go_ret
  exact ⟨ret_bool (logOk_big (by rw [HN.out]; exact h5)).symm, (Below.refl _ _).alloc (Nat.le_refl _) _⟩
end Go.Proofs.YtmmepogjocfefaaGreat
