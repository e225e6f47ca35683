/- Part 24 of the proof of FnDeeds: lemmas and contracts. -/
import Derived.Test.YtoccjgcokffkbaaGreatTd20
import Derived.Deep.RegionLaw
namespace Go.Proofs.YtoccjgcokffkbaaGreat
set_option linter.unusedVariables false
set_option linter.unusedSimpArgs false
set_option maxHeartbeats 20000000
section
open Go.RowKit
set_option maxRecDepth 100000 in
theorem l12File_c (width z1 z2 : Int) (E R H A1 A2 : Option Addr) (ne nr nh ce cr ch c1 c2 lo1 hi1 lo2 hi2 lo3 hi3 m1 m2 : Nat) (es : List Ent) (rs : List Rcp) (hs : List Hd) (h : Hd) (f : Nat) (w : World)
  (hE : Rd w lo1 hi1 E (aR es)) (hR : Rd w lo2 hi2 R (bf rs)) (hH : Rd w lo3 hi3 H (hds hs)) (hne : es.length = ne) (hnr : rs.length = nr) (hnh : hs.length = nh) (b1 : ne ≤ 1000) (b2 : nr ≤ 1000) (b3 : nh ≤ 1000) (hpos : 1 ≤ nh) (hch : nh ≤ ch) (hfe : ∀ x ∈ es, x.fits) (hfr : ∀ x ∈ rs, x.fits) (hfh : ∀ x ∈ hs, x.bulk ≤ 1048576) (hf2 : f ≤ 2) :
  Calls Tryz.prog 162 #[.agg #[.int .i64 width, .slice E ne ce, .slice R nr cr, .slice H nh ch, .int .i64 z1, .slice A1 m1 c1, .int .i64 z2, .slice A2 m2 c2, .int .i64 h.num, .int .i64 h.size, .string h.root, .int .i64 h.taken, .string h.troot], .int .i64 f] w fun e w' => e = .returned (.string (dB (bB width es rs hs f))) ∧ Below w.heap.size w w' := by
 have hfl := fileL_le (width := width) (es := es) (rs := rs) (hs := hs) (by omega) (by omega) (by omega)
 have HF0 := lH hfe
 have HF2 := lH hfr
 have HF1 := lH hfh
 have HN0 := lH hne
 have HN1 := lH hnh
 have HN2 := lH hnr
 have HE0 := lH hE.base
 have HR0 := lH hR.base
 have HH0 := lH hH.base
 obtain ⟨nh1, hnh1, hnh2⟩ : ∃ n, n + 1 ≤ nh ∧ nh ≤ n + 1 := ⟨nh - 1, by omega, by omega⟩
 have hnx : nh - 1 = nh1 := by omega
 obtain rfl | rfl | rfl : f = 0 ∨ f = 1 ∨ f = 2 := by omega
 ·skip
  have hLd : bB width es rs hs 0 = es.map aJ := rfl
  have hLl : (bB width es rs hs 0).length = ne := by rw [hLd, List.length_map, hne]
  have HFR := lH (fun W A c (r : Rd W 0 W.heap.size A (strs (bB width es rs hs 0))) => specFrames_c A c 0 W.heap.size ne (bB width es rs hs 0) W r hLl (by have := hfl 0; omega))
  generalize bB width es rs hs 0 = L at *
  have HLD := lH hLd
  have HLL := lH hLl
  have HB : Hid (Below w.heap.size w w) := Below.refl _ _
  clear hE hR hH hne hnr hnh hch hfe hfr hfh hfl hLd hLl hnx
  change Calls Tryz.prog 162 #[.agg #[.int .i64 width, .slice E ne ce, .slice R nr cr, .slice H nh ch, .int .i64 z1, .slice A1 m1 c1, .int .i64 z2, .slice A2 m2 c2, .int .i64 h.num, .int .i64 h.size, .string h.root, .int .i64 h.taken, .string h.troot], .int .i64 0] w _
  go_enter Tryz.func162, Tryz.ntmps162
  go_wp2
  refine aD (fun w1 hw => ?_)
  have hz1 : w.heap.size + 2 ≤ w1.heap.size := zA
  have hbn : Below w.heap.size w w1 := zB
  replace HB := bT HB hbn; clear hbn
  have HXb : Hid (aa w1 (w.heap.size) [.int .i64 width, .slice E ne ce, .slice R nr cr, .slice H nh ch, .int .i64 z1, .slice A1 m1 c1, .int .i64 z2, .slice A2 m2 c2, .int .i64 h.num, .int .i64 h.size, .string h.root, .int .i64 h.taken, .string h.troot]) := zG13
  obtain ⟨hkb, hxb, hfb⟩ := HXb.out
  have HXe1 : Hid (aa w1 (w.heap.size + 1) []) := zG0
  obtain ⟨hke1, hxe1, hfe1⟩ := HXe1.out
  have HROW : Hid (aT w1 (w.heap.size + 1) w1.heap.size (.slice (some ⟨w.heap.size + 1, 0, none⟩) 0 0, 0) (strs (L.take 0))) := by
   rw [Hid, hw]; exact aT.of (by simpa [strs] using dL (w.alloc _) 9 0)
  clear hw
  go_loopw [5, 6] (fun v i wr => ∃ (k : Nat) (X : Option Addr) (g : Nat), k ≤ ne ∧ i = .int .i64 k ∧ v = .slice X k g ∧ aa wr ((w.heap.size)) [.int .i64 width, .slice E ne ce, .slice R nr cr, .slice H nh ch, .int .i64 z1, .slice A1 m1 c1, .int .i64 z2, .slice A2 m2 c2, .int .i64 h.num, .int .i64 h.size, .string h.root, .int .i64 h.taken, .string h.troot] ∧ aT wr (w.heap.size + 1) wr.heap.size (.slice X k g, k) (strs (L.take k)) ∧ Below w.heap.size w wr ∧ w1.heap.size ≤ wr.heap.size) (fun _ i _ => nh + ne - (intOf i).toNat)
  case atStart => exact ⟨0, _, 0, Nat.zero_le _, rfl, rfl, HXb.out, HROW.out, HB.out, Nat.le_refl _⟩
  case round =>
   obtain ⟨k, X, g, hk, rfl, rfl, hbb, hrw, hbl, hzl⟩ := hrel
   have HBL := lH hbl
   replace HB : Hid (Below w.heap.size w wr) := HBL.out
   replace HXb : Hid (aa wr (w.heap.size) [.int .i64 width, .slice E ne ce, .slice R nr cr, .slice H nh ch, .int .i64 z1, .slice A1 m1 c1, .int .i64 z2, .slice A2 m2 c2, .int .i64 h.num, .int .i64 h.size, .string h.root, .int .i64 h.taken, .string h.troot]) := hbb
   clear hxb hfb hkb; obtain ⟨hkb, hxb, hfb⟩ := HXb.out
   have HOA : Hid (aT wr (w.heap.size + 1) (wr.heap.size) (.slice X k g, k) (strs (L.take k))) := lH hrw
   have HOE := lH (HE0.out.below HBL.out)
   clear hxe1 hfe1 hke1 HXe1
   have hzz_wr : w.heap.size ≤ wr.heap.size := HB.out.size
   clear hbb hrw hbl HROW
   by_cases hlt : k < ne
   ·skip
    obtain ⟨b2, off, x, hEe, hb2, hks, hcs⟩ := ent_cells HOE.out (k := k) (by rw [HN0.out]; omega)
    have c0' := hcs.1
    have c1' := hcs.2.1
    have c2' := hcs.2.2.1
    have c3' := hcs.2.2.2.1
    have c4' := hcs.2.2.2.2
    have hix := idxEnt E b2 off ne ce k hEe (by omega)
    have HT : Hid (L.take (k + 1) = L.take k ++ [aJ x]) := lH (bI (by rw [HLD.out, List.getElem?_map, hks]; rfl))
    have HX := lH (fun W => specLeafText_c x W (HF0.out x (List.mem_of_getElem? hks)))
    have hI : (k : Int) < ne := by omega
    clear hks hcs hEe; generalize aJ x = lt at *; generalize aV x = lk at *; clear HOE
    go_wp2_with fail
    refine af (fun w2 hw => ?_)
    have hz2 : wr.heap.size + 0 ≤ w2.heap.size := zA
    have hbn : Below wr.heap.size wr w2 := zB
    replace HB := bT HB hbn; replace HOA := lH (HOA.out.below hbn); replace HXb := nB HXb hbn; clear hxb hfb hkb; obtain ⟨hkb, hxb, hfb⟩ := HXb.out; clear hbn; clear hw
    refine (HX.out _).mono ?_
    rintro e w3 ⟨rfl, hb⟩
    have hzw3 : w2.heap.size ≤ w3.heap.size := hb.size
    replace HB := bT HB hb; replace HOA := lH (HOA.out.below hb); replace HXb := nB HXb hb; clear hxb hfb hkb; obtain ⟨hkb, hxb, hfb⟩ := HXb.out; clear hb; clear c0' c1' c2' c3' c4' hix
    go_wp2_with (at_builtin; refine fQ rfl _ _ rfl (w.heap.size + 1) _ _ _ rfl (HOA.out.1.alloc _) w3.heap.size lt rfl (aa.new w3 _ _) (by omega) (by first | omega | (simp; done) | (simp; omega)) ?_)
    intro v2 w2_ hown2 hg2
    obtain ⟨hrb, hon⟩ := rowB_app HOA.out.1 _ hown2 hg2
    obtain ⟨A9, g9, rfl, _, _, _⟩ := ay hown2
    rw [← dU, ← HT.out] at hrb
    have hzw2_ : w3.heap.size ≤ w2_.heap.size := hon.size
    replace HB := lH (au HB.out hon (by omega) HB.out.size)
    replace HXb := lH (HXb.out.only hon (by first | omega | (simp; omega)))
    clear hxb hfb hkb; obtain ⟨hkb, hxb, hfb⟩ := HXb.out; clear HOA
    have HOA : Hid (aT w2_ (w.heap.size + 1) (w2_.heap.size) (.slice A9 (k + 1) g9, k + 1) (strs (L.take (k + 1)))) := lH hrb
    clear hown2 hg2 hrb hon; go_wp2
    go_roundw
    case rel => exact ⟨k + 1, A9, g9, by omega, by go_num, rfl, HXb.out, HOA.out, HB.out, by omega⟩
    case measure => simp [intOf]; omega
   obtain rfl : ne = k := by omega
   have HXX := lH HOA.out
   rw [show L.take ne = L from List.take_of_length_le (by rw [HLL.out]; exact Nat.le_refl _)] at HXX
   clear HOA; clear HOE
   have HOA : Hid (aT wr (w.heap.size + 1) (wr.heap.size) (.slice X ne g, ne) (strs L)) := HXX
   clear HXX; go_wp2
   all_goals rcases Nat.lt_or_ge 1 nh with hz1 | hz1
   all_goals
    first | have hd1 : decide ((1 : Int) < (nh : Int)) = true := decide_eq_true (by omega) | have hd1 : decide ((1 : Int) < (nh : Int)) = false := decide_eq_false (by omega)
    refine wp_loop_once ?_
    go_wp2; clear hd1 hz1
   all_goals rcases Nat.lt_or_ge 0 nr with hz2 | hz2
   all_goals
    first | have hd2 : decide ((0 : Int) < (nr : Int)) = true := decide_eq_true (by omega) | have hd2 : decide ((0 : Int) < (nr : Int)) = false := decide_eq_false (by omega)
    refine wp_loop_once ?_
    go_wp2_with fail
    clear hd2 hz2
   all_goals
    refine af (fun w2 hw => ?_)
    have hz2 : wr.heap.size + 0 ≤ w2.heap.size := zA
    have hbn : Below wr.heap.size wr w2 := zB
    replace HB := bT HB hbn; replace HOA := lH (HOA.out.below hbn); replace HXb := nB HXb hbn; clear hxb hfb hkb; obtain ⟨hkb, hxb, hfb⟩ := HXb.out; clear hbn; clear hw
    refine (HFR.out _ _ _ (HOA.out.ownB rfl (by omega) (by omega)).rd.base).mono ?_
    rintro e w3 ⟨rfl, hb⟩
    have hzw3 : w2.heap.size ≤ w3.heap.size := hb.size
    replace HB := bT HB hb; replace HOA := lH (HOA.out.below hb); replace HXb := nB HXb hb; clear hxb hfb hkb; obtain ⟨hkb, hxb, hfb⟩ := HXb.out; clear hb; go_wp2
    go_ret
    exact ⟨rfl, HB.out⟩
 ·skip
  have hLd : bB width es rs hs 1 = (hs.drop 1).map (aL width) := rfl
  have hLl : (bB width es rs hs 1).length = nh1 := by rw [hLd, List.length_map, List.length_drop, hnh]; exact hnx
  have HFR := lH (fun W A c (r : Rd W 0 W.heap.size A (strs (bB width es rs hs 1))) => specFrames_c A c 0 W.heap.size nh1 (bB width es rs hs 1) W r hLl (by have := hfl 1; omega))
  generalize bB width es rs hs 1 = L at *
  have HLD := lH hLd
  have HLL := lH hLl
  have HB : Hid (Below w.heap.size w w) := Below.refl _ _
  clear hE hR hH hne hnr hnh hch hfe hfr hfh hfl hLd hLl hnx
  change Calls Tryz.prog 162 #[.agg #[.int .i64 width, .slice E ne ce, .slice R nr cr, .slice H nh ch, .int .i64 z1, .slice A1 m1 c1, .int .i64 z2, .slice A2 m2 c2, .int .i64 h.num, .int .i64 h.size, .string h.root, .int .i64 h.taken, .string h.troot], .int .i64 1] w _
  go_enter Tryz.func162, Tryz.ntmps162
  go_wp2
  refine aD (fun w1 hw => ?_)
  have hz1 : w.heap.size + 2 ≤ w1.heap.size := zA
  have hbn : Below w.heap.size w w1 := zB
  replace HB := bT HB hbn; clear hbn
  have HXb : Hid (aa w1 (w.heap.size) [.int .i64 width, .slice E ne ce, .slice R nr cr, .slice H nh ch, .int .i64 z1, .slice A1 m1 c1, .int .i64 z2, .slice A2 m2 c2, .int .i64 h.num, .int .i64 h.size, .string h.root, .int .i64 h.taken, .string h.troot]) := zG13
  obtain ⟨hkb, hxb, hfb⟩ := HXb.out
  have HXe1 : Hid (aa w1 (w.heap.size + 1) []) := zG0
  obtain ⟨hke1, hxe1, hfe1⟩ := HXe1.out
  have HROW : Hid (aT w1 (w.heap.size + 1) w1.heap.size (.slice (some ⟨w.heap.size + 1, 0, none⟩) 0 0, 0) (strs (L.take 0))) := by
   rw [Hid, hw]; exact aT.of (by simpa [strs] using dL (w.alloc _) 9 0)
  clear hw
  all_goals rcases Nat.lt_or_ge 0 ne with hz0 | hz0
  all_goals
   first | have hd0 : decide ((0 : Int) < (ne : Int)) = true := decide_eq_true (by omega) | have hd0 : decide ((0 : Int) < (ne : Int)) = false := decide_eq_false (by omega)
   refine wp_loop_once ?_
   go_wp2; clear hd0 hz0
  all_goals
   go_loopw [5, 9] (fun v i wr => ∃ (k : Nat) (q : Nat) (X : Option Addr) (g : Nat), k ≤ nh1 ∧ k + 1 ≤ q ∧ q ≤ k + 1 ∧ i = .int .i64 q ∧ v = .slice X k g ∧ aa wr ((w.heap.size)) [.int .i64 width, .slice E ne ce, .slice R nr cr, .slice H nh ch, .int .i64 z1, .slice A1 m1 c1, .int .i64 z2, .slice A2 m2 c2, .int .i64 h.num, .int .i64 h.size, .string h.root, .int .i64 h.taken, .string h.troot] ∧ aT wr (w.heap.size + 1) wr.heap.size (.slice X k g, k) (strs (L.take k)) ∧ Below w.heap.size w wr ∧ w1.heap.size ≤ wr.heap.size) (fun _ i _ => nh + nh1 - (intOf i).toNat)
   case atStart => exact ⟨0, 1, _, 0, Nat.zero_le _, Nat.le_refl _, Nat.le_refl _, rfl, rfl, HXb.out, HROW.out, HB.out, Nat.le_refl _⟩
   case round =>
    obtain ⟨k, q, X, g, hk, hq1, hq2, rfl, rfl, hbb, hrw, hbl, hzl⟩ := hrel
    have HBL := lH hbl
    replace HB : Hid (Below w.heap.size w wr) := HBL.out
    replace HXb : Hid (aa wr (w.heap.size) [.int .i64 width, .slice E ne ce, .slice R nr cr, .slice H nh ch, .int .i64 z1, .slice A1 m1 c1, .int .i64 z2, .slice A2 m2 c2, .int .i64 h.num, .int .i64 h.size, .string h.root, .int .i64 h.taken, .string h.troot]) := hbb
    clear hxb hfb hkb; obtain ⟨hkb, hxb, hfb⟩ := HXb.out
    have HOA : Hid (aT wr (w.heap.size + 1) (wr.heap.size) (.slice X k g, k) (strs (L.take k))) := lH hrw
    have HOH := lH (HH0.out.below HBL.out)
    clear hxe1 hfe1 hke1 HXe1
    have hzz_wr : w.heap.size ≤ wr.heap.size := HB.out.size
    clear hbb hrw hbl HROW
    by_cases hlt : k < nh1
    ·skip
     obtain ⟨b2, off, x, hHe, hb2, hks, hcs⟩ := hd_cells HOH.out (k := q) (by rw [HN1.out]; omega)
     have c0' := hcs.1
     have c1' := hcs.2.1
     have c2' := hcs.2.2.1
     have c3' := hcs.2.2.2.1
     have c4' := hcs.2.2.2.2
     have hix := idxHd H b2 off nh ch q hHe (by omega)
     have HT : Hid (L.take (k + 1) = L.take k ++ [aL width x]) := lH (bI (by rw [HLD.out, List.getElem?_map, List.getElem?_drop, show 1 + k = q by omega, hks]; rfl))
     have HX := lH (fun W => specHeadText_c width x W (HF1.out x (List.mem_of_getElem? hks)))
     have hI : (q : Int) < nh := by omega
     clear hks hcs hHe; generalize aL width x = lt at *; generalize bu width x = lk at *; clear HOH
     go_wp2_with fail
     have lb : ∀ v : Later wr, v.v.cell? ⟨w.heap.size, 0, none⟩ = some (.int .i64 width) := fun v => (ag v _ _ hkb).trans (hxb 0)
     have lb3 : ∀ v : Later wr, v.v.cell? ⟨w.heap.size, 3, none⟩ = some (.slice H nh ch) := fun v => (ag v _ _ hkb).trans (hxb 3)
     have le0 : ∀ v : Later wr, v.v.cell? ⟨b2, off + q * 5, none⟩ = some (.int .i64 x.num) := fun v => (ag v _ _ hb2).trans c0'
     have le1 : ∀ v : Later wr, v.v.cell? ⟨b2, off + q * 5 + 1, none⟩ = some (.int .i64 x.size) := fun v => (ag v _ _ hb2).trans c1'
     have le2 : ∀ v : Later wr, v.v.cell? ⟨b2, off + q * 5 + 2, none⟩ = some (.string x.root) := fun v => (ag v _ _ hb2).trans c2'
     have le3 : ∀ v : Later wr, v.v.cell? ⟨b2, off + q * 5 + 3, none⟩ = some (.int .i64 x.taken) := fun v => (ag v _ _ hb2).trans c3'
     have le4 : ∀ v : Later wr, v.v.cell? ⟨b2, off + q * 5 + 4, none⟩ = some (.string x.troot) := fun v => (ag v _ _ hb2).trans c4'
     refine aA (by kernel_rfl) (by kernel_rfl) ?_
     repeat (go_big_quiet_step ((first | with_reducible exact aC (HX.out _))))
     refine wpQuiet_nil ?_
     intro w9 h9
     have hb9 := aP h9
     clear lb lb3 le0 le1 le2 le3 le4 h9
     have hzw9 : wr.heap.size ≤ w9.heap.size := hb9.size
     replace HB := bT HB hb9; replace HOA := lH (HOA.out.below hb9); replace HXb := nB HXb hb9; clear hxb hfb hkb; obtain ⟨hkb, hxb, hfb⟩ := HXb.out; clear hb9; clear c0' c1' c2' c3' c4' hix
     go_wp2_with (at_builtin; refine fQ rfl _ _ rfl (w.heap.size + 1) _ _ _ rfl (HOA.out.1.alloc _) w9.heap.size lt rfl (aa.new w9 _ _) (by omega) (by first | omega | (simp; done) | (simp; omega)) ?_)
     intro v2 w2_ hown2 hg2
     obtain ⟨hrb, hon⟩ := rowB_app HOA.out.1 _ hown2 hg2
     obtain ⟨A9, g9, rfl, _, _, _⟩ := ay hown2
     rw [← dU, ← HT.out] at hrb
     have hzw2_ : w9.heap.size ≤ w2_.heap.size := hon.size
     replace HB := lH (au HB.out hon (by omega) HB.out.size)
     replace HXb := lH (HXb.out.only hon (by first | omega | (simp; omega)))
     clear hxb hfb hkb; obtain ⟨hkb, hxb, hfb⟩ := HXb.out; clear HOA
     have HOA : Hid (aT w2_ (w.heap.size + 1) (w2_.heap.size) (.slice A9 (k + 1) g9, k + 1) (strs (L.take (k + 1)))) := lH hrb
     clear hown2 hg2 hrb hon; go_wp2
     go_roundw
     case rel => exact ⟨k + 1, q + 1, A9, g9, by omega, by omega, by omega, by go_num, rfl, HXb.out, HOA.out, HB.out, by omega⟩
     case measure => simp [intOf]; omega
    obtain rfl : nh1 = k := by omega
    have HXX := lH HOA.out
    rw [show L.take nh1 = L from List.take_of_length_le (by rw [HLL.out]; exact Nat.le_refl _)] at HXX
    clear HOA; clear HOH
    have HOA : Hid (aT wr (w.heap.size + 1) (wr.heap.size) (.slice X nh1 g, nh1) (strs L)) := HXX
    clear HXX; go_wp2
    all_goals rcases Nat.lt_or_ge 0 nr with hz2 | hz2
    all_goals
     first | have hd2 : decide ((0 : Int) < (nr : Int)) = true := decide_eq_true (by omega) | have hd2 : decide ((0 : Int) < (nr : Int)) = false := decide_eq_false (by omega)
     refine wp_loop_once ?_
     go_wp2_with fail
     clear hd2 hz2
    all_goals
     refine af (fun w2 hw => ?_)
     have hz2 : wr.heap.size + 0 ≤ w2.heap.size := zA
     have hbn : Below wr.heap.size wr w2 := zB
     replace HB := bT HB hbn; replace HOA := lH (HOA.out.below hbn); replace HXb := nB HXb hbn; clear hxb hfb hkb; obtain ⟨hkb, hxb, hfb⟩ := HXb.out; clear hbn; clear hw
     refine (HFR.out _ _ _ (HOA.out.ownB rfl (by omega) (by omega)).rd.base).mono ?_
     rintro e w3 ⟨rfl, hb⟩
     have hzw3 : w2.heap.size ≤ w3.heap.size := hb.size
     replace HB := bT HB hb; replace HOA := lH (HOA.out.below hb); replace HXb := nB HXb hb; clear hxb hfb hkb; obtain ⟨hkb, hxb, hfb⟩ := HXb.out; clear hb; go_wp2
     go_ret
     exact ⟨rfl, HB.out⟩
 have hLd : bB width es rs hs 2 = rs.map aK := rfl
 have hLl : (bB width es rs hs 2).length = nr := by rw [hLd, List.length_map, hnr]
 have HFR := lH (fun W A c (r : Rd W 0 W.heap.size A (strs (bB width es rs hs 2))) => specFrames_c A c 0 W.heap.size nr (bB width es rs hs 2) W r hLl (by have := hfl 2; omega))
 generalize bB width es rs hs 2 = L at *
 have HLD := lH hLd
 have HLL := lH hLl
 have HB : Hid (Below w.heap.size w w) := Below.refl _ _
 clear hE hR hH hne hnr hnh hch hfe hfr hfh hfl hLd hLl hnx
 change Calls Tryz.prog 162 #[.agg #[.int .i64 width, .slice E ne ce, .slice R nr cr, .slice H nh ch, .int .i64 z1, .slice A1 m1 c1, .int .i64 z2, .slice A2 m2 c2, .int .i64 h.num, .int .i64 h.size, .string h.root, .int .i64 h.taken, .string h.troot], .int .i64 2] w _
 go_enter Tryz.func162, Tryz.ntmps162
 go_wp2
 refine aD (fun w1 hw => ?_)
 have hz1 : w.heap.size + 2 ≤ w1.heap.size := zA
 have hbn : Below w.heap.size w w1 := zB
 replace HB := bT HB hbn
 clear hbn
 have HXb : Hid (aa w1 (w.heap.size) [.int .i64 width, .slice E ne ce, .slice R nr cr, .slice H nh ch, .int .i64 z1, .slice A1 m1 c1, .int .i64 z2, .slice A2 m2 c2, .int .i64 h.num, .int .i64 h.size, .string h.root, .int .i64 h.taken, .string h.troot]) := zG13
 obtain ⟨hkb, hxb, hfb⟩ := HXb.out
 have HXe1 : Hid (aa w1 (w.heap.size + 1) []) := zG0
 obtain ⟨hke1, hxe1, hfe1⟩ := HXe1.out
 have HROW : Hid (aT w1 (w.heap.size + 1) w1.heap.size (.slice (some ⟨w.heap.size + 1, 0, none⟩) 0 0, 0) (strs (L.take 0))) := by
  rw [Hid, hw]; exact aT.of (by simpa [strs] using dL (w.alloc _) 9 0)
 clear hw
 all_goals rcases Nat.lt_or_ge 0 ne with hz0 | hz0
 all_goals
  first | have hd0 : decide ((0 : Int) < (ne : Int)) = true := decide_eq_true (by omega) | have hd0 : decide ((0 : Int) < (ne : Int)) = false := decide_eq_false (by omega)
  refine wp_loop_once ?_
  go_wp2; clear hd0 hz0
 all_goals rcases Nat.lt_or_ge 1 nh with hz1 | hz1
 all_goals
  first | have hd1 : decide ((1 : Int) < (nh : Int)) = true := decide_eq_true (by omega) | have hd1 : decide ((1 : Int) < (nh : Int)) = false := decide_eq_false (by omega)
  refine wp_loop_once ?_
  go_wp2; clear hd1 hz1
 all_goals
  go_loopw [5, 12] (fun v i wr => ∃ (k : Nat) (X : Option Addr) (g : Nat), k ≤ nr ∧ i = .int .i64 k ∧ v = .slice X k g ∧ aa wr ((w.heap.size)) [.int .i64 width, .slice E ne ce, .slice R nr cr, .slice H nh ch, .int .i64 z1, .slice A1 m1 c1, .int .i64 z2, .slice A2 m2 c2, .int .i64 h.num, .int .i64 h.size, .string h.root, .int .i64 h.taken, .string h.troot] ∧ aT wr (w.heap.size + 1) wr.heap.size (.slice X k g, k) (strs (L.take k)) ∧ Below w.heap.size w wr ∧ w1.heap.size ≤ wr.heap.size) (fun _ i _ => nh + nr - (intOf i).toNat)
  case atStart => exact ⟨0, _, 0, Nat.zero_le _, rfl, rfl, HXb.out, HROW.out, HB.out, Nat.le_refl _⟩
  case round =>
   obtain ⟨k, X, g, hk, rfl, rfl, hbb, hrw, hbl, hzl⟩ := hrel
   have HBL := lH hbl
   replace HB : Hid (Below w.heap.size w wr) := HBL.out
   replace HXb : Hid (aa wr (w.heap.size) [.int .i64 width, .slice E ne ce, .slice R nr cr, .slice H nh ch, .int .i64 z1, .slice A1 m1 c1, .int .i64 z2, .slice A2 m2 c2, .int .i64 h.num, .int .i64 h.size, .string h.root, .int .i64 h.taken, .string h.troot]) := hbb
   clear hxb hfb hkb; obtain ⟨hkb, hxb, hfb⟩ := HXb.out
   have HOA : Hid (aT wr (w.heap.size + 1) (wr.heap.size) (.slice X k g, k) (strs (L.take k))) := lH hrw
   have HOR := lH (HR0.out.below HBL.out)
   clear hxe1 hfe1 hke1 HXe1
   have hzz_wr : w.heap.size ≤ wr.heap.size := HB.out.size
   clear hbb hrw hbl HROW
   by_cases hlt : k < nr
   ·skip
    obtain ⟨b2, off, x, hRe, hb2, hks, hcs⟩ := gm HOR.out (k := k) (by rw [HN2.out]; omega)
    have c0' := hcs.1
    have c1' := hcs.2.1
    have c2' := hcs.2.2
    have hix := idxRcp R b2 off nr cr k hRe (by omega)
    have HT : Hid (L.take (k + 1) = L.take k ++ [aK x]) := lH (bI (by rw [HLD.out, List.getElem?_map, hks]; rfl))
    have HX := lH (fun W => gD x W (HF2.out x (List.mem_of_getElem? hks)))
    have hI : (k : Int) < nr := by omega
    clear hks hcs hRe; generalize aK x = lt at *; generalize bX x = lk at *; clear HOR
    go_wp2_with fail
    refine af (fun w2 hw => ?_)
    have hz2 : wr.heap.size + 0 ≤ w2.heap.size := zA
    have hbn : Below wr.heap.size wr w2 := zB
    replace HB := bT HB hbn; replace HOA := lH (HOA.out.below hbn); replace HXb := nB HXb hbn; clear hxb hfb hkb; obtain ⟨hkb, hxb, hfb⟩ := HXb.out; clear hbn; clear hw
    refine (HX.out _).mono ?_
    rintro e w3 ⟨rfl, hb⟩
    have hzw3 : w2.heap.size ≤ w3.heap.size := hb.size
    replace HB := bT HB hb; replace HOA := lH (HOA.out.below hb); replace HXb := nB HXb hb; clear hxb hfb hkb; obtain ⟨hkb, hxb, hfb⟩ := HXb.out; clear hb; clear c0' c1' c2' hix
    go_wp2_with (at_builtin; refine fQ rfl _ _ rfl (w.heap.size + 1) _ _ _ rfl (HOA.out.1.alloc _) w3.heap.size lt rfl (aa.new w3 _ _) (by omega) (by first | omega | (simp; done) | (simp; omega)) ?_)
    intro v2 w2_ hown2 hg2
    obtain ⟨hrb, hon⟩ := rowB_app HOA.out.1 _ hown2 hg2
    obtain ⟨A9, g9, rfl, _, _, _⟩ := ay hown2
    rw [← dU, ← HT.out] at hrb
    have hzw2_ : w3.heap.size ≤ w2_.heap.size := hon.size
    replace HB := lH (au HB.out hon (by omega) HB.out.size)
    replace HXb := lH (HXb.out.only hon (by first | omega | (simp; omega)))
    clear hxb hfb hkb; obtain ⟨hkb, hxb, hfb⟩ := HXb.out; clear HOA
    have HOA : Hid (aT w2_ (w.heap.size + 1) (w2_.heap.size) (.slice A9 (k + 1) g9, k + 1) (strs (L.take (k + 1)))) := lH hrb
    clear hown2 hg2 hrb hon; go_wp2
    go_roundw
    case rel => exact ⟨k + 1, A9, g9, by omega, by go_num, rfl, HXb.out, HOA.out, HB.out, by omega⟩
    case measure => simp [intOf]; omega
   obtain rfl : nr = k := by omega
   have HXX := lH HOA.out
   rw [show L.take nr = L from List.take_of_length_le (by rw [HLL.out]; exact Nat.le_refl _)] at HXX
   clear HOA; clear HOR
   have HOA : Hid (aT wr (w.heap.size + 1) (wr.heap.size) (.slice X nr g, nr) (strs L)) := HXX
   clear HXX
   go_wp2_with fail
   all_goals
    refine af (fun w2 hw => ?_)
    have hz2 : wr.heap.size + 0 ≤ w2.heap.size := zA
    have hbn : Below wr.heap.size wr w2 := zB
    replace HB := bT HB hbn; replace HOA := lH (HOA.out.below hbn); replace HXb := nB HXb hbn; clear hxb hfb hkb; obtain ⟨hkb, hxb, hfb⟩ := HXb.out; clear hbn; clear hw
    refine (HFR.out _ _ _ (HOA.out.ownB rfl (by omega) (by omega)).rd.base).mono ?_
    rintro e w3 ⟨rfl, hb⟩
    have hzw3 : w2.heap.size ≤ w3.heap.size := hb.size
    replace HB := bT HB hb; replace HOA := lH (HOA.out.below hb); replace HXb := nB HXb hb; clear hxb hfb hkb; obtain ⟨hkb, hxb, hfb⟩ := HXb.out; clear hb; go_wp2
    go_ret
    exact ⟨rfl, HB.out⟩
end
end Go.Proofs.YtoccjgcokffkbaaGreat
