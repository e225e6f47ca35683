/- DiskOf: the files of a broker, the reference. -/
import Derived.Test.YtmmepogjocfefaaGreatDsk
import Derived.Deep.RegionLaw
namespace Go.Proofs.YtmmepogjocfefaaGreat
set_option linter.unusedVariables false
set_option linter.unusedSimpArgs false
open Go.RowKit
set_option maxRecDepth 100000 in
set_option maxHeartbeats 4000000 in
theorem l12File_c (width z1 z2 : Int) (E R H A1 A2 : Option Addr) (ne nr nh ce cr ch c1 c2 lo1 hi1 lo2 hi2 lo3 hi3 m1 m2 : Nat) (es : List Ent) (rs : List Rcp) (hs : List Hd) (h : Hd) (f : Nat) (w : World)
  (hE : Rd w lo1 hi1 E (ents es)) (hR : Rd w lo2 hi2 R (rcps rs)) (hH : Rd w lo3 hi3 H (hds hs)) (hne : es.length = ne) (hnr : rs.length = nr) (hnh : hs.length = nh) (b1 : ne ≤ 1000) (b2 : nr ≤ 1000) (b3 : nh ≤ 1000) (hpos : 1 ≤ nh) (hch : nh ≤ ch) (hfe : ∀ x ∈ es, x.fits) (hfr : ∀ x ∈ rs, x.fits) (hfh : ∀ x ∈ hs, x.bulk ≤ 1048576) (hf2 : f ≤ 2) :
  Calls Tryz.prog 98 #[.agg #[.int .i64 width, .slice E ne ce, .slice R nr cr, .slice H nh ch, .int .i64 z1, .slice A1 m1 c1, .int .i64 z2, .slice A2 m2 c2, .int .i64 h.num, .int .i64 h.size, .string h.root, .int .i64 h.taken, .string h.troot], .int .i64 f] w fun e w' => e = .returned (.string (framesM (fileL width es rs hs f))) ∧ Below w.heap.size w w' := by
 have hfl := fileL_le (width := width) (es := es) (rs := rs) (hs := hs) (by omega) (by omega) (by omega)
 have HF0 := Lib.hid hfe
 have HF2 := Lib.hid hfr
 have HF1 := Lib.hid hfh
 have HN0 := Lib.hid hne
 have HN1 := Lib.hid hnh
 have HN2 := Lib.hid hnr
 have HE0 := Lib.hid hE.base
 have HR0 := Lib.hid hR.base
 have HH0 := Lib.hid hH.base
 obtain ⟨nh1, hnh1, hnh2⟩ : ∃ n, n + 1 ≤ nh ∧ nh ≤ n + 1 := ⟨nh - 1, by omega, by omega⟩
 have hnx : nh - 1 = nh1 := by omega
 obtain rfl | rfl | rfl : f = 0 ∨ f = 1 ∨ f = 2 := by omega
 ·skip
  have hLd : fileL width es rs hs 0 = es.map leafTextM := rfl
  have hLl : (fileL width es rs hs 0).length = ne := by rw [hLd, List.length_map, hne]
  have HFR := Lib.hid (fun W A c (r : Rd W 0 W.heap.size A (strs (fileL width es rs hs 0))) => specFrames_c A c 0 W.heap.size ne (fileL width es rs hs 0) W r hLl (by have := hfl 0; omega))
  generalize fileL width es rs hs 0 = L at *
  have HLD := Lib.hid hLd
  have HLL := Lib.hid hLl
  have HB : Hid (Below w.heap.size w w) := Below.refl _ _
  clear hE hR hH hne hnr hnh hch hfe hfr hfh hfl hLd hLl hnx
  change Calls Tryz.prog 98 #[.agg #[.int .i64 width, .slice E ne ce, .slice R nr cr, .slice H nh ch, .int .i64 z1, .slice A1 m1 c1, .int .i64 z2, .slice A2 m2 c2, .int .i64 h.num, .int .i64 h.size, .string h.root, .int .i64 h.taken, .string h.troot], .int .i64 0] w _
  go_enter Tryz.func98, Tryz.ntmps98
  go_wp2
  refine wp_named (fun w1 hw => ?_)
  have hz1 : w.heap.size + 2 ≤ w1.heap.size := by rw [hw]; first | omega | (simp [World.setCell]; done) | (simp [World.setCell]; omega)
  have hzz1 : w.heap.size ≤ w1.heap.size := by omega
  have hbn : Below w.heap.size w w1 := by rw [hw]; exact (by ((repeat (first | ((with_reducible refine Below.alloc ?_ ?_ _); rotate_left 1; (focus (first | omega | (simp; done) | (simp; omega)))) | (with_reducible refine Below.drew ?_) | ((with_reducible refine Below.setCell ?_ ?_ _); rotate_left 1; (focus (first | omega | (simp; done) | (simp; omega)))))); exact Below.refl _ _))
  replace HB := Lib.hid (below_then HB.out hbn HB.out.size)
  clear hbn
  have HXb : Hid (NewBox w1 (w.heap.size) [.int .i64 width, .slice E ne ce, .slice R nr cr, .slice H nh ch, .int .i64 z1, .slice A1 m1 c1, .int .i64 z2, .slice A2 m2 c2, .int .i64 h.num, .int .i64 h.size, .string h.root, .int .i64 h.taken, .string h.troot]) := by rw [Hid, hw]; exact ⟨by first | omega | (simp [World.setCell]; done) | (simp [World.setCell]; omega), fun o => by rcases o with _ | _ | _ | _ | _ | _ | _ | _ | _ | _ | _ | _ | _ | o <;> go_simp, fun o => by go_simp⟩
  have hxb := HXb.out.2.1
  have hfb := HXb.out.2.2
  have hkb := HXb.out.1
  have HXe1 : Hid (NewBox w1 (w.heap.size + 1) []) := by rw [Hid, hw]; exact ⟨by first | omega | (simp [World.setCell]; done) | (simp [World.setCell]; omega), fun o => by rcases o with o <;> go_simp, fun o => by go_simp⟩
  have hxe1 := HXe1.out.2.1
  have hfe1 := HXe1.out.2.2
  have hke1 := HXe1.out.1
  have HROW : Hid (RowB w1 (w.heap.size + 1) w1.heap.size (.slice (some ⟨w.heap.size + 1, 0, none⟩) 0 0, 0) (strs (L.take 0))) := by
   rw [Hid, hw]; exact RowB.of (by simpa [strs] using row_made (w.alloc _) 9 0)
  clear hw
  go_loopw [5, 6] (fun v i wr => ∃ (k : Nat) (X : Option Addr) (g : Nat), k ≤ ne ∧ i = .int .i64 k ∧ v = .slice X k g ∧ NewBox wr ((w.heap.size)) [.int .i64 width, .slice E ne ce, .slice R nr cr, .slice H nh ch, .int .i64 z1, .slice A1 m1 c1, .int .i64 z2, .slice A2 m2 c2, .int .i64 h.num, .int .i64 h.size, .string h.root, .int .i64 h.taken, .string h.troot] ∧ RowB wr (w.heap.size + 1) wr.heap.size (.slice X k g, k) (strs (L.take k)) ∧ Below w.heap.size w wr ∧ w1.heap.size ≤ wr.heap.size) (fun _ i _ => nh + ne - (intOf i).toNat)
  case atStart => exact ⟨0, _, 0, Nat.zero_le _, rfl, rfl, HXb.out, HROW.out, HB.out, Nat.le_refl _⟩
  case round =>
   obtain ⟨k, X, g, hk, rfl, rfl, hbb, hrw, hbl, hzl⟩ := hrel
   have HBL := Lib.hid hbl
   replace HB : Hid (Below w.heap.size w wr) := HBL.out
   replace HXb : Hid (NewBox wr (w.heap.size) [.int .i64 width, .slice E ne ce, .slice R nr cr, .slice H nh ch, .int .i64 z1, .slice A1 m1 c1, .int .i64 z2, .slice A2 m2 c2, .int .i64 h.num, .int .i64 h.size, .string h.root, .int .i64 h.taken, .string h.troot]) := hbb
   clear hxb hfb hkb
   have hxb := HXb.out.2.1
   have hfb := HXb.out.2.2
   have hkb := HXb.out.1
   have HOA : Hid (RowB wr (w.heap.size + 1) (wr.heap.size) (.slice X k g, k) (strs (L.take k))) := Lib.hid hrw
   have HOE := Lib.hid (HE0.out.below HBL.out)
   clear hxe1 hfe1 hke1 HXe1
   have hzz_wr : w.heap.size ≤ wr.heap.size := HB.out.size
   clear hbb hrw hbl HROW
   by_cases hlt : k < ne
   ·skip
    obtain ⟨b2, off, x, hEe, hb2, hks, hcs⟩ := ent_cells HOE.out (k := k) (by rw [HN0.out]; omega)
    have c0' := hcs.1
    have c1' := hcs.2.1
    have c2' := hcs.2.2.1
    have c3' := hcs.2.2.2.1
    have c4' := hcs.2.2.2.2
    have hix := idxEnt E b2 off ne ce k hEe (by omega)
    have HT : Hid (L.take (k + 1) = L.take k ++ [leafTextM x]) := Lib.hid (take_succ (by rw [HLD.out, List.getElem?_map, hks]; rfl))
    have HX := Lib.hid (fun W => specLeafText_c x W (HF0.out x (List.mem_of_getElem? hks)))
    have hI : (k : Int) < ne := by omega
    clear hks hcs hEe
    generalize leafTextM x = lt at *
    generalize entryOk x = lk at *
    clear HOE
    go_wp2_with fail
    refine calls_named (fun w2 hw => ?_)
    have hz2 : wr.heap.size + 0 ≤ w2.heap.size := by rw [hw]; first | omega | (simp [World.setCell]; done) | (simp [World.setCell]; omega)
    have hzz2 : w.heap.size ≤ w2.heap.size := by omega
    have hbn : Below wr.heap.size wr w2 := by rw [hw]; exact (by ((repeat (first | ((with_reducible refine Below.alloc ?_ ?_ _); rotate_left 1; (focus (first | omega | (simp; done) | (simp; omega)))) | (with_reducible refine Below.drew ?_) | ((with_reducible refine Below.setCell ?_ ?_ _); rotate_left 1; (focus (first | omega | (simp; done) | (simp; omega)))))); exact Below.refl _ _))
    replace HB := Lib.hid (below_then HB.out hbn HB.out.size)
    replace HOA := Lib.hid (HOA.out.below hbn)
    replace HXb := Lib.hid (HXb.out.below hbn)
    clear hxb hfb hkb
    have hxb := HXb.out.2.1
    have hfb := HXb.out.2.2
    have hkb := HXb.out.1
    clear hbn
    clear hw
    refine (HX.out _).mono ?_
    rintro e w3 ⟨rfl, hb⟩
    have hzw3 : w2.heap.size ≤ w3.heap.size := hb.size
    have hzzw3 : w.heap.size ≤ w3.heap.size := by omega
    replace HB := Lib.hid (below_then HB.out hb HB.out.size)
    replace HOA := Lib.hid (HOA.out.below hb)
    replace HXb := Lib.hid (HXb.out.below hb)
    clear hxb hfb hkb
    have hxb := HXb.out.2.1
    have hfb := HXb.out.2.2
    have hkb := HXb.out.1
    clear hb
    clear c0' c1' c2' c3' c4' hix
    go_wp2_with (at_builtin; refine app1Str rfl _ _ rfl (w.heap.size + 1) _ _ _ rfl (HOA.out.1.alloc _) w3.heap.size lt rfl (NewBox.new w3 _ _) (by omega) (by first | omega | (simp; done) | (simp; omega)) ?_)
    intro v2 w2_ hown2 hg2
    obtain ⟨hrb, hon⟩ := rowB_app HOA.out.1 _ hown2 hg2
    obtain ⟨A9, g9, rfl, _, _, _⟩ := ownsRow_slice hown2
    rw [← strs_app, ← HT.out] at hrb
    have hzw2_ : w3.heap.size ≤ w2_.heap.size := hon.size
    have hzzw2_ : w.heap.size ≤ w2_.heap.size := by omega
    replace HB := Lib.hid (below_only HB.out hon (by omega) HB.out.size)
    replace HXb := Lib.hid (HXb.out.only hon (by first | omega | (simp; omega)))
    clear hxb hfb hkb
    have hxb := HXb.out.2.1
    have hfb := HXb.out.2.2
    have hkb := HXb.out.1
    clear HOA
    have HOA : Hid (RowB w2_ (w.heap.size + 1) (w2_.heap.size) (.slice A9 (k + 1) g9, k + 1) (strs (L.take (k + 1)))) := Lib.hid hrb
    clear hown2 hg2 hrb hon
    go_wp2
    go_roundw
    case rel => exact ⟨k + 1, A9, g9, by omega, by go_num, rfl, HXb.out, HOA.out, HB.out, by omega⟩
    case measure => simp [intOf]; omega
   ·skip
    obtain rfl : ne = k := by omega
    have HXX := Lib.hid HOA.out
    rw [show L.take ne = L from List.take_of_length_le (by rw [HLL.out]; exact Nat.le_refl _)] at HXX
    clear HOA
    clear HOE
    have HOA : Hid (RowB wr (w.heap.size + 1) (wr.heap.size) (.slice X ne g, ne) (strs L)) := HXX
    clear HXX
    go_wp2
    all_goals rcases Nat.lt_or_ge 1 nh with hz1 | hz1
    all_goals
     first | have hd1 : decide ((1 : Int) < (nh : Int)) = true := decide_eq_true (by omega) | have hd1 : decide ((1 : Int) < (nh : Int)) = false := decide_eq_false (by omega)
     refine wp_loop_once ?_
     go_wp2
     clear hd1 hz1
    all_goals rcases Nat.lt_or_ge 0 nr with hz2 | hz2
    all_goals
     first | have hd2 : decide ((0 : Int) < (nr : Int)) = true := decide_eq_true (by omega) | have hd2 : decide ((0 : Int) < (nr : Int)) = false := decide_eq_false (by omega)
     refine wp_loop_once ?_
     go_wp2_with fail
     clear hd2 hz2
    all_goals
     refine calls_named (fun w2 hw => ?_)
     have hz2 : wr.heap.size + 0 ≤ w2.heap.size := by rw [hw]; first | omega | (simp [World.setCell]; done) | (simp [World.setCell]; omega)
     have hzz2 : w.heap.size ≤ w2.heap.size := by omega
     have hbn : Below wr.heap.size wr w2 := by rw [hw]; exact (by ((repeat (first | ((with_reducible refine Below.alloc ?_ ?_ _); rotate_left 1; (focus (first | omega | (simp; done) | (simp; omega)))) | (with_reducible refine Below.drew ?_) | ((with_reducible refine Below.setCell ?_ ?_ _); rotate_left 1; (focus (first | omega | (simp; done) | (simp; omega)))))); exact Below.refl _ _))
     replace HB := Lib.hid (below_then HB.out hbn HB.out.size)
     replace HOA := Lib.hid (HOA.out.below hbn)
     replace HXb := Lib.hid (HXb.out.below hbn)
     clear hxb hfb hkb
     have hxb := HXb.out.2.1
     have hfb := HXb.out.2.2
     have hkb := HXb.out.1
     clear hbn
     clear hw
     refine (HFR.out _ _ _ (HOA.out.ownB rfl (by omega) (by omega)).rd.base).mono ?_
     rintro e w3 ⟨rfl, hb⟩
     have hzw3 : w2.heap.size ≤ w3.heap.size := hb.size
     have hzzw3 : w.heap.size ≤ w3.heap.size := by omega
     replace HB := Lib.hid (below_then HB.out hb HB.out.size)
     replace HOA := Lib.hid (HOA.out.below hb)
     replace HXb := Lib.hid (HXb.out.below hb)
     clear hxb hfb hkb
     have hxb := HXb.out.2.1
     have hfb := HXb.out.2.2
     have hkb := HXb.out.1
     clear hb
     go_wp2
     go_ret
     exact ⟨rfl, HB.out⟩
 ·skip
  have hLd : fileL width es rs hs 1 = (hs.drop 1).map (headTextM width) := rfl
  have hLl : (fileL width es rs hs 1).length = nh1 := by rw [hLd, List.length_map, List.length_drop, hnh]; exact hnx
  have HFR := Lib.hid (fun W A c (r : Rd W 0 W.heap.size A (strs (fileL width es rs hs 1))) => specFrames_c A c 0 W.heap.size nh1 (fileL width es rs hs 1) W r hLl (by have := hfl 1; omega))
  generalize fileL width es rs hs 1 = L at *
  have HLD := Lib.hid hLd
  have HLL := Lib.hid hLl
  have HB : Hid (Below w.heap.size w w) := Below.refl _ _
  clear hE hR hH hne hnr hnh hch hfe hfr hfh hfl hLd hLl hnx
  change Calls Tryz.prog 98 #[.agg #[.int .i64 width, .slice E ne ce, .slice R nr cr, .slice H nh ch, .int .i64 z1, .slice A1 m1 c1, .int .i64 z2, .slice A2 m2 c2, .int .i64 h.num, .int .i64 h.size, .string h.root, .int .i64 h.taken, .string h.troot], .int .i64 1] w _
  go_enter Tryz.func98, Tryz.ntmps98
  go_wp2
  refine wp_named (fun w1 hw => ?_)
  have hz1 : w.heap.size + 2 ≤ w1.heap.size := by rw [hw]; first | omega | (simp [World.setCell]; done) | (simp [World.setCell]; omega)
  have hzz1 : w.heap.size ≤ w1.heap.size := by omega
  have hbn : Below w.heap.size w w1 := by rw [hw]; exact (by ((repeat (first | ((with_reducible refine Below.alloc ?_ ?_ _); rotate_left 1; (focus (first | omega | (simp; done) | (simp; omega)))) | (with_reducible refine Below.drew ?_) | ((with_reducible refine Below.setCell ?_ ?_ _); rotate_left 1; (focus (first | omega | (simp; done) | (simp; omega)))))); exact Below.refl _ _))
  replace HB := Lib.hid (below_then HB.out hbn HB.out.size)
  clear hbn
  have HXb : Hid (NewBox w1 (w.heap.size) [.int .i64 width, .slice E ne ce, .slice R nr cr, .slice H nh ch, .int .i64 z1, .slice A1 m1 c1, .int .i64 z2, .slice A2 m2 c2, .int .i64 h.num, .int .i64 h.size, .string h.root, .int .i64 h.taken, .string h.troot]) := by rw [Hid, hw]; exact ⟨by first | omega | (simp [World.setCell]; done) | (simp [World.setCell]; omega), fun o => by rcases o with _ | _ | _ | _ | _ | _ | _ | _ | _ | _ | _ | _ | _ | o <;> go_simp, fun o => by go_simp⟩
  have hxb := HXb.out.2.1
  have hfb := HXb.out.2.2
  have hkb := HXb.out.1
  have HXe1 : Hid (NewBox w1 (w.heap.size + 1) []) := by rw [Hid, hw]; exact ⟨by first | omega | (simp [World.setCell]; done) | (simp [World.setCell]; omega), fun o => by rcases o with o <;> go_simp, fun o => by go_simp⟩
  have hxe1 := HXe1.out.2.1
  have hfe1 := HXe1.out.2.2
  have hke1 := HXe1.out.1
  have HROW : Hid (RowB w1 (w.heap.size + 1) w1.heap.size (.slice (some ⟨w.heap.size + 1, 0, none⟩) 0 0, 0) (strs (L.take 0))) := by
   rw [Hid, hw]; exact RowB.of (by simpa [strs] using row_made (w.alloc _) 9 0)
  clear hw
  all_goals rcases Nat.lt_or_ge 0 ne with hz0 | hz0
  all_goals
   first | have hd0 : decide ((0 : Int) < (ne : Int)) = true := decide_eq_true (by omega) | have hd0 : decide ((0 : Int) < (ne : Int)) = false := decide_eq_false (by omega)
   refine wp_loop_once ?_
   go_wp2
   clear hd0 hz0
  all_goals
   go_loopw [5, 9] (fun v i wr => ∃ (k : Nat) (q : Nat) (X : Option Addr) (g : Nat), k ≤ nh1 ∧ k + 1 ≤ q ∧ q ≤ k + 1 ∧ i = .int .i64 q ∧ v = .slice X k g ∧ NewBox wr ((w.heap.size)) [.int .i64 width, .slice E ne ce, .slice R nr cr, .slice H nh ch, .int .i64 z1, .slice A1 m1 c1, .int .i64 z2, .slice A2 m2 c2, .int .i64 h.num, .int .i64 h.size, .string h.root, .int .i64 h.taken, .string h.troot] ∧ RowB wr (w.heap.size + 1) wr.heap.size (.slice X k g, k) (strs (L.take k)) ∧ Below w.heap.size w wr ∧ w1.heap.size ≤ wr.heap.size) (fun _ i _ => nh + nh1 - (intOf i).toNat)
   case atStart => exact ⟨0, 1, _, 0, Nat.zero_le _, Nat.le_refl _, Nat.le_refl _, rfl, rfl, HXb.out, HROW.out, HB.out, Nat.le_refl _⟩
   case round =>
    obtain ⟨k, q, X, g, hk, hq1, hq2, rfl, rfl, hbb, hrw, hbl, hzl⟩ := hrel
    have HBL := Lib.hid hbl
    replace HB : Hid (Below w.heap.size w wr) := HBL.out
    replace HXb : Hid (NewBox wr (w.heap.size) [.int .i64 width, .slice E ne ce, .slice R nr cr, .slice H nh ch, .int .i64 z1, .slice A1 m1 c1, .int .i64 z2, .slice A2 m2 c2, .int .i64 h.num, .int .i64 h.size, .string h.root, .int .i64 h.taken, .string h.troot]) := hbb
    clear hxb hfb hkb
    have hxb := HXb.out.2.1
    have hfb := HXb.out.2.2
    have hkb := HXb.out.1
    have HOA : Hid (RowB wr (w.heap.size + 1) (wr.heap.size) (.slice X k g, k) (strs (L.take k))) := Lib.hid hrw
    have HOH := Lib.hid (HH0.out.below HBL.out)
    clear hxe1 hfe1 hke1 HXe1
    have hzz_wr : w.heap.size ≤ wr.heap.size := HB.out.size
    clear hbb hrw hbl HROW
    by_cases hlt : k < nh1
    ·skip
     obtain ⟨b2, off, x, hHe, hb2, hks, hcs⟩ := hd_cells HOH.out (k := q) (by rw [HN1.out]; omega)
     have c0' := hcs.1
     have c1' := hcs.2.1
     have c2' := hcs.2.2.1
     have c3' := hcs.2.2.2.1
     have c4' := hcs.2.2.2.2
     have hix := idxHd H b2 off nh ch q hHe (by omega)
     have HT : Hid (L.take (k + 1) = L.take k ++ [headTextM width x]) := Lib.hid (take_succ (by rw [HLD.out, List.getElem?_map, List.getElem?_drop, show 1 + k = q by omega, hks]; rfl))
     have HX := Lib.hid (fun W => specHeadText_c width x W (HF1.out x (List.mem_of_getElem? hks)))
     have hI : (q : Int) < nh := by omega
     clear hks hcs hHe
     generalize headTextM width x = lt at *
     generalize headOk width x = lk at *
     clear HOH
     go_wp2_with fail
     have lb : ∀ v : Later wr, v.v.cell? ⟨w.heap.size, 0, none⟩ = some (.int .i64 width) := fun v => (later_cell v _ _ hkb).trans (hxb 0)
     have lb3 : ∀ v : Later wr, v.v.cell? ⟨w.heap.size, 3, none⟩ = some (.slice H nh ch) := fun v => (later_cell v _ _ hkb).trans (hxb 3)
     have le0 : ∀ v : Later wr, v.v.cell? ⟨b2, off + q * 5, none⟩ = some (.int .i64 x.num) := fun v => (later_cell v _ _ hb2).trans c0'
     have le1 : ∀ v : Later wr, v.v.cell? ⟨b2, off + q * 5 + 1, none⟩ = some (.int .i64 x.size) := fun v => (later_cell v _ _ hb2).trans c1'
     have le2 : ∀ v : Later wr, v.v.cell? ⟨b2, off + q * 5 + 2, none⟩ = some (.string x.root) := fun v => (later_cell v _ _ hb2).trans c2'
     have le3 : ∀ v : Later wr, v.v.cell? ⟨b2, off + q * 5 + 3, none⟩ = some (.int .i64 x.taken) := fun v => (later_cell v _ _ hb2).trans c3'
     have le4 : ∀ v : Later wr, v.v.cell? ⟨b2, off + q * 5 + 4, none⟩ = some (.string x.troot) := fun v => (later_cell v _ _ hb2).trans c4'
     refine wp_region_later (by kernel_rfl) (by kernel_rfl) ?_
     repeat (go_big_quiet_step ((first | with_reducible exact later_call (HX.out _))))
     refine wpQuiet_nil ?_
     intro w9 h9
     have hb9 := later_below h9
     clear lb lb3 le0 le1 le2 le3 le4 h9
     have hzw9 : wr.heap.size ≤ w9.heap.size := hb9.size
     have hzzw9 : w.heap.size ≤ w9.heap.size := by omega
     replace HB := Lib.hid (below_then HB.out hb9 HB.out.size)
     replace HOA := Lib.hid (HOA.out.below hb9)
     replace HXb := Lib.hid (HXb.out.below hb9)
     clear hxb hfb hkb
     have hxb := HXb.out.2.1
     have hfb := HXb.out.2.2
     have hkb := HXb.out.1
     clear hb9
     clear c0' c1' c2' c3' c4' hix
     go_wp2_with (at_builtin; refine app1Str rfl _ _ rfl (w.heap.size + 1) _ _ _ rfl (HOA.out.1.alloc _) w9.heap.size lt rfl (NewBox.new w9 _ _) (by omega) (by first | omega | (simp; done) | (simp; omega)) ?_)
     intro v2 w2_ hown2 hg2
     obtain ⟨hrb, hon⟩ := rowB_app HOA.out.1 _ hown2 hg2
     obtain ⟨A9, g9, rfl, _, _, _⟩ := ownsRow_slice hown2
     rw [← strs_app, ← HT.out] at hrb
     have hzw2_ : w9.heap.size ≤ w2_.heap.size := hon.size
     have hzzw2_ : w.heap.size ≤ w2_.heap.size := by omega
     replace HB := Lib.hid (below_only HB.out hon (by omega) HB.out.size)
     replace HXb := Lib.hid (HXb.out.only hon (by first | omega | (simp; omega)))
     clear hxb hfb hkb
     have hxb := HXb.out.2.1
     have hfb := HXb.out.2.2
     have hkb := HXb.out.1
     clear HOA
     have HOA : Hid (RowB w2_ (w.heap.size + 1) (w2_.heap.size) (.slice A9 (k + 1) g9, k + 1) (strs (L.take (k + 1)))) := Lib.hid hrb
     clear hown2 hg2 hrb hon
     go_wp2
     go_roundw
     case rel => exact ⟨k + 1, q + 1, A9, g9, by omega, by omega, by omega, by go_num, rfl, HXb.out, HOA.out, HB.out, by omega⟩
     case measure => simp [intOf]; omega
    ·skip
     obtain rfl : nh1 = k := by omega
     have HXX := Lib.hid HOA.out
     rw [show L.take nh1 = L from List.take_of_length_le (by rw [HLL.out]; exact Nat.le_refl _)] at HXX
     clear HOA
     clear HOH
     have HOA : Hid (RowB wr (w.heap.size + 1) (wr.heap.size) (.slice X nh1 g, nh1) (strs L)) := HXX
     clear HXX
     go_wp2
     all_goals rcases Nat.lt_or_ge 0 nr with hz2 | hz2
     all_goals
      first | have hd2 : decide ((0 : Int) < (nr : Int)) = true := decide_eq_true (by omega) | have hd2 : decide ((0 : Int) < (nr : Int)) = false := decide_eq_false (by omega)
      refine wp_loop_once ?_
      go_wp2_with fail
      clear hd2 hz2
     all_goals
      refine calls_named (fun w2 hw => ?_)
      have hz2 : wr.heap.size + 0 ≤ w2.heap.size := by rw [hw]; first | omega | (simp [World.setCell]; done) | (simp [World.setCell]; omega)
      have hzz2 : w.heap.size ≤ w2.heap.size := by omega
      have hbn : Below wr.heap.size wr w2 := by rw [hw]; exact (by ((repeat (first | ((with_reducible refine Below.alloc ?_ ?_ _); rotate_left 1; (focus (first | omega | (simp; done) | (simp; omega)))) | (with_reducible refine Below.drew ?_) | ((with_reducible refine Below.setCell ?_ ?_ _); rotate_left 1; (focus (first | omega | (simp; done) | (simp; omega)))))); exact Below.refl _ _))
      replace HB := Lib.hid (below_then HB.out hbn HB.out.size)
      replace HOA := Lib.hid (HOA.out.below hbn)
      replace HXb := Lib.hid (HXb.out.below hbn)
      clear hxb hfb hkb
      have hxb := HXb.out.2.1
      have hfb := HXb.out.2.2
      have hkb := HXb.out.1
      clear hbn
      clear hw
      refine (HFR.out _ _ _ (HOA.out.ownB rfl (by omega) (by omega)).rd.base).mono ?_
      rintro e w3 ⟨rfl, hb⟩
      have hzw3 : w2.heap.size ≤ w3.heap.size := hb.size
      have hzzw3 : w.heap.size ≤ w3.heap.size := by omega
      replace HB := Lib.hid (below_then HB.out hb HB.out.size)
      replace HOA := Lib.hid (HOA.out.below hb)
      replace HXb := Lib.hid (HXb.out.below hb)
      clear hxb hfb hkb
      have hxb := HXb.out.2.1
      have hfb := HXb.out.2.2
      have hkb := HXb.out.1
      clear hb
      go_wp2
      go_ret
      exact ⟨rfl, HB.out⟩
 ·skip
  have hLd : fileL width es rs hs 2 = rs.map rcpTextM := rfl
  have hLl : (fileL width es rs hs 2).length = nr := by rw [hLd, List.length_map, hnr]
  have HFR := Lib.hid (fun W A c (r : Rd W 0 W.heap.size A (strs (fileL width es rs hs 2))) => specFrames_c A c 0 W.heap.size nr (fileL width es rs hs 2) W r hLl (by have := hfl 2; omega))
  generalize fileL width es rs hs 2 = L at *
  have HLD := Lib.hid hLd
  have HLL := Lib.hid hLl
  have HB : Hid (Below w.heap.size w w) := Below.refl _ _
  clear hE hR hH hne hnr hnh hch hfe hfr hfh hfl hLd hLl hnx
  change Calls Tryz.prog 98 #[.agg #[.int .i64 width, .slice E ne ce, .slice R nr cr, .slice H nh ch, .int .i64 z1, .slice A1 m1 c1, .int .i64 z2, .slice A2 m2 c2, .int .i64 h.num, .int .i64 h.size, .string h.root, .int .i64 h.taken, .string h.troot], .int .i64 2] w _
  go_enter Tryz.func98, Tryz.ntmps98
  go_wp2
  refine wp_named (fun w1 hw => ?_)
  have hz1 : w.heap.size + 2 ≤ w1.heap.size := by rw [hw]; first | omega | (simp [World.setCell]; done) | (simp [World.setCell]; omega)
  have hzz1 : w.heap.size ≤ w1.heap.size := by omega
  have hbn : Below w.heap.size w w1 := by rw [hw]; exact (by ((repeat (first | ((with_reducible refine Below.alloc ?_ ?_ _); rotate_left 1; (focus (first | omega | (simp; done) | (simp; omega)))) | (with_reducible refine Below.drew ?_) | ((with_reducible refine Below.setCell ?_ ?_ _); rotate_left 1; (focus (first | omega | (simp; done) | (simp; omega)))))); exact Below.refl _ _))
  replace HB := Lib.hid (below_then HB.out hbn HB.out.size)
  clear hbn
  have HXb : Hid (NewBox w1 (w.heap.size) [.int .i64 width, .slice E ne ce, .slice R nr cr, .slice H nh ch, .int .i64 z1, .slice A1 m1 c1, .int .i64 z2, .slice A2 m2 c2, .int .i64 h.num, .int .i64 h.size, .string h.root, .int .i64 h.taken, .string h.troot]) := by rw [Hid, hw]; exact ⟨by first | omega | (simp [World.setCell]; done) | (simp [World.setCell]; omega), fun o => by rcases o with _ | _ | _ | _ | _ | _ | _ | _ | _ | _ | _ | _ | _ | o <;> go_simp, fun o => by go_simp⟩
  have hxb := HXb.out.2.1
  have hfb := HXb.out.2.2
  have hkb := HXb.out.1
  have HXe1 : Hid (NewBox w1 (w.heap.size + 1) []) := by rw [Hid, hw]; exact ⟨by first | omega | (simp [World.setCell]; done) | (simp [World.setCell]; omega), fun o => by rcases o with o <;> go_simp, fun o => by go_simp⟩
  have hxe1 := HXe1.out.2.1
  have hfe1 := HXe1.out.2.2
  have hke1 := HXe1.out.1
  have HROW : Hid (RowB w1 (w.heap.size + 1) w1.heap.size (.slice (some ⟨w.heap.size + 1, 0, none⟩) 0 0, 0) (strs (L.take 0))) := by
   rw [Hid, hw]; exact RowB.of (by simpa [strs] using row_made (w.alloc _) 9 0)
  clear hw
  all_goals rcases Nat.lt_or_ge 0 ne with hz0 | hz0
  all_goals
   first | have hd0 : decide ((0 : Int) < (ne : Int)) = true := decide_eq_true (by omega) | have hd0 : decide ((0 : Int) < (ne : Int)) = false := decide_eq_false (by omega)
   refine wp_loop_once ?_
   go_wp2
   clear hd0 hz0
  all_goals rcases Nat.lt_or_ge 1 nh with hz1 | hz1
  all_goals
   first | have hd1 : decide ((1 : Int) < (nh : Int)) = true := decide_eq_true (by omega) | have hd1 : decide ((1 : Int) < (nh : Int)) = false := decide_eq_false (by omega)
   refine wp_loop_once ?_
   go_wp2
   clear hd1 hz1
  all_goals
   go_loopw [5, 12] (fun v i wr => ∃ (k : Nat) (X : Option Addr) (g : Nat), k ≤ nr ∧ i = .int .i64 k ∧ v = .slice X k g ∧ NewBox wr ((w.heap.size)) [.int .i64 width, .slice E ne ce, .slice R nr cr, .slice H nh ch, .int .i64 z1, .slice A1 m1 c1, .int .i64 z2, .slice A2 m2 c2, .int .i64 h.num, .int .i64 h.size, .string h.root, .int .i64 h.taken, .string h.troot] ∧ RowB wr (w.heap.size + 1) wr.heap.size (.slice X k g, k) (strs (L.take k)) ∧ Below w.heap.size w wr ∧ w1.heap.size ≤ wr.heap.size) (fun _ i _ => nh + nr - (intOf i).toNat)
   case atStart => exact ⟨0, _, 0, Nat.zero_le _, rfl, rfl, HXb.out, HROW.out, HB.out, Nat.le_refl _⟩
   case round =>
    obtain ⟨k, X, g, hk, rfl, rfl, hbb, hrw, hbl, hzl⟩ := hrel
    have HBL := Lib.hid hbl
    replace HB : Hid (Below w.heap.size w wr) := HBL.out
    replace HXb : Hid (NewBox wr (w.heap.size) [.int .i64 width, .slice E ne ce, .slice R nr cr, .slice H nh ch, .int .i64 z1, .slice A1 m1 c1, .int .i64 z2, .slice A2 m2 c2, .int .i64 h.num, .int .i64 h.size, .string h.root, .int .i64 h.taken, .string h.troot]) := hbb
    clear hxb hfb hkb
    have hxb := HXb.out.2.1
    have hfb := HXb.out.2.2
    have hkb := HXb.out.1
    have HOA : Hid (RowB wr (w.heap.size + 1) (wr.heap.size) (.slice X k g, k) (strs (L.take k))) := Lib.hid hrw
    have HOR := Lib.hid (HR0.out.below HBL.out)
    clear hxe1 hfe1 hke1 HXe1
    have hzz_wr : w.heap.size ≤ wr.heap.size := HB.out.size
    clear hbb hrw hbl HROW
    by_cases hlt : k < nr
    ·skip
     obtain ⟨b2, off, x, hRe, hb2, hks, hcs⟩ := rcp_cells HOR.out (k := k) (by rw [HN2.out]; omega)
     have c0' := hcs.1
     have c1' := hcs.2.1
     have c2' := hcs.2.2
     have hix := idxRcp R b2 off nr cr k hRe (by omega)
     have HT : Hid (L.take (k + 1) = L.take k ++ [rcpTextM x]) := Lib.hid (take_succ (by rw [HLD.out, List.getElem?_map, hks]; rfl))
     have HX := Lib.hid (fun W => specReceiptText_c x W (HF2.out x (List.mem_of_getElem? hks)))
     have hI : (k : Int) < nr := by omega
     clear hks hcs hRe
     generalize rcpTextM x = lt at *
     generalize rcpOk x = lk at *
     clear HOR
     go_wp2_with fail
     refine calls_named (fun w2 hw => ?_)
     have hz2 : wr.heap.size + 0 ≤ w2.heap.size := by rw [hw]; first | omega | (simp [World.setCell]; done) | (simp [World.setCell]; omega)
     have hzz2 : w.heap.size ≤ w2.heap.size := by omega
     have hbn : Below wr.heap.size wr w2 := by rw [hw]; exact (by ((repeat (first | ((with_reducible refine Below.alloc ?_ ?_ _); rotate_left 1; (focus (first | omega | (simp; done) | (simp; omega)))) | (with_reducible refine Below.drew ?_) | ((with_reducible refine Below.setCell ?_ ?_ _); rotate_left 1; (focus (first | omega | (simp; done) | (simp; omega)))))); exact Below.refl _ _))
     replace HB := Lib.hid (below_then HB.out hbn HB.out.size)
     replace HOA := Lib.hid (HOA.out.below hbn)
     replace HXb := Lib.hid (HXb.out.below hbn)
     clear hxb hfb hkb
     have hxb := HXb.out.2.1
     have hfb := HXb.out.2.2
     have hkb := HXb.out.1
     clear hbn
     clear hw
     refine (HX.out _).mono ?_
     rintro e w3 ⟨rfl, hb⟩
     have hzw3 : w2.heap.size ≤ w3.heap.size := hb.size
     have hzzw3 : w.heap.size ≤ w3.heap.size := by omega
     replace HB := Lib.hid (below_then HB.out hb HB.out.size)
     replace HOA := Lib.hid (HOA.out.below hb)
     replace HXb := Lib.hid (HXb.out.below hb)
     clear hxb hfb hkb
     have hxb := HXb.out.2.1
     have hfb := HXb.out.2.2
     have hkb := HXb.out.1
     clear hb
     clear c0' c1' c2' hix
     go_wp2_with (at_builtin; refine app1Str rfl _ _ rfl (w.heap.size + 1) _ _ _ rfl (HOA.out.1.alloc _) w3.heap.size lt rfl (NewBox.new w3 _ _) (by omega) (by first | omega | (simp; done) | (simp; omega)) ?_)
     intro v2 w2_ hown2 hg2
     obtain ⟨hrb, hon⟩ := rowB_app HOA.out.1 _ hown2 hg2
     obtain ⟨A9, g9, rfl, _, _, _⟩ := ownsRow_slice hown2
     rw [← strs_app, ← HT.out] at hrb
     have hzw2_ : w3.heap.size ≤ w2_.heap.size := hon.size
     have hzzw2_ : w.heap.size ≤ w2_.heap.size := by omega
     replace HB := Lib.hid (below_only HB.out hon (by omega) HB.out.size)
     replace HXb := Lib.hid (HXb.out.only hon (by first | omega | (simp; omega)))
     clear hxb hfb hkb
     have hxb := HXb.out.2.1
     have hfb := HXb.out.2.2
     have hkb := HXb.out.1
     clear HOA
     have HOA : Hid (RowB w2_ (w.heap.size + 1) (w2_.heap.size) (.slice A9 (k + 1) g9, k + 1) (strs (L.take (k + 1)))) := Lib.hid hrb
     clear hown2 hg2 hrb hon
     go_wp2
     go_roundw
     case rel => exact ⟨k + 1, A9, g9, by omega, by go_num, rfl, HXb.out, HOA.out, HB.out, by omega⟩
     case measure => simp [intOf]; omega
    ·skip
     obtain rfl : nr = k := by omega
     have HXX := Lib.hid HOA.out
     rw [show L.take nr = L from List.take_of_length_le (by rw [HLL.out]; exact Nat.le_refl _)] at HXX
     clear HOA
     clear HOR
     have HOA : Hid (RowB wr (w.heap.size + 1) (wr.heap.size) (.slice X nr g, nr) (strs L)) := HXX
     clear HXX
     go_wp2_with fail
     all_goals
      refine calls_named (fun w2 hw => ?_)
      have hz2 : wr.heap.size + 0 ≤ w2.heap.size := by rw [hw]; first | omega | (simp [World.setCell]; done) | (simp [World.setCell]; omega)
      have hzz2 : w.heap.size ≤ w2.heap.size := by omega
      have hbn : Below wr.heap.size wr w2 := by rw [hw]; exact (by ((repeat (first | ((with_reducible refine Below.alloc ?_ ?_ _); rotate_left 1; (focus (first | omega | (simp; done) | (simp; omega)))) | (with_reducible refine Below.drew ?_) | ((with_reducible refine Below.setCell ?_ ?_ _); rotate_left 1; (focus (first | omega | (simp; done) | (simp; omega)))))); exact Below.refl _ _))
      replace HB := Lib.hid (below_then HB.out hbn HB.out.size)
      replace HOA := Lib.hid (HOA.out.below hbn)
      replace HXb := Lib.hid (HXb.out.below hbn)
      clear hxb hfb hkb
      have hxb := HXb.out.2.1
      have hfb := HXb.out.2.2
      have hkb := HXb.out.1
      clear hbn
      clear hw
      refine (HFR.out _ _ _ (HOA.out.ownB rfl (by omega) (by omega)).rd.base).mono ?_
      rintro e w3 ⟨rfl, hb⟩
      have hzw3 : w2.heap.size ≤ w3.heap.size := hb.size
      have hzzw3 : w.heap.size ≤ w3.heap.size := by omega
      replace HB := Lib.hid (below_then HB.out hb HB.out.size)
      replace HOA := Lib.hid (HOA.out.below hb)
      replace HXb := Lib.hid (HXb.out.below hb)
      clear hxb hfb hkb
      have hxb := HXb.out.2.1
      have hfb := HXb.out.2.2
      have hkb := HXb.out.1
      clear hb
      go_wp2
      go_ret
      exact ⟨rfl, HB.out⟩
set_option maxRecDepth 100000 in
set_option maxHeartbeats 4000000 in
theorem l12Disk_c (width z1 z2 : Int) (E R H A1 A2 : Option Addr) (ne nr nh ce cr ch c1 c2 lo1 hi1 lo2 hi2 lo3 hi3 m1 m2 : Nat) (es : List Ent) (rs : List Rcp) (hs : List Hd) (h : Hd) (w : World)
  (hE : Rd w lo1 hi1 E (ents es)) (hR : Rd w lo2 hi2 R (rcps rs)) (hH : Rd w lo3 hi3 H (hds hs)) (hne : es.length = ne) (hnr : rs.length = nr) (hnh : hs.length = nh) (b1 : ne ≤ 1000) (b2 : nr ≤ 1000) (b3 : nh ≤ 1000) (hpos : 1 ≤ nh) (hch : nh ≤ ch) (hfe : ∀ x ∈ es, x.fits) (hfr : ∀ x ∈ rs, x.fits) (hfh : ∀ x ∈ hs, x.bulk ≤ 1048576) :
  Calls Tryz.prog 57 #[.agg #[.int .i64 width, .slice E ne ce, .slice R nr cr, .slice H nh ch, .int .i64 z1, .slice A1 m1 c1, .int .i64 z2, .slice A2 m2 c2, .int .i64 h.num, .int .i64 h.size, .string h.root, .int .i64 h.taken, .string h.troot]] w fun e w' => ∃ A c, e = .returned (.agg #[.slice A 3 c]) ∧ Own w' w.heap.size w'.heap.size A (strs (diskL width es rs hs)) ∧ Below w.heap.size w w' := by
 obtain ⟨i0, hi0, hiA, hiB, hiC⟩ := info_parts info_string
 have HC := Lib.hid (fun W (r0 : Rd W 0 W.heap.size E (ents es)) (r1 : Rd W 0 W.heap.size R (rcps rs)) (r2 : Rd W 0 W.heap.size H (hds hs)) f hf2 => l12File_c width z1 z2 E R H A1 A2 ne nr nh ce cr ch c1 c2 0 W.heap.size 0 W.heap.size 0 W.heap.size m1 m2 es rs hs h f W r0 r1 r2 hne hnr hnh b1 b2 b3 hpos hch hfe hfr hfh hf2)
 have HD : Hid (∀ k, k < 3 → (diskL width es rs hs)[k]? = some (framesM (fileL width es rs hs k))) := Lib.hid (fun k hk => by
  obtain rfl | rfl | rfl : k = 0 ∨ k = 1 ∨ k = 2 := by omega
  all_goals rfl)
 have HDL : Hid ((diskL width es rs hs).length = 3) := Lib.hid rfl
 generalize diskL width es rs hs = D at *
 have HE0 := Lib.hid hE.base
 have HR0 := Lib.hid hR.base
 have HH0 := Lib.hid hH.base
 have HB : Hid (Below w.heap.size w w) := Below.refl _ _
 clear hE hR hH hne hnr hnh hpos hch hfe hfr hfh b1 b2 b3
 go_enter Tryz.func57, Tryz.ntmps57
 go_wp2
 refine wp_named (fun w1 hw => ?_)
 have hz1 : w.heap.size + 3 ≤ w1.heap.size := by rw [hw]; first | omega | (simp [World.setCell]; done) | (simp [World.setCell]; omega)
 have hzz1 : w.heap.size ≤ w1.heap.size := by omega
 have hbn : Below w.heap.size w w1 := by rw [hw]; exact (by ((repeat (first | ((with_reducible refine Below.alloc ?_ ?_ _); rotate_left 1; (focus (first | omega | (simp; done) | (simp; omega)))) | (with_reducible refine Below.drew ?_) | ((with_reducible refine Below.setCell ?_ ?_ _); rotate_left 1; (focus (first | omega | (simp; done) | (simp; omega)))))); exact Below.refl _ _))
 replace HB := Lib.hid (below_then HB.out hbn HB.out.size)
 clear hbn
 have HXb : Hid (NewBox w1 (w.heap.size) [.int .i64 width, .slice E ne ce, .slice R nr cr, .slice H nh ch, .int .i64 z1, .slice A1 m1 c1, .int .i64 z2, .slice A2 m2 c2, .int .i64 h.num, .int .i64 h.size, .string h.root, .int .i64 h.taken, .string h.troot]) := by rw [Hid, hw]; exact ⟨by first | omega | (simp [World.setCell]; done) | (simp [World.setCell]; omega), fun o => by rcases o with _ | _ | _ | _ | _ | _ | _ | _ | _ | _ | _ | _ | _ | o <;> go_simp, fun o => by go_simp⟩
 have hxb := HXb.out.2.1
 have hfb := HXb.out.2.2
 have hkb := HXb.out.1
 have HXr : Hid (NewBox w1 (w.heap.size + 1) [.slice none 0 0]) := by rw [Hid, hw]; exact ⟨by first | omega | (simp [World.setCell]; done) | (simp [World.setCell]; omega), fun o => by rcases o with _ | o <;> go_simp, fun o => by go_simp⟩
 have hxr := HXr.out.2.1
 have hfr := HXr.out.2.2
 have hkr := HXr.out.1
 have HXo : Hid (NewBox w1 (w.heap.size + 2) [.slice none 0 0]) := by rw [Hid, hw]; exact ⟨by first | omega | (simp [World.setCell]; done) | (simp [World.setCell]; omega), fun o => by rcases o with _ | o <;> go_simp, fun o => by go_simp⟩
 have hxo := HXo.out.2.1
 have hfo := HXo.out.2.2
 have hko := HXo.out.1
 clear hw
 go_loopw [4] (fun i wr => ∃ (k : Nat) (X : Option Addr) (g : Nat), k ≤ 3 ∧ i = .int .i64 k ∧ NewBox wr ((w.heap.size)) [.int .i64 width, .slice E ne ce, .slice R nr cr, .slice H nh ch, .int .i64 z1, .slice A1 m1 c1, .int .i64 z2, .slice A2 m2 c2, .int .i64 h.num, .int .i64 h.size, .string h.root, .int .i64 h.taken, .string h.troot] ∧ NewBox wr ((w.heap.size + 1)) [.slice none 0 0] ∧ NewBox wr ((w.heap.size + 2)) [.slice X k g] ∧ RowB wr (w.heap.size + 3) wr.heap.size (.slice X k g, k) (strs (D.take k)) ∧ Below w.heap.size w wr ∧ w1.heap.size ≤ wr.heap.size) (fun i _ => 3 - (intOf i).toNat)
 case atStart => exact ⟨0, none, 0, Nat.zero_le _, rfl, HXb.out, HXr.out, HXo.out, (RowB.of (World.ownsRow_nil _ _ _ _)).mono (by omega) (Nat.le_refl _), HB.out, Nat.le_refl _⟩
 case round =>
  obtain ⟨k, X, g, hk, rfl, hbb, hbr, hbo, hrw, hbl, hzl⟩ := hrel
  have HBL := Lib.hid hbl
  replace HB : Hid (Below w.heap.size w wr) := HBL.out
  replace HXb : Hid (NewBox wr (w.heap.size) [.int .i64 width, .slice E ne ce, .slice R nr cr, .slice H nh ch, .int .i64 z1, .slice A1 m1 c1, .int .i64 z2, .slice A2 m2 c2, .int .i64 h.num, .int .i64 h.size, .string h.root, .int .i64 h.taken, .string h.troot]) := hbb
  clear hxb hfb hkb
  have hxb := HXb.out.2.1
  have hfb := HXb.out.2.2
  have hkb := HXb.out.1
  replace HXr : Hid (NewBox wr (w.heap.size + 1) [.slice none 0 0]) := hbr
  clear hxr hfr hkr
  have hxr := HXr.out.2.1
  have hfr := HXr.out.2.2
  have hkr := HXr.out.1
  replace HXo : Hid (NewBox wr (w.heap.size + 2) [.slice X k g]) := hbo
  clear hxo hfo hko
  have hxo := HXo.out.2.1
  have hfo := HXo.out.2.2
  have hko := HXo.out.1
  have HOA : Hid (RowB wr (w.heap.size + 3) (wr.heap.size) (.slice X k g, k) (strs (D.take k))) := Lib.hid hrw
  have hzz_wr : w.heap.size ≤ wr.heap.size := HB.out.size
  clear hbb hbr hbo hrw hbl
  have HE1 := Lib.hid (HE0.out.below HBL.out).base
  have HR1 := Lib.hid (HR0.out.below HBL.out).base
  have HH1 := Lib.hid (HH0.out.below HBL.out).base
  by_cases hlt : k < 3
  ·have HT : Hid (D.take (k + 1) = D.take k ++ [framesM (fileL width es rs hs k)]) := Lib.hid (take_succ (HD.out k hlt))
   have HC1 := Lib.hid (fun (W : World) (q : W.heap = wr.heap) => HC.out W (by simpa only [Rd, World.cell?, q] using HE1.out) (by simpa only [Rd, World.cell?, q] using HR1.out) (by simpa only [Rd, World.cell?, q] using HH1.out) k (by omega))
   have hI : (k : Int) < 3 := by omega
   generalize framesM (fileL width es rs hs k) = tx at *
   go_wp2_with fail
   go_region_law (first | (go_simp; go_at_call 98; refine (HC1.out wr.drew rfl).mono ?_; rintro e w5 ⟨rfl, hb5⟩; have hb5' : Below wr.heap.size wr w5 := ((Below.refl _ _).drew).trans hb5; have HB5 := Lib.hid hb5'; have HA5 := Lib.hid (HOA.out.below hb5'); have HXo5 := Lib.hid (HXo.out.below hb5'); have hz5 := hb5'.size; have hxo5 := HXo5.out.2.1; have hfo5 := HXo5.out.2.2; have hal5 : ∀ o, (w5.alloc o).cell? ⟨w.heap.size + 1 + 1, 0, none⟩ = some (.slice X k g) := fun o => (HXo5.out.alloc o).cell (o := 0) rfl; clear hb5 hb5') | (refine step_append_lies _ (by rfl) _ _ _ (by rfl) (w.heap.size + 3) 9 i0 _ 1 16 Tryz.underlying27 hi0 hiA hiB hiC rfl (by omega) (.slice X k g) k (strs (D.take k)) (by rfl) (HA5.out.1.alloc _) ⟨w5.heap.size, 0, none⟩ 1 1 (strs [tx]) (by rfl) (by rfl) (World.news_of_block (heap_alloc_new w5 _)) (cloneStr_one _) (by omega) (by unfold maxLen; omega) (by omega) (by simp; omega) (w5.heap.size + 1) (by simp) ?_; intro gg cap w6 hown6 hgrow hat hlt6; obtain ⟨hrb, hon⟩ := rowB_app HA5.out.1 _ hown6 hgrow; rw [← strs_app, ← HT.out] at hrb; have HA6 := Lib.hid hrb; have HX6 := Lib.hid (HXo5.out.only hon (by omega)); have hxo6 := HX6.out.2.1; have hfo6 := HX6.out.2.2; have HON := Lib.hid hon; clear hrb hon hown6 hgrow hat))
   all_goals
    go_wp2
    go_roundw
    case rel => exact ⟨k + 1, _, cap, by omega, by go_num, ((HXb.out.below HB5.out).only HON.out (by omega)).setCell (by first | omega | (simp; omega)) _, ((HXr.out.below HB5.out).only HON.out (by omega)).setCell (by simp) _, HX6.out.set (o := 0) (by simp) _, (HA6.out.setCell (by simp) _).mono (Nat.le_refl _) (by first | omega | (simp [World.setCell]; done) | (simp [World.setCell]; omega)), ((below_only (below_then HB.out HB5.out HB.out.size) HON.out (by omega) (by omega)).setCell (by first | omega | (simp; omega)) _), by have := HON.out.size; simp [World.setCell]; omega⟩
    case measure => simp [intOf]; omega
  ·skip
   obtain rfl : k = 3 := by omega
   have HXX := Lib.hid HOA.out
   rw [show D.take 3 = D from List.take_of_length_le (by rw [HDL.out]; exact Nat.le_refl _)] at HXX
   clear HOA
   replace HXo : Hid (NewBox wr (w.heap.size + 2) [.slice X 3 g]) := HXo.out
   clear hxo hfo hko
   have hxo := HXo.out.2.1
   have hfo := HXo.out.2.2
   have hko := HXo.out.1
   have HOA : Hid (RowB wr (w.heap.size + 3) (wr.heap.size) (.slice X 3 g, 3) (strs D)) := HXX
   clear HXX
   go_wp2
   refine bodyPost_named (fun w2 hw => ?_)
   have hz2 : wr.heap.size + 0 ≤ w2.heap.size := by rw [hw]; first | omega | (simp [World.setCell]; done) | (simp [World.setCell]; omega)
   have hzz2 : w.heap.size ≤ w2.heap.size := by omega
   replace HB : Hid (Below w.heap.size w w2) := by rw [Hid, hw]; exact (by ((repeat (first | ((with_reducible refine Below.alloc ?_ ?_ _); rotate_left 1; (focus (first | omega | (simp; done) | (simp; omega)))) | (with_reducible refine Below.drew ?_) | ((with_reducible refine Below.setCell ?_ ?_ _); rotate_left 1; (focus (first | omega | (simp; done) | (simp; omega)))))); exact HB.out))
   replace HOA : Hid (RowB w2 (w.heap.size + 3) (wr.heap.size) (.slice X 3 g, 3) (strs D)) := by rw [Hid, hw]; (repeat (first | (with_reducible refine RowB.alloc ?_ _) | (with_reducible refine RowB.drew ?_) | ((with_reducible refine RowB.setCell ?_ ?_ _); rotate_left 1; (focus (first | omega | (simp; done) | (simp; omega)))))); exact HOA.out
   replace HXb : Hid (NewBox w2 (w.heap.size) [.int .i64 width, .slice E ne ce, .slice R nr cr, .slice H nh ch, .int .i64 z1, .slice A1 m1 c1, .int .i64 z2, .slice A2 m2 c2, .int .i64 h.num, .int .i64 h.size, .string h.root, .int .i64 h.taken, .string h.troot]) := by rw [Hid, hw]; (repeat (first | (with_reducible refine NewBox.alloc ?_ _) | (with_reducible refine NewBox.drew ?_) | ((with_reducible refine NewBox.setCell ?_ ?_ _); rotate_left 1; (focus (first | omega | (simp; done) | (simp; omega)))))); exact HXb.out
   clear hxb hfb hkb
   have hxb := HXb.out.2.1
   have hfb := HXb.out.2.2
   have hkb := HXb.out.1
   replace HXr : Hid (NewBox w2 (w.heap.size + 1) [.slice X 3 g]) := by rw [Hid, hw]; apply NewBox.cast; (focus ((repeat (first | (with_reducible apply NewBox.alloc) | (with_reducible apply NewBox.drew) | (with_reducible apply NewBox.set1) | ((with_reducible apply NewBox.far); (focus (first | omega | (simp; done) | (simp; omega)))))); exact HXr.out)); rfl
   clear hxr hfr hkr
   have hxr := HXr.out.2.1
   have hfr := HXr.out.2.2
   have hkr := HXr.out.1
   replace HXo : Hid (NewBox w2 (w.heap.size + 2) [.slice X 3 g]) := by rw [Hid, hw]; (repeat (first | (with_reducible refine NewBox.alloc ?_ _) | (with_reducible refine NewBox.drew ?_) | ((with_reducible refine NewBox.setCell ?_ ?_ _); rotate_left 1; (focus (first | omega | (simp; done) | (simp; omega)))))); exact HXo.out
   clear hxo hfo hko
   have hxo := HXo.out.2.1
   have hfo := HXo.out.2.2
   have hko := HXo.out.1
   clear hw
   refine bodyPost_ret (v := .agg #[.slice X 3 g]) (by simp [results, Tryz.results57, go_sem, hxr]) rfl ?_
   exact ⟨X, g, rfl, (HOA.out.ownB rfl (by omega) (by omega)).mono (by omega) (by omega) (Nat.le_refl _), HB.out⟩
end Go.Proofs.YtmmepogjocfefaaGreat
