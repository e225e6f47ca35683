/- DiskOf: the files of a broker, the reference. What a deed makes of a right broker, by the reference: Publish. Beginnings and ends of slices of entries and of receipts. What a deed makes of a right broker, by the reference: TakeReceipt. Sealing at once and in two parts: what SealMore hands back. Pieces of slices of texts. -/
import Derived.Test.YtoccjgcokffkbaaAd3
import Derived.Deep.RegionLaw
import Derived.Test.YtoccjgcokffkbaaAd1
namespace Go.Proofs.Ytoccjgcokffkbaa
set_option linter.unusedVariables false
set_option linter.unusedSimpArgs false
open Go.RowKit
set_option maxRecDepth 100000 in
set_option maxHeartbeats 4000000 in
theorem l12File_c (width z1 z2 : Int) (E R H A1 A2 : Option Addr) (ne nr nh ce cr ch c1 c2 lo1 hi1 lo2 hi2 lo3 hi3 m1 m2 : Nat) (es : List Ent) (rs : List Rcp) (hs : List Hd) (h : Hd) (f : Nat) (w : World)
  (hE : Rd w lo1 hi1 E (ents es)) (hR : Rd w lo2 hi2 R (rcps rs)) (hH : Rd w lo3 hi3 H (hds hs)) (hne : es.length = ne) (hnr : rs.length = nr) (hnh : hs.length = nh) (b1 : ne ≤ 1000) (b2 : nr ≤ 1000) (b3 : nh ≤ 1000) (hpos : 1 ≤ nh) (hch : nh ≤ ch) (hfe : ∀ x ∈ es, x.fits) (hfr : ∀ x ∈ rs, x.fits) (hfh : ∀ x ∈ hs, x.bulk ≤ 1048576) (hf2 : f ≤ 2) :
  Calls Try.prog 139 #[.agg #[.int .i64 width, .slice E ne ce, .slice R nr cr, .slice H nh ch, .int .i64 z1, .slice A1 m1 c1, .int .i64 z2, .slice A2 m2 c2, .int .i64 h.num, .int .i64 h.size, .string h.root, .int .i64 h.taken, .string h.troot], .int .i64 f] w fun e w' => e = .returned (.string (framesM (fileL width es rs hs f))) ∧ Below w.heap.size w w' := by
 have hfl := fileL_le (width := width) (es := es) (rs := rs) (hs := hs) (by omega) (by omega) (by omega)
 have HF0 := Lib.hid hfe
 have HF2 := Lib.hid hfr
 have HF1 := Lib.hid hfh
 have HN0 := Lib.hid hne
 have HN1 := Lib.hid hnh
 have HN2 := Lib.hid hnr
 have HE0 := Lib.hid hE.base
 have HR0 := Lib.hid hR.base
 have HH0 := Lib.hid hH.base
 obtain ⟨nh1, hnh1, hnh2⟩ : ∃ n, n + 1 ≤ nh ∧ nh ≤ n + 1 := ⟨nh - 1, by omega, by omega⟩
 have hnx : nh - 1 = nh1 := by omega
 obtain rfl | rfl | rfl : f = 0 ∨ f = 1 ∨ f = 2 := by omega
 ·skip
  have hLd : fileL width es rs hs 0 = es.map leafTextM := rfl
  have hLl : (fileL width es rs hs 0).length = ne := by rw [hLd, List.length_map, hne]
  have HFR := Lib.hid (fun W A c (r : Rd W 0 W.heap.size A (strs (fileL width es rs hs 0))) => specFrames_c A c 0 W.heap.size ne (fileL width es rs hs 0) W r hLl (by have := hfl 0; omega))
  generalize fileL width es rs hs 0 = L at *
  have HLD := Lib.hid hLd
  have HLL := Lib.hid hLl
  have HB : Hid (Below w.heap.size w w) := Below.refl _ _
  clear hE hR hH hne hnr hnh hch hfe hfr hfh hfl hLd hLl hnx
  change Calls Try.prog 139 #[.agg #[.int .i64 width, .slice E ne ce, .slice R nr cr, .slice H nh ch, .int .i64 z1, .slice A1 m1 c1, .int .i64 z2, .slice A2 m2 c2, .int .i64 h.num, .int .i64 h.size, .string h.root, .int .i64 h.taken, .string h.troot], .int .i64 0] w _
  go_enter Try.func139, Try.ntmps139
  go_wp2
  refine wp_named (fun w1 hw => ?_)
  have hz1 : w.heap.size + 2 ≤ w1.heap.size := by rw [hw]; first | omega | (simp [World.setCell]; done) | (simp [World.setCell]; omega)
  have hzz1 : w.heap.size ≤ w1.heap.size := by omega
  have hbn : Below w.heap.size w w1 := by rw [hw]; exact (by ((repeat (first | ((with_reducible refine Below.alloc ?_ ?_ _); rotate_left 1; (focus (first | omega | (simp; done) | (simp; omega)))) | (with_reducible refine Below.drew ?_) | ((with_reducible refine Below.setCell ?_ ?_ _); rotate_left 1; (focus (first | omega | (simp; done) | (simp; omega)))))); exact Below.refl _ _))
  replace HB := Lib.hid (below_then HB.out hbn HB.out.size)
  clear hbn
  have HXb : Hid (NewBox w1 (w.heap.size) [.int .i64 width, .slice E ne ce, .slice R nr cr, .slice H nh ch, .int .i64 z1, .slice A1 m1 c1, .int .i64 z2, .slice A2 m2 c2, .int .i64 h.num, .int .i64 h.size, .string h.root, .int .i64 h.taken, .string h.troot]) := by rw [Hid, hw]; exact ⟨by first | omega | (simp [World.setCell]; done) | (simp [World.setCell]; omega), fun o => by rcases o with _ | _ | _ | _ | _ | _ | _ | _ | _ | _ | _ | _ | _ | o <;> go_simp, fun o => by go_simp⟩
  have hxb := HXb.out.2.1
  have hfb := HXb.out.2.2
  have hkb := HXb.out.1
  have HXe1 : Hid (NewBox w1 (w.heap.size + 1) []) := by rw [Hid, hw]; exact ⟨by first | omega | (simp [World.setCell]; done) | (simp [World.setCell]; omega), fun o => by rcases o with o <;> go_simp, fun o => by go_simp⟩
  have hxe1 := HXe1.out.2.1
  have hfe1 := HXe1.out.2.2
  have hke1 := HXe1.out.1
  have HROW : Hid (RowB w1 (w.heap.size + 1) w1.heap.size (.slice (some ⟨w.heap.size + 1, 0, none⟩) 0 0, 0) (strs (L.take 0))) := by
   rw [Hid, hw]; exact RowB.of (by simpa [strs] using row_made (w.alloc _) 9 0)
  clear hw
  go_loopw [5, 6] (fun v i wr => ∃ (k : Nat) (X : Option Addr) (g : Nat), k ≤ ne ∧ i = .int .i64 k ∧ v = .slice X k g ∧ NewBox wr ((w.heap.size)) [.int .i64 width, .slice E ne ce, .slice R nr cr, .slice H nh ch, .int .i64 z1, .slice A1 m1 c1, .int .i64 z2, .slice A2 m2 c2, .int .i64 h.num, .int .i64 h.size, .string h.root, .int .i64 h.taken, .string h.troot] ∧ RowB wr (w.heap.size + 1) wr.heap.size (.slice X k g, k) (strs (L.take k)) ∧ Below w.heap.size w wr ∧ w1.heap.size ≤ wr.heap.size) (fun _ i _ => nh + ne - (intOf i).toNat)
  case atStart => exact ⟨0, _, 0, Nat.zero_le _, rfl, rfl, HXb.out, HROW.out, HB.out, Nat.le_refl _⟩
  case round =>
   obtain ⟨k, X, g, hk, rfl, rfl, hbb, hrw, hbl, hzl⟩ := hrel
   have HBL := Lib.hid hbl
   replace HB : Hid (Below w.heap.size w wr) := HBL.out
   replace HXb : Hid (NewBox wr (w.heap.size) [.int .i64 width, .slice E ne ce, .slice R nr cr, .slice H nh ch, .int .i64 z1, .slice A1 m1 c1, .int .i64 z2, .slice A2 m2 c2, .int .i64 h.num, .int .i64 h.size, .string h.root, .int .i64 h.taken, .string h.troot]) := hbb
   clear hxb hfb hkb
   have hxb := HXb.out.2.1
   have hfb := HXb.out.2.2
   have hkb := HXb.out.1
   have HOA : Hid (RowB wr (w.heap.size + 1) (wr.heap.size) (.slice X k g, k) (strs (L.take k))) := Lib.hid hrw
   have HOE := Lib.hid (HE0.out.below HBL.out)
   clear hxe1 hfe1 hke1 HXe1
   have hzz_wr : w.heap.size ≤ wr.heap.size := HB.out.size
   clear hbb hrw hbl HROW
   by_cases hlt : k < ne
   ·skip
    obtain ⟨b2, off, x, hEe, hb2, hks, hcs⟩ := ent_cells HOE.out (k := k) (by rw [HN0.out]; omega)
    have c0' := hcs.1
    have c1' := hcs.2.1
    have c2' := hcs.2.2.1
    have c3' := hcs.2.2.2.1
    have c4' := hcs.2.2.2.2
    have hix := idxEnt E b2 off ne ce k hEe (by omega)
    have HT : Hid (L.take (k + 1) = L.take k ++ [leafTextM x]) := Lib.hid (take_succ (by rw [HLD.out, List.getElem?_map, hks]; rfl))
    have HX := Lib.hid (fun W => specLeafText_c x W (HF0.out x (List.mem_of_getElem? hks)))
    have hI : (k : Int) < ne := by omega
    clear hks hcs hEe
    generalize leafTextM x = lt at *
    generalize entryOk x = lk at *
    clear HOE
    go_wp2_with fail
    refine calls_named (fun w2 hw => ?_)
    have hz2 : wr.heap.size + 0 ≤ w2.heap.size := by rw [hw]; first | omega | (simp [World.setCell]; done) | (simp [World.setCell]; omega)
    have hzz2 : w.heap.size ≤ w2.heap.size := by omega
    have hbn : Below wr.heap.size wr w2 := by rw [hw]; exact (by ((repeat (first | ((with_reducible refine Below.alloc ?_ ?_ _); rotate_left 1; (focus (first | omega | (simp; done) | (simp; omega)))) | (with_reducible refine Below.drew ?_) | ((with_reducible refine Below.setCell ?_ ?_ _); rotate_left 1; (focus (first | omega | (simp; done) | (simp; omega)))))); exact Below.refl _ _))
    replace HB := Lib.hid (below_then HB.out hbn HB.out.size)
    replace HOA := Lib.hid (HOA.out.below hbn)
    replace HXb := Lib.hid (HXb.out.below hbn)
    clear hxb hfb hkb
    have hxb := HXb.out.2.1
    have hfb := HXb.out.2.2
    have hkb := HXb.out.1
    clear hbn
    clear hw
    refine (HX.out _).mono ?_
    rintro e w3 ⟨rfl, hb⟩
    have hzw3 : w2.heap.size ≤ w3.heap.size := hb.size
    have hzzw3 : w.heap.size ≤ w3.heap.size := by omega
    replace HB := Lib.hid (below_then HB.out hb HB.out.size)
    replace HOA := Lib.hid (HOA.out.below hb)
    replace HXb := Lib.hid (HXb.out.below hb)
    clear hxb hfb hkb
    have hxb := HXb.out.2.1
    have hfb := HXb.out.2.2
    have hkb := HXb.out.1
    clear hb
    clear c0' c1' c2' c3' c4' hix
    go_wp2_with (at_builtin; refine app1Str rfl _ _ rfl (w.heap.size + 1) _ _ _ rfl (HOA.out.1.alloc _) w3.heap.size lt rfl (NewBox.new w3 _ _) (by omega) (by first | omega | (simp; done) | (simp; omega)) ?_)
    intro v2 w2_ hown2 hg2
    obtain ⟨hrb, hon⟩ := rowB_app HOA.out.1 _ hown2 hg2
    obtain ⟨A9, g9, rfl, _, _, _⟩ := ownsRow_slice hown2
    rw [← strs_app, ← HT.out] at hrb
    have hzw2_ : w3.heap.size ≤ w2_.heap.size := hon.size
    have hzzw2_ : w.heap.size ≤ w2_.heap.size := by omega
    replace HB := Lib.hid (below_only HB.out hon (by omega) HB.out.size)
    replace HXb := Lib.hid (HXb.out.only hon (by first | omega | (simp; omega)))
    clear hxb hfb hkb
    have hxb := HXb.out.2.1
    have hfb := HXb.out.2.2
    have hkb := HXb.out.1
    clear HOA
    have HOA : Hid (RowB w2_ (w.heap.size + 1) (w2_.heap.size) (.slice A9 (k + 1) g9, k + 1) (strs (L.take (k + 1)))) := Lib.hid hrb
    clear hown2 hg2 hrb hon
    go_wp2
    go_roundw
    case rel => exact ⟨k + 1, A9, g9, by omega, by go_num, rfl, HXb.out, HOA.out, HB.out, by omega⟩
    case measure => simp [intOf]; omega
   ·skip
    obtain rfl : ne = k := by omega
    have HXX := Lib.hid HOA.out
    rw [show L.take ne = L from List.take_of_length_le (by rw [HLL.out]; exact Nat.le_refl _)] at HXX
    clear HOA
    clear HOE
    have HOA : Hid (RowB wr (w.heap.size + 1) (wr.heap.size) (.slice X ne g, ne) (strs L)) := HXX
    clear HXX
    go_wp2
    all_goals rcases Nat.lt_or_ge 1 nh with hz1 | hz1
    all_goals
     first | have hd1 : decide ((1 : Int) < (nh : Int)) = true := decide_eq_true (by omega) | have hd1 : decide ((1 : Int) < (nh : Int)) = false := decide_eq_false (by omega)
     refine wp_loop_once ?_
     go_wp2
     clear hd1 hz1
    all_goals rcases Nat.lt_or_ge 0 nr with hz2 | hz2
    all_goals
     first | have hd2 : decide ((0 : Int) < (nr : Int)) = true := decide_eq_true (by omega) | have hd2 : decide ((0 : Int) < (nr : Int)) = false := decide_eq_false (by omega)
     refine wp_loop_once ?_
     go_wp2_with fail
     clear hd2 hz2
    all_goals
     refine calls_named (fun w2 hw => ?_)
     have hz2 : wr.heap.size + 0 ≤ w2.heap.size := by rw [hw]; first | omega | (simp [World.setCell]; done) | (simp [World.setCell]; omega)
     have hzz2 : w.heap.size ≤ w2.heap.size := by omega
     have hbn : Below wr.heap.size wr w2 := by rw [hw]; exact (by ((repeat (first | ((with_reducible refine Below.alloc ?_ ?_ _); rotate_left 1; (focus (first | omega | (simp; done) | (simp; omega)))) | (with_reducible refine Below.drew ?_) | ((with_reducible refine Below.setCell ?_ ?_ _); rotate_left 1; (focus (first | omega | (simp; done) | (simp; omega)))))); exact Below.refl _ _))
     replace HB := Lib.hid (below_then HB.out hbn HB.out.size)
     replace HOA := Lib.hid (HOA.out.below hbn)
     replace HXb := Lib.hid (HXb.out.below hbn)
     clear hxb hfb hkb
     have hxb := HXb.out.2.1
     have hfb := HXb.out.2.2
     have hkb := HXb.out.1
     clear hbn
     clear hw
     refine (HFR.out _ _ _ (HOA.out.ownB rfl (by omega) (by omega)).rd.base).mono ?_
     rintro e w3 ⟨rfl, hb⟩
     have hzw3 : w2.heap.size ≤ w3.heap.size := hb.size
     have hzzw3 : w.heap.size ≤ w3.heap.size := by omega
     replace HB := Lib.hid (below_then HB.out hb HB.out.size)
     replace HOA := Lib.hid (HOA.out.below hb)
     replace HXb := Lib.hid (HXb.out.below hb)
     clear hxb hfb hkb
     have hxb := HXb.out.2.1
     have hfb := HXb.out.2.2
     have hkb := HXb.out.1
     clear hb
     go_wp2
     go_ret
     exact ⟨rfl, HB.out⟩
 ·skip
  have hLd : fileL width es rs hs 1 = (hs.drop 1).map (headTextM width) := rfl
  have hLl : (fileL width es rs hs 1).length = nh1 := by rw [hLd, List.length_map, List.length_drop, hnh]; exact hnx
  have HFR := Lib.hid (fun W A c (r : Rd W 0 W.heap.size A (strs (fileL width es rs hs 1))) => specFrames_c A c 0 W.heap.size nh1 (fileL width es rs hs 1) W r hLl (by have := hfl 1; omega))
  generalize fileL width es rs hs 1 = L at *
  have HLD := Lib.hid hLd
  have HLL := Lib.hid hLl
  have HB : Hid (Below w.heap.size w w) := Below.refl _ _
  clear hE hR hH hne hnr hnh hch hfe hfr hfh hfl hLd hLl hnx
  change Calls Try.prog 139 #[.agg #[.int .i64 width, .slice E ne ce, .slice R nr cr, .slice H nh ch, .int .i64 z1, .slice A1 m1 c1, .int .i64 z2, .slice A2 m2 c2, .int .i64 h.num, .int .i64 h.size, .string h.root, .int .i64 h.taken, .string h.troot], .int .i64 1] w _
  go_enter Try.func139, Try.ntmps139
  go_wp2
  refine wp_named (fun w1 hw => ?_)
  have hz1 : w.heap.size + 2 ≤ w1.heap.size := by rw [hw]; first | omega | (simp [World.setCell]; done) | (simp [World.setCell]; omega)
  have hzz1 : w.heap.size ≤ w1.heap.size := by omega
  have hbn : Below w.heap.size w w1 := by rw [hw]; exact (by ((repeat (first | ((with_reducible refine Below.alloc ?_ ?_ _); rotate_left 1; (focus (first | omega | (simp; done) | (simp; omega)))) | (with_reducible refine Below.drew ?_) | ((with_reducible refine Below.setCell ?_ ?_ _); rotate_left 1; (focus (first | omega | (simp; done) | (simp; omega)))))); exact Below.refl _ _))
  replace HB := Lib.hid (below_then HB.out hbn HB.out.size)
  clear hbn
  have HXb : Hid (NewBox w1 (w.heap.size) [.int .i64 width, .slice E ne ce, .slice R nr cr, .slice H nh ch, .int .i64 z1, .slice A1 m1 c1, .int .i64 z2, .slice A2 m2 c2, .int .i64 h.num, .int .i64 h.size, .string h.root, .int .i64 h.taken, .string h.troot]) := by rw [Hid, hw]; exact ⟨by first | omega | (simp [World.setCell]; done) | (simp [World.setCell]; omega), fun o => by rcases o with _ | _ | _ | _ | _ | _ | _ | _ | _ | _ | _ | _ | _ | o <;> go_simp, fun o => by go_simp⟩
  have hxb := HXb.out.2.1
  have hfb := HXb.out.2.2
  have hkb := HXb.out.1
  have HXe1 : Hid (NewBox w1 (w.heap.size + 1) []) := by rw [Hid, hw]; exact ⟨by first | omega | (simp [World.setCell]; done) | (simp [World.setCell]; omega), fun o => by rcases o with o <;> go_simp, fun o => by go_simp⟩
  have hxe1 := HXe1.out.2.1
  have hfe1 := HXe1.out.2.2
  have hke1 := HXe1.out.1
  have HROW : Hid (RowB w1 (w.heap.size + 1) w1.heap.size (.slice (some ⟨w.heap.size + 1, 0, none⟩) 0 0, 0) (strs (L.take 0))) := by
   rw [Hid, hw]; exact RowB.of (by simpa [strs] using row_made (w.alloc _) 9 0)
  clear hw
  all_goals rcases Nat.lt_or_ge 0 ne with hz0 | hz0
  all_goals
   first | have hd0 : decide ((0 : Int) < (ne : Int)) = true := decide_eq_true (by omega) | have hd0 : decide ((0 : Int) < (ne : Int)) = false := decide_eq_false (by omega)
   refine wp_loop_once ?_
   go_wp2
   clear hd0 hz0
  all_goals
   go_loopw [5, 9] (fun v i wr => ∃ (k : Nat) (q : Nat) (X : Option Addr) (g : Nat), k ≤ nh1 ∧ k + 1 ≤ q ∧ q ≤ k + 1 ∧ i = .int .i64 q ∧ v = .slice X k g ∧ NewBox wr ((w.heap.size)) [.int .i64 width, .slice E ne ce, .slice R nr cr, .slice H nh ch, .int .i64 z1, .slice A1 m1 c1, .int .i64 z2, .slice A2 m2 c2, .int .i64 h.num, .int .i64 h.size, .string h.root, .int .i64 h.taken, .string h.troot] ∧ RowB wr (w.heap.size + 1) wr.heap.size (.slice X k g, k) (strs (L.take k)) ∧ Below w.heap.size w wr ∧ w1.heap.size ≤ wr.heap.size) (fun _ i _ => nh + nh1 - (intOf i).toNat)
   case atStart => exact ⟨0, 1, _, 0, Nat.zero_le _, Nat.le_refl _, Nat.le_refl _, rfl, rfl, HXb.out, HROW.out, HB.out, Nat.le_refl _⟩
   case round =>
    obtain ⟨k, q, X, g, hk, hq1, hq2, rfl, rfl, hbb, hrw, hbl, hzl⟩ := hrel
    have HBL := Lib.hid hbl
    replace HB : Hid (Below w.heap.size w wr) := HBL.out
    replace HXb : Hid (NewBox wr (w.heap.size) [.int .i64 width, .slice E ne ce, .slice R nr cr, .slice H nh ch, .int .i64 z1, .slice A1 m1 c1, .int .i64 z2, .slice A2 m2 c2, .int .i64 h.num, .int .i64 h.size, .string h.root, .int .i64 h.taken, .string h.troot]) := hbb
    clear hxb hfb hkb
    have hxb := HXb.out.2.1
    have hfb := HXb.out.2.2
    have hkb := HXb.out.1
    have HOA : Hid (RowB wr (w.heap.size + 1) (wr.heap.size) (.slice X k g, k) (strs (L.take k))) := Lib.hid hrw
    have HOH := Lib.hid (HH0.out.below HBL.out)
    clear hxe1 hfe1 hke1 HXe1
    have hzz_wr : w.heap.size ≤ wr.heap.size := HB.out.size
    clear hbb hrw hbl HROW
    by_cases hlt : k < nh1
    ·skip
     obtain ⟨b2, off, x, hHe, hb2, hks, hcs⟩ := hd_cells HOH.out (k := q) (by rw [HN1.out]; omega)
     have c0' := hcs.1
     have c1' := hcs.2.1
     have c2' := hcs.2.2.1
     have c3' := hcs.2.2.2.1
     have c4' := hcs.2.2.2.2
     have hix := idxHd H b2 off nh ch q hHe (by omega)
     have HT : Hid (L.take (k + 1) = L.take k ++ [headTextM width x]) := Lib.hid (take_succ (by rw [HLD.out, List.getElem?_map, List.getElem?_drop, show 1 + k = q by omega, hks]; rfl))
     have HX := Lib.hid (fun W => specHeadText_c width x W (HF1.out x (List.mem_of_getElem? hks)))
     have hI : (q : Int) < nh := by omega
     clear hks hcs hHe
     generalize headTextM width x = lt at *
     generalize headOk width x = lk at *
     clear HOH
     go_wp2_with fail
     have lb : ∀ v : Later wr, v.v.cell? ⟨w.heap.size, 0, none⟩ = some (.int .i64 width) := fun v => (later_cell v _ _ hkb).trans (hxb 0)
     have lb3 : ∀ v : Later wr, v.v.cell? ⟨w.heap.size, 3, none⟩ = some (.slice H nh ch) := fun v => (later_cell v _ _ hkb).trans (hxb 3)
     have le0 : ∀ v : Later wr, v.v.cell? ⟨b2, off + q * 5, none⟩ = some (.int .i64 x.num) := fun v => (later_cell v _ _ hb2).trans c0'
     have le1 : ∀ v : Later wr, v.v.cell? ⟨b2, off + q * 5 + 1, none⟩ = some (.int .i64 x.size) := fun v => (later_cell v _ _ hb2).trans c1'
     have le2 : ∀ v : Later wr, v.v.cell? ⟨b2, off + q * 5 + 2, none⟩ = some (.string x.root) := fun v => (later_cell v _ _ hb2).trans c2'
     have le3 : ∀ v : Later wr, v.v.cell? ⟨b2, off + q * 5 + 3, none⟩ = some (.int .i64 x.taken) := fun v => (later_cell v _ _ hb2).trans c3'
     have le4 : ∀ v : Later wr, v.v.cell? ⟨b2, off + q * 5 + 4, none⟩ = some (.string x.troot) := fun v => (later_cell v _ _ hb2).trans c4'
     refine wp_region_later (by kernel_rfl) (by kernel_rfl) ?_
     repeat (go_big_quiet_step ((first | with_reducible exact later_call (HX.out _))))
     refine wpQuiet_nil ?_
     intro w9 h9
     have hb9 := later_below h9
     clear lb lb3 le0 le1 le2 le3 le4 h9
     have hzw9 : wr.heap.size ≤ w9.heap.size := hb9.size
     have hzzw9 : w.heap.size ≤ w9.heap.size := by omega
     replace HB := Lib.hid (below_then HB.out hb9 HB.out.size)
     replace HOA := Lib.hid (HOA.out.below hb9)
     replace HXb := Lib.hid (HXb.out.below hb9)
     clear hxb hfb hkb
     have hxb := HXb.out.2.1
     have hfb := HXb.out.2.2
     have hkb := HXb.out.1
     clear hb9
     clear c0' c1' c2' c3' c4' hix
     go_wp2_with (at_builtin; refine app1Str rfl _ _ rfl (w.heap.size + 1) _ _ _ rfl (HOA.out.1.alloc _) w9.heap.size lt rfl (NewBox.new w9 _ _) (by omega) (by first | omega | (simp; done) | (simp; omega)) ?_)
     intro v2 w2_ hown2 hg2
     obtain ⟨hrb, hon⟩ := rowB_app HOA.out.1 _ hown2 hg2
     obtain ⟨A9, g9, rfl, _, _, _⟩ := ownsRow_slice hown2
     rw [← strs_app, ← HT.out] at hrb
     have hzw2_ : w9.heap.size ≤ w2_.heap.size := hon.size
     have hzzw2_ : w.heap.size ≤ w2_.heap.size := by omega
     replace HB := Lib.hid (below_only HB.out hon (by omega) HB.out.size)
     replace HXb := Lib.hid (HXb.out.only hon (by first | omega | (simp; omega)))
     clear hxb hfb hkb
     have hxb := HXb.out.2.1
     have hfb := HXb.out.2.2
     have hkb := HXb.out.1
     clear HOA
     have HOA : Hid (RowB w2_ (w.heap.size + 1) (w2_.heap.size) (.slice A9 (k + 1) g9, k + 1) (strs (L.take (k + 1)))) := Lib.hid hrb
     clear hown2 hg2 hrb hon
     go_wp2
     go_roundw
     case rel => exact ⟨k + 1, q + 1, A9, g9, by omega, by omega, by omega, by go_num, rfl, HXb.out, HOA.out, HB.out, by omega⟩
     case measure => simp [intOf]; omega
    ·skip
     obtain rfl : nh1 = k := by omega
     have HXX := Lib.hid HOA.out
     rw [show L.take nh1 = L from List.take_of_length_le (by rw [HLL.out]; exact Nat.le_refl _)] at HXX
     clear HOA
     clear HOH
     have HOA : Hid (RowB wr (w.heap.size + 1) (wr.heap.size) (.slice X nh1 g, nh1) (strs L)) := HXX
     clear HXX
     go_wp2
     all_goals rcases Nat.lt_or_ge 0 nr with hz2 | hz2
     all_goals
      first | have hd2 : decide ((0 : Int) < (nr : Int)) = true := decide_eq_true (by omega) | have hd2 : decide ((0 : Int) < (nr : Int)) = false := decide_eq_false (by omega)
      refine wp_loop_once ?_
      go_wp2_with fail
      clear hd2 hz2
     all_goals
      refine calls_named (fun w2 hw => ?_)
      have hz2 : wr.heap.size + 0 ≤ w2.heap.size := by rw [hw]; first | omega | (simp [World.setCell]; done) | (simp [World.setCell]; omega)
      have hzz2 : w.heap.size ≤ w2.heap.size := by omega
      have hbn : Below wr.heap.size wr w2 := by rw [hw]; exact (by ((repeat (first | ((with_reducible refine Below.alloc ?_ ?_ _); rotate_left 1; (focus (first | omega | (simp; done) | (simp; omega)))) | (with_reducible refine Below.drew ?_) | ((with_reducible refine Below.setCell ?_ ?_ _); rotate_left 1; (focus (first | omega | (simp; done) | (simp; omega)))))); exact Below.refl _ _))
      replace HB := Lib.hid (below_then HB.out hbn HB.out.size)
      replace HOA := Lib.hid (HOA.out.below hbn)
      replace HXb := Lib.hid (HXb.out.below hbn)
      clear hxb hfb hkb
      have hxb := HXb.out.2.1
      have hfb := HXb.out.2.2
      have hkb := HXb.out.1
      clear hbn
      clear hw
      refine (HFR.out _ _ _ (HOA.out.ownB rfl (by omega) (by omega)).rd.base).mono ?_
      rintro e w3 ⟨rfl, hb⟩
      have hzw3 : w2.heap.size ≤ w3.heap.size := hb.size
      have hzzw3 : w.heap.size ≤ w3.heap.size := by omega
      replace HB := Lib.hid (below_then HB.out hb HB.out.size)
      replace HOA := Lib.hid (HOA.out.below hb)
      replace HXb := Lib.hid (HXb.out.below hb)
      clear hxb hfb hkb
      have hxb := HXb.out.2.1
      have hfb := HXb.out.2.2
      have hkb := HXb.out.1
      clear hb
      go_wp2
      go_ret
      exact ⟨rfl, HB.out⟩
 ·skip
  have hLd : fileL width es rs hs 2 = rs.map rcpTextM := rfl
  have hLl : (fileL width es rs hs 2).length = nr := by rw [hLd, List.length_map, hnr]
  have HFR := Lib.hid (fun W A c (r : Rd W 0 W.heap.size A (strs (fileL width es rs hs 2))) => specFrames_c A c 0 W.heap.size nr (fileL width es rs hs 2) W r hLl (by have := hfl 2; omega))
  generalize fileL width es rs hs 2 = L at *
  have HLD := Lib.hid hLd
  have HLL := Lib.hid hLl
  have HB : Hid (Below w.heap.size w w) := Below.refl _ _
  clear hE hR hH hne hnr hnh hch hfe hfr hfh hfl hLd hLl hnx
  change Calls Try.prog 139 #[.agg #[.int .i64 width, .slice E ne ce, .slice R nr cr, .slice H nh ch, .int .i64 z1, .slice A1 m1 c1, .int .i64 z2, .slice A2 m2 c2, .int .i64 h.num, .int .i64 h.size, .string h.root, .int .i64 h.taken, .string h.troot], .int .i64 2] w _
  go_enter Try.func139, Try.ntmps139
  go_wp2
  refine wp_named (fun w1 hw => ?_)
  have hz1 : w.heap.size + 2 ≤ w1.heap.size := by rw [hw]; first | omega | (simp [World.setCell]; done) | (simp [World.setCell]; omega)
  have hzz1 : w.heap.size ≤ w1.heap.size := by omega
  have hbn : Below w.heap.size w w1 := by rw [hw]; exact (by ((repeat (first | ((with_reducible refine Below.alloc ?_ ?_ _); rotate_left 1; (focus (first | omega | (simp; done) | (simp; omega)))) | (with_reducible refine Below.drew ?_) | ((with_reducible refine Below.setCell ?_ ?_ _); rotate_left 1; (focus (first | omega | (simp; done) | (simp; omega)))))); exact Below.refl _ _))
  replace HB := Lib.hid (below_then HB.out hbn HB.out.size)
  clear hbn
  have HXb : Hid (NewBox w1 (w.heap.size) [.int .i64 width, .slice E ne ce, .slice R nr cr, .slice H nh ch, .int .i64 z1, .slice A1 m1 c1, .int .i64 z2, .slice A2 m2 c2, .int .i64 h.num, .int .i64 h.size, .string h.root, .int .i64 h.taken, .string h.troot]) := by rw [Hid, hw]; exact ⟨by first | omega | (simp [World.setCell]; done) | (simp [World.setCell]; omega), fun o => by rcases o with _ | _ | _ | _ | _ | _ | _ | _ | _ | _ | _ | _ | _ | o <;> go_simp, fun o => by go_simp⟩
  have hxb := HXb.out.2.1
  have hfb := HXb.out.2.2
  have hkb := HXb.out.1
  have HXe1 : Hid (NewBox w1 (w.heap.size + 1) []) := by rw [Hid, hw]; exact ⟨by first | omega | (simp [World.setCell]; done) | (simp [World.setCell]; omega), fun o => by rcases o with o <;> go_simp, fun o => by go_simp⟩
  have hxe1 := HXe1.out.2.1
  have hfe1 := HXe1.out.2.2
  have hke1 := HXe1.out.1
  have HROW : Hid (RowB w1 (w.heap.size + 1) w1.heap.size (.slice (some ⟨w.heap.size + 1, 0, none⟩) 0 0, 0) (strs (L.take 0))) := by
   rw [Hid, hw]; exact RowB.of (by simpa [strs] using row_made (w.alloc _) 9 0)
  clear hw
  all_goals rcases Nat.lt_or_ge 0 ne with hz0 | hz0
  all_goals
   first | have hd0 : decide ((0 : Int) < (ne : Int)) = true := decide_eq_true (by omega) | have hd0 : decide ((0 : Int) < (ne : Int)) = false := decide_eq_false (by omega)
   refine wp_loop_once ?_
   go_wp2
   clear hd0 hz0
  all_goals rcases Nat.lt_or_ge 1 nh with hz1 | hz1
  all_goals
   first | have hd1 : decide ((1 : Int) < (nh : Int)) = true := decide_eq_true (by omega) | have hd1 : decide ((1 : Int) < (nh : Int)) = false := decide_eq_false (by omega)
   refine wp_loop_once ?_
   go_wp2
   clear hd1 hz1
  all_goals
   go_loopw [5, 12] (fun v i wr => ∃ (k : Nat) (X : Option Addr) (g : Nat), k ≤ nr ∧ i = .int .i64 k ∧ v = .slice X k g ∧ NewBox wr ((w.heap.size)) [.int .i64 width, .slice E ne ce, .slice R nr cr, .slice H nh ch, .int .i64 z1, .slice A1 m1 c1, .int .i64 z2, .slice A2 m2 c2, .int .i64 h.num, .int .i64 h.size, .string h.root, .int .i64 h.taken, .string h.troot] ∧ RowB wr (w.heap.size + 1) wr.heap.size (.slice X k g, k) (strs (L.take k)) ∧ Below w.heap.size w wr ∧ w1.heap.size ≤ wr.heap.size) (fun _ i _ => nh + nr - (intOf i).toNat)
   case atStart => exact ⟨0, _, 0, Nat.zero_le _, rfl, rfl, HXb.out, HROW.out, HB.out, Nat.le_refl _⟩
   case round =>
    obtain ⟨k, X, g, hk, rfl, rfl, hbb, hrw, hbl, hzl⟩ := hrel
    have HBL := Lib.hid hbl
    replace HB : Hid (Below w.heap.size w wr) := HBL.out
    replace HXb : Hid (NewBox wr (w.heap.size) [.int .i64 width, .slice E ne ce, .slice R nr cr, .slice H nh ch, .int .i64 z1, .slice A1 m1 c1, .int .i64 z2, .slice A2 m2 c2, .int .i64 h.num, .int .i64 h.size, .string h.root, .int .i64 h.taken, .string h.troot]) := hbb
    clear hxb hfb hkb
    have hxb := HXb.out.2.1
    have hfb := HXb.out.2.2
    have hkb := HXb.out.1
    have HOA : Hid (RowB wr (w.heap.size + 1) (wr.heap.size) (.slice X k g, k) (strs (L.take k))) := Lib.hid hrw
    have HOR := Lib.hid (HR0.out.below HBL.out)
    clear hxe1 hfe1 hke1 HXe1
    have hzz_wr : w.heap.size ≤ wr.heap.size := HB.out.size
    clear hbb hrw hbl HROW
    by_cases hlt : k < nr
    ·skip
     obtain ⟨b2, off, x, hRe, hb2, hks, hcs⟩ := rcp_cells HOR.out (k := k) (by rw [HN2.out]; omega)
     have c0' := hcs.1
     have c1' := hcs.2.1
     have c2' := hcs.2.2
     have hix := idxRcp R b2 off nr cr k hRe (by omega)
     have HT : Hid (L.take (k + 1) = L.take k ++ [rcpTextM x]) := Lib.hid (take_succ (by rw [HLD.out, List.getElem?_map, hks]; rfl))
     have HX := Lib.hid (fun W => specReceiptText_c x W (HF2.out x (List.mem_of_getElem? hks)))
     have hI : (k : Int) < nr := by omega
     clear hks hcs hRe
     generalize rcpTextM x = lt at *
     generalize rcpOk x = lk at *
     clear HOR
     go_wp2_with fail
     refine calls_named (fun w2 hw => ?_)
     have hz2 : wr.heap.size + 0 ≤ w2.heap.size := by rw [hw]; first | omega | (simp [World.setCell]; done) | (simp [World.setCell]; omega)
     have hzz2 : w.heap.size ≤ w2.heap.size := by omega
     have hbn : Below wr.heap.size wr w2 := by rw [hw]; exact (by ((repeat (first | ((with_reducible refine Below.alloc ?_ ?_ _); rotate_left 1; (focus (first | omega | (simp; done) | (simp; omega)))) | (with_reducible refine Below.drew ?_) | ((with_reducible refine Below.setCell ?_ ?_ _); rotate_left 1; (focus (first | omega | (simp; done) | (simp; omega)))))); exact Below.refl _ _))
     replace HB := Lib.hid (below_then HB.out hbn HB.out.size)
     replace HOA := Lib.hid (HOA.out.below hbn)
     replace HXb := Lib.hid (HXb.out.below hbn)
     clear hxb hfb hkb
     have hxb := HXb.out.2.1
     have hfb := HXb.out.2.2
     have hkb := HXb.out.1
     clear hbn
     clear hw
     refine (HX.out _).mono ?_
     rintro e w3 ⟨rfl, hb⟩
     have hzw3 : w2.heap.size ≤ w3.heap.size := hb.size
     have hzzw3 : w.heap.size ≤ w3.heap.size := by omega
     replace HB := Lib.hid (below_then HB.out hb HB.out.size)
     replace HOA := Lib.hid (HOA.out.below hb)
     replace HXb := Lib.hid (HXb.out.below hb)
     clear hxb hfb hkb
     have hxb := HXb.out.2.1
     have hfb := HXb.out.2.2
     have hkb := HXb.out.1
     clear hb
     clear c0' c1' c2' hix
     go_wp2_with (at_builtin; refine app1Str rfl _ _ rfl (w.heap.size + 1) _ _ _ rfl (HOA.out.1.alloc _) w3.heap.size lt rfl (NewBox.new w3 _ _) (by omega) (by first | omega | (simp; done) | (simp; omega)) ?_)
     intro v2 w2_ hown2 hg2
     obtain ⟨hrb, hon⟩ := rowB_app HOA.out.1 _ hown2 hg2
     obtain ⟨A9, g9, rfl, _, _, _⟩ := ownsRow_slice hown2
     rw [← strs_app, ← HT.out] at hrb
     have hzw2_ : w3.heap.size ≤ w2_.heap.size := hon.size
     have hzzw2_ : w.heap.size ≤ w2_.heap.size := by omega
     replace HB := Lib.hid (below_only HB.out hon (by omega) HB.out.size)
     replace HXb := Lib.hid (HXb.out.only hon (by first | omega | (simp; omega)))
     clear hxb hfb hkb
     have hxb := HXb.out.2.1
     have hfb := HXb.out.2.2
     have hkb := HXb.out.1
     clear HOA
     have HOA : Hid (RowB w2_ (w.heap.size + 1) (w2_.heap.size) (.slice A9 (k + 1) g9, k + 1) (strs (L.take (k + 1)))) := Lib.hid hrb
     clear hown2 hg2 hrb hon
     go_wp2
     go_roundw
     case rel => exact ⟨k + 1, A9, g9, by omega, by go_num, rfl, HXb.out, HOA.out, HB.out, by omega⟩
     case measure => simp [intOf]; omega
    ·skip
     obtain rfl : nr = k := by omega
     have HXX := Lib.hid HOA.out
     rw [show L.take nr = L from List.take_of_length_le (by rw [HLL.out]; exact Nat.le_refl _)] at HXX
     clear HOA
     clear HOR
     have HOA : Hid (RowB wr (w.heap.size + 1) (wr.heap.size) (.slice X nr g, nr) (strs L)) := HXX
     clear HXX
     go_wp2_with fail
     all_goals
      refine calls_named (fun w2 hw => ?_)
      have hz2 : wr.heap.size + 0 ≤ w2.heap.size := by rw [hw]; first | omega | (simp [World.setCell]; done) | (simp [World.setCell]; omega)
      have hzz2 : w.heap.size ≤ w2.heap.size := by omega
      have hbn : Below wr.heap.size wr w2 := by rw [hw]; exact (by ((repeat (first | ((with_reducible refine Below.alloc ?_ ?_ _); rotate_left 1; (focus (first | omega | (simp; done) | (simp; omega)))) | (with_reducible refine Below.drew ?_) | ((with_reducible refine Below.setCell ?_ ?_ _); rotate_left 1; (focus (first | omega | (simp; done) | (simp; omega)))))); exact Below.refl _ _))
      replace HB := Lib.hid (below_then HB.out hbn HB.out.size)
      replace HOA := Lib.hid (HOA.out.below hbn)
      replace HXb := Lib.hid (HXb.out.below hbn)
      clear hxb hfb hkb
      have hxb := HXb.out.2.1
      have hfb := HXb.out.2.2
      have hkb := HXb.out.1
      clear hbn
      clear hw
      refine (HFR.out _ _ _ (HOA.out.ownB rfl (by omega) (by omega)).rd.base).mono ?_
      rintro e w3 ⟨rfl, hb⟩
      have hzw3 : w2.heap.size ≤ w3.heap.size := hb.size
      have hzzw3 : w.heap.size ≤ w3.heap.size := by omega
      replace HB := Lib.hid (below_then HB.out hb HB.out.size)
      replace HOA := Lib.hid (HOA.out.below hb)
      replace HXb := Lib.hid (HXb.out.below hb)
      clear hxb hfb hkb
      have hxb := HXb.out.2.1
      have hfb := HXb.out.2.2
      have hkb := HXb.out.1
      clear hb
      go_wp2
      go_ret
      exact ⟨rfl, HB.out⟩
end Go.Proofs.Ytoccjgcokffkbaa
namespace Go.Proofs.Ytoccjgcokffkbaa
set_option linter.unusedVariables false
set_option linter.unusedSimpArgs false
open Go.RowKit
def zeroBk : Bk := ⟨none, none, none, none, none, 0, 0, 0, 0, 0⟩
def zeroBm : Bm := ⟨0, [], [], []⟩
/-- what is behind a deed: with code 0, a right broker -/
def NextOk (w w' : World) (m : Bm) (a' : Bk) (m' : Bm) (code : Int) : Prop := (code = 0 → BrkK w' w.heap.size w'.heap.size a' m' ∧ m'.width = m.width ∧ m'.es.length ≤ m.es.length + 1) ∧ Below w.heap.size w w'
theorem NextOk.no {w w' : World} {m : Bm} {code : Int} (hc : ¬ code = 0) (hb : Below w.heap.size w w') : NextOk w w' m zeroBk zeroBm code := ⟨fun h => absurd h hc, hb⟩
set_option maxRecDepth 100000 in
set_option maxHeartbeats 4000000 in
theorem l12WriteP_c (width : Int) (E R H A1 A2 : Option Addr) (ne nr nh ce cr ch c1 c2 m1 m2 : Nat) (es : List Ent) (rs : List Rcp) (hs : List Hd) (l1 l2 : List ByteArray) (h : Hd) (lo hi f : Nat) (t : ByteArray) (w : World) (hk : BrkK w lo hi ⟨E, R, H, A1, A2, ce, cr, ch, c1, c2⟩ ⟨width, es, rs, hs⟩) (hne : es.length = ne) (hnr : rs.length = nr) (hnh : hs.length = nh) (hl1 : pk1 width es hs = l1) (hl2 : pk2 width rs hs = l2) (hm1 : l1.length = m1) (hm2 : l2.length = m2) (hh : lastHd hs = h) (hf : f ≤ 2) (ht : t.size ≤ 1048576) :
  Calls Try.prog 110 #[.agg #[.int .i64 width, .slice E ne ce, .slice R nr cr, .slice H nh ch, .int .i64 h.size, .slice A1 m1 c1, .int .i64 h.taken, .slice A2 m2 c2, .int .i64 h.num, .int .i64 h.size, .string h.root, .int .i64 h.taken, .string h.troot], .int .i64 f, .string t] w fun e w' => ∃ k, e = .returned (.slice (some ⟨k, 0, none⟩) 1 1) ∧ Below w.heap.size w w' := by
 obtain ⟨f1, f2, f3, g1, g2, g3, g4, f4, g5, g6, g7⟩ := parts_fits hk.ok
 have hlast := hk.ok.last
 have hpos := hk.ok.pos
 dsimp only at f1 f2 f3 g1 g2 g3 g4 f4 g5 g6 g7 hlast hpos
 rw [hne] at g1 hlast
 rw [hnr] at g2 hlast
 rw [hnh] at g3 g4 hpos
 rw [hh] at f4 g5 hlast
 rw [hl1, hm1] at g6
 rw [hl2, hm2] at g7
 have HF := Lib.hid (fun W (r : BrkK W 0 W.heap.size ⟨E, R, H, A1, A2, ce, cr, ch, c1, c2⟩ ⟨width, es, rs, hs⟩) => l12File_c width h.size h.taken E R H A1 A2 ne nr nh ce cr ch c1 c2 0 W.heap.size 0 W.heap.size 0 W.heap.size m1 m2 es rs hs h f W r.rE r.rR r.rH hne hnr hnh (by omega) (by omega) (by omega) (by omega) (by have := r.kH; dsimp only at this; omega) f1 f2 (fun x hx => by have h1 := f3 x hx; have h2 : x.bulk ≤ sumBy Hd.bulk hs := sumBy_mem Hd.bulk hx; omega) hf)
 have HFM := Lib.hid (fun W => specFrame_c t W ht)
 have HB : Hid (Below w.heap.size w w) := Below.refl _ _
 have HOB : Hid (BrkK w (0) (w.heap.size) (⟨E, R, H, A1, A2, ce, cr, ch, c1, c2⟩) (⟨width, es, rs, hs⟩)) := Lib.hid hk.base
 clear hk f1 f2 f3 f4 hlast hne hnr hnh hl1 hl2 hm1 hm2 hh
 generalize framesM (fileL width es rs hs f) = ft at *
 generalize frameM t = fm at *
 generalize frameOk t = fo at *
 have hz := ft.size
 go_enter Try.func110, Try.ntmps110
 go_wp2_with fail
 refine calls_named (fun w1 hw => ?_)
 have hz1 : w.heap.size + 1 ≤ w1.heap.size := by rw [hw]; first | omega | (simp [World.setCell]; done) | (simp [World.setCell]; omega)
 have hzz1 : w.heap.size ≤ w1.heap.size := by omega
 have hbn : Below w.heap.size w w1 := by rw [hw]; exact (by ((repeat (first | ((with_reducible refine Below.alloc ?_ ?_ _); rotate_left 1; (focus (first | omega | (simp; done) | (simp; omega)))) | (with_reducible refine Below.drew ?_) | ((with_reducible refine Below.setCell ?_ ?_ _); rotate_left 1; (focus (first | omega | (simp; done) | (simp; omega)))))); exact Below.refl _ _))
 replace HB := Lib.hid (below_then HB.out hbn HB.out.size)
 replace HOB := Lib.hid (HOB.out.below hbn)
 clear hbn
 have HXb : Hid (NewBox w1 (w.heap.size) [.int .i64 width, .slice E ne ce, .slice R nr cr, .slice H nh ch, .int .i64 h.size, .slice A1 m1 c1, .int .i64 h.taken, .slice A2 m2 c2, .int .i64 h.num, .int .i64 h.size, .string h.root, .int .i64 h.taken, .string h.troot]) := by rw [Hid, hw]; exact ⟨by first | omega | (simp [World.setCell]; done) | (simp [World.setCell]; omega), fun o => by rcases o with _ | _ | _ | _ | _ | _ | _ | _ | _ | _ | _ | _ | _ | o <;> go_simp, fun o => by go_simp⟩
 have hxb := HXb.out.2.1
 have hfb := HXb.out.2.2
 have hkb := HXb.out.1
 clear hw
 refine (HFM.out _).mono ?_
 rintro e w2 ⟨rfl, hb⟩
 have hzw2 : w1.heap.size ≤ w2.heap.size := hb.size
 have hzzw2 : w.heap.size ≤ w2.heap.size := by omega
 replace HB := Lib.hid (below_then HB.out hb HB.out.size)
 replace HOB := Lib.hid (HOB.out.below hb)
 replace HXb := Lib.hid (HXb.out.below hb)
 clear hxb hfb hkb
 have hxb := HXb.out.2.1
 have hfb := HXb.out.2.2
 have hkb := HXb.out.1
 clear hb
 go_wp2_with fail
 refine calls_named (fun w3 hw => ?_)
 have hz3 : w2.heap.size + 0 ≤ w3.heap.size := by rw [hw]; first | omega | (simp [World.setCell]; done) | (simp [World.setCell]; omega)
 have hzz3 : w.heap.size ≤ w3.heap.size := by omega
 have hbn : Below w2.heap.size w2 w3 := by rw [hw]; exact (by ((repeat (first | ((with_reducible refine Below.alloc ?_ ?_ _); rotate_left 1; (focus (first | omega | (simp; done) | (simp; omega)))) | (with_reducible refine Below.drew ?_) | ((with_reducible refine Below.setCell ?_ ?_ _); rotate_left 1; (focus (first | omega | (simp; done) | (simp; omega)))))); exact Below.refl _ _))
 replace HB := Lib.hid (below_then HB.out hbn HB.out.size)
 replace HOB := Lib.hid (HOB.out.below hbn)
 replace HXb := Lib.hid (HXb.out.below hbn)
 clear hxb hfb hkb
 have hxb := HXb.out.2.1
 have hfb := HXb.out.2.2
 have hkb := HXb.out.1
 clear hbn
 clear hw
 refine (HF.out _ HOB.out.base).mono ?_
 rintro e w4 ⟨rfl, hb⟩
 have hzw4 : w3.heap.size ≤ w4.heap.size := hb.size
 have hzzw4 : w.heap.size ≤ w4.heap.size := by omega
 replace HB := Lib.hid (below_then HB.out hb HB.out.size)
 replace HOB := Lib.hid (HOB.out.below hb)
 replace HXb := Lib.hid (HXb.out.below hb)
 clear hxb hfb hkb
 have hxb := HXb.out.2.1
 have hfb := HXb.out.2.2
 have hkb := HXb.out.1
 clear hb
 go_wp2
 refine bodyPost_named (fun w77 hw => ?_)
 have hb77 : Hid (Below w.heap.size w w77) := by rw [Hid, hw]; exact (by ((repeat (first | ((with_reducible refine Below.alloc ?_ ?_ _); rotate_left 1; (focus (first | omega | (simp; done) | (simp; omega)))) | (with_reducible refine Below.drew ?_) | ((with_reducible refine Below.setCell ?_ ?_ _); rotate_left 1; (focus (first | omega | (simp; done) | (simp; omega)))))); exact HB.out))
 clear hw
 go_ret
 exact ⟨_, rfl, hb77.out⟩
theorem addCode_ne {l : List Ent} {t k b : ByteArray} {ti : Int} (h : ¬ addCode l t ti k b = 0) : addL l t ti k b = [] ∧ addLeaf l t ti k b = 0 := addL_no rfl h
set_option maxRecDepth 100000 in
set_option maxHeartbeats 4000000 in
theorem l12PublishP_c (width : Int) (E R H A1 A2 : Option Addr) (ne nr nh ce cr ch c1 c2 m1 m2 : Nat) (es : List Ent) (rs : List Rcp) (hs : List Hd) (l1 l2 : List ByteArray) (h : Hd) (lo hi : Nat) (t : ByteArray) (ti : Int) (k b : ByteArray) (w : World) (hk : BrkK w lo hi ⟨E, R, H, A1, A2, ce, cr, ch, c1, c2⟩ ⟨width, es, rs, hs⟩) (hne : es.length = ne) (hnr : rs.length = nr) (hnh : hs.length = nh) (hl1 : pk1 width es hs = l1) (hl2 : pk2 width rs hs = l2) (hm1 : l1.length = m1) (hm2 : l2.length = m2) (hh : lastHd hs = h) (ht : t.size ≤ 1048576) (hti : I64 ti) (hks : k.size ≤ 1048576) (hbs : b.size ≤ 1048576) :
  Calls Try.prog 79 #[.agg #[.int .i64 width, .slice E ne ce, .slice R nr cr, .slice H nh ch, .int .i64 h.size, .slice A1 m1 c1, .int .i64 h.taken, .slice A2 m2 c2, .int .i64 h.num, .int .i64 h.size, .string h.root, .int .i64 h.taken, .string h.troot], .string t, .int .i64 ti, .string k, .string b] w fun e w' => ∃ (a' : Bk) (m' : Bm) (L : Option Addr) (q g : Nat) (leaf code : Int), e = .returned (.tuple #[.agg #[.int .i64 m'.width, .slice a'.E m'.es.length a'.ce, .slice a'.R m'.rs.length a'.cr, .slice a'.H m'.hs.length a'.ch, .int .i64 (lastHd m'.hs).size, .slice a'.A1 (pk1 m'.width m'.es m'.hs).length a'.c1, .int .i64 (lastHd m'.hs).taken, .slice a'.A2 (pk2 m'.width m'.rs m'.hs).length a'.c2, .int .i64 (lastHd m'.hs).num, .int .i64 (lastHd m'.hs).size, .string (lastHd m'.hs).root, .int .i64 (lastHd m'.hs).taken, .string (lastHd m'.hs).troot], .slice L q g, .int .i64 leaf, .int .i64 code]) ∧ NextOk w w' ⟨width, es, rs, hs⟩ a' m' code := by
 have hkk := hk
 obtain ⟨f1, f2, f3, g1, g2, g3, g4, f4, g5, g6, g7⟩ := parts_fits hk.ok
 have hlast := hk.ok.last
 have hpos := hk.ok.pos
 dsimp only at f1 f2 f3 g1 g2 g3 g4 f4 g5 g6 g7 hlast hpos
 rw [hne] at g1 hlast
 rw [hnr] at g2 hlast
 rw [hnh] at g3 g4 hpos
 rw [hh] at f4 g5 hlast
 rw [hl1, hm1] at g6
 rw [hl2, hm2] at g7
 have HAD := Lib.hid (fun W (r : BrkK W 0 W.heap.size ⟨E, R, H, A1, A2, ce, cr, ch, c1, c2⟩ ⟨width, es, rs, hs⟩) => l09Add_c E ce 0 W.heap.size ne es t ti k b W r.rE hne (by omega) r.nE ht hti hks hbs)
 by_cases hc : addCode es t ti k b = 0
 ·have hpub := hk.ok.publish hc
  have hfx := ent_fit (newEnt_ok hc)
  dsimp only at hpub
  have hlen : (es ++ [newEnt es t ti k b]).length = ne + 1 := by rw [List.length_append, hne]; rfl
  have hlast1 : (es ++ [newEnt es t ti k b])[ne]? = some (newEnt es t ti k b) := by rw [← hne, List.getElem?_append_right (Nat.le_refl _), Nat.sub_self]; rfl
  rw [(addL_yes hc).1, (addL_yes hc).2, hc, hlen, hne] at HAD
  have hpk : (pk1 width (es ++ [newEnt es t ti k b]) hs).length = m1 := by rw [pk1_more hk.ok, hl1, hm1]
  generalize newEnt es t ti k b = x at *
  have HCP := Lib.hid (fun W (r : BrkK W 0 W.heap.size ⟨E, R, H, A1, A2, ce, cr, ch, c1, c2⟩ ⟨width, es, rs, hs⟩) => l12CopyP_c width h.size h.taken E R H A1 A2 ne nr nh ce cr ch c1 c2 m1 m2 es rs hs l1 l2 h W r.rE r.rR r.rH (hl1 ▸ r.r1) (hl2 ▸ r.r2) hne hnr hnh hm1 hm2 (by omega) (by omega) (by omega) (by omega) (by omega) r.nE r.nR r.nH r.n1 r.n2)
  have HWR := Lib.hid (fun W (r : BrkK W 0 W.heap.size ⟨E, R, H, A1, A2, ce, cr, ch, c1, c2⟩ ⟨width, es, rs, hs⟩) s hs2 => l12WriteP_c width E R H A1 A2 ne nr nh ce cr ch c1 c2 m1 m2 es rs hs l1 l2 h 0 W.heap.size 0 s W r hne hnr hnh hl1 hl2 hm1 hm2 hh (by omega) hs2)
  have HTX := Lib.hid (fun W => specLeafText_c x W hfx)
  have hts := leafTextM_size x
  have hbl : (⟨es, rs, hs, l1, l2⟩ : Bl) = Bm.bl ⟨width, es, rs, hs⟩ := by show _ = Bl.mk es rs hs _ _; rw [hl1, hl2]
  have HBL := Lib.hid hbl
  have HPB := Lib.hid hpub
  have HOK := Lib.hid hk.ok
  have HV1 := Lib.hid hpk
  have HL := Lib.hid hlen
  have HL1 := Lib.hid hlast1
  have HNR := Lib.hid hnr
  have HNH := Lib.hid hnh
  have HNE := Lib.hid hne
  have HHH := Lib.hid hh
  have HM2 : Hid ((pk2 width rs hs).length = m2) := Lib.hid (by rw [hl2, hm2])
  have HB : Hid (Below w.heap.size w w) := Below.refl _ _
  have HOB : Hid (BrkK w (0) (w.heap.size) (⟨E, R, H, A1, A2, ce, cr, ch, c1, c2⟩) (⟨width, es, rs, hs⟩)) := Lib.hid hk.base
  clear hk hkk f1 f2 f3 f4 hlast hne hnr hnh hl1 hl2 hm1 hm2 hh hpub hfx hlen hlast1 hpk hbl hc
  generalize leafTextM x = tx at *
  generalize entryOk x = ok at *
  go_enter Try.func79, Try.ntmps79
  go_wp2_with fail
  refine calls_named (fun w1 hw => ?_)
  have hz1 : w.heap.size + 2 ≤ w1.heap.size := by rw [hw]; first | omega | (simp [World.setCell]; done) | (simp [World.setCell]; omega)
  have hzz1 : w.heap.size ≤ w1.heap.size := by omega
  have hbn : Below w.heap.size w w1 := by rw [hw]; exact (by ((repeat (first | ((with_reducible refine Below.alloc ?_ ?_ _); rotate_left 1; (focus (first | omega | (simp; done) | (simp; omega)))) | (with_reducible refine Below.drew ?_) | ((with_reducible refine Below.setCell ?_ ?_ _); rotate_left 1; (focus (first | omega | (simp; done) | (simp; omega)))))); exact Below.refl _ _))
  replace HB := Lib.hid (below_then HB.out hbn HB.out.size)
  replace HOB := Lib.hid (HOB.out.below hbn)
  clear hbn
  have HXb : Hid (NewBox w1 (w.heap.size) [.int .i64 width, .slice E ne ce, .slice R nr cr, .slice H nh ch, .int .i64 h.size, .slice A1 m1 c1, .int .i64 h.taken, .slice A2 m2 c2, .int .i64 h.num, .int .i64 h.size, .string h.root, .int .i64 h.taken, .string h.troot]) := by rw [Hid, hw]; exact ⟨by first | omega | (simp [World.setCell]; done) | (simp [World.setCell]; omega), fun o => by rcases o with _ | _ | _ | _ | _ | _ | _ | _ | _ | _ | _ | _ | _ | o <;> go_simp, fun o => by go_simp⟩
  have hxb := HXb.out.2.1
  have hfb := HXb.out.2.2
  have hkb := HXb.out.1
  have HXq : Hid (NewBox w1 (w.heap.size + 1) [.int .i64 0, .slice none 0 0, .slice none 0 0, .slice none 0 0, .int .i64 0, .slice none 0 0, .int .i64 0, .slice none 0 0, .int .i64 0, .int .i64 0, .string ⟨#[]⟩, .int .i64 0, .string ⟨#[]⟩]) := by rw [Hid, hw]; exact ⟨by first | omega | (simp [World.setCell]; done) | (simp [World.setCell]; omega), fun o => by rcases o with _ | _ | _ | _ | _ | _ | _ | _ | _ | _ | _ | _ | _ | o <;> go_simp, fun o => by go_simp⟩
  have hxq := HXq.out.2.1
  have hfq := HXq.out.2.2
  have hkq := HXq.out.1
  clear hw
  refine (HAD.out _ HOB.out.base).mono ?_
  rintro e w2 ⟨A9, c9, rfl, ⟨hA9, hc9⟩, ho9, hb⟩
  have hzw2 : w1.heap.size ≤ w2.heap.size := hb.size
  have hzzw2 : w.heap.size ≤ w2.heap.size := by omega
  replace HB := Lib.hid (below_then HB.out hb HB.out.size)
  replace HOB := Lib.hid (HOB.out.below hb)
  replace HXb := Lib.hid (HXb.out.below hb)
  clear hxb hfb hkb
  have hxb := HXb.out.2.1
  have hfb := HXb.out.2.2
  have hkb := HXb.out.1
  replace HXq := Lib.hid (HXq.out.below hb)
  clear hxq hfq hkq
  have hxq := HXq.out.2.1
  have hfq := HXq.out.2.2
  have hkq := HXq.out.1
  clear hb
  have HON : Hid (Rd w2 (w1.heap.size) (w2.heap.size) (A9) (ents (es ++ [x]))) := Lib.hid ho9.rd
  have HA9 := Lib.hid hA9
  clear ho9 hA9 HAD
  obtain ⟨b2, off, y, hEe, hb2, hks2, hcs⟩ := ent_cells HON.out (k := ne) (by rw [HL.out]; omega)
  obtain rfl : x = y := by rw [HL1.out] at hks2; exact Option.some.inj hks2
  have c0' := hcs.1
  have c1' := hcs.2.1
  have c2' := hcs.2.2.1
  have c3' := hcs.2.2.2.1
  have c4' := hcs.2.2.2.2
  have hix := idxEnt A9 b2 off (ne + 1) c9 ne hEe (by omega)
  clear hks2 hcs hEe
  go_wp2_with fail
  refine calls_named (fun w3 hw => ?_)
  have hz3 : w2.heap.size + 1 ≤ w3.heap.size := by rw [hw]; first | omega | (simp [World.setCell]; done) | (simp [World.setCell]; omega)
  have hzz3 : w.heap.size ≤ w3.heap.size := by omega
  have hbn : Below w2.heap.size w2 w3 := by rw [hw]; exact (by ((repeat (first | ((with_reducible refine Below.alloc ?_ ?_ _); rotate_left 1; (focus (first | omega | (simp; done) | (simp; omega)))) | (with_reducible refine Below.drew ?_) | ((with_reducible refine Below.setCell ?_ ?_ _); rotate_left 1; (focus (first | omega | (simp; done) | (simp; omega)))))); exact Below.refl _ _))
  replace HB := Lib.hid (below_then HB.out hbn HB.out.size)
  replace HOB := Lib.hid (HOB.out.below hbn)
  replace HON := Lib.hid (HON.out.below hbn)
  replace HXb := Lib.hid (HXb.out.below hbn)
  clear hxb hfb hkb
  have hxb := HXb.out.2.1
  have hfb := HXb.out.2.2
  have hkb := HXb.out.1
  replace HXq := Lib.hid (HXq.out.below hbn)
  clear hxq hfq hkq
  have hxq := HXq.out.2.1
  have hfq := HXq.out.2.2
  have hkq := HXq.out.1
  clear hbn
  have HXl : Hid (NewBox w3 (w2.heap.size) [.slice A9 (ne + 1) c9]) := by rw [Hid, hw]; exact ⟨by first | omega | (simp [World.setCell]; done) | (simp [World.setCell]; omega), fun o => by rcases o with _ | o <;> go_simp, fun o => by go_simp⟩
  have hxl := HXl.out.2.1
  have hfl := HXl.out.2.2
  have hkl := HXl.out.1
  clear hw
  refine (HTX.out _).mono ?_
  rintro e w4 ⟨rfl, hb⟩
  have hzw4 : w3.heap.size ≤ w4.heap.size := hb.size
  have hzzw4 : w.heap.size ≤ w4.heap.size := by omega
  replace HB := Lib.hid (below_then HB.out hb HB.out.size)
  replace HOB := Lib.hid (HOB.out.below hb)
  replace HON := Lib.hid (HON.out.below hb)
  replace HXb := Lib.hid (HXb.out.below hb)
  clear hxb hfb hkb
  have hxb := HXb.out.2.1
  have hfb := HXb.out.2.2
  have hkb := HXb.out.1
  replace HXq := Lib.hid (HXq.out.below hb)
  clear hxq hfq hkq
  have hxq := HXq.out.2.1
  have hfq := HXq.out.2.2
  have hkq := HXq.out.1
  replace HXl := Lib.hid (HXl.out.below hb)
  clear hxl hfl hkl
  have hxl := HXl.out.2.1
  have hfl := HXl.out.2.2
  have hkl := HXl.out.1
  clear hb
  clear c0' c1' c2' c3' c4' hix hb2 HTX
  go_wp2_with fail
  refine calls_named (fun w5 hw => ?_)
  have hz5 : w4.heap.size + 0 ≤ w5.heap.size := by rw [hw]; first | omega | (simp [World.setCell]; done) | (simp [World.setCell]; omega)
  have hzz5 : w.heap.size ≤ w5.heap.size := by omega
  have hbn : Below w4.heap.size w4 w5 := by rw [hw]; exact (by ((repeat (first | ((with_reducible refine Below.alloc ?_ ?_ _); rotate_left 1; (focus (first | omega | (simp; done) | (simp; omega)))) | (with_reducible refine Below.drew ?_) | ((with_reducible refine Below.setCell ?_ ?_ _); rotate_left 1; (focus (first | omega | (simp; done) | (simp; omega)))))); exact Below.refl _ _))
  replace HB := Lib.hid (below_then HB.out hbn HB.out.size)
  replace HOB := Lib.hid (HOB.out.below hbn)
  replace HON := Lib.hid (HON.out.below hbn)
  replace HXb := Lib.hid (HXb.out.below hbn)
  clear hxb hfb hkb
  have hxb := HXb.out.2.1
  have hfb := HXb.out.2.2
  have hkb := HXb.out.1
  replace HXq := Lib.hid (HXq.out.below hbn)
  clear hxq hfq hkq
  have hxq := HXq.out.2.1
  have hfq := HXq.out.2.2
  have hkq := HXq.out.1
  replace HXl := Lib.hid (HXl.out.below hbn)
  clear hxl hfl hkl
  have hxl := HXl.out.2.1
  have hfl := HXl.out.2.2
  have hkl := HXl.out.1
  clear hbn
  clear hw
  refine (HCP.out _ HOB.out.base).mono ?_
  rintro e w6 ⟨a3, rfl, hcp, hb⟩
  have hzw6 : w5.heap.size ≤ w6.heap.size := hb.size
  have hzzw6 : w.heap.size ≤ w6.heap.size := by omega
  replace HB := Lib.hid (below_then HB.out hb HB.out.size)
  replace HOB := Lib.hid (HOB.out.below hb)
  replace HON := Lib.hid (HON.out.below hb)
  replace HXb := Lib.hid (HXb.out.below hb)
  clear hxb hfb hkb
  have hxb := HXb.out.2.1
  have hfb := HXb.out.2.2
  have hkb := HXb.out.1
  replace HXq := Lib.hid (HXq.out.below hb)
  clear hxq hfq hkq
  have hxq := HXq.out.2.1
  have hfq := HXq.out.2.2
  have hkq := HXq.out.1
  replace HXl := Lib.hid (HXl.out.below hb)
  clear hxl hfl hkl
  have hxl := HXl.out.2.1
  have hfl := HXl.out.2.2
  have hkl := HXl.out.1
  clear hb
  have HOC : Hid (CopyK w6 (w5.heap.size) (w6.heap.size) (a3) (⟨es, rs, hs, l1, l2⟩)) := Lib.hid hcp
  clear hcp HCP
  obtain ⟨lo5, hlo5, hlo5'⟩ : ∃ n, n ≤ w5.heap.size ∧ w5.heap.size ≤ n := ⟨_, Nat.le_refl _, Nat.le_refl _⟩
  go_upto_region 7 with fail
  refine wp_named (fun w7 hw => ?_)
  have hz7 : w6.heap.size + 1 ≤ w7.heap.size := by rw [hw]; first | omega | (simp [World.setCell]; done) | (simp [World.setCell]; omega)
  have hzz7 : w.heap.size ≤ w7.heap.size := by omega
  have hbn : Below w6.heap.size w6 w7 := by rw [hw]; exact (by ((repeat (first | ((with_reducible refine Below.alloc ?_ ?_ _); rotate_left 1; (focus (first | omega | (simp; done) | (simp; omega)))) | (with_reducible refine Below.drew ?_) | ((with_reducible refine Below.setCell ?_ ?_ _); rotate_left 1; (focus (first | omega | (simp; done) | (simp; omega)))))); exact Below.refl _ _))
  replace HB := Lib.hid (below_then HB.out hbn HB.out.size)
  replace HOB := Lib.hid (HOB.out.below hbn)
  replace HON := Lib.hid (HON.out.below hbn)
  replace HOC := Lib.hid (HOC.out.below hbn)
  replace HXb := Lib.hid (HXb.out.below hbn)
  clear hxb hfb hkb
  have hxb := HXb.out.2.1
  have hfb := HXb.out.2.2
  have hkb := HXb.out.1
  replace HXq := Lib.hid (HXq.out.below hbn)
  clear hxq hfq hkq
  have hxq := HXq.out.2.1
  have hfq := HXq.out.2.2
  have hkq := HXq.out.1
  replace HXl := Lib.hid (HXl.out.below hbn)
  clear hxl hfl hkl
  have hxl := HXl.out.2.1
  have hfl := HXl.out.2.2
  have hkl := HXl.out.1
  clear hbn
  have HXo : Hid (NewBox w7 (w6.heap.size) [.int .i64 width, .slice A9 (ne + 1) c9, .slice a3.R nr a3.cr, .slice a3.H nh a3.ch, .int .i64 h.size, .slice a3.A1 m1 a3.c1, .int .i64 h.taken, .slice a3.A2 m2 a3.c2, .int .i64 h.num, .int .i64 h.size, .string h.root, .int .i64 h.taken, .string h.troot]) := by rw [Hid, hw]; exact ⟨by first | omega | (simp [World.setCell]; done) | (simp [World.setCell]; omega), fun o => by rcases o with _ | _ | _ | _ | _ | _ | _ | _ | _ | _ | _ | _ | _ | o <;> go_simp, fun o => by go_simp⟩
  have hxo := HXo.out.2.1
  have hfo := HXo.out.2.2
  have hko := HXo.out.1
  clear hw
  obtain ⟨F, HF⟩ : ∃ F : Facts, Hid (F = fun iq xq tqs dsq uq => match iq with
   | 0 => xq.v = .agg #[.int .i64 width, .slice A9 (ne + 1) c9, .slice a3.R nr a3.cr, .slice a3.H nh a3.ch, .int .i64 h.size, .slice a3.A1 m1 a3.c1, .int .i64 h.taken, .slice a3.A2 m2 a3.c2, .int .i64 h.num, .int .i64 h.size, .string h.root, .int .i64 h.taken, .string h.troot]
   | 1 => xq.v = .agg #[.int .i64 width, .slice E ne ce, .slice R nr cr, .slice H nh ch, .int .i64 h.size, .slice A1 m1 c1, .int .i64 h.taken, .slice A2 m2 c2, .int .i64 h.num, .int .i64 h.size, .string h.root, .int .i64 h.taken, .string h.troot]
   | 2 => xq.v = .string tx
   | 3 => ∃ (kw : Nat), xq.v = .slice (some ⟨kw, 0, none⟩) 1 1 ∧ (True)
   | 4 => xq.v = .int .i64 (ne : Int)
   | 5 => NewBox uq (w.heap.size + 1) [.int .i64 width, .slice A9 (ne + 1) c9, .slice a3.R nr a3.cr, .slice a3.H nh a3.ch, .int .i64 h.size, .slice a3.A1 m1 a3.c1, .int .i64 h.taken, .slice a3.A2 m2 a3.c2, .int .i64 h.num, .int .i64 h.size, .string h.root, .int .i64 h.taken, .string h.troot]
   | 6 => (match tqs, dsq with | [], [yq0] => ∃ (kw : Nat), yq0.v = .slice (some ⟨kw, 0, none⟩) 1 1 ∧ xq.v = .slice (some ⟨kw, 0, none⟩) 1 1 | _, _ => False)
   | 7 => xq.v = .int .i64 (ne : Int)
   | 8 => xq.v = .int .i64 0
   | _ => False) := ⟨_, rfl⟩
  refine wp_region_facts [[], [], [], [], [], [], [3], [], []] [[], [], [], [], [], [], [], [], []] [some 49, some 50, some 51, some 52, some 53, none, some 11, some 12, some 13] (some 5) (w.heap.size + 1) (w.heap.size + 1 + 1) (.inr (by omega)) F (by kernel_rfl) (by kernel_rfl) (by kernel_rfl) ?_ ⟨?_, ?_, ?_, ?_, ?_, ?_, ?_, ?_, ?_, trivial⟩ ?_
  ·rw [HF.out]; intro iq xq tqs dsq uq u' hi hf hs hW hx hbk
   have kx : ∀ b, xq.s ≤ b → b < xq.e → u'.heap[b]? = uq.heap[b]? := fun b h1 h2 => hbk b (.inr (.inl ⟨h1, h2⟩))
   have kt : ∀ t ∈ tqs, ∀ b, t.s ≤ b → b < t.e → u'.heap[b]? = uq.heap[b]? := fun t ht b h1 h2 => hbk b (.inr (.inr ⟨t, ht, h1, h2⟩))
   match iq with
   | 0 => exact hf
   | 1 => exact hf
   | 2 => exact hf
   | 3 => obtain ⟨kw, hv, p0⟩ := hf; exact ⟨kw, hv, trivial⟩
   | 4 => exact hf
   | 5 => exact NewBox.keep hf hs (hbk _ (.inl ⟨hkq, .inr (.inr rfl)⟩))
   | 6 => exact hf
   | 7 => exact hf
   | 8 => exact hf
  ·intro gh ρ u hc hf1 hg1 hd h0 hb he ha hF
   first | (replace hb : Below w7.heap.size w7 u := hb.drew.below (by decide +kernel)) | (replace hb : Only (w.heap.size + 1) (w.heap.size + 1 + 1) w7 u := hb.drew.only)
   have hbz : w7.heap.size ≤ u.heap.size := hb.size
   have r19 : ρ (.tmp 19) = .pointer (some ⟨w6.heap.size, 0, none⟩) := (h0 19 (by decide +kernel)).trans rfl
   have q_o : ∀ o, u.cell? ⟨w6.heap.size, o, none⟩ = [.int .i64 width, .slice A9 (ne + 1) c9, .slice a3.R nr a3.cr, .slice a3.H nh a3.ch, .int .i64 h.size, .slice a3.A1 m1 a3.c1, .int .i64 h.taken, .slice a3.A2 m2 a3.c2, .int .i64 h.num, .int .i64 h.size, .string h.root, .int .i64 h.taken, .string h.troot][o]? := by first | exact (HXo.out.below hb).2.1 | exact (HXo.out.only hb (by omega)).2.1
   have k_o : w6.heap.size < u.heap.size := by have := HXo.out.1; omega
   have q_b : ∀ o, u.cell? ⟨w.heap.size, o, none⟩ = [.int .i64 width, .slice E ne ce, .slice R nr cr, .slice H nh ch, .int .i64 h.size, .slice A1 m1 c1, .int .i64 h.taken, .slice A2 m2 c2, .int .i64 h.num, .int .i64 h.size, .string h.root, .int .i64 h.taken, .string h.troot][o]? := by first | exact (HXb.out.below hb).2.1 | exact (HXb.out.only hb (by omega)).2.1
   have k_b : w.heap.size < u.heap.size := by have := HXb.out.1; omega
   clear  hd h0 he ha hF
   go_simp
   rw [HF.out]
   exact ⟨OnlyL.refl _ _, rfl⟩
  ·intro gh ρ u hc hf1 hg1 hd h0 hb he ha hF
   first | (replace hb : Below w7.heap.size w7 u := hb.drew.below (by decide +kernel)) | (replace hb : Only (w.heap.size + 1) (w.heap.size + 1 + 1) w7 u := hb.drew.only)
   have hbz : w7.heap.size ≤ u.heap.size := hb.size
   have r5 : ρ (.tmp 5) = .pointer (some ⟨w.heap.size, 0, none⟩) := (h0 5 (by decide +kernel)).trans rfl
   have q_o : ∀ o, u.cell? ⟨w6.heap.size, o, none⟩ = [.int .i64 width, .slice A9 (ne + 1) c9, .slice a3.R nr a3.cr, .slice a3.H nh a3.ch, .int .i64 h.size, .slice a3.A1 m1 a3.c1, .int .i64 h.taken, .slice a3.A2 m2 a3.c2, .int .i64 h.num, .int .i64 h.size, .string h.root, .int .i64 h.taken, .string h.troot][o]? := by first | exact (HXo.out.below hb).2.1 | exact (HXo.out.only hb (by omega)).2.1
   have k_o : w6.heap.size < u.heap.size := by have := HXo.out.1; omega
   have q_b : ∀ o, u.cell? ⟨w.heap.size, o, none⟩ = [.int .i64 width, .slice E ne ce, .slice R nr cr, .slice H nh ch, .int .i64 h.size, .slice A1 m1 c1, .int .i64 h.taken, .slice A2 m2 c2, .int .i64 h.num, .int .i64 h.size, .string h.root, .int .i64 h.taken, .string h.troot][o]? := by first | exact (HXb.out.below hb).2.1 | exact (HXb.out.only hb (by omega)).2.1
   have k_b : w.heap.size < u.heap.size := by have := HXb.out.1; omega
   clear  hd h0 he ha hF
   go_simp
   rw [HF.out]
   exact ⟨OnlyL.refl _ _, rfl⟩
  ·intro gh ρ u hc hf1 hg1 hd h0 hb he ha hF
   have r17 : ρ (.tmp 17) = .string tx := (h0 17 (by decide +kernel)).trans rfl
   clear  hd h0 he ha hF
   go_simp
   rw [HF.out]
   exact ⟨OnlyL.refl _ _, rfl⟩
  ·intro gh ρ u hc hf1 hg1 hd h0 hb he ha hF
   first | (replace hb : Below w7.heap.size w7 u := hb.drew.below (by decide +kernel)) | (replace hb : Only (w.heap.size + 1) (w.heap.size + 1 + 1) w7 u := hb.drew.only)
   have hbz : w7.heap.size ≤ u.heap.size := hb.size
   have r50 : ρ (.tmp 50) = .agg #[.int .i64 width, .slice E ne ce, .slice R nr cr, .slice H nh ch, .int .i64 h.size, .slice A1 m1 c1, .int .i64 h.taken, .slice A2 m2 c2, .int .i64 h.num, .int .i64 h.size, .string h.root, .int .i64 h.taken, .string h.troot] := by have h := hF 1 (by decide +kernel) (by decide +kernel); rw [HF.out] at h; exact (hd 1 (by decide +kernel) 50 (by kernel_rfl)).trans h
   have r51 : ρ (.tmp 51) = .string tx := by have h := hF 2 (by decide +kernel) (by decide +kernel); rw [HF.out] at h; exact (hd 2 (by decide +kernel) 51 (by kernel_rfl)).trans h
   clear  hd h0 he ha hF
   go_simp
   have q_o := (HXo.out.below hb)
   have q_b := (HXb.out.below hb)
   refine (HWR.out _ (HOB.out.below hb).base tx (by omega)).mono ?_
   rintro e u1 ⟨kw, rfl, hb1⟩
   rw [HF.out]
   exact ⟨_, rfl, OnlyL.of_below hb1, kw, rfl, trivial⟩
  ·intro gh ρ u hc hf1 hg1 hd h0 hb he ha hF
   have r15 : ρ (.tmp 15) = .int .i64 (ne : Int) := (h0 15 (by decide +kernel)).trans rfl
   clear  hd h0 he ha hF
   go_simp
   rw [HF.out]
   exact ⟨OnlyL.refl _ _, rfl⟩
  ·intro gh ρ u hc hf1 hg1 hd h0 hb he ha hF
   first | (replace hb : Below w7.heap.size w7 u := hb.drew.below (by decide +kernel)) | (replace hb : Only (w.heap.size + 1) (w.heap.size + 1 + 1) w7 u := hb.drew.only)
   have hbz : w7.heap.size ≤ u.heap.size := hb.size
   have r10 : ρ (.tmp 10) = .pointer (some ⟨w.heap.size + 1, 0, none⟩) := (h0 10 (by decide +kernel)).trans rfl
   have r49 : ρ (.tmp 49) = .agg #[.int .i64 width, .slice A9 (ne + 1) c9, .slice a3.R nr a3.cr, .slice a3.H nh a3.ch, .int .i64 h.size, .slice a3.A1 m1 a3.c1, .int .i64 h.taken, .slice a3.A2 m2 a3.c2, .int .i64 h.num, .int .i64 h.size, .string h.root, .int .i64 h.taken, .string h.troot] := by have h := hF 0 (by decide +kernel) (by decide +kernel); rw [HF.out] at h; exact (hd 0 (by decide +kernel) 49 (by kernel_rfl)).trans h
   obtain ⟨hzk, hzc, hzf⟩ := HXq.out.below hb
   clear  hd h0 he ha hF
   go_simp
   rw [HF.out]
   refine ⟨?_, ?_⟩
   ·refine OnlyL.of_z (lo := w.heap.size + 1) (hi := w.heap.size + 1 + 1) ?_ rfl; refine Only.setCell ?_ (by exact Nat.le_refl _) (by exact Nat.lt_succ_self _) _; refine Only.setCell ?_ (by exact Nat.le_refl _) (by exact Nat.lt_succ_self _) _; refine Only.setCell ?_ (by exact Nat.le_refl _) (by exact Nat.lt_succ_self _) _; refine Only.setCell ?_ (by exact Nat.le_refl _) (by exact Nat.lt_succ_self _) _; refine Only.setCell ?_ (by exact Nat.le_refl _) (by exact Nat.lt_succ_self _) _; refine Only.setCell ?_ (by exact Nat.le_refl _) (by exact Nat.lt_succ_self _) _; refine Only.setCell ?_ (by exact Nat.le_refl _) (by exact Nat.lt_succ_self _) _; refine Only.setCell ?_ (by exact Nat.le_refl _) (by exact Nat.lt_succ_self _) _; refine Only.setCell ?_ (by exact Nat.le_refl _) (by exact Nat.lt_succ_self _) _; refine Only.setCell ?_ (by exact Nat.le_refl _) (by exact Nat.lt_succ_self _) _; refine Only.setCell ?_ (by exact Nat.le_refl _) (by exact Nat.lt_succ_self _) _; refine Only.setCell ?_ (by exact Nat.le_refl _) (by exact Nat.lt_succ_self _) _; refine Only.setCell ?_ (by exact Nat.le_refl _) (by exact Nat.lt_succ_self _) _; exact Only.refl _ _ _
   ·show NewBox _ (w.heap.size + 1) _
    exact ⟨by simpa [World.setCell] using hzk, fun o => by rcases o with _ | _ | _ | _ | _ | _ | _ | _ | _ | _ | _ | _ | _ | o <;> go_simp, fun o => by go_simp⟩
  ·intro gh ρ u hc hf1 hg1 hd h0 hb he ha hF
   have f3 : ∃ (kw : Nat), (gh 3).v = .slice (some ⟨kw, 0, none⟩) 1 1 ∧ (True) := by have h := hF 3 (by decide +kernel) (by decide +kernel); rw [HF.out] at h; exact h
   obtain ⟨kw, hv3, g3_0⟩ := f3
   have hrt3 := hv3
   have r52 : ρ (.tmp 52) = .slice (some ⟨kw, 0, none⟩) 1 1 := (hd 3 (by decide +kernel) 52 (by kernel_rfl)).trans hv3
   have HRT3 := Lib.hid hrt3
   clear hv3 hrt3 hd h0 he ha hF
   go_simp
   rw [HF.out]
   exact ⟨OnlyL.refl _ _, kw, HRT3.out, rfl⟩
  ·intro gh ρ u hc hf1 hg1 hd h0 hb he ha hF
   have r53 : ρ (.tmp 53) = .int .i64 (ne : Int) := by have h := hF 4 (by decide +kernel) (by decide +kernel); rw [HF.out] at h; exact (hd 4 (by decide +kernel) 53 (by kernel_rfl)).trans h
   clear  hd h0 he ha hF
   go_simp
   rw [HF.out]
   exact ⟨OnlyL.refl _ _, rfl⟩
  ·intro gh ρ u hc hf1 hg1 hd h0 hb he ha hF
   clear  hd h0 he ha hF
   go_simp
   rw [HF.out]
   exact ⟨OnlyL.refl _ _, rfl⟩
  intro gh w8 hB hE hA hF
  replace hB : Only (w.heap.size + 1) (w.heap.size + 1 + 1) w7 w8 := hB.only
  have f0 : (gh 0).v = .agg #[.int .i64 width, .slice A9 (ne + 1) c9, .slice a3.R nr a3.cr, .slice a3.H nh a3.ch, .int .i64 h.size, .slice a3.A1 m1 a3.c1, .int .i64 h.taken, .slice a3.A2 m2 a3.c2, .int .i64 h.num, .int .i64 h.size, .string h.root, .int .i64 h.taken, .string h.troot] := by have h := hF 0 (by decide +kernel) (by decide +kernel); rw [HF.out] at h; exact h
  have f1 : (gh 1).v = .agg #[.int .i64 width, .slice E ne ce, .slice R nr cr, .slice H nh ch, .int .i64 h.size, .slice A1 m1 c1, .int .i64 h.taken, .slice A2 m2 c2, .int .i64 h.num, .int .i64 h.size, .string h.root, .int .i64 h.taken, .string h.troot] := by have h := hF 1 (by decide +kernel) (by decide +kernel); rw [HF.out] at h; exact h
  have f2 : (gh 2).v = .string tx := by have h := hF 2 (by decide +kernel) (by decide +kernel); rw [HF.out] at h; exact h
  have f3 : ∃ (kw : Nat), (gh 3).v = .slice (some ⟨kw, 0, none⟩) 1 1 ∧ (True) := by have h := hF 3 (by decide +kernel) (by decide +kernel); rw [HF.out] at h; exact h
  have f4 : (gh 4).v = .int .i64 (ne : Int) := by have h := hF 4 (by decide +kernel) (by decide +kernel); rw [HF.out] at h; exact h
  have f5 : NewBox w8 (w.heap.size + 1) [.int .i64 width, .slice A9 (ne + 1) c9, .slice a3.R nr a3.cr, .slice a3.H nh a3.ch, .int .i64 h.size, .slice a3.A1 m1 a3.c1, .int .i64 h.taken, .slice a3.A2 m2 a3.c2, .int .i64 h.num, .int .i64 h.size, .string h.root, .int .i64 h.taken, .string h.troot] := by have h := hF 5 (by decide +kernel) (by decide +kernel); rw [HF.out] at h; exact h
  have f6 : ∃ (kw : Nat), (gh 3).v = .slice (some ⟨kw, 0, none⟩) 1 1 ∧ (gh 6).v = .slice (some ⟨kw, 0, none⟩) 1 1 := by have h := hF 6 (by decide +kernel) (by decide +kernel); rw [HF.out] at h; exact h
  have f7 : (gh 7).v = .int .i64 (ne : Int) := by have h := hF 7 (by decide +kernel) (by decide +kernel); rw [HF.out] at h; exact h
  have f8 : (gh 8).v = .int .i64 0 := by have h := hF 8 (by decide +kernel) (by decide +kernel); rw [HF.out] at h; exact h
  obtain ⟨kw, hv3, _⟩ := f3
  have hv0 := f0
  have hv1 := f1
  have hv2 := f2
  have hv4 := f4
  have hx5 := f5
  obtain ⟨kw_6, hu3, hv6⟩ := f6
  replace hu3 := hv3.symm.trans hu3
  simp at hu3
  try simp only [and_assoc] at hu3
  obtain rfl := hu3
  have hv7 := f7
  have hv8 := f8
  clear hE hA hF
  simp only [putDs, Nat.reduceAdd, hv0, hv1, hv2, hv3, hv4, hv6, hv7, hv8]
  clear hv0 hv1 hv2 hv3 hv4 hv6 hv7 hv8
  clear HF
  have hb := hB
  clear hB
  have hzw8 : w7.heap.size ≤ w8.heap.size := hb.size
  have hzzw8 : w.heap.size ≤ w8.heap.size := by omega
  replace HB := Lib.hid (below_only HB.out hb (by omega) HB.out.size)
  replace HOB := Lib.hid (HOB.out.only hb (by first | omega | (simp; omega)))
  replace HON := Lib.hid (HON.out.only hb (by first | omega | (simp; omega)))
  replace HOC := Lib.hid (HOC.out.only hb (by first | omega | (simp; omega)))
  replace HXb := Lib.hid (HXb.out.only hb (by first | omega | (simp; omega)))
  clear hxb hfb hkb
  have hxb := HXb.out.2.1
  have hfb := HXb.out.2.2
  have hkb := HXb.out.1
  clear hxq hfq hkq HXq
  replace HXl := Lib.hid (HXl.out.only hb (by first | omega | (simp; omega)))
  clear hxl hfl hkl
  have hxl := HXl.out.2.1
  have hfl := HXl.out.2.2
  have hkl := HXl.out.1
  replace HXo := Lib.hid (HXo.out.only hb (by first | omega | (simp; omega)))
  clear hxo hfo hko
  have hxo := HXo.out.2.1
  have hfo := HXo.out.2.2
  have hko := HXo.out.1
  clear hb
  have HXq : Hid (NewBox w8 (w.heap.size + 1) [.int .i64 width, .slice A9 (ne + 1) c9, .slice a3.R nr a3.cr, .slice a3.H nh a3.ch, .int .i64 h.size, .slice a3.A1 m1 a3.c1, .int .i64 h.taken, .slice a3.A2 m2 a3.c2, .int .i64 h.num, .int .i64 h.size, .string h.root, .int .i64 h.taken, .string h.troot]) := hx5
  have hxq := HXq.out.2.1
  have hfq := HXq.out.2.2
  have hkq := HXq.out.1
  clear hx5
  have hbk : BrkK w8 w.heap.size w8.heap.size ⟨A9, a3.R, a3.H, a3.A1, a3.A2, c9, a3.cr, a3.ch, a3.c1, a3.c2⟩ ⟨width, es ++ [x], rs, hs⟩ := by
   have h7 := HOC.out
   rw [HBL.out] at h7
   have h8 := CopyK.pushE (m := ⟨width, es, rs, hs⟩) (lo0 := w.heap.size) (h7.mono (Nat.le_refl _) (hi' := w8.heap.size) (by omega)) (Nat.le_refl _) (by omega) HOK.out (x := x) (E' := A9) (c' := c9) HPB.out (HON.out.mono (by omega) (by omega) (Nat.le_refl _)) (by show es.length + 1 ≤ c9; rw [HNE.out]; exact hc9) HA9.out
   exact h8
  have HBK := Lib.hid hbk
  clear hbk
  go_wp2
  refine bodyPost_ret (v := .tuple #[.agg #[.int .i64 width, .slice A9 (ne + 1) c9, .slice a3.R nr a3.cr, .slice a3.H nh a3.ch, .int .i64 h.size, .slice a3.A1 m1 a3.c1, .int .i64 h.taken, .slice a3.A2 m2 a3.c2, .int .i64 h.num, .int .i64 h.size, .string h.root, .int .i64 h.taken, .string h.troot], .slice (some ⟨kw, 0, none⟩) 1 1, .int .i64 ne, .int .i64 0]) (by simp [results, Try.results79, go_sem, hxq]) rfl ?_
  exact ⟨⟨A9, a3.R, a3.H, a3.A1, a3.A2, c9, a3.cr, a3.ch, a3.c1, a3.c2⟩, ⟨width, es ++ [x], rs, hs⟩, some ⟨kw, 0, none⟩, 1, 1, ne, 0, by dsimp only; rw [HL.out, HNR.out, HNH.out, HV1.out, HM2.out, HHH.out], fun _ => ⟨HBK.out, rfl, by dsimp only; rw [List.length_append]; exact Nat.le_refl _⟩, HB.out⟩
 ·rw [(addCode_ne hc).1, (addCode_ne hc).2] at HAD
  have hcd : ¬ addCode es t ti k b = 0 := hc
  generalize addCode es t ti k b = cd at *
  have hcq : (cd == 0) = false := beq_eq_false_iff_ne.2 hcd
  have HCD := Lib.hid hcd
  have HB : Hid (Below w.heap.size w w) := Below.refl _ _
  have HOB : Hid (BrkK w (0) (w.heap.size) (⟨E, R, H, A1, A2, ce, cr, ch, c1, c2⟩) (⟨width, es, rs, hs⟩)) := Lib.hid hk.base
  clear hk hkk f1 f2 f3 f4 hlast hne hnr hnh hl1 hl2 hm1 hm2 hh hc hcd
  go_enter Try.func79, Try.ntmps79
  go_wp2_with fail
  refine calls_named (fun w1 hw => ?_)
  have hz1 : w.heap.size + 2 ≤ w1.heap.size := by rw [hw]; first | omega | (simp [World.setCell]; done) | (simp [World.setCell]; omega)
  have hzz1 : w.heap.size ≤ w1.heap.size := by omega
  have hbn : Below w.heap.size w w1 := by rw [hw]; exact (by ((repeat (first | ((with_reducible refine Below.alloc ?_ ?_ _); rotate_left 1; (focus (first | omega | (simp; done) | (simp; omega)))) | (with_reducible refine Below.drew ?_) | ((with_reducible refine Below.setCell ?_ ?_ _); rotate_left 1; (focus (first | omega | (simp; done) | (simp; omega)))))); exact Below.refl _ _))
  replace HB := Lib.hid (below_then HB.out hbn HB.out.size)
  replace HOB := Lib.hid (HOB.out.below hbn)
  clear hbn
  have HXb : Hid (NewBox w1 (w.heap.size) [.int .i64 width, .slice E ne ce, .slice R nr cr, .slice H nh ch, .int .i64 h.size, .slice A1 m1 c1, .int .i64 h.taken, .slice A2 m2 c2, .int .i64 h.num, .int .i64 h.size, .string h.root, .int .i64 h.taken, .string h.troot]) := by rw [Hid, hw]; exact ⟨by first | omega | (simp [World.setCell]; done) | (simp [World.setCell]; omega), fun o => by rcases o with _ | _ | _ | _ | _ | _ | _ | _ | _ | _ | _ | _ | _ | o <;> go_simp, fun o => by go_simp⟩
  have hxb := HXb.out.2.1
  have hfb := HXb.out.2.2
  have hkb := HXb.out.1
  have HXq : Hid (NewBox w1 (w.heap.size + 1) [.int .i64 0, .slice none 0 0, .slice none 0 0, .slice none 0 0, .int .i64 0, .slice none 0 0, .int .i64 0, .slice none 0 0, .int .i64 0, .int .i64 0, .string ⟨#[]⟩, .int .i64 0, .string ⟨#[]⟩]) := by rw [Hid, hw]; exact ⟨by first | omega | (simp [World.setCell]; done) | (simp [World.setCell]; omega), fun o => by rcases o with _ | _ | _ | _ | _ | _ | _ | _ | _ | _ | _ | _ | _ | o <;> go_simp, fun o => by go_simp⟩
  have hxq := HXq.out.2.1
  have hfq := HXq.out.2.2
  have hkq := HXq.out.1
  clear hw
  refine (HAD.out _ HOB.out.base).mono ?_
  rintro e w2 ⟨A9, c9, rfl, hA9, ho9, hb⟩
  have hzw2 : w1.heap.size ≤ w2.heap.size := hb.size
  have hzzw2 : w.heap.size ≤ w2.heap.size := by omega
  replace HB := Lib.hid (below_then HB.out hb HB.out.size)
  replace HOB := Lib.hid (HOB.out.below hb)
  replace HXb := Lib.hid (HXb.out.below hb)
  clear hxb hfb hkb
  have hxb := HXb.out.2.1
  have hfb := HXb.out.2.2
  have hkb := HXb.out.1
  replace HXq := Lib.hid (HXq.out.below hb)
  clear hxq hfq hkq
  have hxq := HXq.out.2.1
  have hfq := HXq.out.2.2
  have hkq := HXq.out.1
  clear hb
  clear hA9 ho9 HAD
  go_wp2
  refine bodyPost_named (fun w3 hw => ?_)
  have hz3 : w2.heap.size + 1 ≤ w3.heap.size := by rw [hw]; first | omega | (simp [World.setCell]; done) | (simp [World.setCell]; omega)
  have hzz3 : w.heap.size ≤ w3.heap.size := by omega
  replace HB : Hid (Below w.heap.size w w3) := by rw [Hid, hw]; exact (by ((repeat (first | ((with_reducible refine Below.alloc ?_ ?_ _); rotate_left 1; (focus (first | omega | (simp; done) | (simp; omega)))) | (with_reducible refine Below.drew ?_) | ((with_reducible refine Below.setCell ?_ ?_ _); rotate_left 1; (focus (first | omega | (simp; done) | (simp; omega)))))); exact HB.out))
  replace HOB : Hid (BrkK w3 (0) (w.heap.size) (⟨E, R, H, A1, A2, ce, cr, ch, c1, c2⟩) (⟨width, es, rs, hs⟩)) := by rw [Hid, hw]; (repeat (first | (with_reducible refine BrkK.alloc ?_ _) | (with_reducible refine BrkK.drew ?_) | ((with_reducible refine BrkK.setCell ?_ ?_ _); rotate_left 1; (focus (first | omega | (simp; done) | (simp; omega)))))); exact HOB.out
  replace HXb : Hid (NewBox w3 (w.heap.size) [.int .i64 width, .slice E ne ce, .slice R nr cr, .slice H nh ch, .int .i64 h.size, .slice A1 m1 c1, .int .i64 h.taken, .slice A2 m2 c2, .int .i64 h.num, .int .i64 h.size, .string h.root, .int .i64 h.taken, .string h.troot]) := by rw [Hid, hw]; (repeat (first | (with_reducible refine NewBox.alloc ?_ _) | (with_reducible refine NewBox.drew ?_) | ((with_reducible refine NewBox.setCell ?_ ?_ _); rotate_left 1; (focus (first | omega | (simp; done) | (simp; omega)))))); exact HXb.out
  clear hxb hfb hkb
  have hxb := HXb.out.2.1
  have hfb := HXb.out.2.2
  have hkb := HXb.out.1
  replace HXq : Hid (NewBox w3 (w.heap.size + 1) [.int .i64 0, .slice none 0 0, .slice none 0 0, .slice none 0 0, .int .i64 0, .slice none 0 0, .int .i64 0, .slice none 0 0, .int .i64 0, .int .i64 0, .string ⟨#[]⟩, .int .i64 0, .string ⟨#[]⟩]) := by rw [Hid, hw]; apply NewBox.cast; (focus ((repeat (first | (with_reducible apply NewBox.alloc) | (with_reducible apply NewBox.drew) | (with_reducible apply NewBox.set1) | ((with_reducible apply NewBox.far); (focus (first | omega | (simp; done) | (simp; omega)))))); exact HXq.out)); rfl
  clear hxq hfq hkq
  have hxq := HXq.out.2.1
  have hfq := HXq.out.2.2
  have hkq := HXq.out.1
  have HXl : Hid (NewBox w3 (w2.heap.size) [.slice A9 0 c9]) := by rw [Hid, hw]; exact ⟨by first | omega | (simp [World.setCell]; done) | (simp [World.setCell]; omega), fun o => by rcases o with _ | o <;> go_simp, fun o => by go_simp⟩
  have hxl := HXl.out.2.1
  have hfl := HXl.out.2.2
  have hkl := HXl.out.1
  clear hw
  refine bodyPost_ret (v := .tuple #[.agg #[.int .i64 0, .slice none 0 0, .slice none 0 0, .slice none 0 0, .int .i64 0, .slice none 0 0, .int .i64 0, .slice none 0 0, .int .i64 0, .int .i64 0, .string ⟨#[]⟩, .int .i64 0, .string ⟨#[]⟩], .slice (some ⟨w2.heap.size + 1, 0, none⟩) 0 0, .int .i64 0, .int .i64 cd]) (by simp [results, Try.results79, go_sem, hxq]) rfl ?_
  exact ⟨zeroBk, zeroBm, _, 0, 0, 0, cd, rfl, NextOk.no HCD.out HB.out⟩
end Go.Proofs.Ytoccjgcokffkbaa
namespace Go.Proofs.Ytoccjgcokffkbaa
set_option linter.unusedVariables false
set_option linter.unusedSimpArgs false
open Go.RowKit
/-- the address of what lies behind n elements of m cells -/
def cutX (m : Nat) (A : Option Addr) (n g : Nat) : Option Addr := if g = n then A else A.map (fun a => a.add (n * m))
theorem Rd.sufX {α : Type} {f : α → List Value} {m : Nat} {w : World} {lo hi : Nat} {A : Option Addr} {L : List α} (hm : ∀ x, (f x).length = m) (h : Rd w lo hi A (L.flatMap f)) (n g : Nat) (hg : L.length ≤ g) : Rd w lo hi (cutX m A n g) ((L.drop n).flatMap f) := by
 rw [cutX]
 split
 ·rename_i e
  rw [List.drop_of_length_le (by omega)]
  exact Rd.nil
 ·intro hn
  have hL : L.flatMap f = (L.take n).flatMap f ++ (L.drop n).flatMap f := by rw [← List.flatMap_append, List.take_append_drop]
  have hlen : ∀ l : List α, (l.flatMap f).length = l.length * m := by
   intro l
   induction l with
   | nil => simp
   | cons x l ih => rw [List.flatMap_cons, List.length_append, hm, ih, List.length_cons, Nat.add_mul]; omega
  have hnl : n < L.length := by
   rcases Nat.lt_or_ge n L.length with h1 | h1
   ·exact h1
   ·rw [List.drop_of_length_le h1] at hn; exact absurd rfl hn
  obtain ⟨b, off, e, h1, h2, h3, h4⟩ := h (by rw [hL]; intro e; exact hn (List.append_eq_nil_iff.1 e).2)
  subst e
  refine ⟨b, off + n * m, by rw [Option.map_some, Addr.add_lit], h1, h2, h3, fun j u hj => ?_⟩
  have ht : ((L.take n).flatMap f).length = n * m := by rw [hlen, List.length_take, Nat.min_eq_left (by omega)]
  have := h4 (n * m + j) u (by rw [hL, List.getElem?_append_right (by rw [ht]; omega), ht, Nat.add_sub_cancel_left]; exact hj)
  rw [← this, Nat.add_assoc]
theorem sufE_rd {w : World} {lo hi : Nat} {A : Option Addr} {L : List Ent} (h : Rd w lo hi A (ents L)) (n g : Nat) (hg : L.length ≤ g) : Rd w lo hi (cutX 5 A n g) (ents (L.drop n)) := Rd.sufX (f := Ent.cells) (fun _ => rfl) h n g hg
theorem sufR_rd {w : World} {lo hi : Nat} {A : Option Addr} {L : List Rcp} (h : Rd w lo hi A (rcps L)) (n g : Nat) (hg : L.length ≤ g) : Rd w lo hi (cutX 3 A n g) (rcps (L.drop n)) := Rd.sufX (f := Rcp.cells) (fun _ => rfl) h n g hg
theorem preXE (A : Option Addr) (k g m : Nat) (h : m ≤ g) (W : World) : (Instr.slice 40 (.slice A k g) none (some (.int .i64 m)) none).run Try.prog W = .ok (.slice A m g) W := by
 have hu := Try.underlying40
 simp [Instr.slice, run_underlying hu, Instr.sliceBounds, run_sliceBound, h, go_sem]
theorem sufXE (A : Option Addr) (k g n : Nat) (h1 : n ≤ k) (h2 : k ≤ g) (W : World) : (Instr.slice 40 (.slice A k g) (some (.int .i64 n)) none none).run Try.prog W = .ok (.slice (cutX 5 A n g) (k - n) (g - n)) W := by
 have hu := Try.underlying40
 obtain ⟨i0, hi0, hz0, hz1, hz2⟩ := info_parts info_Entry
 simp only [cutX]
 simp [Instr.slice, run_underlying hu, Instr.sliceBounds, run_sliceBound, h1, h2, go_sem, sizeOf, typeInfo, hi0, hz1]
theorem sufXR (A : Option Addr) (k g n : Nat) (h1 : n ≤ k) (h2 : k ≤ g) (W : World) : (Instr.slice 43 (.slice A k g) (some (.int .i64 n)) none none).run Try.prog W = .ok (.slice (cutX 3 A n g) (k - n) (g - n)) W := by
 have hu := Try.underlying43
 obtain ⟨i0, hi0, hz0, hz1, hz2⟩ := info_parts info_Receipt
 simp only [cutX]
 simp [Instr.slice, run_underlying hu, Instr.sliceBounds, run_sliceBound, h1, h2, go_sem, sizeOf, typeInfo, hi0, hz1]
end Go.Proofs.Ytoccjgcokffkbaa
namespace Go.Proofs.Ytoccjgcokffkbaa
set_option linter.unusedVariables false
set_option linter.unusedSimpArgs false
open Go.RowKit
set_option maxRecDepth 100000 in
set_option maxHeartbeats 20000000 in
theorem l12ReceiptP_c (width : Int) (E R H A1 A2 : Option Addr) (ne nr nh ce cr ch c1 c2 m1 m2 : Nat) (es : List Ent) (rs : List Rcp) (hs : List Hd) (l1 l2 : List ByteArray) (h : Hd) (lo hi : Nat) (r : Rcp) (w : World) (hk : BrkK w lo hi ⟨E, R, H, A1, A2, ce, cr, ch, c1, c2⟩ ⟨width, es, rs, hs⟩) (hne : es.length = ne) (hnr : rs.length = nr) (hnh : hs.length = nh) (hl1 : pk1 width es hs = l1) (hl2 : pk2 width rs hs = l2) (hm1 : l1.length = m1) (hm2 : l2.length = m2) (hh : lastHd hs = h) (hrf : r.fits) :
  Calls Try.prog 78 #[.agg #[.int .i64 width, .slice E ne ce, .slice R nr cr, .slice H nh ch, .int .i64 h.size, .slice A1 m1 c1, .int .i64 h.taken, .slice A2 m2 c2, .int .i64 h.num, .int .i64 h.size, .string h.root, .int .i64 h.taken, .string h.troot], .agg #[.string r.reader, .string r.topic, .int .i64 r.index]] w fun e w' => ∃ (a' : Bk) (m' : Bm) (L : Option Addr) (q g : Nat) (code : Int), e = .returned (.tuple #[.agg #[.int .i64 m'.width, .slice a'.E m'.es.length a'.ce, .slice a'.R m'.rs.length a'.cr, .slice a'.H m'.hs.length a'.ch, .int .i64 (lastHd m'.hs).size, .slice a'.A1 (pk1 m'.width m'.es m'.hs).length a'.c1, .int .i64 (lastHd m'.hs).taken, .slice a'.A2 (pk2 m'.width m'.rs m'.hs).length a'.c2, .int .i64 (lastHd m'.hs).num, .int .i64 (lastHd m'.hs).size, .string (lastHd m'.hs).root, .int .i64 (lastHd m'.hs).taken, .string (lastHd m'.hs).troot], .slice L q g, .int .i64 code]) ∧ NextOk w w' ⟨width, es, rs, hs⟩ a' m' code := by
 have hkk := hk
 obtain ⟨f1, f2, f3, g1, g2, g3, g4, f4, g5, g6, g7⟩ := parts_fits hk.ok
 have hlast := hk.ok.last
 have hpos := hk.ok.pos
 dsimp only at f1 f2 f3 g1 g2 g3 g4 f4 g5 g6 g7 hlast hpos
 rw [hne] at g1 hlast
 rw [hnr] at g2 hlast
 rw [hnh] at g3 g4 hpos
 rw [hh] at f4 g5 hlast
 rw [hl1, hm1] at g6
 rw [hl2, hm2] at g7
 have HRO := Lib.hid (fun W => specReceiptOk_c r W hrf)
 have HLA := Lib.hid (fun W (rr : BrkK W 0 W.heap.size ⟨E, R, H, A1, A2, ce, cr, ch, c1, c2⟩ ⟨width, es, rs, hs⟩) => l12Last_c width h.size h.taken E R H A1 A2 ne nr nh ce cr ch c1 c2 0 W.heap.size m1 m2 hs h W rr.rH hnh (by omega) (by omega))
 rw [hh] at HLA
 obtain ⟨sz, hsz⟩ : ∃ n : Nat, h.size = n := ⟨h.size.toNat, by omega⟩
 have hkE := hk.kE
 dsimp only at hkE
 have hsl := fun W => preXE E ne ce sz (by omega) W
 have HLF := Lib.hid (fun W (rr : BrkK W 0 W.heap.size ⟨E, R, H, A1, A2, ce, cr, ch, c1, c2⟩ ⟨width, es, rs, hs⟩) => ((l09Leaf_c E ce 0 W.heap.size sz (es.take sz) r.topic r.index W (Rd.entsTake rr.rE sz) (by rw [List.length_take]; omega) (by omega)).mono (fun e w' ⟨q1, q2⟩ => ⟨q1, q2 ▸ Below.refl _ _⟩) : Calls Try.prog 112 #[.slice E sz ce, .string r.topic, .int .i64 r.index] W fun e w' => e = .returned (.int .i64 (firstFrom (isTI r.topic r.index) (es.take sz) 0)) ∧ Below W.heap.size W w'))
 have hlfI : leafIn es sz r = decide (0 ≤ firstFrom (isTI r.topic r.index) (es.take sz) 0) := rfl
 have HAT := Lib.hid (fun W (rr : BrkK W 0 W.heap.size ⟨E, R, H, A1, A2, ce, cr, ch, c1, c2⟩ ⟨width, es, rs, hs⟩) => l12At_c R cr 0 W.heap.size nr rs r W rr.rR hnr (by omega) f2 hrf)
 have hpos2 := rcpPos_ge (r := r) rs 0
 have htake := fun (q1 : rcpOk r = true) (q2 : leafIn es sz r = true) (q3 : r ∉ rs) (q4 : rs.length < 512) => hk.ok.take q1 (by show leafIn es (lastHd hs).size.toNat r = true; rw [hh, hsz, Int.toNat_natCast]; exact q2) q3 q4
 have HCP := Lib.hid (fun W (r : BrkK W 0 W.heap.size ⟨E, R, H, A1, A2, ce, cr, ch, c1, c2⟩ ⟨width, es, rs, hs⟩) => l12CopyP_c width h.size h.taken E R H A1 A2 ne nr nh ce cr ch c1 c2 m1 m2 es rs hs l1 l2 h W r.rE r.rR r.rH (hl1 ▸ r.r1) (hl2 ▸ r.r2) hne hnr hnh hm1 hm2 (by omega) (by omega) (by omega) (by omega) (by omega) r.nE r.nR r.nH r.n1 r.n2)
 have HWR := Lib.hid (fun W (r : BrkK W 0 W.heap.size ⟨E, R, H, A1, A2, ce, cr, ch, c1, c2⟩ ⟨width, es, rs, hs⟩) s hs2 => l12WriteP_c width E R H A1 A2 ne nr nh ce cr ch c1 c2 m1 m2 es rs hs l1 l2 h 0 W.heap.size 2 s W r hne hnr hnh hl1 hl2 hm1 hm2 hh (by omega) hs2)
 have HTX := Lib.hid (fun W => specReceiptText_c r W hrf)
 have hts := rcpTextM_size r
 have hbl : (⟨es, rs, hs, l1, l2⟩ : Bl) = Bm.bl ⟨width, es, rs, hs⟩ := by show _ = Bl.mk es rs hs _ _; rw [hl1, hl2]
 have HBL := Lib.hid hbl
 have HTK := Lib.hid htake
 have HOK := Lib.hid hk.ok
 have HP2 := Lib.hid hpos2
 have HNR := Lib.hid hnr
 have HNH := Lib.hid hnh
 have HNE := Lib.hid hne
 have HHH := Lib.hid hh
 have HM1 : Hid ((pk1 width es hs).length = m1) := Lib.hid (by rw [hl1, hm1])
 have HM2 : Hid ((pk2 width (rs ++ [r]) hs).length = m2) := Lib.hid (by rw [pk2_more hk.ok, hl2, hm2])
 have HLI := Lib.hid hlfI
 have HQ3 : Hid (pk1 width es hs = l1) := Lib.hid hl1
 have HQ4 : Hid (pk2 width (rs ++ [r]) hs = l2) := Lib.hid (by rw [pk2_more hk.ok, hl2])
 rw [← hsz] at hsl
 have HB : Hid (Below w.heap.size w w) := Below.refl _ _
 have HOB : Hid (BrkK w (0) (w.heap.size) (⟨E, R, H, A1, A2, ce, cr, ch, c1, c2⟩) (⟨width, es, rs, hs⟩)) := Lib.hid hk.base
 clear hk hkk f1 f2 f3 f4 hlast hne hnr hnh hl1 hl2 hm1 hm2 hh hbl hsz htake hpos2 hlfI hkE hrf
 generalize rcpTextM r = tx at *
 generalize firstFrom (isTI r.topic r.index) (es.take sz) 0 = lf at *
 generalize rcpPos r rs 0 = rp at *
 have hfld := fun W => hdField1 h.num h.size h.taken h.root h.troot W
 go_enter Try.func78, Try.ntmps78
 go_wp2_with fail
 refine calls_named (fun w1 hw => ?_)
 have hz1 : w.heap.size + 3 ≤ w1.heap.size := by rw [hw]; first | omega | (simp [World.setCell]; done) | (simp [World.setCell]; omega)
 have hzz1 : w.heap.size ≤ w1.heap.size := by omega
 have hbn : Below w.heap.size w w1 := by rw [hw]; exact (by ((repeat (first | ((with_reducible refine Below.alloc ?_ ?_ _); rotate_left 1; (focus (first | omega | (simp; done) | (simp; omega)))) | (with_reducible refine Below.drew ?_) | ((with_reducible refine Below.setCell ?_ ?_ _); rotate_left 1; (focus (first | omega | (simp; done) | (simp; omega)))))); exact Below.refl _ _))
 replace HB := Lib.hid (below_then HB.out hbn HB.out.size)
 replace HOB := Lib.hid (HOB.out.below hbn)
 clear hbn
 have HXb : Hid (NewBox w1 (w.heap.size) [.int .i64 width, .slice E ne ce, .slice R nr cr, .slice H nh ch, .int .i64 h.size, .slice A1 m1 c1, .int .i64 h.taken, .slice A2 m2 c2, .int .i64 h.num, .int .i64 h.size, .string h.root, .int .i64 h.taken, .string h.troot]) := by rw [Hid, hw]; exact ⟨by first | omega | (simp [World.setCell]; done) | (simp [World.setCell]; omega), fun o => by rcases o with _ | _ | _ | _ | _ | _ | _ | _ | _ | _ | _ | _ | _ | o <;> go_simp, fun o => by go_simp⟩
 have hxb := HXb.out.2.1
 have hfb := HXb.out.2.2
 have hkb := HXb.out.1
 have HXr : Hid (NewBox w1 (w.heap.size + 1) [.string r.reader, .string r.topic, .int .i64 r.index]) := by rw [Hid, hw]; exact ⟨by first | omega | (simp [World.setCell]; done) | (simp [World.setCell]; omega), fun o => by rcases o with _ | _ | _ | o <;> go_simp, fun o => by go_simp⟩
 have hxr := HXr.out.2.1
 have hfr := HXr.out.2.2
 have hkr := HXr.out.1
 have HXq : Hid (NewBox w1 (w.heap.size + 2) [.int .i64 0, .slice none 0 0, .slice none 0 0, .slice none 0 0, .int .i64 0, .slice none 0 0, .int .i64 0, .slice none 0 0, .int .i64 0, .int .i64 0, .string ⟨#[]⟩, .int .i64 0, .string ⟨#[]⟩]) := by rw [Hid, hw]; exact ⟨by first | omega | (simp [World.setCell]; done) | (simp [World.setCell]; omega), fun o => by rcases o with _ | _ | _ | _ | _ | _ | _ | _ | _ | _ | _ | _ | _ | o <;> go_simp, fun o => by go_simp⟩
 have hxq := HXq.out.2.1
 have hfq := HXq.out.2.2
 have hkq := HXq.out.1
 clear hw
 refine (HRO.out _).mono ?_
 rintro e w2 ⟨rfl, hb⟩
 have hzw2 : w1.heap.size ≤ w2.heap.size := hb.size
 have hzzw2 : w.heap.size ≤ w2.heap.size := by omega
 replace HB := Lib.hid (below_then HB.out hb HB.out.size)
 replace HOB := Lib.hid (HOB.out.below hb)
 replace HXb := Lib.hid (HXb.out.below hb)
 clear hxb hfb hkb
 have hxb := HXb.out.2.1
 have hfb := HXb.out.2.2
 have hkb := HXb.out.1
 replace HXr := Lib.hid (HXr.out.below hb)
 clear hxr hfr hkr
 have hxr := HXr.out.2.1
 have hfr := HXr.out.2.2
 have hkr := HXr.out.1
 replace HXq := Lib.hid (HXq.out.below hb)
 clear hxq hfq hkq
 have hxq := HXq.out.2.1
 have hfq := HXq.out.2.2
 have hkq := HXq.out.1
 clear hb
 rcases hq : rcpOk r with _ | _
 ·clear hq
  go_wp2
  refine bodyPost_named (fun w3 hw => ?_)
  have hz3 : w2.heap.size + 0 ≤ w3.heap.size := by rw [hw]; first | omega | (simp [World.setCell]; done) | (simp [World.setCell]; omega)
  have hzz3 : w.heap.size ≤ w3.heap.size := by omega
  replace HB : Hid (Below w.heap.size w w3) := by rw [Hid, hw]; exact (by ((repeat (first | ((with_reducible refine Below.alloc ?_ ?_ _); rotate_left 1; (focus (first | omega | (simp; done) | (simp; omega)))) | (with_reducible refine Below.drew ?_) | ((with_reducible refine Below.setCell ?_ ?_ _); rotate_left 1; (focus (first | omega | (simp; done) | (simp; omega)))))); exact HB.out))
  replace HOB : Hid (BrkK w3 (0) (w.heap.size) (⟨E, R, H, A1, A2, ce, cr, ch, c1, c2⟩) (⟨width, es, rs, hs⟩)) := by rw [Hid, hw]; (repeat (first | (with_reducible refine BrkK.alloc ?_ _) | (with_reducible refine BrkK.drew ?_) | ((with_reducible refine BrkK.setCell ?_ ?_ _); rotate_left 1; (focus (first | omega | (simp; done) | (simp; omega)))))); exact HOB.out
  replace HXb : Hid (NewBox w3 (w.heap.size) [.int .i64 width, .slice E ne ce, .slice R nr cr, .slice H nh ch, .int .i64 h.size, .slice A1 m1 c1, .int .i64 h.taken, .slice A2 m2 c2, .int .i64 h.num, .int .i64 h.size, .string h.root, .int .i64 h.taken, .string h.troot]) := by rw [Hid, hw]; (repeat (first | (with_reducible refine NewBox.alloc ?_ _) | (with_reducible refine NewBox.drew ?_) | ((with_reducible refine NewBox.setCell ?_ ?_ _); rotate_left 1; (focus (first | omega | (simp; done) | (simp; omega)))))); exact HXb.out
  clear hxb hfb hkb
  have hxb := HXb.out.2.1
  have hfb := HXb.out.2.2
  have hkb := HXb.out.1
  replace HXr : Hid (NewBox w3 (w.heap.size + 1) [.string r.reader, .string r.topic, .int .i64 r.index]) := by rw [Hid, hw]; (repeat (first | (with_reducible refine NewBox.alloc ?_ _) | (with_reducible refine NewBox.drew ?_) | ((with_reducible refine NewBox.setCell ?_ ?_ _); rotate_left 1; (focus (first | omega | (simp; done) | (simp; omega)))))); exact HXr.out
  clear hxr hfr hkr
  have hxr := HXr.out.2.1
  have hfr := HXr.out.2.2
  have hkr := HXr.out.1
  replace HXq : Hid (NewBox w3 (w.heap.size + 2) [.int .i64 0, .slice none 0 0, .slice none 0 0, .slice none 0 0, .int .i64 0, .slice none 0 0, .int .i64 0, .slice none 0 0, .int .i64 0, .int .i64 0, .string ⟨#[]⟩, .int .i64 0, .string ⟨#[]⟩]) := by rw [Hid, hw]; apply NewBox.cast; (focus ((repeat (first | (with_reducible apply NewBox.alloc) | (with_reducible apply NewBox.drew) | (with_reducible apply NewBox.set1) | ((with_reducible apply NewBox.far); (focus (first | omega | (simp; done) | (simp; omega)))))); exact HXq.out)); rfl
  clear hxq hfq hkq
  have hxq := HXq.out.2.1
  have hfq := HXq.out.2.2
  have hkq := HXq.out.1
  clear hw
  refine bodyPost_ret (v := .tuple #[.agg #[.int .i64 0, .slice none 0 0, .slice none 0 0, .slice none 0 0, .int .i64 0, .slice none 0 0, .int .i64 0, .slice none 0 0, .int .i64 0, .int .i64 0, .string ⟨#[]⟩, .int .i64 0, .string ⟨#[]⟩], .slice (some ⟨w2.heap.size, 0, none⟩) 0 0, .int .i64 2]) (by simp [results, Try.results78, go_sem, hxq]) rfl ?_
  exact ⟨zeroBk, zeroBm, _, 0, 0, 2, rfl, NextOk.no (by decide) HB.out⟩
 ·have HQ1 := Lib.hid hq
  clear hq
  rcases hd : decide (lf < 0) with _ | _
  ·skip
   go_wp2_with fail
   refine wp_named (fun w3 hw => ?_)
   have hz3 : w2.heap.size + 0 ≤ w3.heap.size := by rw [hw]; first | omega | (simp [World.setCell]; done) | (simp [World.setCell]; omega)
   have hzz3 : w.heap.size ≤ w3.heap.size := by omega
   have hbn : Below w2.heap.size w2 w3 := by rw [hw]; exact (by ((repeat (first | ((with_reducible refine Below.alloc ?_ ?_ _); rotate_left 1; (focus (first | omega | (simp; done) | (simp; omega)))) | (with_reducible refine Below.drew ?_) | ((with_reducible refine Below.setCell ?_ ?_ _); rotate_left 1; (focus (first | omega | (simp; done) | (simp; omega)))))); exact Below.refl _ _))
   replace HB := Lib.hid (below_then HB.out hbn HB.out.size)
   replace HOB := Lib.hid (HOB.out.below hbn)
   replace HXb := Lib.hid (HXb.out.below hbn)
   clear hxb hfb hkb
   have hxb := HXb.out.2.1
   have hfb := HXb.out.2.2
   have hkb := HXb.out.1
   replace HXr := Lib.hid (HXr.out.below hbn)
   clear hxr hfr hkr
   have hxr := HXr.out.2.1
   have hfr := HXr.out.2.2
   have hkr := HXr.out.1
   replace HXq := Lib.hid (HXq.out.below hbn)
   clear hxq hfq hkq
   have hxq := HXq.out.2.1
   have hfq := HXq.out.2.2
   have hkq := HXq.out.1
   clear hbn
   clear hw
   obtain ⟨F, HF⟩ : ∃ F : Facts, Hid (F = fun iq xq tqs dsq uq => match iq with
    | 0 => xq.v = .pointer (some ⟨(w.heap.size), 1, none⟩)
    | 1 => xq.v = .pointer (some ⟨(w.heap.size), 1, none⟩)
    | 2 => xq.v = .slice E ne ce
    | 3 => xq.v = .agg #[.int .i64 width, .slice E ne ce, .slice R nr cr, .slice H nh ch, .int .i64 h.size, .slice A1 m1 c1, .int .i64 h.taken, .slice A2 m2 c2, .int .i64 h.num, .int .i64 h.size, .string h.root, .int .i64 h.taken, .string h.troot]
    | 4 => xq.v = .agg #[.int .i64 h.num, .int .i64 h.size, .string h.root, .int .i64 h.taken, .string h.troot]
    | 5 => xq.v = .int .i64 h.size
    | 6 => xq.v = .slice E sz ce
    | 7 => xq.v = .pointer (some ⟨(w.heap.size + 1), 1, none⟩)
    | 8 => xq.v = .string r.topic
    | 9 => xq.v = .pointer (some ⟨(w.heap.size + 1), 2, none⟩)
    | 10 => xq.v = .int .i64 r.index
    | 11 => xq.v = .int .i64 lf
    | 12 => xq.v = .bool false
    | _ => False) := ⟨_, rfl⟩
   refine wp_region_facts [[], [], [], [], [], [], [], [], [], [], [], [], []] [[], [], [], [], [], [], [], [], [], [], [], [], []] [some 14, some 15, some 16, some 17, some 18, some 19, some 20, some 21, some 22, some 23, some 24, some 25, some 26] none 0 0 (.inl rfl) F (by kernel_rfl) (by kernel_rfl) (by kernel_rfl) ?_ ⟨?_, ?_, ?_, ?_, ?_, ?_, ?_, ?_, ?_, ?_, ?_, ?_, ?_, trivial⟩ ?_
   ·rw [HF.out]; intro iq xq tqs dsq uq u' hi hf hs hW hx hbk
    have kx : ∀ b, xq.s ≤ b → b < xq.e → u'.heap[b]? = uq.heap[b]? := fun b h1 h2 => hbk b (.inr (.inl ⟨h1, h2⟩))
    have kt : ∀ t ∈ tqs, ∀ b, t.s ≤ b → b < t.e → u'.heap[b]? = uq.heap[b]? := fun t ht b h1 h2 => hbk b (.inr (.inr ⟨t, ht, h1, h2⟩))
    match iq with
    | 0 => exact hf
    | 1 => exact hf
    | 2 => exact hf
    | 3 => exact hf
    | 4 => exact hf
    | 5 => exact hf
    | 6 => exact hf
    | 7 => exact hf
    | 8 => exact hf
    | 9 => exact hf
    | 10 => exact hf
    | 11 => exact hf
    | 12 => exact hf
   ·intro gh ρ u hc hf1 hg1 hd h0 hb he ha hF
    have r2 : ρ (.tmp 2) = .pointer (some ⟨w.heap.size, 0, none⟩) := (h0 2 (by decide +kernel)).trans rfl
    clear  hd h0 he ha hF
    go_simp
    rw [HF.out]
    exact ⟨OnlyL.refl _ _, rfl⟩
   ·intro gh ρ u hc hf1 hg1 hd h0 hb he ha hF
    have r14 : ρ (.tmp 14) = .pointer (some ⟨(w.heap.size), 1, none⟩) := by have h := hF 0 (by decide +kernel) (by decide +kernel); rw [HF.out] at h; exact (hd 0 (by decide +kernel) 14 (by kernel_rfl)).trans h
    clear  hd h0 he ha hF
    go_simp
    rw [HF.out]
    exact ⟨OnlyL.refl _ _, rfl⟩
   ·intro gh ρ u hc hf1 hg1 hd h0 hb he ha hF
    replace hb : Below w3.heap.size w3 u := hb.drew.below (by decide +kernel)
    have hbz : w3.heap.size ≤ u.heap.size := hb.size
    have r15 : ρ (.tmp 15) = .pointer (some ⟨(w.heap.size), 1, none⟩) := by have h := hF 1 (by decide +kernel) (by decide +kernel); rw [HF.out] at h; exact (hd 1 (by decide +kernel) 15 (by kernel_rfl)).trans h
    have q_b := (HXb.out.below hb).2.1
    have k_b : w.heap.size < u.heap.size := by have := HXb.out.1; omega
    have q_r := (HXr.out.below hb).2.1
    have k_r : w.heap.size + 1 < u.heap.size := by have := HXr.out.1; omega
    clear  hd h0 he ha hF
    go_simp
    rw [HF.out]
    exact ⟨OnlyL.refl _ _, rfl⟩
   ·intro gh ρ u hc hf1 hg1 hd h0 hb he ha hF
    replace hb : Below w3.heap.size w3 u := hb.drew.below (by decide +kernel)
    have hbz : w3.heap.size ≤ u.heap.size := hb.size
    have r2 : ρ (.tmp 2) = .pointer (some ⟨w.heap.size, 0, none⟩) := (h0 2 (by decide +kernel)).trans rfl
    have q_b := (HXb.out.below hb).2.1
    have k_b : w.heap.size < u.heap.size := by have := HXb.out.1; omega
    have q_r := (HXr.out.below hb).2.1
    have k_r : w.heap.size + 1 < u.heap.size := by have := HXr.out.1; omega
    clear  hd h0 he ha hF
    go_simp
    rw [HF.out]
    exact ⟨OnlyL.refl _ _, rfl⟩
   ·intro gh ρ u hc hf1 hg1 hd h0 hb he ha hF
    replace hb : Below w3.heap.size w3 u := hb.drew.below (by decide +kernel)
    have hbz : w3.heap.size ≤ u.heap.size := hb.size
    have r17 : ρ (.tmp 17) = .agg #[.int .i64 width, .slice E ne ce, .slice R nr cr, .slice H nh ch, .int .i64 h.size, .slice A1 m1 c1, .int .i64 h.taken, .slice A2 m2 c2, .int .i64 h.num, .int .i64 h.size, .string h.root, .int .i64 h.taken, .string h.troot] := by have h := hF 3 (by decide +kernel) (by decide +kernel); rw [HF.out] at h; exact (hd 3 (by decide +kernel) 17 (by kernel_rfl)).trans h
    clear  hd h0 he ha hF
    go_simp
    have q_b := (HXb.out.below hb)
    have q_r := (HXr.out.below hb)
    refine (HLA.out _ (HOB.out.below hb).base).mono ?_
    rintro e u1 ⟨rfl, hb1⟩
    rw [HF.out]
    exact ⟨_, rfl, OnlyL.of_below hb1, rfl⟩
   ·intro gh ρ u hc hf1 hg1 hd h0 hb he ha hF
    have r18 : ρ (.tmp 18) = .agg #[.int .i64 h.num, .int .i64 h.size, .string h.root, .int .i64 h.taken, .string h.troot] := by have h := hF 4 (by decide +kernel) (by decide +kernel); rw [HF.out] at h; exact (hd 4 (by decide +kernel) 18 (by kernel_rfl)).trans h
    clear  hd h0 he ha hF
    go_simp
    rw [HF.out]
    exact ⟨OnlyL.refl _ _, rfl⟩
   ·intro gh ρ u hc hf1 hg1 hd h0 hb he ha hF
    have r16 : ρ (.tmp 16) = .slice E ne ce := by have h := hF 2 (by decide +kernel) (by decide +kernel); rw [HF.out] at h; exact (hd 2 (by decide +kernel) 16 (by kernel_rfl)).trans h
    have r19 : ρ (.tmp 19) = .int .i64 h.size := by have h := hF 5 (by decide +kernel) (by decide +kernel); rw [HF.out] at h; exact (hd 5 (by decide +kernel) 19 (by kernel_rfl)).trans h
    clear  hd h0 he ha hF
    go_simp
    rw [HF.out]
    exact ⟨OnlyL.refl _ _, rfl⟩
   ·intro gh ρ u hc hf1 hg1 hd h0 hb he ha hF
    have r3 : ρ (.tmp 3) = .pointer (some ⟨w.heap.size + 1, 0, none⟩) := (h0 3 (by decide +kernel)).trans rfl
    clear  hd h0 he ha hF
    go_simp
    rw [HF.out]
    exact ⟨OnlyL.refl _ _, rfl⟩
   ·intro gh ρ u hc hf1 hg1 hd h0 hb he ha hF
    replace hb : Below w3.heap.size w3 u := hb.drew.below (by decide +kernel)
    have hbz : w3.heap.size ≤ u.heap.size := hb.size
    have r21 : ρ (.tmp 21) = .pointer (some ⟨(w.heap.size + 1), 1, none⟩) := by have h := hF 7 (by decide +kernel) (by decide +kernel); rw [HF.out] at h; exact (hd 7 (by decide +kernel) 21 (by kernel_rfl)).trans h
    have q_b := (HXb.out.below hb).2.1
    have k_b : w.heap.size < u.heap.size := by have := HXb.out.1; omega
    have q_r := (HXr.out.below hb).2.1
    have k_r : w.heap.size + 1 < u.heap.size := by have := HXr.out.1; omega
    clear  hd h0 he ha hF
    go_simp
    rw [HF.out]
    exact ⟨OnlyL.refl _ _, rfl⟩
   ·intro gh ρ u hc hf1 hg1 hd h0 hb he ha hF
    have r3 : ρ (.tmp 3) = .pointer (some ⟨w.heap.size + 1, 0, none⟩) := (h0 3 (by decide +kernel)).trans rfl
    clear  hd h0 he ha hF
    go_simp
    rw [HF.out]
    exact ⟨OnlyL.refl _ _, rfl⟩
   ·intro gh ρ u hc hf1 hg1 hd h0 hb he ha hF
    replace hb : Below w3.heap.size w3 u := hb.drew.below (by decide +kernel)
    have hbz : w3.heap.size ≤ u.heap.size := hb.size
    have r23 : ρ (.tmp 23) = .pointer (some ⟨(w.heap.size + 1), 2, none⟩) := by have h := hF 9 (by decide +kernel) (by decide +kernel); rw [HF.out] at h; exact (hd 9 (by decide +kernel) 23 (by kernel_rfl)).trans h
    have q_b := (HXb.out.below hb).2.1
    have k_b : w.heap.size < u.heap.size := by have := HXb.out.1; omega
    have q_r := (HXr.out.below hb).2.1
    have k_r : w.heap.size + 1 < u.heap.size := by have := HXr.out.1; omega
    clear  hd h0 he ha hF
    go_simp
    rw [HF.out]
    exact ⟨OnlyL.refl _ _, rfl⟩
   ·intro gh ρ u hc hf1 hg1 hd h0 hb he ha hF
    replace hb : Below w3.heap.size w3 u := hb.drew.below (by decide +kernel)
    have hbz : w3.heap.size ≤ u.heap.size := hb.size
    have r20 : ρ (.tmp 20) = .slice E sz ce := by have h := hF 6 (by decide +kernel) (by decide +kernel); rw [HF.out] at h; exact (hd 6 (by decide +kernel) 20 (by kernel_rfl)).trans h
    have r22 : ρ (.tmp 22) = .string r.topic := by have h := hF 8 (by decide +kernel) (by decide +kernel); rw [HF.out] at h; exact (hd 8 (by decide +kernel) 22 (by kernel_rfl)).trans h
    have r24 : ρ (.tmp 24) = .int .i64 r.index := by have h := hF 10 (by decide +kernel) (by decide +kernel); rw [HF.out] at h; exact (hd 10 (by decide +kernel) 24 (by kernel_rfl)).trans h
    clear  hd h0 he ha hF
    go_simp
    have q_b := (HXb.out.below hb)
    have q_r := (HXr.out.below hb)
    refine (HLF.out _ (HOB.out.below hb).base).mono ?_
    rintro e u1 ⟨rfl, hb1⟩
    rw [HF.out]
    exact ⟨_, rfl, OnlyL.of_below hb1, rfl⟩
   ·intro gh ρ u hc hf1 hg1 hd h0 hb he ha hF
    have r25 : ρ (.tmp 25) = .int .i64 lf := by have h := hF 11 (by decide +kernel) (by decide +kernel); rw [HF.out] at h; exact (hd 11 (by decide +kernel) 25 (by kernel_rfl)).trans h
    clear  hd h0 he ha hF
    go_simp
    rw [HF.out]
    exact ⟨OnlyL.refl _ _, rfl⟩
   intro gh w4 hB hE hA hF
   replace hB : Below w3.heap.size w3 w4 := hB.below rfl
   have f0 : (gh 0).v = .pointer (some ⟨(w.heap.size), 1, none⟩) := by have h := hF 0 (by decide +kernel) (by decide +kernel); rw [HF.out] at h; exact h
   have f1 : (gh 1).v = .pointer (some ⟨(w.heap.size), 1, none⟩) := by have h := hF 1 (by decide +kernel) (by decide +kernel); rw [HF.out] at h; exact h
   have f2 : (gh 2).v = .slice E ne ce := by have h := hF 2 (by decide +kernel) (by decide +kernel); rw [HF.out] at h; exact h
   have f3 : (gh 3).v = .agg #[.int .i64 width, .slice E ne ce, .slice R nr cr, .slice H nh ch, .int .i64 h.size, .slice A1 m1 c1, .int .i64 h.taken, .slice A2 m2 c2, .int .i64 h.num, .int .i64 h.size, .string h.root, .int .i64 h.taken, .string h.troot] := by have h := hF 3 (by decide +kernel) (by decide +kernel); rw [HF.out] at h; exact h
   have f4 : (gh 4).v = .agg #[.int .i64 h.num, .int .i64 h.size, .string h.root, .int .i64 h.taken, .string h.troot] := by have h := hF 4 (by decide +kernel) (by decide +kernel); rw [HF.out] at h; exact h
   have f5 : (gh 5).v = .int .i64 h.size := by have h := hF 5 (by decide +kernel) (by decide +kernel); rw [HF.out] at h; exact h
   have f6 : (gh 6).v = .slice E sz ce := by have h := hF 6 (by decide +kernel) (by decide +kernel); rw [HF.out] at h; exact h
   have f7 : (gh 7).v = .pointer (some ⟨(w.heap.size + 1), 1, none⟩) := by have h := hF 7 (by decide +kernel) (by decide +kernel); rw [HF.out] at h; exact h
   have f8 : (gh 8).v = .string r.topic := by have h := hF 8 (by decide +kernel) (by decide +kernel); rw [HF.out] at h; exact h
   have f9 : (gh 9).v = .pointer (some ⟨(w.heap.size + 1), 2, none⟩) := by have h := hF 9 (by decide +kernel) (by decide +kernel); rw [HF.out] at h; exact h
   have f10 : (gh 10).v = .int .i64 r.index := by have h := hF 10 (by decide +kernel) (by decide +kernel); rw [HF.out] at h; exact h
   have f11 : (gh 11).v = .int .i64 lf := by have h := hF 11 (by decide +kernel) (by decide +kernel); rw [HF.out] at h; exact h
   have f12 : (gh 12).v = .bool false := by have h := hF 12 (by decide +kernel) (by decide +kernel); rw [HF.out] at h; exact h
   have hv4 := f4
   have hv11 := f11
   have hv0 := f0
   have hv1 := f1
   have hv2 := f2
   have hv3 := f3
   have hv5 := f5
   have hv6 := f6
   have hv7 := f7
   have hv8 := f8
   have hv9 := f9
   have hv10 := f10
   have hv12 := f12
   clear hE hA hF
   simp only [putDs, Nat.reduceAdd, hv0, hv1, hv2, hv3, hv4, hv5, hv6, hv7, hv8, hv9, hv10, hv11, hv12]
   clear hv0 hv1 hv2 hv3 hv4 hv5 hv6 hv7 hv8 hv9 hv10 hv11 hv12
   clear HF
   have hb := hB
   clear hB
   have hzw4 : w3.heap.size ≤ w4.heap.size := hb.size
   have hzzw4 : w.heap.size ≤ w4.heap.size := by omega
   replace HB := Lib.hid (below_then HB.out hb HB.out.size)
   replace HOB := Lib.hid (HOB.out.below hb)
   replace HXb := Lib.hid (HXb.out.below hb)
   clear hxb hfb hkb
   have hxb := HXb.out.2.1
   have hfb := HXb.out.2.2
   have hkb := HXb.out.1
   replace HXr := Lib.hid (HXr.out.below hb)
   clear hxr hfr hkr
   have hxr := HXr.out.2.1
   have hfr := HXr.out.2.2
   have hkr := HXr.out.1
   replace HXq := Lib.hid (HXq.out.below hb)
   clear hxq hfq hkq
   have hxq := HXq.out.2.1
   have hfq := HXq.out.2.2
   have hkq := HXq.out.1
   clear hb
   have hlf := of_decide_eq_false hd
   clear hd hsl hfld
   simp only [Act.put, List.setIfInBounds_toArray, List.set_cons_zero, List.set_cons_succ]
   go_wp2_with fail
   refine calls_named (fun w5 hw => ?_)
   have hz5 : w4.heap.size + 0 ≤ w5.heap.size := by rw [hw]; first | omega | (simp [World.setCell]; done) | (simp [World.setCell]; omega)
   have hzz5 : w.heap.size ≤ w5.heap.size := by omega
   have hbn : Below w4.heap.size w4 w5 := by rw [hw]; exact (by ((repeat (first | ((with_reducible refine Below.alloc ?_ ?_ _); rotate_left 1; (focus (first | omega | (simp; done) | (simp; omega)))) | (with_reducible refine Below.drew ?_) | ((with_reducible refine Below.setCell ?_ ?_ _); rotate_left 1; (focus (first | omega | (simp; done) | (simp; omega)))))); exact Below.refl _ _))
   replace HB := Lib.hid (below_then HB.out hbn HB.out.size)
   replace HOB := Lib.hid (HOB.out.below hbn)
   replace HXb := Lib.hid (HXb.out.below hbn)
   clear hxb hfb hkb
   have hxb := HXb.out.2.1
   have hfb := HXb.out.2.2
   have hkb := HXb.out.1
   replace HXr := Lib.hid (HXr.out.below hbn)
   clear hxr hfr hkr
   have hxr := HXr.out.2.1
   have hfr := HXr.out.2.2
   have hkr := HXr.out.1
   replace HXq := Lib.hid (HXq.out.below hbn)
   clear hxq hfq hkq
   have hxq := HXq.out.2.1
   have hfq := HXq.out.2.2
   have hkq := HXq.out.1
   clear hbn
   clear hw
   refine (HAT.out _ HOB.out.base).mono ?_
   rintro e w6 ⟨rfl, hb⟩
   have hzw6 : w5.heap.size ≤ w6.heap.size := hb.size
   have hzzw6 : w.heap.size ≤ w6.heap.size := by omega
   replace HB := Lib.hid (below_then HB.out hb HB.out.size)
   replace HOB := Lib.hid (HOB.out.below hb)
   replace HXb := Lib.hid (HXb.out.below hb)
   clear hxb hfb hkb
   have hxb := HXb.out.2.1
   have hfb := HXb.out.2.2
   have hkb := HXb.out.1
   replace HXr := Lib.hid (HXr.out.below hb)
   clear hxr hfr hkr
   have hxr := HXr.out.2.1
   have hfr := HXr.out.2.2
   have hkr := HXr.out.1
   replace HXq := Lib.hid (HXq.out.below hb)
   clear hxq hfq hkq
   have hxq := HXq.out.2.1
   have hfq := HXq.out.2.2
   have hkq := HXq.out.1
   clear hb
   clear HLA HLF HAT HRO
   rcases hd : decide (0 ≤ rp) with _ | _
   ·have hrp : ¬ 0 ≤ rp := of_decide_eq_false hd
    clear hd
    by_cases h5 : nr = 512
    ·have h6 : ((nr : Int) == 512) = true := beq_iff_eq.2 (by omega)
     clear h5
     go_wp2
     refine bodyPost_named (fun w7 hw => ?_)
     have hz7 : w6.heap.size + 0 ≤ w7.heap.size := by rw [hw]; first | omega | (simp [World.setCell]; done) | (simp [World.setCell]; omega)
     have hzz7 : w.heap.size ≤ w7.heap.size := by omega
     replace HB : Hid (Below w.heap.size w w7) := by rw [Hid, hw]; exact (by ((repeat (first | ((with_reducible refine Below.alloc ?_ ?_ _); rotate_left 1; (focus (first | omega | (simp; done) | (simp; omega)))) | (with_reducible refine Below.drew ?_) | ((with_reducible refine Below.setCell ?_ ?_ _); rotate_left 1; (focus (first | omega | (simp; done) | (simp; omega)))))); exact HB.out))
     replace HOB : Hid (BrkK w7 (0) (w.heap.size) (⟨E, R, H, A1, A2, ce, cr, ch, c1, c2⟩) (⟨width, es, rs, hs⟩)) := by rw [Hid, hw]; (repeat (first | (with_reducible refine BrkK.alloc ?_ _) | (with_reducible refine BrkK.drew ?_) | ((with_reducible refine BrkK.setCell ?_ ?_ _); rotate_left 1; (focus (first | omega | (simp; done) | (simp; omega)))))); exact HOB.out
     replace HXb : Hid (NewBox w7 (w.heap.size) [.int .i64 width, .slice E ne ce, .slice R nr cr, .slice H nh ch, .int .i64 h.size, .slice A1 m1 c1, .int .i64 h.taken, .slice A2 m2 c2, .int .i64 h.num, .int .i64 h.size, .string h.root, .int .i64 h.taken, .string h.troot]) := by rw [Hid, hw]; (repeat (first | (with_reducible refine NewBox.alloc ?_ _) | (with_reducible refine NewBox.drew ?_) | ((with_reducible refine NewBox.setCell ?_ ?_ _); rotate_left 1; (focus (first | omega | (simp; done) | (simp; omega)))))); exact HXb.out
     clear hxb hfb hkb
     have hxb := HXb.out.2.1
     have hfb := HXb.out.2.2
     have hkb := HXb.out.1
     replace HXr : Hid (NewBox w7 (w.heap.size + 1) [.string r.reader, .string r.topic, .int .i64 r.index]) := by rw [Hid, hw]; (repeat (first | (with_reducible refine NewBox.alloc ?_ _) | (with_reducible refine NewBox.drew ?_) | ((with_reducible refine NewBox.setCell ?_ ?_ _); rotate_left 1; (focus (first | omega | (simp; done) | (simp; omega)))))); exact HXr.out
     clear hxr hfr hkr
     have hxr := HXr.out.2.1
     have hfr := HXr.out.2.2
     have hkr := HXr.out.1
     replace HXq : Hid (NewBox w7 (w.heap.size + 2) [.int .i64 0, .slice none 0 0, .slice none 0 0, .slice none 0 0, .int .i64 0, .slice none 0 0, .int .i64 0, .slice none 0 0, .int .i64 0, .int .i64 0, .string ⟨#[]⟩, .int .i64 0, .string ⟨#[]⟩]) := by rw [Hid, hw]; apply NewBox.cast; (focus ((repeat (first | (with_reducible apply NewBox.alloc) | (with_reducible apply NewBox.drew) | (with_reducible apply NewBox.set1) | ((with_reducible apply NewBox.far); (focus (first | omega | (simp; done) | (simp; omega)))))); exact HXq.out)); rfl
     clear hxq hfq hkq
     have hxq := HXq.out.2.1
     have hfq := HXq.out.2.2
     have hkq := HXq.out.1
     clear hw
     refine bodyPost_ret (v := .tuple #[.agg #[.int .i64 0, .slice none 0 0, .slice none 0 0, .slice none 0 0, .int .i64 0, .slice none 0 0, .int .i64 0, .slice none 0 0, .int .i64 0, .int .i64 0, .string ⟨#[]⟩, .int .i64 0, .string ⟨#[]⟩], .slice (some ⟨w6.heap.size, 0, none⟩) 0 0, .int .i64 5]) (by simp [results, Try.results78, go_sem, hxq]) rfl ?_
     exact ⟨zeroBk, zeroBm, _, 0, 0, 5, rfl, NextOk.no (by decide) HB.out⟩
    ·have h6 : ((nr : Int) == 512) = false := beq_eq_false_iff_ne.2 (by omega)
     go_wp2_with fail
     refine calls_named (fun w7 hw => ?_)
     have hz7 : w6.heap.size + 0 ≤ w7.heap.size := by rw [hw]; first | omega | (simp [World.setCell]; done) | (simp [World.setCell]; omega)
     have hzz7 : w.heap.size ≤ w7.heap.size := by omega
     have hbn : Below w6.heap.size w6 w7 := by rw [hw]; exact (by ((repeat (first | ((with_reducible refine Below.alloc ?_ ?_ _); rotate_left 1; (focus (first | omega | (simp; done) | (simp; omega)))) | (with_reducible refine Below.drew ?_) | ((with_reducible refine Below.setCell ?_ ?_ _); rotate_left 1; (focus (first | omega | (simp; done) | (simp; omega)))))); exact Below.refl _ _))
     replace HB := Lib.hid (below_then HB.out hbn HB.out.size)
     replace HOB := Lib.hid (HOB.out.below hbn)
     replace HXb := Lib.hid (HXb.out.below hbn)
     clear hxb hfb hkb
     have hxb := HXb.out.2.1
     have hfb := HXb.out.2.2
     have hkb := HXb.out.1
     replace HXr := Lib.hid (HXr.out.below hbn)
     clear hxr hfr hkr
     have hxr := HXr.out.2.1
     have hfr := HXr.out.2.2
     have hkr := HXr.out.1
     replace HXq := Lib.hid (HXq.out.below hbn)
     clear hxq hfq hkq
     have hxq := HXq.out.2.1
     have hfq := HXq.out.2.2
     have hkq := HXq.out.1
     clear hbn
     clear hw
     refine (HTX.out _).mono ?_
     rintro e w8 ⟨rfl, hb⟩
     have hzw8 : w7.heap.size ≤ w8.heap.size := hb.size
     have hzzw8 : w.heap.size ≤ w8.heap.size := by omega
     replace HB := Lib.hid (below_then HB.out hb HB.out.size)
     replace HOB := Lib.hid (HOB.out.below hb)
     replace HXb := Lib.hid (HXb.out.below hb)
     clear hxb hfb hkb
     have hxb := HXb.out.2.1
     have hfb := HXb.out.2.2
     have hkb := HXb.out.1
     replace HXr := Lib.hid (HXr.out.below hb)
     clear hxr hfr hkr
     have hxr := HXr.out.2.1
     have hfr := HXr.out.2.2
     have hkr := HXr.out.1
     replace HXq := Lib.hid (HXq.out.below hb)
     clear hxq hfq hkq
     have hxq := HXq.out.2.1
     have hfq := HXq.out.2.2
     have hkq := HXq.out.1
     clear hb
     clear HTX h6
     have hpo := HTK.out HQ1.out (by rw [HLI.out]; exact decide_eq_true (by omega)) (by
      rcases HP2.out with ⟨_, h7⟩ | ⟨k, _, h7, _⟩
      ·exact h7
      ·omega) (by rw [HNR.out]; omega)
     have HPO := Lib.hid hpo
     clear hpo HTK HP2 HLI hlf h5
     go_wp2_with fail
     refine calls_named (fun w9 hw => ?_)
     have hz9 : w8.heap.size + 0 ≤ w9.heap.size := by rw [hw]; first | omega | (simp [World.setCell]; done) | (simp [World.setCell]; omega)
     have hzz9 : w.heap.size ≤ w9.heap.size := by omega
     have hbn : Below w8.heap.size w8 w9 := by rw [hw]; exact (by ((repeat (first | ((with_reducible refine Below.alloc ?_ ?_ _); rotate_left 1; (focus (first | omega | (simp; done) | (simp; omega)))) | (with_reducible refine Below.drew ?_) | ((with_reducible refine Below.setCell ?_ ?_ _); rotate_left 1; (focus (first | omega | (simp; done) | (simp; omega)))))); exact Below.refl _ _))
     replace HB := Lib.hid (below_then HB.out hbn HB.out.size)
     replace HOB := Lib.hid (HOB.out.below hbn)
     replace HXb := Lib.hid (HXb.out.below hbn)
     clear hxb hfb hkb
     have hxb := HXb.out.2.1
     have hfb := HXb.out.2.2
     have hkb := HXb.out.1
     replace HXr := Lib.hid (HXr.out.below hbn)
     clear hxr hfr hkr
     have hxr := HXr.out.2.1
     have hfr := HXr.out.2.2
     have hkr := HXr.out.1
     replace HXq := Lib.hid (HXq.out.below hbn)
     clear hxq hfq hkq
     have hxq := HXq.out.2.1
     have hfq := HXq.out.2.2
     have hkq := HXq.out.1
     clear hbn
     clear hw
     refine (HCP.out _ HOB.out.base).mono ?_
     rintro e w10 ⟨a3, rfl, hcp, hb⟩
     have hzw10 : w9.heap.size ≤ w10.heap.size := hb.size
     have hzzw10 : w.heap.size ≤ w10.heap.size := by omega
     replace HB := Lib.hid (below_then HB.out hb HB.out.size)
     replace HOB := Lib.hid (HOB.out.below hb)
     replace HXb := Lib.hid (HXb.out.below hb)
     clear hxb hfb hkb
     have hxb := HXb.out.2.1
     have hfb := HXb.out.2.2
     have hkb := HXb.out.1
     replace HXr := Lib.hid (HXr.out.below hb)
     clear hxr hfr hkr
     have hxr := HXr.out.2.1
     have hfr := HXr.out.2.2
     have hkr := HXr.out.1
     replace HXq := Lib.hid (HXq.out.below hb)
     clear hxq hfq hkq
     have hxq := HXq.out.2.1
     have hfq := HXq.out.2.2
     have hkq := HXq.out.1
     clear hb
     have HOC : Hid (CopyK w10 (w9.heap.size) (w10.heap.size) (a3) (⟨es, rs, hs, l1, l2⟩)) := Lib.hid hcp
     clear hcp HCP
     obtain ⟨lo5, hlo5, hlo5'⟩ : ∃ n, n ≤ w9.heap.size ∧ w9.heap.size ≤ n := ⟨_, Nat.le_refl _, Nat.le_refl _⟩
     obtain ⟨hi5, hhi5, hhi5'⟩ : ∃ n, n ≤ w10.heap.size ∧ w10.heap.size ≤ n := ⟨_, Nat.le_refl _, Nat.le_refl _⟩
     have HK5 := Lib.hid (HOC.out.mono hlo5 hhi5')
     clear HOC
     have HOC : Hid (CopyK w10 (lo5) (hi5) (a3) (⟨es, rs, hs, l1, l2⟩)) := Lib.hid HK5.out
     clear HK5
     go_upto_region 14 with fail
     refine wp_named (fun w11 hw => ?_)
     have hz11 : w10.heap.size + 1 ≤ w11.heap.size := by rw [hw]; first | omega | (simp [World.setCell]; done) | (simp [World.setCell]; omega)
     have hzz11 : w.heap.size ≤ w11.heap.size := by omega
     have hbn : Below w10.heap.size w10 w11 := by rw [hw]; exact (by ((repeat (first | ((with_reducible refine Below.alloc ?_ ?_ _); rotate_left 1; (focus (first | omega | (simp; done) | (simp; omega)))) | (with_reducible refine Below.drew ?_) | ((with_reducible refine Below.setCell ?_ ?_ _); rotate_left 1; (focus (first | omega | (simp; done) | (simp; omega)))))); exact Below.refl _ _))
     replace HB := Lib.hid (below_then HB.out hbn HB.out.size)
     replace HOB := Lib.hid (HOB.out.below hbn)
     replace HOC := Lib.hid (HOC.out.below hbn)
     replace HXb := Lib.hid (HXb.out.below hbn)
     clear hxb hfb hkb
     have hxb := HXb.out.2.1
     have hfb := HXb.out.2.2
     have hkb := HXb.out.1
     replace HXr := Lib.hid (HXr.out.below hbn)
     clear hxr hfr hkr
     have hxr := HXr.out.2.1
     have hfr := HXr.out.2.2
     have hkr := HXr.out.1
     replace HXq := Lib.hid (HXq.out.below hbn)
     clear hxq hfq hkq
     have hxq := HXq.out.2.1
     have hfq := HXq.out.2.2
     have hkq := HXq.out.1
     clear hbn
     have HXo : Hid (NewBox w11 (w10.heap.size) [.int .i64 width, .slice a3.E ne a3.ce, .slice a3.R nr a3.cr, .slice a3.H nh a3.ch, .int .i64 h.size, .slice a3.A1 m1 a3.c1, .int .i64 h.taken, .slice a3.A2 m2 a3.c2, .int .i64 h.num, .int .i64 h.size, .string h.root, .int .i64 h.taken, .string h.troot]) := by rw [Hid, hw]; exact ⟨by first | omega | (simp [World.setCell]; done) | (simp [World.setCell]; omega), fun o => by rcases o with _ | _ | _ | _ | _ | _ | _ | _ | _ | _ | _ | _ | _ | o <;> go_simp, fun o => by go_simp⟩
     have hxo := HXo.out.2.1
     have hfo := HXo.out.2.2
     have hko := HXo.out.1
     clear hw
     have HRR : Hid (RowT w11 lo5 hi5 ((57, 3), .slice a3.R nr a3.cr, nr) (rcps rs)) := Lib.hid (by have h7 := HOC.out.r; dsimp only at h7; rwa [HNR.out] at h7)
     go_wp2_with (at_builtin; refine app1LRcp rfl _ _ rfl lo5 hi5 w11.heap.size _ nr (rcps rs) r rfl (HRR.out.alloc _) rfl (NewBox.new w11 _ _) (by omega) (by simp; omega) (w11.heap.size + 1) (by simp) ?_)
     intro g4 c4 w2_ hg1 hg2 hg3 hrow hg
     have hon := (Only.of_below ((Below.refl _ _).alloc (Nat.le_refl _) _)).trans ((HRR.out.alloc _).onlyG hg)
     have hgr := hg
     rw [← HNR.out] at hgr
     have re := RowT.cast ((HOC.out.e.alloc _).grown hgr HOC.out.er) (show _ = ((55, 5), Value.slice a3.E ne a3.ce, ne) by dsimp only; rw [HNE.out])
     have rh := RowT.cast ((HOC.out.h.alloc _).grown hgr HOC.out.rh.symm) (show _ = ((48, 5), Value.slice a3.H nh a3.ch, nh) by dsimp only; rw [HNH.out])
     have ra := (HOC.out.a1.alloc _).grown hgr HOC.out.r1
     have rb := (HOC.out.a2.alloc _).grown hgr HOC.out.r2
     have hzw2_ : w11.heap.size ≤ w2_.heap.size := hon.size
     have hzzw2_ : w.heap.size ≤ w2_.heap.size := by omega
     replace HB := Lib.hid (below_only HB.out hon (by omega) HB.out.size)
     replace HOB := Lib.hid (HOB.out.only hon (by first | omega | (simp; omega)))
     replace HXb := Lib.hid (HXb.out.only hon (by first | omega | (simp; omega)))
     clear hxb hfb hkb
     have hxb := HXb.out.2.1
     have hfb := HXb.out.2.2
     have hkb := HXb.out.1
     replace HXr := Lib.hid (HXr.out.only hon (by first | omega | (simp; omega)))
     clear hxr hfr hkr
     have hxr := HXr.out.2.1
     have hfr := HXr.out.2.2
     have hkr := HXr.out.1
     replace HXq := Lib.hid (HXq.out.only hon (by first | omega | (simp; omega)))
     clear hxq hfq hkq
     have hxq := HXq.out.2.1
     have hfq := HXq.out.2.2
     have hkq := HXq.out.1
     replace HXo := Lib.hid (HXo.out.only hon (by first | omega | (simp; omega)))
     clear hxo hfo hko
     have hxo := HXo.out.2.1
     have hfo := HXo.out.2.2
     have hko := HXo.out.1
     clear HOC HRR
     have HOE5 : Hid (RowT w2_ (lo5) (hi5) (((55, 5), .slice a3.E ne a3.ce, ne)) (ents es)) := Lib.hid re
     have HOH5 : Hid (RowT w2_ (lo5) (hi5) (((48, 5), .slice a3.H nh a3.ch, nh)) (hds hs)) := Lib.hid rh
     have HOA5 : Hid (RowT w2_ (lo5) (hi5) (((9, 1), .slice a3.A1 l1.length a3.c1, l1.length)) (strs l1)) := Lib.hid ra
     have HOB5 : Hid (RowT w2_ (lo5) (hi5) (((9, 1), .slice a3.A2 l2.length a3.c2, l2.length)) (strs l2)) := Lib.hid rb
     have HOR5 : Hid (RowT w2_ (g4) (g4 + 1) (((57, 3), .slice (some ⟨g4, 0, none⟩) (nr + 1) c4, nr + 1)) (rcps rs ++ rcps [r])) := Lib.hid hrow
     clear hon re rh ra rb hrow hg hgr
     go_upto_region 15 with fail
     refine wp_named (fun w12 hw => ?_)
     have hz12 : w2_.heap.size + 0 ≤ w12.heap.size := by rw [hw]; first | omega | (simp [World.setCell]; done) | (simp [World.setCell]; omega)
     have hzz12 : w.heap.size ≤ w12.heap.size := by omega
     replace HB : Hid (Below w.heap.size w w12) := by rw [Hid, hw]; exact (by ((repeat (first | ((with_reducible refine Below.alloc ?_ ?_ _); rotate_left 1; (focus (first | omega | (simp; done) | (simp; omega)))) | (with_reducible refine Below.drew ?_) | ((with_reducible refine Below.setCell ?_ ?_ _); rotate_left 1; (focus (first | omega | (simp; done) | (simp; omega)))))); exact HB.out))
     replace HOB : Hid (BrkK w12 (0) (w.heap.size) (⟨E, R, H, A1, A2, ce, cr, ch, c1, c2⟩) (⟨width, es, rs, hs⟩)) := by rw [Hid, hw]; (repeat (first | (with_reducible refine BrkK.alloc ?_ _) | (with_reducible refine BrkK.drew ?_) | ((with_reducible refine BrkK.setCell ?_ ?_ _); rotate_left 1; (focus (first | omega | (simp; done) | (simp; omega)))))); exact HOB.out
     replace HOE5 : Hid (RowT w12 (lo5) (hi5) (((55, 5), .slice a3.E ne a3.ce, ne)) (ents es)) := by rw [Hid, hw]; (repeat (first | (with_reducible refine RowT.alloc ?_ _) | (with_reducible refine RowT.drew ?_) | ((with_reducible refine RowT.setCell ?_ ?_ _); rotate_left 1; (focus (first | omega | (simp; done) | (simp; omega)))))); exact HOE5.out
     replace HOH5 : Hid (RowT w12 (lo5) (hi5) (((48, 5), .slice a3.H nh a3.ch, nh)) (hds hs)) := by rw [Hid, hw]; (repeat (first | (with_reducible refine RowT.alloc ?_ _) | (with_reducible refine RowT.drew ?_) | ((with_reducible refine RowT.setCell ?_ ?_ _); rotate_left 1; (focus (first | omega | (simp; done) | (simp; omega)))))); exact HOH5.out
     replace HOA5 : Hid (RowT w12 (lo5) (hi5) (((9, 1), .slice a3.A1 l1.length a3.c1, l1.length)) (strs l1)) := by rw [Hid, hw]; (repeat (first | (with_reducible refine RowT.alloc ?_ _) | (with_reducible refine RowT.drew ?_) | ((with_reducible refine RowT.setCell ?_ ?_ _); rotate_left 1; (focus (first | omega | (simp; done) | (simp; omega)))))); exact HOA5.out
     replace HOB5 : Hid (RowT w12 (lo5) (hi5) (((9, 1), .slice a3.A2 l2.length a3.c2, l2.length)) (strs l2)) := by rw [Hid, hw]; (repeat (first | (with_reducible refine RowT.alloc ?_ _) | (with_reducible refine RowT.drew ?_) | ((with_reducible refine RowT.setCell ?_ ?_ _); rotate_left 1; (focus (first | omega | (simp; done) | (simp; omega)))))); exact HOB5.out
     replace HOR5 : Hid (RowT w12 (g4) (g4 + 1) (((57, 3), .slice (some ⟨g4, 0, none⟩) (nr + 1) c4, nr + 1)) (rcps rs ++ rcps [r])) := by rw [Hid, hw]; (repeat (first | (with_reducible refine RowT.alloc ?_ _) | (with_reducible refine RowT.drew ?_) | ((with_reducible refine RowT.setCell ?_ ?_ _); rotate_left 1; (focus (first | omega | (simp; done) | (simp; omega)))))); exact HOR5.out
     replace HXb : Hid (NewBox w12 (w.heap.size) [.int .i64 width, .slice E ne ce, .slice R nr cr, .slice H nh ch, .int .i64 h.size, .slice A1 m1 c1, .int .i64 h.taken, .slice A2 m2 c2, .int .i64 h.num, .int .i64 h.size, .string h.root, .int .i64 h.taken, .string h.troot]) := by rw [Hid, hw]; (repeat (first | (with_reducible refine NewBox.alloc ?_ _) | (with_reducible refine NewBox.drew ?_) | ((with_reducible refine NewBox.setCell ?_ ?_ _); rotate_left 1; (focus (first | omega | (simp; done) | (simp; omega)))))); exact HXb.out
     clear hxb hfb hkb
     have hxb := HXb.out.2.1
     have hfb := HXb.out.2.2
     have hkb := HXb.out.1
     replace HXr : Hid (NewBox w12 (w.heap.size + 1) [.string r.reader, .string r.topic, .int .i64 r.index]) := by rw [Hid, hw]; (repeat (first | (with_reducible refine NewBox.alloc ?_ _) | (with_reducible refine NewBox.drew ?_) | ((with_reducible refine NewBox.setCell ?_ ?_ _); rotate_left 1; (focus (first | omega | (simp; done) | (simp; omega)))))); exact HXr.out
     clear hxr hfr hkr
     have hxr := HXr.out.2.1
     have hfr := HXr.out.2.2
     have hkr := HXr.out.1
     replace HXq : Hid (NewBox w12 (w.heap.size + 2) [.int .i64 0, .slice none 0 0, .slice none 0 0, .slice none 0 0, .int .i64 0, .slice none 0 0, .int .i64 0, .slice none 0 0, .int .i64 0, .int .i64 0, .string ⟨#[]⟩, .int .i64 0, .string ⟨#[]⟩]) := by rw [Hid, hw]; (repeat (first | (with_reducible refine NewBox.alloc ?_ _) | (with_reducible refine NewBox.drew ?_) | ((with_reducible refine NewBox.setCell ?_ ?_ _); rotate_left 1; (focus (first | omega | (simp; done) | (simp; omega)))))); exact HXq.out
     clear hxq hfq hkq
     have hxq := HXq.out.2.1
     have hfq := HXq.out.2.2
     have hkq := HXq.out.1
     replace HXo : Hid (NewBox w12 (w10.heap.size) [.int .i64 width, .slice a3.E ne a3.ce, .slice (some ⟨g4, 0, none⟩) (nr + 1) c4, .slice a3.H nh a3.ch, .int .i64 h.size, .slice a3.A1 m1 a3.c1, .int .i64 h.taken, .slice a3.A2 m2 a3.c2, .int .i64 h.num, .int .i64 h.size, .string h.root, .int .i64 h.taken, .string h.troot]) := by rw [Hid, hw]; apply NewBox.cast; (focus ((repeat (first | (with_reducible apply NewBox.alloc) | (with_reducible apply NewBox.drew) | (with_reducible apply NewBox.set1) | ((with_reducible apply NewBox.far); (focus (first | omega | (simp; done) | (simp; omega)))))); exact HXo.out)); rfl
     clear hxo hfo hko
     have hxo := HXo.out.2.1
     have hfo := HXo.out.2.2
     have hko := HXo.out.1
     clear hw
     obtain ⟨F, HF⟩ : ∃ F : Facts, Hid (F = fun iq xq tqs dsq uq => match iq with
      | 0 => xq.v = .agg #[.int .i64 width, .slice a3.E ne a3.ce, .slice (some ⟨g4, 0, none⟩) (nr + 1) c4, .slice a3.H nh a3.ch, .int .i64 h.size, .slice a3.A1 m1 a3.c1, .int .i64 h.taken, .slice a3.A2 m2 a3.c2, .int .i64 h.num, .int .i64 h.size, .string h.root, .int .i64 h.taken, .string h.troot]
      | 1 => xq.v = .agg #[.int .i64 width, .slice E ne ce, .slice R nr cr, .slice H nh ch, .int .i64 h.size, .slice A1 m1 c1, .int .i64 h.taken, .slice A2 m2 c2, .int .i64 h.num, .int .i64 h.size, .string h.root, .int .i64 h.taken, .string h.troot]
      | 2 => xq.v = .string tx
      | 3 => ∃ (kw : Nat), xq.v = .slice (some ⟨kw, 0, none⟩) 1 1 ∧ (True)
      | 4 => NewBox uq (w.heap.size + 2) [.int .i64 width, .slice a3.E ne a3.ce, .slice (some ⟨g4, 0, none⟩) (nr + 1) c4, .slice a3.H nh a3.ch, .int .i64 h.size, .slice a3.A1 m1 a3.c1, .int .i64 h.taken, .slice a3.A2 m2 a3.c2, .int .i64 h.num, .int .i64 h.size, .string h.root, .int .i64 h.taken, .string h.troot]
      | 5 => (match tqs, dsq with | [], [yq0] => ∃ (kw : Nat), yq0.v = .slice (some ⟨kw, 0, none⟩) 1 1 ∧ xq.v = .slice (some ⟨kw, 0, none⟩) 1 1 | _, _ => False)
      | 6 => xq.v = .int .i64 0
      | _ => False) := ⟨_, rfl⟩
     refine wp_region_facts [[], [], [], [], [], [3], []] [[], [], [], [], [], [], []] [some 54, some 55, some 56, some 57, none, some 5, some 6] (some 4) (w.heap.size + 2) (w.heap.size + 2 + 1) (.inr (by omega)) F (by kernel_rfl) (by kernel_rfl) (by kernel_rfl) ?_ ⟨?_, ?_, ?_, ?_, ?_, ?_, ?_, trivial⟩ ?_
     ·rw [HF.out]; intro iq xq tqs dsq uq u' hi hf hs hW hx hbk
      have kx : ∀ b, xq.s ≤ b → b < xq.e → u'.heap[b]? = uq.heap[b]? := fun b h1 h2 => hbk b (.inr (.inl ⟨h1, h2⟩))
      have kt : ∀ t ∈ tqs, ∀ b, t.s ≤ b → b < t.e → u'.heap[b]? = uq.heap[b]? := fun t ht b h1 h2 => hbk b (.inr (.inr ⟨t, ht, h1, h2⟩))
      match iq with
      | 0 => exact hf
      | 1 => exact hf
      | 2 => exact hf
      | 3 => obtain ⟨kw, hv, p0⟩ := hf; exact ⟨kw, hv, trivial⟩
      | 4 => exact NewBox.keep hf hs (hbk _ (.inl ⟨hkq, .inr (.inr rfl)⟩))
      | 5 => exact hf
      | 6 => exact hf
     ·intro gh ρ u hc hf1 hg1 hd h0 hb he ha hF
      first | (replace hb : Below w12.heap.size w12 u := hb.drew.below (by decide +kernel)) | (replace hb : Only (w.heap.size + 2) (w.heap.size + 2 + 1) w12 u := hb.drew.only)
      have hbz : w12.heap.size ≤ u.heap.size := hb.size
      have r10 : ρ (.tmp 10) = .pointer (some ⟨w10.heap.size, 0, none⟩) := (h0 10 (by decide +kernel)).trans rfl
      have q_o : ∀ o, u.cell? ⟨w10.heap.size, o, none⟩ = [.int .i64 width, .slice a3.E ne a3.ce, .slice (some ⟨g4, 0, none⟩) (nr + 1) c4, .slice a3.H nh a3.ch, .int .i64 h.size, .slice a3.A1 m1 a3.c1, .int .i64 h.taken, .slice a3.A2 m2 a3.c2, .int .i64 h.num, .int .i64 h.size, .string h.root, .int .i64 h.taken, .string h.troot][o]? := by first | exact (HXo.out.below hb).2.1 | exact (HXo.out.only hb (by omega)).2.1
      have k_o : w10.heap.size < u.heap.size := by have := HXo.out.1; omega
      have q_b : ∀ o, u.cell? ⟨w.heap.size, o, none⟩ = [.int .i64 width, .slice E ne ce, .slice R nr cr, .slice H nh ch, .int .i64 h.size, .slice A1 m1 c1, .int .i64 h.taken, .slice A2 m2 c2, .int .i64 h.num, .int .i64 h.size, .string h.root, .int .i64 h.taken, .string h.troot][o]? := by first | exact (HXb.out.below hb).2.1 | exact (HXb.out.only hb (by omega)).2.1
      have k_b : w.heap.size < u.heap.size := by have := HXb.out.1; omega
      clear  hd h0 he ha hF
      go_simp
      rw [HF.out]
      exact ⟨OnlyL.refl _ _, rfl⟩
     ·intro gh ρ u hc hf1 hg1 hd h0 hb he ha hF
      first | (replace hb : Below w12.heap.size w12 u := hb.drew.below (by decide +kernel)) | (replace hb : Only (w.heap.size + 2) (w.heap.size + 2 + 1) w12 u := hb.drew.only)
      have hbz : w12.heap.size ≤ u.heap.size := hb.size
      have r2 : ρ (.tmp 2) = .pointer (some ⟨w.heap.size, 0, none⟩) := (h0 2 (by decide +kernel)).trans rfl
      have q_o : ∀ o, u.cell? ⟨w10.heap.size, o, none⟩ = [.int .i64 width, .slice a3.E ne a3.ce, .slice (some ⟨g4, 0, none⟩) (nr + 1) c4, .slice a3.H nh a3.ch, .int .i64 h.size, .slice a3.A1 m1 a3.c1, .int .i64 h.taken, .slice a3.A2 m2 a3.c2, .int .i64 h.num, .int .i64 h.size, .string h.root, .int .i64 h.taken, .string h.troot][o]? := by first | exact (HXo.out.below hb).2.1 | exact (HXo.out.only hb (by omega)).2.1
      have k_o : w10.heap.size < u.heap.size := by have := HXo.out.1; omega
      have q_b : ∀ o, u.cell? ⟨w.heap.size, o, none⟩ = [.int .i64 width, .slice E ne ce, .slice R nr cr, .slice H nh ch, .int .i64 h.size, .slice A1 m1 c1, .int .i64 h.taken, .slice A2 m2 c2, .int .i64 h.num, .int .i64 h.size, .string h.root, .int .i64 h.taken, .string h.troot][o]? := by first | exact (HXb.out.below hb).2.1 | exact (HXb.out.only hb (by omega)).2.1
      have k_b : w.heap.size < u.heap.size := by have := HXb.out.1; omega
      clear  hd h0 he ha hF
      go_simp
      rw [HF.out]
      exact ⟨OnlyL.refl _ _, rfl⟩
     ·intro gh ρ u hc hf1 hg1 hd h0 hb he ha hF
      have r8 : ρ (.tmp 8) = .string tx := (h0 8 (by decide +kernel)).trans rfl
      clear  hd h0 he ha hF
      go_simp
      rw [HF.out]
      exact ⟨OnlyL.refl _ _, rfl⟩
     ·intro gh ρ u hc hf1 hg1 hd h0 hb he ha hF
      first | (replace hb : Below w12.heap.size w12 u := hb.drew.below (by decide +kernel)) | (replace hb : Only (w.heap.size + 2) (w.heap.size + 2 + 1) w12 u := hb.drew.only)
      have hbz : w12.heap.size ≤ u.heap.size := hb.size
      have r55 : ρ (.tmp 55) = .agg #[.int .i64 width, .slice E ne ce, .slice R nr cr, .slice H nh ch, .int .i64 h.size, .slice A1 m1 c1, .int .i64 h.taken, .slice A2 m2 c2, .int .i64 h.num, .int .i64 h.size, .string h.root, .int .i64 h.taken, .string h.troot] := by have h := hF 1 (by decide +kernel) (by decide +kernel); rw [HF.out] at h; exact (hd 1 (by decide +kernel) 55 (by kernel_rfl)).trans h
      have r56 : ρ (.tmp 56) = .string tx := by have h := hF 2 (by decide +kernel) (by decide +kernel); rw [HF.out] at h; exact (hd 2 (by decide +kernel) 56 (by kernel_rfl)).trans h
      clear  hd h0 he ha hF
      go_simp
      have q_o := (HXo.out.below hb)
      have q_b := (HXb.out.below hb)
      refine (HWR.out _ (HOB.out.below hb).base tx (by omega)).mono ?_
      rintro e u1 ⟨kw, rfl, hb1⟩
      rw [HF.out]
      exact ⟨_, rfl, OnlyL.of_below hb1, kw, rfl, trivial⟩
     ·intro gh ρ u hc hf1 hg1 hd h0 hb he ha hF
      first | (replace hb : Below w12.heap.size w12 u := hb.drew.below (by decide +kernel)) | (replace hb : Only (w.heap.size + 2) (w.heap.size + 2 + 1) w12 u := hb.drew.only)
      have hbz : w12.heap.size ≤ u.heap.size := hb.size
      have r4 : ρ (.tmp 4) = .pointer (some ⟨w.heap.size + 2, 0, none⟩) := (h0 4 (by decide +kernel)).trans rfl
      have r54 : ρ (.tmp 54) = .agg #[.int .i64 width, .slice a3.E ne a3.ce, .slice (some ⟨g4, 0, none⟩) (nr + 1) c4, .slice a3.H nh a3.ch, .int .i64 h.size, .slice a3.A1 m1 a3.c1, .int .i64 h.taken, .slice a3.A2 m2 a3.c2, .int .i64 h.num, .int .i64 h.size, .string h.root, .int .i64 h.taken, .string h.troot] := by have h := hF 0 (by decide +kernel) (by decide +kernel); rw [HF.out] at h; exact (hd 0 (by decide +kernel) 54 (by kernel_rfl)).trans h
      obtain ⟨hzk, hzc, hzf⟩ := HXq.out.below hb
      clear  hd h0 he ha hF
      go_simp
      rw [HF.out]
      refine ⟨?_, ?_⟩
      ·refine OnlyL.of_z (lo := w.heap.size + 2) (hi := w.heap.size + 2 + 1) ?_ rfl; refine Only.setCell ?_ (by exact Nat.le_refl _) (by exact Nat.lt_succ_self _) _; refine Only.setCell ?_ (by exact Nat.le_refl _) (by exact Nat.lt_succ_self _) _; refine Only.setCell ?_ (by exact Nat.le_refl _) (by exact Nat.lt_succ_self _) _; refine Only.setCell ?_ (by exact Nat.le_refl _) (by exact Nat.lt_succ_self _) _; refine Only.setCell ?_ (by exact Nat.le_refl _) (by exact Nat.lt_succ_self _) _; refine Only.setCell ?_ (by exact Nat.le_refl _) (by exact Nat.lt_succ_self _) _; refine Only.setCell ?_ (by exact Nat.le_refl _) (by exact Nat.lt_succ_self _) _; refine Only.setCell ?_ (by exact Nat.le_refl _) (by exact Nat.lt_succ_self _) _; refine Only.setCell ?_ (by exact Nat.le_refl _) (by exact Nat.lt_succ_self _) _; refine Only.setCell ?_ (by exact Nat.le_refl _) (by exact Nat.lt_succ_self _) _; refine Only.setCell ?_ (by exact Nat.le_refl _) (by exact Nat.lt_succ_self _) _; refine Only.setCell ?_ (by exact Nat.le_refl _) (by exact Nat.lt_succ_self _) _; refine Only.setCell ?_ (by exact Nat.le_refl _) (by exact Nat.lt_succ_self _) _; exact Only.refl _ _ _
      ·show NewBox _ (w.heap.size + 2) _
       exact ⟨by simpa [World.setCell] using hzk, fun o => by rcases o with _ | _ | _ | _ | _ | _ | _ | _ | _ | _ | _ | _ | _ | o <;> go_simp, fun o => by go_simp⟩
     ·intro gh ρ u hc hf1 hg1 hd h0 hb he ha hF
      have f3 : ∃ (kw : Nat), (gh 3).v = .slice (some ⟨kw, 0, none⟩) 1 1 ∧ (True) := by have h := hF 3 (by decide +kernel) (by decide +kernel); rw [HF.out] at h; exact h
      obtain ⟨kw, hv3, g3_0⟩ := f3
      have hrt3 := hv3
      have r57 : ρ (.tmp 57) = .slice (some ⟨kw, 0, none⟩) 1 1 := (hd 3 (by decide +kernel) 57 (by kernel_rfl)).trans hv3
      have HRT3 := Lib.hid hrt3
      clear hv3 hrt3 hd h0 he ha hF
      go_simp
      rw [HF.out]
      exact ⟨OnlyL.refl _ _, kw, HRT3.out, rfl⟩
     ·intro gh ρ u hc hf1 hg1 hd h0 hb he ha hF
      clear  hd h0 he ha hF
      go_simp
      rw [HF.out]
      exact ⟨OnlyL.refl _ _, rfl⟩
     intro gh w13 hB hE hA hF
     replace hB : Only (w.heap.size + 2) (w.heap.size + 2 + 1) w12 w13 := hB.only
     have f0 : (gh 0).v = .agg #[.int .i64 width, .slice a3.E ne a3.ce, .slice (some ⟨g4, 0, none⟩) (nr + 1) c4, .slice a3.H nh a3.ch, .int .i64 h.size, .slice a3.A1 m1 a3.c1, .int .i64 h.taken, .slice a3.A2 m2 a3.c2, .int .i64 h.num, .int .i64 h.size, .string h.root, .int .i64 h.taken, .string h.troot] := by have h := hF 0 (by decide +kernel) (by decide +kernel); rw [HF.out] at h; exact h
     have f1 : (gh 1).v = .agg #[.int .i64 width, .slice E ne ce, .slice R nr cr, .slice H nh ch, .int .i64 h.size, .slice A1 m1 c1, .int .i64 h.taken, .slice A2 m2 c2, .int .i64 h.num, .int .i64 h.size, .string h.root, .int .i64 h.taken, .string h.troot] := by have h := hF 1 (by decide +kernel) (by decide +kernel); rw [HF.out] at h; exact h
     have f2 : (gh 2).v = .string tx := by have h := hF 2 (by decide +kernel) (by decide +kernel); rw [HF.out] at h; exact h
     have f3 : ∃ (kw : Nat), (gh 3).v = .slice (some ⟨kw, 0, none⟩) 1 1 ∧ (True) := by have h := hF 3 (by decide +kernel) (by decide +kernel); rw [HF.out] at h; exact h
     have f4 : NewBox w13 (w.heap.size + 2) [.int .i64 width, .slice a3.E ne a3.ce, .slice (some ⟨g4, 0, none⟩) (nr + 1) c4, .slice a3.H nh a3.ch, .int .i64 h.size, .slice a3.A1 m1 a3.c1, .int .i64 h.taken, .slice a3.A2 m2 a3.c2, .int .i64 h.num, .int .i64 h.size, .string h.root, .int .i64 h.taken, .string h.troot] := by have h := hF 4 (by decide +kernel) (by decide +kernel); rw [HF.out] at h; exact h
     have f5 : ∃ (kw : Nat), (gh 3).v = .slice (some ⟨kw, 0, none⟩) 1 1 ∧ (gh 5).v = .slice (some ⟨kw, 0, none⟩) 1 1 := by have h := hF 5 (by decide +kernel) (by decide +kernel); rw [HF.out] at h; exact h
     have f6 : (gh 6).v = .int .i64 0 := by have h := hF 6 (by decide +kernel) (by decide +kernel); rw [HF.out] at h; exact h
     obtain ⟨kw, hv3, _⟩ := f3
     have hv0 := f0
     have hv1 := f1
     have hv2 := f2
     have hx4 := f4
     obtain ⟨kw_5, hu3, hv5⟩ := f5
     replace hu3 := hv3.symm.trans hu3
     simp at hu3
     try simp only [and_assoc] at hu3
     obtain rfl := hu3
     have hv6 := f6
     clear hE hA hF
     simp only [putDs, Nat.reduceAdd, hv0, hv1, hv2, hv3, hv5, hv6]
     clear hv0 hv1 hv2 hv3 hv5 hv6
     clear HF
     have hb := hB
     clear hB
     have hzw13 : w12.heap.size ≤ w13.heap.size := hb.size
     have hzzw13 : w.heap.size ≤ w13.heap.size := by omega
     replace HB := Lib.hid (below_only HB.out hb (by omega) HB.out.size)
     replace HOB := Lib.hid (HOB.out.only hb (by first | omega | (simp; omega)))
     replace HOE5 := Lib.hid (HOE5.out.only hb (by first | omega | (simp; omega)))
     replace HOH5 := Lib.hid (HOH5.out.only hb (by first | omega | (simp; omega)))
     replace HOA5 := Lib.hid (HOA5.out.only hb (by first | omega | (simp; omega)))
     replace HOB5 := Lib.hid (HOB5.out.only hb (by first | omega | (simp; omega)))
     replace HOR5 := Lib.hid (HOR5.out.only hb (by first | omega | (simp; omega)))
     replace HXb := Lib.hid (HXb.out.only hb (by first | omega | (simp; omega)))
     clear hxb hfb hkb
     have hxb := HXb.out.2.1
     have hfb := HXb.out.2.2
     have hkb := HXb.out.1
     replace HXr := Lib.hid (HXr.out.only hb (by first | omega | (simp; omega)))
     clear hxr hfr hkr
     have hxr := HXr.out.2.1
     have hfr := HXr.out.2.2
     have hkr := HXr.out.1
     clear hxq hfq hkq HXq
     replace HXo := Lib.hid (HXo.out.only hb (by first | omega | (simp; omega)))
     clear hxo hfo hko
     have hxo := HXo.out.2.1
     have hfo := HXo.out.2.2
     have hko := HXo.out.1
     clear hb
     have HXq : Hid (NewBox w13 (w.heap.size + 2) [.int .i64 width, .slice a3.E ne a3.ce, .slice (some ⟨g4, 0, none⟩) (nr + 1) c4, .slice a3.H nh a3.ch, .int .i64 h.size, .slice a3.A1 m1 a3.c1, .int .i64 h.taken, .slice a3.A2 m2 a3.c2, .int .i64 h.num, .int .i64 h.size, .string h.root, .int .i64 h.taken, .string h.troot]) := hx4
     have hxq := HXq.out.2.1
     have hfq := HXq.out.2.2
     have hkq := HXq.out.1
     clear hx4
     have hbk := brk_rows (lo := w.heap.size) HPO.out HNE.out (by rw [List.length_append, HNR.out] <;> rfl) HNH.out HOE5.out (by rw [rcps_app]; exact HOR5.out) HOH5.out (by rw [HQ3.out]; exact (HOA5.out.rd (by omega)).mono (by omega) (by omega) (Nat.le_refl _)) (by rw [HQ4.out]; exact (HOB5.out.rd (by omega)).mono (by omega) (by omega) (Nat.le_refl _)) (HOA5.out.own (by omega)).2.1 (HOB5.out.own (by omega)).2.1 (by omega) (by omega) (by omega)
     have HBK := Lib.hid hbk
     clear hbk
     go_wp2
     refine bodyPost_ret (v := .tuple #[.agg #[.int .i64 width, .slice a3.E ne a3.ce, .slice (some ⟨g4, 0, none⟩) (nr + 1) c4, .slice a3.H nh a3.ch, .int .i64 h.size, .slice a3.A1 m1 a3.c1, .int .i64 h.taken, .slice a3.A2 m2 a3.c2, .int .i64 h.num, .int .i64 h.size, .string h.root, .int .i64 h.taken, .string h.troot], .slice (some ⟨kw, 0, none⟩) 1 1, .int .i64 0]) (by simp [results, Try.results78, go_sem, hxq]) rfl ?_
     exact ⟨⟨a3.E, some ⟨g4, 0, none⟩, a3.H, a3.A1, a3.A2, a3.ce, c4, a3.ch, a3.c1, a3.c2⟩, ⟨width, es, rs ++ [r], hs⟩, some ⟨kw, 0, none⟩, 1, 1, 0, by dsimp only; rw [List.length_append, HNE.out, HNR.out, HNH.out, HM1.out, HM2.out, HHH.out] <;> rfl, fun _ => ⟨HBK.out, rfl, Nat.le_succ _⟩, HB.out⟩
   ·have hrp : 0 ≤ rp := of_decide_eq_true hd
    go_wp2
    refine bodyPost_named (fun w7 hw => ?_)
    have hz7 : w6.heap.size + 0 ≤ w7.heap.size := by rw [hw]; first | omega | (simp [World.setCell]; done) | (simp [World.setCell]; omega)
    have hzz7 : w.heap.size ≤ w7.heap.size := by omega
    replace HB : Hid (Below w.heap.size w w7) := by rw [Hid, hw]; exact (by ((repeat (first | ((with_reducible refine Below.alloc ?_ ?_ _); rotate_left 1; (focus (first | omega | (simp; done) | (simp; omega)))) | (with_reducible refine Below.drew ?_) | ((with_reducible refine Below.setCell ?_ ?_ _); rotate_left 1; (focus (first | omega | (simp; done) | (simp; omega)))))); exact HB.out))
    replace HOB : Hid (BrkK w7 (0) (w.heap.size) (⟨E, R, H, A1, A2, ce, cr, ch, c1, c2⟩) (⟨width, es, rs, hs⟩)) := by rw [Hid, hw]; (repeat (first | (with_reducible refine BrkK.alloc ?_ _) | (with_reducible refine BrkK.drew ?_) | ((with_reducible refine BrkK.setCell ?_ ?_ _); rotate_left 1; (focus (first | omega | (simp; done) | (simp; omega)))))); exact HOB.out
    replace HXb : Hid (NewBox w7 (w.heap.size) [.int .i64 width, .slice E ne ce, .slice R nr cr, .slice H nh ch, .int .i64 h.size, .slice A1 m1 c1, .int .i64 h.taken, .slice A2 m2 c2, .int .i64 h.num, .int .i64 h.size, .string h.root, .int .i64 h.taken, .string h.troot]) := by rw [Hid, hw]; (repeat (first | (with_reducible refine NewBox.alloc ?_ _) | (with_reducible refine NewBox.drew ?_) | ((with_reducible refine NewBox.setCell ?_ ?_ _); rotate_left 1; (focus (first | omega | (simp; done) | (simp; omega)))))); exact HXb.out
    clear hxb hfb hkb
    have hxb := HXb.out.2.1
    have hfb := HXb.out.2.2
    have hkb := HXb.out.1
    replace HXr : Hid (NewBox w7 (w.heap.size + 1) [.string r.reader, .string r.topic, .int .i64 r.index]) := by rw [Hid, hw]; (repeat (first | (with_reducible refine NewBox.alloc ?_ _) | (with_reducible refine NewBox.drew ?_) | ((with_reducible refine NewBox.setCell ?_ ?_ _); rotate_left 1; (focus (first | omega | (simp; done) | (simp; omega)))))); exact HXr.out
    clear hxr hfr hkr
    have hxr := HXr.out.2.1
    have hfr := HXr.out.2.2
    have hkr := HXr.out.1
    replace HXq : Hid (NewBox w7 (w.heap.size + 2) [.int .i64 0, .slice none 0 0, .slice none 0 0, .slice none 0 0, .int .i64 0, .slice none 0 0, .int .i64 0, .slice none 0 0, .int .i64 0, .int .i64 0, .string ⟨#[]⟩, .int .i64 0, .string ⟨#[]⟩]) := by rw [Hid, hw]; apply NewBox.cast; (focus ((repeat (first | (with_reducible apply NewBox.alloc) | (with_reducible apply NewBox.drew) | (with_reducible apply NewBox.set1) | ((with_reducible apply NewBox.far); (focus (first | omega | (simp; done) | (simp; omega)))))); exact HXq.out)); rfl
    clear hxq hfq hkq
    have hxq := HXq.out.2.1
    have hfq := HXq.out.2.2
    have hkq := HXq.out.1
    clear hw
    refine bodyPost_ret (v := .tuple #[.agg #[.int .i64 0, .slice none 0 0, .slice none 0 0, .slice none 0 0, .int .i64 0, .slice none 0 0, .int .i64 0, .slice none 0 0, .int .i64 0, .int .i64 0, .string ⟨#[]⟩, .int .i64 0, .string ⟨#[]⟩], .slice (some ⟨w6.heap.size, 0, none⟩) 0 0, .int .i64 4]) (by simp [results, Try.results78, go_sem, hxq]) rfl ?_
    exact ⟨zeroBk, zeroBm, _, 0, 0, 4, rfl, NextOk.no (by decide) HB.out⟩
  ·skip
   go_wp2_with fail
   refine wp_named (fun w3 hw => ?_)
   have hz3 : w2.heap.size + 0 ≤ w3.heap.size := by rw [hw]; first | omega | (simp [World.setCell]; done) | (simp [World.setCell]; omega)
   have hzz3 : w.heap.size ≤ w3.heap.size := by omega
   have hbn : Below w2.heap.size w2 w3 := by rw [hw]; exact (by ((repeat (first | ((with_reducible refine Below.alloc ?_ ?_ _); rotate_left 1; (focus (first | omega | (simp; done) | (simp; omega)))) | (with_reducible refine Below.drew ?_) | ((with_reducible refine Below.setCell ?_ ?_ _); rotate_left 1; (focus (first | omega | (simp; done) | (simp; omega)))))); exact Below.refl _ _))
   replace HB := Lib.hid (below_then HB.out hbn HB.out.size)
   replace HOB := Lib.hid (HOB.out.below hbn)
   replace HXb := Lib.hid (HXb.out.below hbn)
   clear hxb hfb hkb
   have hxb := HXb.out.2.1
   have hfb := HXb.out.2.2
   have hkb := HXb.out.1
   replace HXr := Lib.hid (HXr.out.below hbn)
   clear hxr hfr hkr
   have hxr := HXr.out.2.1
   have hfr := HXr.out.2.2
   have hkr := HXr.out.1
   replace HXq := Lib.hid (HXq.out.below hbn)
   clear hxq hfq hkq
   have hxq := HXq.out.2.1
   have hfq := HXq.out.2.2
   have hkq := HXq.out.1
   clear hbn
   clear hw
   obtain ⟨F, HF⟩ : ∃ F : Facts, Hid (F = fun iq xq tqs dsq uq => match iq with
    | 0 => xq.v = .pointer (some ⟨(w.heap.size), 1, none⟩)
    | 1 => xq.v = .pointer (some ⟨(w.heap.size), 1, none⟩)
    | 2 => xq.v = .slice E ne ce
    | 3 => xq.v = .agg #[.int .i64 width, .slice E ne ce, .slice R nr cr, .slice H nh ch, .int .i64 h.size, .slice A1 m1 c1, .int .i64 h.taken, .slice A2 m2 c2, .int .i64 h.num, .int .i64 h.size, .string h.root, .int .i64 h.taken, .string h.troot]
    | 4 => xq.v = .agg #[.int .i64 h.num, .int .i64 h.size, .string h.root, .int .i64 h.taken, .string h.troot]
    | 5 => xq.v = .int .i64 h.size
    | 6 => xq.v = .slice E sz ce
    | 7 => xq.v = .pointer (some ⟨(w.heap.size + 1), 1, none⟩)
    | 8 => xq.v = .string r.topic
    | 9 => xq.v = .pointer (some ⟨(w.heap.size + 1), 2, none⟩)
    | 10 => xq.v = .int .i64 r.index
    | 11 => xq.v = .int .i64 lf
    | 12 => xq.v = .bool true
    | _ => False) := ⟨_, rfl⟩
   refine wp_region_facts [[], [], [], [], [], [], [], [], [], [], [], [], []] [[], [], [], [], [], [], [], [], [], [], [], [], []] [some 14, some 15, some 16, some 17, some 18, some 19, some 20, some 21, some 22, some 23, some 24, some 25, some 26] none 0 0 (.inl rfl) F (by kernel_rfl) (by kernel_rfl) (by kernel_rfl) ?_ ⟨?_, ?_, ?_, ?_, ?_, ?_, ?_, ?_, ?_, ?_, ?_, ?_, ?_, trivial⟩ ?_
   ·rw [HF.out]; intro iq xq tqs dsq uq u' hi hf hs hW hx hbk
    have kx : ∀ b, xq.s ≤ b → b < xq.e → u'.heap[b]? = uq.heap[b]? := fun b h1 h2 => hbk b (.inr (.inl ⟨h1, h2⟩))
    have kt : ∀ t ∈ tqs, ∀ b, t.s ≤ b → b < t.e → u'.heap[b]? = uq.heap[b]? := fun t ht b h1 h2 => hbk b (.inr (.inr ⟨t, ht, h1, h2⟩))
    match iq with
    | 0 => exact hf
    | 1 => exact hf
    | 2 => exact hf
    | 3 => exact hf
    | 4 => exact hf
    | 5 => exact hf
    | 6 => exact hf
    | 7 => exact hf
    | 8 => exact hf
    | 9 => exact hf
    | 10 => exact hf
    | 11 => exact hf
    | 12 => exact hf
   ·intro gh ρ u hc hf1 hg1 hd h0 hb he ha hF
    have r2 : ρ (.tmp 2) = .pointer (some ⟨w.heap.size, 0, none⟩) := (h0 2 (by decide +kernel)).trans rfl
    clear  hd h0 he ha hF
    go_simp
    rw [HF.out]
    exact ⟨OnlyL.refl _ _, rfl⟩
   ·intro gh ρ u hc hf1 hg1 hd h0 hb he ha hF
    have r14 : ρ (.tmp 14) = .pointer (some ⟨(w.heap.size), 1, none⟩) := by have h := hF 0 (by decide +kernel) (by decide +kernel); rw [HF.out] at h; exact (hd 0 (by decide +kernel) 14 (by kernel_rfl)).trans h
    clear  hd h0 he ha hF
    go_simp
    rw [HF.out]
    exact ⟨OnlyL.refl _ _, rfl⟩
   ·intro gh ρ u hc hf1 hg1 hd h0 hb he ha hF
    replace hb : Below w3.heap.size w3 u := hb.drew.below (by decide +kernel)
    have hbz : w3.heap.size ≤ u.heap.size := hb.size
    have r15 : ρ (.tmp 15) = .pointer (some ⟨(w.heap.size), 1, none⟩) := by have h := hF 1 (by decide +kernel) (by decide +kernel); rw [HF.out] at h; exact (hd 1 (by decide +kernel) 15 (by kernel_rfl)).trans h
    have q_b := (HXb.out.below hb).2.1
    have k_b : w.heap.size < u.heap.size := by have := HXb.out.1; omega
    have q_r := (HXr.out.below hb).2.1
    have k_r : w.heap.size + 1 < u.heap.size := by have := HXr.out.1; omega
    clear  hd h0 he ha hF
    go_simp
    rw [HF.out]
    exact ⟨OnlyL.refl _ _, rfl⟩
   ·intro gh ρ u hc hf1 hg1 hd h0 hb he ha hF
    replace hb : Below w3.heap.size w3 u := hb.drew.below (by decide +kernel)
    have hbz : w3.heap.size ≤ u.heap.size := hb.size
    have r2 : ρ (.tmp 2) = .pointer (some ⟨w.heap.size, 0, none⟩) := (h0 2 (by decide +kernel)).trans rfl
    have q_b := (HXb.out.below hb).2.1
    have k_b : w.heap.size < u.heap.size := by have := HXb.out.1; omega
    have q_r := (HXr.out.below hb).2.1
    have k_r : w.heap.size + 1 < u.heap.size := by have := HXr.out.1; omega
    clear  hd h0 he ha hF
    go_simp
    rw [HF.out]
    exact ⟨OnlyL.refl _ _, rfl⟩
   ·intro gh ρ u hc hf1 hg1 hd h0 hb he ha hF
    replace hb : Below w3.heap.size w3 u := hb.drew.below (by decide +kernel)
    have hbz : w3.heap.size ≤ u.heap.size := hb.size
    have r17 : ρ (.tmp 17) = .agg #[.int .i64 width, .slice E ne ce, .slice R nr cr, .slice H nh ch, .int .i64 h.size, .slice A1 m1 c1, .int .i64 h.taken, .slice A2 m2 c2, .int .i64 h.num, .int .i64 h.size, .string h.root, .int .i64 h.taken, .string h.troot] := by have h := hF 3 (by decide +kernel) (by decide +kernel); rw [HF.out] at h; exact (hd 3 (by decide +kernel) 17 (by kernel_rfl)).trans h
    clear  hd h0 he ha hF
    go_simp
    have q_b := (HXb.out.below hb)
    have q_r := (HXr.out.below hb)
    refine (HLA.out _ (HOB.out.below hb).base).mono ?_
    rintro e u1 ⟨rfl, hb1⟩
    rw [HF.out]
    exact ⟨_, rfl, OnlyL.of_below hb1, rfl⟩
   ·intro gh ρ u hc hf1 hg1 hd h0 hb he ha hF
    have r18 : ρ (.tmp 18) = .agg #[.int .i64 h.num, .int .i64 h.size, .string h.root, .int .i64 h.taken, .string h.troot] := by have h := hF 4 (by decide +kernel) (by decide +kernel); rw [HF.out] at h; exact (hd 4 (by decide +kernel) 18 (by kernel_rfl)).trans h
    clear  hd h0 he ha hF
    go_simp
    rw [HF.out]
    exact ⟨OnlyL.refl _ _, rfl⟩
   ·intro gh ρ u hc hf1 hg1 hd h0 hb he ha hF
    have r16 : ρ (.tmp 16) = .slice E ne ce := by have h := hF 2 (by decide +kernel) (by decide +kernel); rw [HF.out] at h; exact (hd 2 (by decide +kernel) 16 (by kernel_rfl)).trans h
    have r19 : ρ (.tmp 19) = .int .i64 h.size := by have h := hF 5 (by decide +kernel) (by decide +kernel); rw [HF.out] at h; exact (hd 5 (by decide +kernel) 19 (by kernel_rfl)).trans h
    clear  hd h0 he ha hF
    go_simp
    rw [HF.out]
    exact ⟨OnlyL.refl _ _, rfl⟩
   ·intro gh ρ u hc hf1 hg1 hd h0 hb he ha hF
    have r3 : ρ (.tmp 3) = .pointer (some ⟨w.heap.size + 1, 0, none⟩) := (h0 3 (by decide +kernel)).trans rfl
    clear  hd h0 he ha hF
    go_simp
    rw [HF.out]
    exact ⟨OnlyL.refl _ _, rfl⟩
   ·intro gh ρ u hc hf1 hg1 hd h0 hb he ha hF
    replace hb : Below w3.heap.size w3 u := hb.drew.below (by decide +kernel)
    have hbz : w3.heap.size ≤ u.heap.size := hb.size
    have r21 : ρ (.tmp 21) = .pointer (some ⟨(w.heap.size + 1), 1, none⟩) := by have h := hF 7 (by decide +kernel) (by decide +kernel); rw [HF.out] at h; exact (hd 7 (by decide +kernel) 21 (by kernel_rfl)).trans h
    have q_b := (HXb.out.below hb).2.1
    have k_b : w.heap.size < u.heap.size := by have := HXb.out.1; omega
    have q_r := (HXr.out.below hb).2.1
    have k_r : w.heap.size + 1 < u.heap.size := by have := HXr.out.1; omega
    clear  hd h0 he ha hF
    go_simp
    rw [HF.out]
    exact ⟨OnlyL.refl _ _, rfl⟩
   ·intro gh ρ u hc hf1 hg1 hd h0 hb he ha hF
    have r3 : ρ (.tmp 3) = .pointer (some ⟨w.heap.size + 1, 0, none⟩) := (h0 3 (by decide +kernel)).trans rfl
    clear  hd h0 he ha hF
    go_simp
    rw [HF.out]
    exact ⟨OnlyL.refl _ _, rfl⟩
   ·intro gh ρ u hc hf1 hg1 hd h0 hb he ha hF
    replace hb : Below w3.heap.size w3 u := hb.drew.below (by decide +kernel)
    have hbz : w3.heap.size ≤ u.heap.size := hb.size
    have r23 : ρ (.tmp 23) = .pointer (some ⟨(w.heap.size + 1), 2, none⟩) := by have h := hF 9 (by decide +kernel) (by decide +kernel); rw [HF.out] at h; exact (hd 9 (by decide +kernel) 23 (by kernel_rfl)).trans h
    have q_b := (HXb.out.below hb).2.1
    have k_b : w.heap.size < u.heap.size := by have := HXb.out.1; omega
    have q_r := (HXr.out.below hb).2.1
    have k_r : w.heap.size + 1 < u.heap.size := by have := HXr.out.1; omega
    clear  hd h0 he ha hF
    go_simp
    rw [HF.out]
    exact ⟨OnlyL.refl _ _, rfl⟩
   ·intro gh ρ u hc hf1 hg1 hd h0 hb he ha hF
    replace hb : Below w3.heap.size w3 u := hb.drew.below (by decide +kernel)
    have hbz : w3.heap.size ≤ u.heap.size := hb.size
    have r20 : ρ (.tmp 20) = .slice E sz ce := by have h := hF 6 (by decide +kernel) (by decide +kernel); rw [HF.out] at h; exact (hd 6 (by decide +kernel) 20 (by kernel_rfl)).trans h
    have r22 : ρ (.tmp 22) = .string r.topic := by have h := hF 8 (by decide +kernel) (by decide +kernel); rw [HF.out] at h; exact (hd 8 (by decide +kernel) 22 (by kernel_rfl)).trans h
    have r24 : ρ (.tmp 24) = .int .i64 r.index := by have h := hF 10 (by decide +kernel) (by decide +kernel); rw [HF.out] at h; exact (hd 10 (by decide +kernel) 24 (by kernel_rfl)).trans h
    clear  hd h0 he ha hF
    go_simp
    have q_b := (HXb.out.below hb)
    have q_r := (HXr.out.below hb)
    refine (HLF.out _ (HOB.out.below hb).base).mono ?_
    rintro e u1 ⟨rfl, hb1⟩
    rw [HF.out]
    exact ⟨_, rfl, OnlyL.of_below hb1, rfl⟩
   ·intro gh ρ u hc hf1 hg1 hd h0 hb he ha hF
    have r25 : ρ (.tmp 25) = .int .i64 lf := by have h := hF 11 (by decide +kernel) (by decide +kernel); rw [HF.out] at h; exact (hd 11 (by decide +kernel) 25 (by kernel_rfl)).trans h
    clear  hd h0 he ha hF
    go_simp
    rw [HF.out]
    exact ⟨OnlyL.refl _ _, rfl⟩
   intro gh w4 hB hE hA hF
   replace hB : Below w3.heap.size w3 w4 := hB.below rfl
   have f0 : (gh 0).v = .pointer (some ⟨(w.heap.size), 1, none⟩) := by have h := hF 0 (by decide +kernel) (by decide +kernel); rw [HF.out] at h; exact h
   have f1 : (gh 1).v = .pointer (some ⟨(w.heap.size), 1, none⟩) := by have h := hF 1 (by decide +kernel) (by decide +kernel); rw [HF.out] at h; exact h
   have f2 : (gh 2).v = .slice E ne ce := by have h := hF 2 (by decide +kernel) (by decide +kernel); rw [HF.out] at h; exact h
   have f3 : (gh 3).v = .agg #[.int .i64 width, .slice E ne ce, .slice R nr cr, .slice H nh ch, .int .i64 h.size, .slice A1 m1 c1, .int .i64 h.taken, .slice A2 m2 c2, .int .i64 h.num, .int .i64 h.size, .string h.root, .int .i64 h.taken, .string h.troot] := by have h := hF 3 (by decide +kernel) (by decide +kernel); rw [HF.out] at h; exact h
   have f4 : (gh 4).v = .agg #[.int .i64 h.num, .int .i64 h.size, .string h.root, .int .i64 h.taken, .string h.troot] := by have h := hF 4 (by decide +kernel) (by decide +kernel); rw [HF.out] at h; exact h
   have f5 : (gh 5).v = .int .i64 h.size := by have h := hF 5 (by decide +kernel) (by decide +kernel); rw [HF.out] at h; exact h
   have f6 : (gh 6).v = .slice E sz ce := by have h := hF 6 (by decide +kernel) (by decide +kernel); rw [HF.out] at h; exact h
   have f7 : (gh 7).v = .pointer (some ⟨(w.heap.size + 1), 1, none⟩) := by have h := hF 7 (by decide +kernel) (by decide +kernel); rw [HF.out] at h; exact h
   have f8 : (gh 8).v = .string r.topic := by have h := hF 8 (by decide +kernel) (by decide +kernel); rw [HF.out] at h; exact h
   have f9 : (gh 9).v = .pointer (some ⟨(w.heap.size + 1), 2, none⟩) := by have h := hF 9 (by decide +kernel) (by decide +kernel); rw [HF.out] at h; exact h
   have f10 : (gh 10).v = .int .i64 r.index := by have h := hF 10 (by decide +kernel) (by decide +kernel); rw [HF.out] at h; exact h
   have f11 : (gh 11).v = .int .i64 lf := by have h := hF 11 (by decide +kernel) (by decide +kernel); rw [HF.out] at h; exact h
   have f12 : (gh 12).v = .bool true := by have h := hF 12 (by decide +kernel) (by decide +kernel); rw [HF.out] at h; exact h
   have hv4 := f4
   have hv11 := f11
   have hv0 := f0
   have hv1 := f1
   have hv2 := f2
   have hv3 := f3
   have hv5 := f5
   have hv6 := f6
   have hv7 := f7
   have hv8 := f8
   have hv9 := f9
   have hv10 := f10
   have hv12 := f12
   clear hE hA hF
   simp only [putDs, Nat.reduceAdd, hv0, hv1, hv2, hv3, hv4, hv5, hv6, hv7, hv8, hv9, hv10, hv11, hv12]
   clear hv0 hv1 hv2 hv3 hv4 hv5 hv6 hv7 hv8 hv9 hv10 hv11 hv12
   clear HF
   have hb := hB
   clear hB
   have hzw4 : w3.heap.size ≤ w4.heap.size := hb.size
   have hzzw4 : w.heap.size ≤ w4.heap.size := by omega
   replace HB := Lib.hid (below_then HB.out hb HB.out.size)
   replace HOB := Lib.hid (HOB.out.below hb)
   replace HXb := Lib.hid (HXb.out.below hb)
   clear hxb hfb hkb
   have hxb := HXb.out.2.1
   have hfb := HXb.out.2.2
   have hkb := HXb.out.1
   replace HXr := Lib.hid (HXr.out.below hb)
   clear hxr hfr hkr
   have hxr := HXr.out.2.1
   have hfr := HXr.out.2.2
   have hkr := HXr.out.1
   replace HXq := Lib.hid (HXq.out.below hb)
   clear hxq hfq hkq
   have hxq := HXq.out.2.1
   have hfq := HXq.out.2.2
   have hkq := HXq.out.1
   clear hb
   clear hd hsl hfld
   simp only [Act.put, List.setIfInBounds_toArray, List.set_cons_zero, List.set_cons_succ]
   go_wp2
   refine bodyPost_named (fun w5 hw => ?_)
   have hz5 : w4.heap.size + 0 ≤ w5.heap.size := by rw [hw]; first | omega | (simp [World.setCell]; done) | (simp [World.setCell]; omega)
   have hzz5 : w.heap.size ≤ w5.heap.size := by omega
   replace HB : Hid (Below w.heap.size w w5) := by rw [Hid, hw]; exact (by ((repeat (first | ((with_reducible refine Below.alloc ?_ ?_ _); rotate_left 1; (focus (first | omega | (simp; done) | (simp; omega)))) | (with_reducible refine Below.drew ?_) | ((with_reducible refine Below.setCell ?_ ?_ _); rotate_left 1; (focus (first | omega | (simp; done) | (simp; omega)))))); exact HB.out))
   replace HOB : Hid (BrkK w5 (0) (w.heap.size) (⟨E, R, H, A1, A2, ce, cr, ch, c1, c2⟩) (⟨width, es, rs, hs⟩)) := by rw [Hid, hw]; (repeat (first | (with_reducible refine BrkK.alloc ?_ _) | (with_reducible refine BrkK.drew ?_) | ((with_reducible refine BrkK.setCell ?_ ?_ _); rotate_left 1; (focus (first | omega | (simp; done) | (simp; omega)))))); exact HOB.out
   replace HXb : Hid (NewBox w5 (w.heap.size) [.int .i64 width, .slice E ne ce, .slice R nr cr, .slice H nh ch, .int .i64 h.size, .slice A1 m1 c1, .int .i64 h.taken, .slice A2 m2 c2, .int .i64 h.num, .int .i64 h.size, .string h.root, .int .i64 h.taken, .string h.troot]) := by rw [Hid, hw]; (repeat (first | (with_reducible refine NewBox.alloc ?_ _) | (with_reducible refine NewBox.drew ?_) | ((with_reducible refine NewBox.setCell ?_ ?_ _); rotate_left 1; (focus (first | omega | (simp; done) | (simp; omega)))))); exact HXb.out
   clear hxb hfb hkb
   have hxb := HXb.out.2.1
   have hfb := HXb.out.2.2
   have hkb := HXb.out.1
   replace HXr : Hid (NewBox w5 (w.heap.size + 1) [.string r.reader, .string r.topic, .int .i64 r.index]) := by rw [Hid, hw]; (repeat (first | (with_reducible refine NewBox.alloc ?_ _) | (with_reducible refine NewBox.drew ?_) | ((with_reducible refine NewBox.setCell ?_ ?_ _); rotate_left 1; (focus (first | omega | (simp; done) | (simp; omega)))))); exact HXr.out
   clear hxr hfr hkr
   have hxr := HXr.out.2.1
   have hfr := HXr.out.2.2
   have hkr := HXr.out.1
   replace HXq : Hid (NewBox w5 (w.heap.size + 2) [.int .i64 0, .slice none 0 0, .slice none 0 0, .slice none 0 0, .int .i64 0, .slice none 0 0, .int .i64 0, .slice none 0 0, .int .i64 0, .int .i64 0, .string ⟨#[]⟩, .int .i64 0, .string ⟨#[]⟩]) := by rw [Hid, hw]; apply NewBox.cast; (focus ((repeat (first | (with_reducible apply NewBox.alloc) | (with_reducible apply NewBox.drew) | (with_reducible apply NewBox.set1) | ((with_reducible apply NewBox.far); (focus (first | omega | (simp; done) | (simp; omega)))))); exact HXq.out)); rfl
   clear hxq hfq hkq
   have hxq := HXq.out.2.1
   have hfq := HXq.out.2.2
   have hkq := HXq.out.1
   clear hw
   refine bodyPost_ret (v := .tuple #[.agg #[.int .i64 0, .slice none 0 0, .slice none 0 0, .slice none 0 0, .int .i64 0, .slice none 0 0, .int .i64 0, .slice none 0 0, .int .i64 0, .int .i64 0, .string ⟨#[]⟩, .int .i64 0, .string ⟨#[]⟩], .slice (some ⟨w4.heap.size, 0, none⟩) 0 0, .int .i64 3]) (by simp [results, Try.results78, go_sem, hxq]) rfl ?_
   exact ⟨zeroBk, zeroBm, _, 0, 0, 3, rfl, NextOk.no (by decide) HB.out⟩
end Go.Proofs.Ytoccjgcokffkbaa
namespace Go.Proofs.Ytoccjgcokffkbaa
set_option linter.unusedVariables false
set_option linter.unusedSimpArgs false
open Go.RowKit
/-- what SealMore hands back, where it is right -/
structure SmIs (width z1 : Int) (l1 : List ByteArray) (z2 : Int) (l2 : List ByteArray) (h : Hd) (L T : List ByteArray) (y1 : Int) (p1 : List ByteArray) (y2 : Int) (p2 : List ByteArray) (g : Hd) (most : Int) : Prop where
 a1 : smZ1 width z1 l1 z2 l2 h L T = y1
 a2 : smL1 width z1 l1 z2 l2 h L T = p1
 a3 : smZ2 width z1 l1 z2 l2 h L T = y2
 a4 : smL2 width z1 l1 z2 l2 h L T = p2
 a5 : smH width z1 l1 z2 l2 h L T = g
 a6 : smCode width z1 l1 z2 l2 h L T = 0
 a7 : 0 ≤ smN width z1 l1 z2 l2 h L T ∧ smN width z1 l1 z2 l2 h L T ≤ most
 a8 : sealOk width y1 p1 y2 p2 g = true
 a9 : p1.length ≤ 30 ∧ p2.length ≤ 30 ∧ I64 y1 ∧ I64 y2 ∧ g.bulk ≤ 100
theorem smIs {width z1 z2 : Int} {l1 l2 L T : List ByteArray} {h : Hd} (hq : smOk width z1 l1 z2 l2 h L T = true) :
  SmIs width z1 l1 z2 l2 h L T (z1 + L.length) (smP width z1 l1 L) (z2 + T.length) (smP width z2 l2 T) (nextHd width z1 l1 z2 l2 h L T) ((L.length : Int) + T.length + 36) := by
 obtain ⟨e1, e2, e3, e4, e5, e6⟩ := sm_good hq
 obtain ⟨h1, h2, h3, h4, h5, h6⟩ := smOk_all hq
 obtain ⟨r1, r2, n0, n1⟩ := sealOk_all h1
 obtain ⟨g1, k1, _⟩ := rng_grow r1 h2 h4
 obtain ⟨g2, k2, _⟩ := rng_grow r2 h3 h5
 have hm := made_le hq
 have a1 := rngOk_all r1
 have a2 := rngOk_all r2
 have b1 := rngRoot_size (rngOk_all g1).2.2.2.2 (rngOk_all g1).2.2.2.1
 have b2 := rngRoot_size (rngOk_all g2).2.2.2.2 (rngOk_all g2).2.2.2.1
 have hw := inR_true.1 a1.2.2.2.2
 refine ⟨e1, e2, e3, e4, e5, ?_, ⟨by rw [e6]; exact Int.natCast_nonneg _, by rw [e6]; omega⟩, seal_next hq, by omega, by omega, ⟨by omega, by omega⟩, ⟨by omega, by omega⟩, ?_⟩
 ·have hf : smFit z1 z2 h L.length T.length = true := by rw [smOk, Bool.and_eq_true] at hq; exact hq.2
  rw [smCode, h1, h2, h3, hf, if_neg (by decide), if_neg (by decide), if_neg (by decide), if_neg (by decide)]
 ·show (rngRoot _ _).size + (rngRoot _ _).size ≤ 100
  omega
end Go.Proofs.Ytoccjgcokffkbaa
