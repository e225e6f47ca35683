/- DiskOf: the files of a broker; texts, disk. -/
import Derived.Test.YtmmepogjocfefaaGreatLvs
import Derived.Test.YtmmepogjocfefaaGreatFrm
import Derived.Test.YtmmepogjocfefaaGreatSHead
namespace Go.Proofs.YtmmepogjocfefaaGreat
set_option linter.unusedVariables false
set_option linter.unusedSimpArgs false
open Go.RowKit

def fileL (width : Int) (es : List Ent) (rs : List Rcp) (hs : List Hd) (f : Nat) : List ByteArray := if f = 0 then es.map leafTextM else if f = 1 then (hs.drop 1).map (headTextM width) else rs.map rcpTextM
def diskL (width : Int) (es : List Ent) (rs : List Rcp) (hs : List Hd) : List ByteArray := [framesM (fileL width es rs hs 0), framesM (fileL width es rs hs 1), framesM (fileL width es rs hs 2)]
theorem bulkS_le {m : Nat} : ∀ {l : List ByteArray}, (∀ s ∈ l, s.size ≤ m) → bulkS l ≤ l.length * m
 | [], _ => Nat.zero_le _
 | s :: l, h => by
   have h1 := h s List.mem_cons_self
   have h2 := bulkS_le (l := l) (fun t ht => h t (List.mem_cons_of_mem _ ht))
   rw [bulkS, List.length_cons, Nat.add_mul]
   omega
theorem fileL_le {width : Int} {es : List Ent} {rs : List Rcp} {hs : List Hd} (b1 : es.length ≤ 1000) (b2 : rs.length ≤ 1000) (b3 : hs.length ≤ 1000) (f : Nat) : (fileL width es rs hs f).length + bulkS (fileL width es rs hs f) ≤ 1048576 := by
 have hall : (fileL width es rs hs f).length ≤ 1000 ∧ ∀ s ∈ fileL width es rs hs f, s.size ≤ 480 := by
  unfold fileL
  split
  ·exact ⟨by rw [List.length_map]; exact b1, fun s hs => by obtain ⟨x, _, rfl⟩ := List.mem_map.1 hs; exact leafTextM_size x⟩
  ·split
   ·exact ⟨by rw [List.length_map, List.length_drop]; omega, fun s hs => by obtain ⟨x, _, rfl⟩ := List.mem_map.1 hs; exact Nat.le_trans (headTextM_size width x) (by omega)⟩
   ·exact ⟨by rw [List.length_map]; exact b2, fun s hs => by obtain ⟨x, _, rfl⟩ := List.mem_map.1 hs; exact Nat.le_trans (rcpTextM_size x) (by omega)⟩
 have h2 := bulkS_le hall.2
 have h3 := Nat.mul_le_mul_right 480 hall.1
 omega
def cutH (A : Option Addr) (g : Nat) : Option Addr := if g = 1 then A else A.map (fun a => a.add 5)
theorem slice_hd1 (A : Option Addr) (k g : Nat) (h1 : 1 ≤ k) (h2 : k ≤ g) (W : World) : (Instr.slice 46 (.slice A k g) (some (.int .i64 1)) none none).run Tryz.prog W = .ok (.slice (cutH A g) (k - 1) (g - 1)) W := by
 have hu := Tryz.underlying46
 obtain ⟨i0, hi0, hz0, hz1, hz2⟩ := info_parts info_Head
 simp only [cutH]
 have h3 : ¬ ((k : Int) < 1) := by omega
 simp [Instr.slice, run_underlying hu, Instr.sliceBounds, run_sliceBound, h1, h2, h3, go_sem, sizeOf, typeInfo, hi0, hz1]
theorem idxArr (a b c : Value) (W : World) : (Instr.index 143 (.agg #[a, b, c]) (.int .i64 0)).run Tryz.prog W = .ok a W ∧ (Instr.index 143 (.agg #[a, b, c]) (.int .i64 1)).run Tryz.prog W = .ok b W ∧ (Instr.index 143 (.agg #[a, b, c]) (.int .i64 2)).run Tryz.prog W = .ok c W := ⟨by kernel_rfl, by kernel_rfl, by kernel_rfl⟩
theorem cutH_rd {w : World} {lo hi : Nat} {A : Option Addr} {L : List Hd} (h : Rd w lo hi A (hds L)) (g : Nat) (hg : L.length ≤ g) : Rd w lo hi (cutH A g) (hds (L.drop 1)) := by
 rw [cutH]
 split
 ·rename_i e
  rw [List.drop_of_length_le (by omega)]
  exact Rd.nil
 ·rcases L with _ | ⟨x, L⟩
  ·exact Rd.nil
  ·obtain ⟨b, off, e, h1, h2, h3, h4⟩ := h (by simp [hds, Hd.cells])
   cases e
   intro _
   refine ⟨b, off + 5, by rw [Option.map_some, Addr.add_lit], h1, h2, h3, fun j u hj => ?_⟩
   have := h4 (5 + j) u (by
    rw [show hds (x :: L) = x.cells ++ hds L from by simp [hds]]
    rw [List.getElem?_append_right (by simp [Hd.cells])]
    simpa [Hd.cells] using hj)
   rw [← this, Nat.add_assoc]
set_option maxRecDepth 100000 in
set_option maxHeartbeats 4000000 in
theorem texts_c (width z1 z2 : Int) (p : Nat) (E R H A1 A2 : Option Addr) (ne nr nh ce cr ch c1 c2 lo1 hi1 lo2 hi2 lo3 hi3 m1 m2 : Nat) (es : List Ent) (rs : List Rcp) (hs : List Hd) (h : Hd) (w : World) (hbx : NewBox w p [.int .i64 width, .slice E ne ce, .slice R nr cr, .slice H nh ch, .int .i64 z1, .slice A1 m1 c1, .int .i64 z2, .slice A2 m2 c2, .int .i64 h.num, .int .i64 h.size, .string h.root, .int .i64 h.taken, .string h.troot])
  (hE : Rd w lo1 hi1 E (ents es)) (hR : Rd w lo2 hi2 R (rcps rs)) (hH : Rd w lo3 hi3 H (hds hs)) (hne : es.length = ne) (hnr : rs.length = nr) (hnh : hs.length = nh) (b1 : ne ≤ 1000) (b2 : nr ≤ 1000) (b3 : nh ≤ 1000) (hpos : 1 ≤ nh) (hch : nh ≤ ch) (hfe : ∀ x ∈ es, x.fits) (hfr : ∀ x ∈ rs, x.fits) (hfh : ∀ x ∈ hs, x.bulk ≤ 1048576) :
  Calls Tryz.prog 100 #[.pointer (some ⟨p, 0, none⟩)] w fun e w' => ∃ B0 d0 B1 d1 B2 d2, e = .returned (.agg #[.slice B0 ne d0, .slice B1 (nh - 1) d1, .slice B2 nr d2]) ∧ (Own w' w.heap.size w'.heap.size B0 (strs (fileL width es rs hs 0)) ∧ Own w' w.heap.size w'.heap.size B1 (strs (fileL width es rs hs 1)) ∧ Own w' w.heap.size w'.heap.size B2 (strs (fileL width es rs hs 2))) ∧ Below w.heap.size w w' := by
 have hsl := slice_hd1 H nh ch hpos hch
 have hT := cutH_rd hH ch (by omega)
 have HF0 := Lib.hid hfe
 have HF2 := Lib.hid hfr
 have HF1 : Hid (∀ x ∈ hs.drop 1, x.bulk ≤ 1048576) := Lib.hid (fun x hx => hfh x (List.mem_of_mem_drop hx))
 obtain ⟨L0, hL0⟩ : ∃ L, L = es.map leafTextM := ⟨_, rfl⟩
 obtain ⟨L1, hL1⟩ : ∃ L, L = (hs.drop 1).map (headTextM width) := ⟨_, rfl⟩
 obtain ⟨L2, hL2⟩ : ∃ L, L = rs.map rcpTextM := ⟨_, rfl⟩
 rw [show fileL width es rs hs 0 = L0 from hL0.symm, show fileL width es rs hs 1 = L1 from hL1.symm, show fileL width es rs hs 2 = L2 from hL2.symm]
 have HL0 := Lib.hid hL0
 have HL1 := Lib.hid hL1
 have HL2 := Lib.hid hL2
 have HN0 := Lib.hid hne
 have HN2 := Lib.hid hnr
 have HN1 : Hid ((hs.drop 1).length = nh - 1) := Lib.hid (by rw [List.length_drop, hnh])
 generalize hs.drop 1 = hs1 at *
 generalize cutH H ch = H1 at *
 obtain ⟨nh1, hnh1⟩ : ∃ n, n = nh - 1 := ⟨_, rfl⟩
 rw [← hnh1] at hsl HN1
 rw [← hnh1]
 have hnl : nh1 ≤ 1000 := by omega
 have HBX := Lib.hid hbx
 have HE0 := Lib.hid hE.base
 have HR0 := Lib.hid hR.base
 have HT0 := Lib.hid hT.base
 have hpw : p < w.heap.size := hbx.1
 have HB : Hid (Below w.heap.size w w) := Below.refl _ _
 replace HB : Hid (Below w.heap.size w w) := (Below.refl _ _)
 have HXb : Hid (NewBox w (p) [.int .i64 width, .slice E ne ce, .slice R nr cr, .slice H nh ch, .int .i64 z1, .slice A1 m1 c1, .int .i64 z2, .slice A2 m2 c2, .int .i64 h.num, .int .i64 h.size, .string h.root, .int .i64 h.taken, .string h.troot]) := HBX.out
 have hxb := HXb.out.2.1
 have hfb := HXb.out.2.2
 have hkb := HXb.out.1
 clear hE hR hH hT hne hnr hnh hpos hch hfe hfr hfh hL0 hL1 hL2 hbx hnh1
 go_enter Tryz.func100, Tryz.ntmps100
 go_wp2
 refine wp_named (fun w1 hw => ?_)
 have hz1 : w.heap.size + 2 ≤ w1.heap.size := by rw [hw]; first | omega | (simp [World.setCell]; done) | (simp [World.setCell]; omega)
 have hzz1 : w.heap.size ≤ w1.heap.size := by omega
 have hbn : Below w.heap.size w w1 := by rw [hw]; exact (by ((repeat (first | ((with_reducible refine Below.alloc ?_ ?_ _); rotate_left 1; (focus (first | omega | (simp; done) | (simp; omega)))) | (with_reducible refine Below.drew ?_) | ((with_reducible refine Below.setCell ?_ ?_ _); rotate_left 1; (focus (first | omega | (simp; done) | (simp; omega)))))); exact Below.refl _ _))
 replace HB := Lib.hid (below_then HB.out hbn HB.out.size)
 replace HXb := Lib.hid (HXb.out.below hbn)
 clear hxb hfb hkb
 have hxb := HXb.out.2.1
 have hfb := HXb.out.2.2
 have hkb := HXb.out.1
 clear hbn
 have HXr : Hid (NewBox w1 (w.heap.size) [.slice none 0 0, .slice none 0 0, .slice none 0 0]) := by rw [Hid, hw]; exact ⟨by first | omega | (simp [World.setCell]; done) | (simp [World.setCell]; omega), fun o => by rcases o with _ | _ | _ | o <;> go_simp, fun o => by go_simp⟩
 have hxr := HXr.out.2.1
 have hfr := HXr.out.2.2
 have hkr := HXr.out.1
 have HXo : Hid (NewBox w1 (w.heap.size + 1) [.slice none 0 0, .slice none 0 0, .slice none 0 0]) := by rw [Hid, hw]; exact ⟨by first | omega | (simp [World.setCell]; done) | (simp [World.setCell]; omega), fun o => by rcases o with _ | _ | _ | o <;> go_simp, fun o => by go_simp⟩
 have hxo := HXo.out.2.1
 have hfo := HXo.out.2.2
 have hko := HXo.out.1
 clear hw
 obtain ⟨lo0, hlo0, hle0⟩ : ∃ n, w.heap.size + 2 ≤ n ∧ n ≤ w.heap.size + 2 := ⟨_, Nat.le_refl _, Nat.le_refl _⟩
 go_loopw [22] (fun i wr => ∃ (k : Nat) (X0 : Option Addr) (g0 : Nat), k ≤ ne ∧ i = .int .i64 k ∧ NewBox wr ((w.heap.size)) [.slice none 0 0, .slice none 0 0, .slice none 0 0] ∧ NewBox wr ((w.heap.size + 1)) [.slice X0 k g0, .slice none 0 0, .slice none 0 0] ∧ RowB wr lo0 wr.heap.size (.slice X0 k g0, k) (strs (L0.take k)) ∧ Below w.heap.size w wr ∧ w1.heap.size ≤ wr.heap.size) (fun i _ => ne - (intOf i).toNat)
 case atStart => exact ⟨0, none, 0, Nat.zero_le _, rfl, HXr.out, HXo.out, (RowB.of (World.ownsRow_nil _ _ _ _)).mono (by omega) (Nat.le_refl _), HB.out, Nat.le_refl _⟩
 case round =>
  obtain ⟨k, X0, g0, hk, rfl, hbr, hbo, hrw, hbl, hzl⟩ := hrel
  have HBL := Lib.hid hbl
  replace HB : Hid (Below w.heap.size w wr) := HBL.out
  replace HXr : Hid (NewBox wr (w.heap.size) [.slice none 0 0, .slice none 0 0, .slice none 0 0]) := hbr
  clear hxr hfr hkr
  have hxr := HXr.out.2.1
  have hfr := HXr.out.2.2
  have hkr := HXr.out.1
  replace HXo : Hid (NewBox wr (w.heap.size + 1) [.slice X0 k g0, .slice none 0 0, .slice none 0 0]) := hbo
  clear hxo hfo hko
  have hxo := HXo.out.2.1
  have hfo := HXo.out.2.2
  have hko := HXo.out.1
  replace HXb := Lib.hid (HBX.out.below HBL.out)
  clear hxb hfb hkb
  have hxb := HXb.out.2.1
  have hfb := HXb.out.2.2
  have hkb := HXb.out.1
  have HOA : Hid (RowB wr (lo0) (wr.heap.size) (.slice X0 k g0, k) (strs (L0.take k))) := Lib.hid hrw
  have HOE := Lib.hid (HE0.out.below HBL.out)
  have hzz_wr : w.heap.size ≤ wr.heap.size := HB.out.size
  clear hbr hbo hrw hbl
  by_cases hlt : k < ne
  ·skip
   obtain ⟨b2, off, x, rfl, hb2, hks, hcs⟩ := ent_cells HOE.out (k := k) (by rw [HN0.out]; exact hlt)
   have c0' := hcs.1
   have c1' := hcs.2.1
   have c2' := hcs.2.2.1
   have c3' := hcs.2.2.2.1
   have c4' := hcs.2.2.2.2
   have HT : Hid (L0.take (k + 1) = L0.take k ++ [leafTextM x]) := Lib.hid (take_succ (by rw [HL0.out, List.getElem?_map, hks]; rfl))
   have HX := Lib.hid (fun W => implLeafText_c x W (HF0.out x (List.mem_of_getElem? hks)))
   have hI : (k : Int) < ne := by omega
   clear hks hcs
   generalize leafTextM x = lt at *
   generalize entryOk x = lk at *
   go_wp2_with fail
   refine calls_named (fun w2 hw => ?_)
   have hz2 : wr.heap.size + 1 ≤ w2.heap.size := by rw [hw]; first | omega | (simp [World.setCell]; done) | (simp [World.setCell]; omega)
   have hzz2 : w.heap.size ≤ w2.heap.size := by omega
   have hbn : Below wr.heap.size wr w2 := by rw [hw]; exact (by ((repeat (first | ((with_reducible refine Below.alloc ?_ ?_ _); rotate_left 1; (focus (first | omega | (simp; done) | (simp; omega)))) | (with_reducible refine Below.drew ?_) | ((with_reducible refine Below.setCell ?_ ?_ _); rotate_left 1; (focus (first | omega | (simp; done) | (simp; omega)))))); exact Below.refl _ _))
   replace HB := Lib.hid (below_then HB.out hbn HB.out.size)
   replace HOA := Lib.hid (HOA.out.below hbn)
   replace HOE := Lib.hid (HOE.out.below hbn)
   replace HXb := Lib.hid (HXb.out.below hbn)
   clear hxb hfb hkb
   have hxb := HXb.out.2.1
   have hfb := HXb.out.2.2
   have hkb := HXb.out.1
   replace HXr := Lib.hid (HXr.out.below hbn)
   clear hxr hfr hkr
   have hxr := HXr.out.2.1
   have hfr := HXr.out.2.2
   have hkr := HXr.out.1
   replace HXo := Lib.hid (HXo.out.below hbn)
   clear hxo hfo hko
   have hxo := HXo.out.2.1
   have hfo := HXo.out.2.2
   have hko := HXo.out.1
   clear hbn
   have HXe : Hid (NewBox w2 (wr.heap.size) [.string x.topic, .int .i64 x.index, .int .i64 x.time, .string x.key, .string x.body]) := by rw [Hid, hw]; exact ⟨by first | omega | (simp [World.setCell]; done) | (simp [World.setCell]; omega), fun o => by rcases o with _ | _ | _ | _ | _ | o <;> go_simp, fun o => by go_simp⟩
   have hxe := HXe.out.2.1
   have hfe := HXe.out.2.2
   have hke := HXe.out.1
   clear hw
   refine (HX.out _).mono ?_
   rintro e w3 ⟨rfl, hb⟩
   have hzw3 : w2.heap.size ≤ w3.heap.size := hb.size
   have hzzw3 : w.heap.size ≤ w3.heap.size := by omega
   replace HB := Lib.hid (below_then HB.out hb HB.out.size)
   replace HOA := Lib.hid (HOA.out.below hb)
   replace HOE := Lib.hid (HOE.out.below hb)
   replace HXb := Lib.hid (HXb.out.below hb)
   clear hxb hfb hkb
   have hxb := HXb.out.2.1
   have hfb := HXb.out.2.2
   have hkb := HXb.out.1
   replace HXr := Lib.hid (HXr.out.below hb)
   clear hxr hfr hkr
   have hxr := HXr.out.2.1
   have hfr := HXr.out.2.2
   have hkr := HXr.out.1
   replace HXo := Lib.hid (HXo.out.below hb)
   clear hxo hfo hko
   have hxo := HXo.out.2.1
   have hfo := HXo.out.2.2
   have hko := HXo.out.1
   replace HXe := Lib.hid (HXe.out.below hb)
   clear hxe hfe hke
   have hxe := HXe.out.2.1
   have hfe := HXe.out.2.2
   have hke := HXe.out.1
   clear hb
   clear c0' c1' c2' c3' c4'
   clear HOE
   clear hxe hfe hke HXe
   go_wp2_with (at_builtin; refine app1Str rfl _ _ rfl lo0 _ _ _ rfl (HOA.out.1.alloc _) w3.heap.size lt rfl (NewBox.new w3 _ _) (by omega) (by first | omega | (simp; done) | (simp; omega)) ?_)
   intro v2 w2_ hown2 hg2
   obtain ⟨hrb, hon⟩ := rowB_app HOA.out.1 _ hown2 hg2
   obtain ⟨A2, g2, rfl, _, _, _⟩ := ownsRow_slice hown2
   rw [← strs_app, ← HT.out] at hrb
   have hzw2_ : w3.heap.size ≤ w2_.heap.size := hon.size
   have hzzw2_ : w.heap.size ≤ w2_.heap.size := by omega
   replace HB := Lib.hid (below_only HB.out hon (by omega) HB.out.size)
   replace HXb := Lib.hid (HXb.out.only hon (by first | omega | (simp; omega)))
   clear hxb hfb hkb
   have hxb := HXb.out.2.1
   have hfb := HXb.out.2.2
   have hkb := HXb.out.1
   replace HXr := Lib.hid (HXr.out.only hon (by first | omega | (simp; omega)))
   clear hxr hfr hkr
   have hxr := HXr.out.2.1
   have hfr := HXr.out.2.2
   have hkr := HXr.out.1
   replace HXo := Lib.hid (HXo.out.only hon (by first | omega | (simp; omega)))
   clear hxo hfo hko
   have hxo := HXo.out.2.1
   have hfo := HXo.out.2.2
   have hko := HXo.out.1
   clear HOA
   have HOA : Hid (RowB w2_ (lo0) (w2_.heap.size) (.slice A2 (k + 1) g2, k + 1) (strs (L0.take (k + 1)))) := Lib.hid hrb
   clear hown2 hg2 hrb hon
   go_wp2
   go_roundw
   case rel => exact ⟨k + 1, A2, g2, by omega, by go_num, (by (repeat (first | (with_reducible refine NewBox.alloc ?_ _) | (with_reducible refine NewBox.drew ?_) | ((with_reducible refine NewBox.setCell ?_ ?_ _); rotate_left 1; (focus (first | omega | (simp; done) | (simp; omega)))))); exact HXr.out), (by exact ⟨by first | omega | (simp [World.setCell]; done) | (simp [World.setCell]; omega), fun o => by rcases o with _ | _ | _ | o <;> go_simp, fun o => by go_simp⟩), ((by (repeat (first | (with_reducible refine RowB.alloc ?_ _) | (with_reducible refine RowB.drew ?_) | ((with_reducible refine RowB.setCell ?_ ?_ _); rotate_left 1; (focus (first | omega | (simp; done) | (simp; omega)))))); exact HOA.out) : RowB _ lo0 w2_.heap.size _ _).mono (Nat.le_refl _) (by first | omega | (simp [World.setCell]; done) | (simp [World.setCell]; omega)), (by ((repeat (first | ((with_reducible refine Below.alloc ?_ ?_ _); rotate_left 1; (focus (first | omega | (simp; done) | (simp; omega)))) | (with_reducible refine Below.drew ?_) | ((with_reducible refine Below.setCell ?_ ?_ _); rotate_left 1; (focus (first | omega | (simp; done) | (simp; omega)))))); exact HB.out)), (by first | omega | (simp [World.setCell]; done) | (simp [World.setCell]; omega))⟩
   case measure => simp [intOf]; omega
  ·skip
   obtain rfl : ne = k := by omega
   obtain ⟨lo1, hlo1, hle1⟩ : ∃ n, wr.heap.size ≤ n ∧ n ≤ wr.heap.size := ⟨_, Nat.le_refl _, Nat.le_refl _⟩
   have HXX := Lib.hid (HOA.out.mono (Nat.le_refl _) hlo1)
   rw [show L0.take ne = L0 from List.take_of_length_le (by rw [HL0.out, List.length_map, HN0.out]; exact Nat.le_refl _)] at HXX
   clear HOA
   clear HOE
   replace HXo : Hid (NewBox wr (w.heap.size + 1) [.slice X0 ne g0, .slice none 0 0, .slice none 0 0]) := HXo.out
   clear hxo hfo hko
   have hxo := HXo.out.2.1
   have hfo := HXo.out.2.2
   have hko := HXo.out.1
   have HOX0 : Hid (RowB wr (lo0) (lo1) (.slice X0 ne g0, ne) (strs L0)) := HXX
   clear HXX
   go_wp2
   refine wp_named (fun w2 hw => ?_)
   have hz2 : wr.heap.size + 0 ≤ w2.heap.size := by rw [hw]; first | omega | (simp [World.setCell]; done) | (simp [World.setCell]; omega)
   have hzz2 : w.heap.size ≤ w2.heap.size := by omega
   have hbn : Below wr.heap.size wr w2 := by rw [hw]; exact (by ((repeat (first | ((with_reducible refine Below.alloc ?_ ?_ _); rotate_left 1; (focus (first | omega | (simp; done) | (simp; omega)))) | (with_reducible refine Below.drew ?_) | ((with_reducible refine Below.setCell ?_ ?_ _); rotate_left 1; (focus (first | omega | (simp; done) | (simp; omega)))))); exact Below.refl _ _))
   replace HB := Lib.hid (below_then HB.out hbn HB.out.size)
   replace HOX0 := Lib.hid (HOX0.out.below hbn)
   replace HXb := Lib.hid (HXb.out.below hbn)
   clear hxb hfb hkb
   have hxb := HXb.out.2.1
   have hfb := HXb.out.2.2
   have hkb := HXb.out.1
   replace HXr := Lib.hid (HXr.out.below hbn)
   clear hxr hfr hkr
   have hxr := HXr.out.2.1
   have hfr := HXr.out.2.2
   have hkr := HXr.out.1
   replace HXo := Lib.hid (HXo.out.below hbn)
   clear hxo hfo hko
   have hxo := HXo.out.2.1
   have hfo := HXo.out.2.2
   have hko := HXo.out.1
   clear hbn
   clear hw
   go_loopw [44] (fun i wr => ∃ (k : Nat) (X1 : Option Addr) (g1 : Nat), k ≤ nh1 ∧ i = .int .i64 k ∧ NewBox wr ((w.heap.size)) [.slice none 0 0, .slice none 0 0, .slice none 0 0] ∧ NewBox wr ((w.heap.size + 1)) [.slice X0 ne g0, .slice X1 k g1, .slice none 0 0] ∧ RowB wr lo0 lo1 (.slice X0 ne g0, ne) (strs L0) ∧ RowB wr lo1 wr.heap.size (.slice X1 k g1, k) (strs (L1.take k)) ∧ Below w.heap.size w wr ∧ w2.heap.size ≤ wr.heap.size) (fun i _ => nh1 - (intOf i).toNat)
   case atStart => exact ⟨0, none, 0, Nat.zero_le _, rfl, HXr.out, HXo.out, HOX0.out, (RowB.of (World.ownsRow_nil _ _ _ _)).mono (by omega) (Nat.le_refl _), HB.out, Nat.le_refl _⟩
   case round =>
    obtain ⟨k, X1, g1, hk, rfl, hbr, hbo, hr0, hrw, hbl, hzl⟩ := hrel
    have HBL := Lib.hid hbl
    replace HB : Hid (Below w.heap.size w wr) := HBL.out
    replace HXr : Hid (NewBox wr (w.heap.size) [.slice none 0 0, .slice none 0 0, .slice none 0 0]) := hbr
    clear hxr hfr hkr
    have hxr := HXr.out.2.1
    have hfr := HXr.out.2.2
    have hkr := HXr.out.1
    replace HXo : Hid (NewBox wr (w.heap.size + 1) [.slice X0 ne g0, .slice X1 k g1, .slice none 0 0]) := hbo
    clear hxo hfo hko
    have hxo := HXo.out.2.1
    have hfo := HXo.out.2.2
    have hko := HXo.out.1
    replace HXb := Lib.hid (HBX.out.below HBL.out)
    clear hxb hfb hkb
    have hxb := HXb.out.2.1
    have hfb := HXb.out.2.2
    have hkb := HXb.out.1
    replace HOX0 : Hid (RowB wr (lo0) (lo1) (.slice X0 ne g0, ne) (strs L0)) := Lib.hid hr0
    have HOA : Hid (RowB wr (lo1) (wr.heap.size) (.slice X1 k g1, k) (strs (L1.take k))) := Lib.hid hrw
    have HOT := Lib.hid (HT0.out.below HBL.out)
    have hzz_wr : w.heap.size ≤ wr.heap.size := HB.out.size
    clear hbr hbo hrw hbl hr0
    by_cases hlt : k < nh1
    ·skip
     obtain ⟨b2, off, x, rfl, hb2, hks, hcs⟩ := hd_cells HOT.out (k := k) (by rw [HN1.out]; exact hlt)
     have c0' := hcs.1
     have c1' := hcs.2.1
     have c2' := hcs.2.2.1
     have c3' := hcs.2.2.2.1
     have c4' := hcs.2.2.2.2
     have HT : Hid (L1.take (k + 1) = L1.take k ++ [headTextM width x]) := Lib.hid (take_succ (by rw [HL1.out, List.getElem?_map, hks]; rfl))
     have HX := Lib.hid (fun W => implHeadText_c width x W (HF1.out x (List.mem_of_getElem? hks)))
     have hI : (k : Int) < nh1 := by omega
     clear hks hcs
     generalize headTextM width x = lt at *
     generalize headOk width x = lk at *
     go_wp2_with fail
     refine wp_named (fun w3 hw => ?_)
     have hz3 : wr.heap.size + 1 ≤ w3.heap.size := by rw [hw]; first | omega | (simp [World.setCell]; done) | (simp [World.setCell]; omega)
     have hzz3 : w.heap.size ≤ w3.heap.size := by omega
     have hbn : Below wr.heap.size wr w3 := by rw [hw]; exact (by ((repeat (first | ((with_reducible refine Below.alloc ?_ ?_ _); rotate_left 1; (focus (first | omega | (simp; done) | (simp; omega)))) | (with_reducible refine Below.drew ?_) | ((with_reducible refine Below.setCell ?_ ?_ _); rotate_left 1; (focus (first | omega | (simp; done) | (simp; omega)))))); exact Below.refl _ _))
     replace HB := Lib.hid (below_then HB.out hbn HB.out.size)
     replace HOX0 := Lib.hid (HOX0.out.below hbn)
     replace HOA := Lib.hid (HOA.out.below hbn)
     replace HOT := Lib.hid (HOT.out.below hbn)
     replace HXb := Lib.hid (HXb.out.below hbn)
     clear hxb hfb hkb
     have hxb := HXb.out.2.1
     have hfb := HXb.out.2.2
     have hkb := HXb.out.1
     replace HXr := Lib.hid (HXr.out.below hbn)
     clear hxr hfr hkr
     have hxr := HXr.out.2.1
     have hfr := HXr.out.2.2
     have hkr := HXr.out.1
     replace HXo := Lib.hid (HXo.out.below hbn)
     clear hxo hfo hko
     have hxo := HXo.out.2.1
     have hfo := HXo.out.2.2
     have hko := HXo.out.1
     clear hbn
     have HXe : Hid (NewBox w3 (wr.heap.size) [.int .i64 x.num, .int .i64 x.size, .string x.root, .int .i64 x.taken, .string x.troot]) := by rw [Hid, hw]; exact ⟨by first | omega | (simp [World.setCell]; done) | (simp [World.setCell]; omega), fun o => by rcases o with _ | _ | _ | _ | _ | o <;> go_simp, fun o => by go_simp⟩
     have hxe := HXe.out.2.1
     have hfe := HXe.out.2.2
     have hke := HXe.out.1
     clear hw
     have lb : ∀ v : Later w3, v.v.cell? ⟨p, 0, none⟩ = some (.int .i64 width) := fun v => (later_cell v _ _ hkb).trans (hxb 0)
     have le0 : ∀ v : Later w3, v.v.cell? ⟨(wr.heap.size), 0, none⟩ = some (.int .i64 x.num) := fun v => (later_cell v _ _ hke).trans (hxe 0)
     have le1 : ∀ v : Later w3, v.v.cell? ⟨(wr.heap.size), 1, none⟩ = some (.int .i64 x.size) := fun v => (later_cell v _ _ hke).trans (hxe 1)
     have le2 : ∀ v : Later w3, v.v.cell? ⟨(wr.heap.size), 2, none⟩ = some (.string x.root) := fun v => (later_cell v _ _ hke).trans (hxe 2)
     have le3 : ∀ v : Later w3, v.v.cell? ⟨(wr.heap.size), 3, none⟩ = some (.int .i64 x.taken) := fun v => (later_cell v _ _ hke).trans (hxe 3)
     have le4 : ∀ v : Later w3, v.v.cell? ⟨(wr.heap.size), 4, none⟩ = some (.string x.troot) := fun v => (later_cell v _ _ hke).trans (hxe 4)
     refine wp_region_later (by kernel_rfl) (by kernel_rfl) ?_
     repeat (go_big_quiet_step ((first | with_reducible exact later_call (HX.out _))))
     refine wpQuiet_nil ?_
     intro w9 h9
     have hb9 := later_below h9
     clear lb le0 le1 le2 le3 le4 h9
     have hzw9 : w3.heap.size ≤ w9.heap.size := hb9.size
     have hzzw9 : w.heap.size ≤ w9.heap.size := by omega
     replace HB := Lib.hid (below_then HB.out hb9 HB.out.size)
     replace HOX0 := Lib.hid (HOX0.out.below hb9)
     replace HOA := Lib.hid (HOA.out.below hb9)
     replace HOT := Lib.hid (HOT.out.below hb9)
     replace HXb := Lib.hid (HXb.out.below hb9)
     clear hxb hfb hkb
     have hxb := HXb.out.2.1
     have hfb := HXb.out.2.2
     have hkb := HXb.out.1
     replace HXr := Lib.hid (HXr.out.below hb9)
     clear hxr hfr hkr
     have hxr := HXr.out.2.1
     have hfr := HXr.out.2.2
     have hkr := HXr.out.1
     replace HXo := Lib.hid (HXo.out.below hb9)
     clear hxo hfo hko
     have hxo := HXo.out.2.1
     have hfo := HXo.out.2.2
     have hko := HXo.out.1
     replace HXe := Lib.hid (HXe.out.below hb9)
     clear hxe hfe hke
     have hxe := HXe.out.2.1
     have hfe := HXe.out.2.2
     have hke := HXe.out.1
     clear hb9
     clear c0' c1' c2' c3' c4'
     clear HOT
     clear hxe hfe hke HXe
     go_wp2_with (at_builtin; refine app1Str rfl _ _ rfl lo1 _ _ _ rfl (HOA.out.1.alloc _) w9.heap.size lt rfl (NewBox.new w9 _ _) (by omega) (by first | omega | (simp; done) | (simp; omega)) ?_)
     intro v2 w2_ hown2 hg2
     obtain ⟨hrb, hon⟩ := rowB_app HOA.out.1 _ hown2 hg2
     obtain ⟨A2, g2, rfl, _, _, _⟩ := ownsRow_slice hown2
     rw [← strs_app, ← HT.out] at hrb
     have hzw2_ : w9.heap.size ≤ w2_.heap.size := hon.size
     have hzzw2_ : w.heap.size ≤ w2_.heap.size := by omega
     replace HB := Lib.hid (below_only HB.out hon (by omega) HB.out.size)
     replace HOX0 := Lib.hid (HOX0.out.only hon (by first | omega | (simp; omega)))
     replace HXb := Lib.hid (HXb.out.only hon (by first | omega | (simp; omega)))
     clear hxb hfb hkb
     have hxb := HXb.out.2.1
     have hfb := HXb.out.2.2
     have hkb := HXb.out.1
     replace HXr := Lib.hid (HXr.out.only hon (by first | omega | (simp; omega)))
     clear hxr hfr hkr
     have hxr := HXr.out.2.1
     have hfr := HXr.out.2.2
     have hkr := HXr.out.1
     replace HXo := Lib.hid (HXo.out.only hon (by first | omega | (simp; omega)))
     clear hxo hfo hko
     have hxo := HXo.out.2.1
     have hfo := HXo.out.2.2
     have hko := HXo.out.1
     clear HOA
     have HOA : Hid (RowB w2_ (lo1) (w2_.heap.size) (.slice A2 (k + 1) g2, k + 1) (strs (L1.take (k + 1)))) := Lib.hid hrb
     clear hown2 hg2 hrb hon
     go_wp2
     go_roundw
     case rel => exact ⟨k + 1, A2, g2, by omega, by go_num, (by (repeat (first | (with_reducible refine NewBox.alloc ?_ _) | (with_reducible refine NewBox.drew ?_) | ((with_reducible refine NewBox.setCell ?_ ?_ _); rotate_left 1; (focus (first | omega | (simp; done) | (simp; omega)))))); exact HXr.out), (by exact ⟨by first | omega | (simp [World.setCell]; done) | (simp [World.setCell]; omega), fun o => by rcases o with _ | _ | _ | o <;> go_simp, fun o => by go_simp⟩), (by (repeat (first | (with_reducible refine RowB.alloc ?_ _) | (with_reducible refine RowB.drew ?_) | ((with_reducible refine RowB.setCell ?_ ?_ _); rotate_left 1; (focus (first | omega | (simp; done) | (simp; omega)))))); exact HOX0.out), ((by (repeat (first | (with_reducible refine RowB.alloc ?_ _) | (with_reducible refine RowB.drew ?_) | ((with_reducible refine RowB.setCell ?_ ?_ _); rotate_left 1; (focus (first | omega | (simp; done) | (simp; omega)))))); exact HOA.out) : RowB _ lo1 w2_.heap.size _ _).mono (Nat.le_refl _) (by first | omega | (simp [World.setCell]; done) | (simp [World.setCell]; omega)), (by ((repeat (first | ((with_reducible refine Below.alloc ?_ ?_ _); rotate_left 1; (focus (first | omega | (simp; done) | (simp; omega)))) | (with_reducible refine Below.drew ?_) | ((with_reducible refine Below.setCell ?_ ?_ _); rotate_left 1; (focus (first | omega | (simp; done) | (simp; omega)))))); exact HB.out)), (by first | omega | (simp [World.setCell]; done) | (simp [World.setCell]; omega))⟩
     case measure => simp [intOf]; omega
    ·skip
     obtain rfl : nh1 = k := by omega
     obtain ⟨lo2, hlo2, hle2⟩ : ∃ n, wr.heap.size ≤ n ∧ n ≤ wr.heap.size := ⟨_, Nat.le_refl _, Nat.le_refl _⟩
     have HXX := Lib.hid (HOA.out.mono (Nat.le_refl _) hlo2)
     rw [show L1.take nh1 = L1 from List.take_of_length_le (by rw [HL1.out, List.length_map, HN1.out]; exact Nat.le_refl _)] at HXX
     clear HOA
     clear HOT
     replace HXo : Hid (NewBox wr (w.heap.size + 1) [.slice X0 ne g0, .slice X1 nh1 g1, .slice none 0 0]) := HXo.out
     clear hxo hfo hko
     have hxo := HXo.out.2.1
     have hfo := HXo.out.2.2
     have hko := HXo.out.1
     have HOX1 : Hid (RowB wr (lo1) (lo2) (.slice X1 nh1 g1, nh1) (strs L1)) := HXX
     clear HXX
     go_wp2
     refine wp_named (fun w3 hw => ?_)
     have hz3 : wr.heap.size + 0 ≤ w3.heap.size := by rw [hw]; first | omega | (simp [World.setCell]; done) | (simp [World.setCell]; omega)
     have hzz3 : w.heap.size ≤ w3.heap.size := by omega
     have hbn : Below wr.heap.size wr w3 := by rw [hw]; exact (by ((repeat (first | ((with_reducible refine Below.alloc ?_ ?_ _); rotate_left 1; (focus (first | omega | (simp; done) | (simp; omega)))) | (with_reducible refine Below.drew ?_) | ((with_reducible refine Below.setCell ?_ ?_ _); rotate_left 1; (focus (first | omega | (simp; done) | (simp; omega)))))); exact Below.refl _ _))
     replace HB := Lib.hid (below_then HB.out hbn HB.out.size)
     replace HOX0 := Lib.hid (HOX0.out.below hbn)
     replace HOX1 := Lib.hid (HOX1.out.below hbn)
     replace HXb := Lib.hid (HXb.out.below hbn)
     clear hxb hfb hkb
     have hxb := HXb.out.2.1
     have hfb := HXb.out.2.2
     have hkb := HXb.out.1
     replace HXr := Lib.hid (HXr.out.below hbn)
     clear hxr hfr hkr
     have hxr := HXr.out.2.1
     have hfr := HXr.out.2.2
     have hkr := HXr.out.1
     replace HXo := Lib.hid (HXo.out.below hbn)
     clear hxo hfo hko
     have hxo := HXo.out.2.1
     have hfo := HXo.out.2.2
     have hko := HXo.out.1
     clear hbn
     clear hw
     go_loopw [69] (fun i wr => ∃ (k : Nat) (X2 : Option Addr) (g2 : Nat), k ≤ nr ∧ i = .int .i64 k ∧ NewBox wr ((w.heap.size)) [.slice none 0 0, .slice none 0 0, .slice none 0 0] ∧ NewBox wr ((w.heap.size + 1)) [.slice X0 ne g0, .slice X1 nh1 g1, .slice X2 k g2] ∧ RowB wr lo0 lo1 (.slice X0 ne g0, ne) (strs L0) ∧ RowB wr lo1 lo2 (.slice X1 nh1 g1, nh1) (strs L1) ∧ RowB wr lo2 wr.heap.size (.slice X2 k g2, k) (strs (L2.take k)) ∧ Below w.heap.size w wr ∧ w3.heap.size ≤ wr.heap.size) (fun i _ => nr - (intOf i).toNat)
     case atStart => exact ⟨0, none, 0, Nat.zero_le _, rfl, HXr.out, HXo.out, HOX0.out, HOX1.out, (RowB.of (World.ownsRow_nil _ _ _ _)).mono (by omega) (Nat.le_refl _), HB.out, Nat.le_refl _⟩
     case round =>
      obtain ⟨k, X2, g2, hk, rfl, hbr, hbo, hr0, hr1, hrw, hbl, hzl⟩ := hrel
      have HBL := Lib.hid hbl
      replace HB : Hid (Below w.heap.size w wr) := HBL.out
      replace HXr : Hid (NewBox wr (w.heap.size) [.slice none 0 0, .slice none 0 0, .slice none 0 0]) := hbr
      clear hxr hfr hkr
      have hxr := HXr.out.2.1
      have hfr := HXr.out.2.2
      have hkr := HXr.out.1
      replace HXo : Hid (NewBox wr (w.heap.size + 1) [.slice X0 ne g0, .slice X1 nh1 g1, .slice X2 k g2]) := hbo
      clear hxo hfo hko
      have hxo := HXo.out.2.1
      have hfo := HXo.out.2.2
      have hko := HXo.out.1
      replace HXb := Lib.hid (HBX.out.below HBL.out)
      clear hxb hfb hkb
      have hxb := HXb.out.2.1
      have hfb := HXb.out.2.2
      have hkb := HXb.out.1
      replace HOX0 : Hid (RowB wr (lo0) (lo1) (.slice X0 ne g0, ne) (strs L0)) := Lib.hid hr0
      replace HOX1 : Hid (RowB wr (lo1) (lo2) (.slice X1 nh1 g1, nh1) (strs L1)) := Lib.hid hr1
      have HOA : Hid (RowB wr (lo2) (wr.heap.size) (.slice X2 k g2, k) (strs (L2.take k))) := Lib.hid hrw
      have HOR := Lib.hid (HR0.out.below HBL.out)
      have hzz_wr : w.heap.size ≤ wr.heap.size := HB.out.size
      clear hbr hbo hrw hbl hr0 hr1
      by_cases hlt : k < nr
      ·skip
       obtain ⟨b2, off, x, rfl, hb2, hks, hcs⟩ := rcp_cells HOR.out (k := k) (by rw [HN2.out]; exact hlt)
       have c0' := hcs.1
       have c1' := hcs.2.1
       have c2' := hcs.2.2
       have HT : Hid (L2.take (k + 1) = L2.take k ++ [rcpTextM x]) := Lib.hid (take_succ (by rw [HL2.out, List.getElem?_map, hks]; rfl))
       have HX := Lib.hid (fun W => implReceiptText_c x W (HF2.out x (List.mem_of_getElem? hks)))
       have hI : (k : Int) < nr := by omega
       clear hks hcs
       generalize rcpTextM x = lt at *
       generalize rcpOk x = lk at *
       go_wp2_with fail
       refine calls_named (fun w4 hw => ?_)
       have hz4 : wr.heap.size + 1 ≤ w4.heap.size := by rw [hw]; first | omega | (simp [World.setCell]; done) | (simp [World.setCell]; omega)
       have hzz4 : w.heap.size ≤ w4.heap.size := by omega
       have hbn : Below wr.heap.size wr w4 := by rw [hw]; exact (by ((repeat (first | ((with_reducible refine Below.alloc ?_ ?_ _); rotate_left 1; (focus (first | omega | (simp; done) | (simp; omega)))) | (with_reducible refine Below.drew ?_) | ((with_reducible refine Below.setCell ?_ ?_ _); rotate_left 1; (focus (first | omega | (simp; done) | (simp; omega)))))); exact Below.refl _ _))
       replace HB := Lib.hid (below_then HB.out hbn HB.out.size)
       replace HOX0 := Lib.hid (HOX0.out.below hbn)
       replace HOX1 := Lib.hid (HOX1.out.below hbn)
       replace HOA := Lib.hid (HOA.out.below hbn)
       replace HOR := Lib.hid (HOR.out.below hbn)
       replace HXb := Lib.hid (HXb.out.below hbn)
       clear hxb hfb hkb
       have hxb := HXb.out.2.1
       have hfb := HXb.out.2.2
       have hkb := HXb.out.1
       replace HXr := Lib.hid (HXr.out.below hbn)
       clear hxr hfr hkr
       have hxr := HXr.out.2.1
       have hfr := HXr.out.2.2
       have hkr := HXr.out.1
       replace HXo := Lib.hid (HXo.out.below hbn)
       clear hxo hfo hko
       have hxo := HXo.out.2.1
       have hfo := HXo.out.2.2
       have hko := HXo.out.1
       clear hbn
       have HXe : Hid (NewBox w4 (wr.heap.size) [.string x.reader, .string x.topic, .int .i64 x.index]) := by rw [Hid, hw]; exact ⟨by first | omega | (simp [World.setCell]; done) | (simp [World.setCell]; omega), fun o => by rcases o with _ | _ | _ | o <;> go_simp, fun o => by go_simp⟩
       have hxe := HXe.out.2.1
       have hfe := HXe.out.2.2
       have hke := HXe.out.1
       clear hw
       refine (HX.out _).mono ?_
       rintro e w5 ⟨rfl, hb⟩
       have hzw5 : w4.heap.size ≤ w5.heap.size := hb.size
       have hzzw5 : w.heap.size ≤ w5.heap.size := by omega
       replace HB := Lib.hid (below_then HB.out hb HB.out.size)
       replace HOX0 := Lib.hid (HOX0.out.below hb)
       replace HOX1 := Lib.hid (HOX1.out.below hb)
       replace HOA := Lib.hid (HOA.out.below hb)
       replace HOR := Lib.hid (HOR.out.below hb)
       replace HXb := Lib.hid (HXb.out.below hb)
       clear hxb hfb hkb
       have hxb := HXb.out.2.1
       have hfb := HXb.out.2.2
       have hkb := HXb.out.1
       replace HXr := Lib.hid (HXr.out.below hb)
       clear hxr hfr hkr
       have hxr := HXr.out.2.1
       have hfr := HXr.out.2.2
       have hkr := HXr.out.1
       replace HXo := Lib.hid (HXo.out.below hb)
       clear hxo hfo hko
       have hxo := HXo.out.2.1
       have hfo := HXo.out.2.2
       have hko := HXo.out.1
       replace HXe := Lib.hid (HXe.out.below hb)
       clear hxe hfe hke
       have hxe := HXe.out.2.1
       have hfe := HXe.out.2.2
       have hke := HXe.out.1
       clear hb
       clear c0' c1' c2'
       clear HOR
       clear hxe hfe hke HXe
       go_wp2_with (at_builtin; refine app1Str rfl _ _ rfl lo2 _ _ _ rfl (HOA.out.1.alloc _) w5.heap.size lt rfl (NewBox.new w5 _ _) (by omega) (by first | omega | (simp; done) | (simp; omega)) ?_)
       intro v2 w2_ hown2 hg2
       obtain ⟨hrb, hon⟩ := rowB_app HOA.out.1 _ hown2 hg2
       obtain ⟨A2, g2, rfl, _, _, _⟩ := ownsRow_slice hown2
       rw [← strs_app, ← HT.out] at hrb
       have hzw2_ : w5.heap.size ≤ w2_.heap.size := hon.size
       have hzzw2_ : w.heap.size ≤ w2_.heap.size := by omega
       replace HB := Lib.hid (below_only HB.out hon (by omega) HB.out.size)
       replace HOX0 := Lib.hid (HOX0.out.only hon (by first | omega | (simp; omega)))
       replace HOX1 := Lib.hid (HOX1.out.only hon (by first | omega | (simp; omega)))
       replace HXb := Lib.hid (HXb.out.only hon (by first | omega | (simp; omega)))
       clear hxb hfb hkb
       have hxb := HXb.out.2.1
       have hfb := HXb.out.2.2
       have hkb := HXb.out.1
       replace HXr := Lib.hid (HXr.out.only hon (by first | omega | (simp; omega)))
       clear hxr hfr hkr
       have hxr := HXr.out.2.1
       have hfr := HXr.out.2.2
       have hkr := HXr.out.1
       replace HXo := Lib.hid (HXo.out.only hon (by first | omega | (simp; omega)))
       clear hxo hfo hko
       have hxo := HXo.out.2.1
       have hfo := HXo.out.2.2
       have hko := HXo.out.1
       clear HOA
       have HOA : Hid (RowB w2_ (lo2) (w2_.heap.size) (.slice A2 (k + 1) g2, k + 1) (strs (L2.take (k + 1)))) := Lib.hid hrb
       clear hown2 hg2 hrb hon
       go_wp2
       go_roundw
       case rel => exact ⟨k + 1, A2, g2, by omega, by go_num, (by (repeat (first | (with_reducible refine NewBox.alloc ?_ _) | (with_reducible refine NewBox.drew ?_) | ((with_reducible refine NewBox.setCell ?_ ?_ _); rotate_left 1; (focus (first | omega | (simp; done) | (simp; omega)))))); exact HXr.out), (by exact ⟨by first | omega | (simp [World.setCell]; done) | (simp [World.setCell]; omega), fun o => by rcases o with _ | _ | _ | o <;> go_simp, fun o => by go_simp⟩), (by (repeat (first | (with_reducible refine RowB.alloc ?_ _) | (with_reducible refine RowB.drew ?_) | ((with_reducible refine RowB.setCell ?_ ?_ _); rotate_left 1; (focus (first | omega | (simp; done) | (simp; omega)))))); exact HOX0.out), (by (repeat (first | (with_reducible refine RowB.alloc ?_ _) | (with_reducible refine RowB.drew ?_) | ((with_reducible refine RowB.setCell ?_ ?_ _); rotate_left 1; (focus (first | omega | (simp; done) | (simp; omega)))))); exact HOX1.out), ((by (repeat (first | (with_reducible refine RowB.alloc ?_ _) | (with_reducible refine RowB.drew ?_) | ((with_reducible refine RowB.setCell ?_ ?_ _); rotate_left 1; (focus (first | omega | (simp; done) | (simp; omega)))))); exact HOA.out) : RowB _ lo2 w2_.heap.size _ _).mono (Nat.le_refl _) (by first | omega | (simp [World.setCell]; done) | (simp [World.setCell]; omega)), (by ((repeat (first | ((with_reducible refine Below.alloc ?_ ?_ _); rotate_left 1; (focus (first | omega | (simp; done) | (simp; omega)))) | (with_reducible refine Below.drew ?_) | ((with_reducible refine Below.setCell ?_ ?_ _); rotate_left 1; (focus (first | omega | (simp; done) | (simp; omega)))))); exact HB.out)), (by first | omega | (simp [World.setCell]; done) | (simp [World.setCell]; omega))⟩
       case measure => simp [intOf]; omega
      ·skip
       obtain rfl : nr = k := by omega
       obtain ⟨lo3, hlo3, hle3⟩ : ∃ n, wr.heap.size ≤ n ∧ n ≤ wr.heap.size := ⟨_, Nat.le_refl _, Nat.le_refl _⟩
       have HXX := Lib.hid (HOA.out.mono (Nat.le_refl _) hlo3)
       rw [show L2.take nr = L2 from List.take_of_length_le (by rw [HL2.out, List.length_map, HN2.out]; exact Nat.le_refl _)] at HXX
       clear HOA
       clear HOR
       replace HXo : Hid (NewBox wr (w.heap.size + 1) [.slice X0 ne g0, .slice X1 nh1 g1, .slice X2 nr g2]) := HXo.out
       clear hxo hfo hko
       have hxo := HXo.out.2.1
       have hfo := HXo.out.2.2
       have hko := HXo.out.1
       have HOX2 : Hid (RowB wr (lo2) (lo3) (.slice X2 nr g2, nr) (strs L2)) := HXX
       clear HXX
       go_wp2
       refine bodyPost_named (fun w4 hw => ?_)
       have hz4 : wr.heap.size + 0 ≤ w4.heap.size := by rw [hw]; first | omega | (simp [World.setCell]; done) | (simp [World.setCell]; omega)
       have hzz4 : w.heap.size ≤ w4.heap.size := by omega
       replace HB : Hid (Below w.heap.size w w4) := by rw [Hid, hw]; exact (by ((repeat (first | ((with_reducible refine Below.alloc ?_ ?_ _); rotate_left 1; (focus (first | omega | (simp; done) | (simp; omega)))) | (with_reducible refine Below.drew ?_) | ((with_reducible refine Below.setCell ?_ ?_ _); rotate_left 1; (focus (first | omega | (simp; done) | (simp; omega)))))); exact HB.out))
       replace HOX0 : Hid (RowB w4 (lo0) (lo1) (.slice X0 ne g0, ne) (strs L0)) := by rw [Hid, hw]; (repeat (first | (with_reducible refine RowB.alloc ?_ _) | (with_reducible refine RowB.drew ?_) | ((with_reducible refine RowB.setCell ?_ ?_ _); rotate_left 1; (focus (first | omega | (simp; done) | (simp; omega)))))); exact HOX0.out
       replace HOX1 : Hid (RowB w4 (lo1) (lo2) (.slice X1 nh1 g1, nh1) (strs L1)) := by rw [Hid, hw]; (repeat (first | (with_reducible refine RowB.alloc ?_ _) | (with_reducible refine RowB.drew ?_) | ((with_reducible refine RowB.setCell ?_ ?_ _); rotate_left 1; (focus (first | omega | (simp; done) | (simp; omega)))))); exact HOX1.out
       replace HOX2 : Hid (RowB w4 (lo2) (lo3) (.slice X2 nr g2, nr) (strs L2)) := by rw [Hid, hw]; (repeat (first | (with_reducible refine RowB.alloc ?_ _) | (with_reducible refine RowB.drew ?_) | ((with_reducible refine RowB.setCell ?_ ?_ _); rotate_left 1; (focus (first | omega | (simp; done) | (simp; omega)))))); exact HOX2.out
       replace HXb : Hid (NewBox w4 (p) [.int .i64 width, .slice E ne ce, .slice R nr cr, .slice H nh ch, .int .i64 z1, .slice A1 m1 c1, .int .i64 z2, .slice A2 m2 c2, .int .i64 h.num, .int .i64 h.size, .string h.root, .int .i64 h.taken, .string h.troot]) := by rw [Hid, hw]; (repeat (first | (with_reducible refine NewBox.alloc ?_ _) | (with_reducible refine NewBox.drew ?_) | ((with_reducible refine NewBox.setCell ?_ ?_ _); rotate_left 1; (focus (first | omega | (simp; done) | (simp; omega)))))); exact HXb.out
       clear hxb hfb hkb
       have hxb := HXb.out.2.1
       have hfb := HXb.out.2.2
       have hkb := HXb.out.1
       replace HXr : Hid (NewBox w4 (w.heap.size) [.slice X0 ne g0, .slice X1 nh1 g1, .slice X2 nr g2]) := by rw [Hid, hw]; apply NewBox.cast; (focus ((repeat (first | (with_reducible apply NewBox.alloc) | (with_reducible apply NewBox.drew) | (with_reducible apply NewBox.set1) | ((with_reducible apply NewBox.far); (focus (first | omega | (simp; done) | (simp; omega)))))); exact HXr.out)); rfl
       clear hxr hfr hkr
       have hxr := HXr.out.2.1
       have hfr := HXr.out.2.2
       have hkr := HXr.out.1
       replace HXo : Hid (NewBox w4 (w.heap.size + 1) [.slice X0 ne g0, .slice X1 nh1 g1, .slice X2 nr g2]) := by rw [Hid, hw]; (repeat (first | (with_reducible refine NewBox.alloc ?_ _) | (with_reducible refine NewBox.drew ?_) | ((with_reducible refine NewBox.setCell ?_ ?_ _); rotate_left 1; (focus (first | omega | (simp; done) | (simp; omega)))))); exact HXo.out
       clear hxo hfo hko
       have hxo := HXo.out.2.1
       have hfo := HXo.out.2.2
       have hko := HXo.out.1
       clear hw
       refine bodyPost_ret (v := .agg #[.slice X0 ne g0, .slice X1 nh1 g1, .slice X2 nr g2]) (by simp [results, Tryz.results100, go_sem, hxr]) rfl ?_
       exact ⟨X0, g0, X1, g1, X2, g2, rfl, ⟨(HOX0.out.ownB rfl (by omega) (by omega)).mono (by omega) (by omega) (Nat.le_refl _), (HOX1.out.ownB rfl (by omega) (by omega)).mono (by omega) (by omega) (Nat.le_refl _), (HOX2.out.ownB rfl (by omega) (by omega)).mono (by omega) (by omega) (Nat.le_refl _)⟩, HB.out⟩
theorem row_box {w : World} {b n : Nat} {xs : List Value} {base : Nat} {e : TypeId} (h : w.ownsRow base e 1 (.slice (some ⟨b, 0, none⟩) n n) n xs) : NewBox w b xs ∧ base ≤ b := by
 rcases h.2 with ⟨e1, _⟩ | ⟨g, cap, cur, e1, h2, h3, h4, h5, h6, h7⟩
 ·cases e1
 ·cases e1
  rw [Nat.mul_one] at h6 h7
  rw [List.take_of_length_le (by rw [Array.length_toList, h6]; exact Nat.le_refl _)] at h7
  refine ⟨⟨(Array.getElem?_eq_some_iff.1 h3).1, fun o => ?_, fun o => ?_⟩, h2⟩
  ·rw [← h7]; simp [World.cell?, h3]
  ·simp [World.frozen?, h3]
theorem box_own {w : World} {b lo hi : Nat} {xs : List Value} (h : NewBox w b xs) (h1 : lo ≤ b) (h2 : b < hi) (h3 : hi ≤ w.heap.size) : Own w lo hi (some ⟨b, 0, none⟩) xs := fun _ =>
 ⟨b, 0, rfl, h1, h2, h3, fun j u hj => by rw [Nat.zero_add]; exact (h.2.1 j).trans hj, fun j => h.2.2 _⟩
def txs (f0 f1 f2 : ByteArray) : Nat → List Value
 | 0 => [.string ByteArray.empty, .string ByteArray.empty, .string ByteArray.empty]
 | 1 => [.string f0, .string ByteArray.empty, .string ByteArray.empty]
 | 2 => [.string f0, .string f1, .string ByteArray.empty]
 | _ => [.string f0, .string f1, .string f2]
set_option maxRecDepth 100000 in
set_option maxHeartbeats 400000 in
theorem diskNewB_c (w : World) : Calls Tryz.prog 99 #[] w fun e w' => ∃ b, e = .returned (.agg #[.slice (some ⟨b, 0, none⟩) 3 3]) ∧ (w.heap.size ≤ b ∧ NewBox w' b (txs ByteArray.empty ByteArray.empty ByteArray.empty 0)) ∧ Below w.heap.size w w' := by
 obtain ⟨i0, hi0, hz0, hz1, hz2⟩ := info_parts info_string
 go_enter Tryz.func99, Tryz.ntmps99
 go_wp2_with (at_make; refine wpList_make_full _ rfl _ _ 27 rfl w.heap.size 9 i0 _ 1 Tryz.underlying27 hi0 hz0 hz1 _ _ _ _ 3 rfl rfl rfl rfl (by rw [hz2]; omega) (by unfold maxLen; omega) (by simp) ?_)
 intro w1 hown hg
 simp only [Nat.mul_one, Value.cells, toList_madeCells_one] at hown
 have hb1 := ((Below.refl w.heap.size w).alloc (Nat.le_refl _) _).grown hg (by first | omega | (simp; done) | (simp; omega)) (by first | omega | (simp; done) | (simp; omega))
 have hx := (((Below.refl (w.heap.size + 1) (w.alloc (.cells #[.slice none 0 0] 62)))).grown hg (by simp) (by simp)).cell (p := ⟨w.heap.size, 0, none⟩) (by simp)
 replace hx : w1.cell? ⟨w.heap.size, 0, none⟩ = some (.slice none 0 0) := hx.trans (by go_simp)
 have hf := (((Below.refl (w.heap.size + 1) (w.alloc (.cells #[.slice none 0 0] 62)))).grown hg (by simp) (by simp)).frozen (p := ⟨w.heap.size, 0, none⟩) (by simp)
 replace hf : w1.frozen? ⟨w.heap.size, 0, none⟩ = false := hf.trans (by go_simp)
 have HG := Lib.hid hg
 have HBB := Lib.hid hb1
 have HBX := Lib.hid (row_box hown).1
 have hs1 := hb1.size
 clear hg hown hb1 hi0 hz0 hz1 hz2
 go_wp2
 refine bodyPost_ret (v := .agg #[.slice (some ⟨w.heap.size + 1, 0, none⟩) 3 3]) (by simp [results, Tryz.results99, go_sem, World.cell?_setCell_same _ _ _ hx]) rfl ?_
 exact ⟨w.heap.size + 1, rfl, ⟨Nat.le_succ _, HBX.out.setCell (by simp) _⟩, HBB.out.setCell (by simp) _⟩
set_option maxRecDepth 100000 in
set_option maxHeartbeats 4000000 in
theorem disk_c (width z1 z2 : Int) (p : Nat) (E R H A1 A2 : Option Addr) (ne nr nh ce cr ch c1 c2 lo1 hi1 lo2 hi2 lo3 hi3 m1 m2 : Nat) (es : List Ent) (rs : List Rcp) (hs : List Hd) (h : Hd) (w : World) (hbx : NewBox w p [.int .i64 width, .slice E ne ce, .slice R nr cr, .slice H nh ch, .int .i64 z1, .slice A1 m1 c1, .int .i64 z2, .slice A2 m2 c2, .int .i64 h.num, .int .i64 h.size, .string h.root, .int .i64 h.taken, .string h.troot])
  (hE : Rd w lo1 hi1 E (ents es)) (hR : Rd w lo2 hi2 R (rcps rs)) (hH : Rd w lo3 hi3 H (hds hs)) (hne : es.length = ne) (hnr : rs.length = nr) (hnh : hs.length = nh) (b1 : ne ≤ 1000) (b2 : nr ≤ 1000) (b3 : nh ≤ 1000) (hpos : 1 ≤ nh) (hch : nh ≤ ch) (hfe : ∀ x ∈ es, x.fits) (hfr : ∀ x ∈ rs, x.fits) (hfh : ∀ x ∈ hs, x.bulk ≤ 1048576) :
  Calls Tryz.prog 58 #[.pointer (some ⟨p, 0, none⟩)] w fun e w' => ∃ A c, e = .returned (.agg #[.slice A 3 c]) ∧ Own w' w.heap.size w'.heap.size A (strs (diskL width es rs hs)) ∧ Below w.heap.size w w' := by
 have hfl := fileL_le (width := width) (es := es) (rs := rs) (hs := hs) (by omega) (by omega) (by omega)
 have hn0 : (fileL width es rs hs 0).length = ne := by rw [show fileL width es rs hs 0 = es.map leafTextM from rfl, List.length_map, hne]
 have hn1 : (fileL width es rs hs 1).length = nh - 1 := by rw [show fileL width es rs hs 1 = (hs.drop 1).map (headTextM width) from rfl, List.length_map, List.length_drop, hnh]
 have hn2 : (fileL width es rs hs 2).length = nr := by rw [show fileL width es rs hs 2 = rs.map rcpTextM from rfl, List.length_map, hnr]
 have HC := Lib.hid (fun W (q : NewBox W p [.int .i64 width, .slice E ne ce, .slice R nr cr, .slice H nh ch, .int .i64 z1, .slice A1 m1 c1, .int .i64 z2, .slice A2 m2 c2, .int .i64 h.num, .int .i64 h.size, .string h.root, .int .i64 h.taken, .string h.troot]) (r0 : Rd W 0 W.heap.size E (ents es)) (r1 : Rd W 0 W.heap.size R (rcps rs)) (r2 : Rd W 0 W.heap.size H (hds hs)) => texts_c width z1 z2 p E R H A1 A2 ne nr nh ce cr ch c1 c2 0 W.heap.size 0 W.heap.size 0 W.heap.size m1 m2 es rs hs h W q r0 r1 r2 hne hnr hnh b1 b2 b3 hpos hch hfe hfr hfh)
 rw [diskL]
 have HF0 := Lib.hid (fun W A c (r : Rd W 0 W.heap.size A (strs (fileL width es rs hs 0))) => implFrames_c A c 0 W.heap.size ne (fileL width es rs hs 0) W r hn0 (by have := hfl 0; omega))
 have HF1 := Lib.hid (fun W A c (r : Rd W 0 W.heap.size A (strs (fileL width es rs hs 1))) => implFrames_c A c 0 W.heap.size (nh - 1) (fileL width es rs hs 1) W r hn1 (by have := hfl 1; omega))
 have HF2 := Lib.hid (fun W A c (r : Rd W 0 W.heap.size A (strs (fileL width es rs hs 2))) => implFrames_c A c 0 W.heap.size nr (fileL width es rs hs 2) W r hn2 (by have := hfl 2; omega))
 generalize fileL width es rs hs 0 = L0 at *
 generalize fileL width es rs hs 1 = L1 at *
 generalize fileL width es rs hs 2 = L2 at *
 generalize nh - 1 = nh1 at *
 generalize framesM L0 = tx0 at *
 generalize framesM L1 = tx1 at *
 generalize framesM L2 = tx2 at *
 generalize framesOk L0 = tk0 at *
 generalize framesOk L1 = tk1 at *
 generalize framesOk L2 = tk2 at *
 have HBX := Lib.hid hbx
 have hpw : p < w.heap.size := hbx.1
 have HB : Hid (Below w.heap.size w w) := Below.refl _ _
 have HOE : Hid (Rd w (0) (w.heap.size) (E) (ents es)) := Rd.base hE
 have HOR : Hid (Rd w (0) (w.heap.size) (R) (rcps rs)) := Rd.base hR
 have HOH : Hid (Rd w (0) (w.heap.size) (H) (hds hs)) := Rd.base hH
 replace HB : Hid (Below w.heap.size w w) := (Below.refl _ _)
 have HXb : Hid (NewBox w (p) [.int .i64 width, .slice E ne ce, .slice R nr cr, .slice H nh ch, .int .i64 z1, .slice A1 m1 c1, .int .i64 z2, .slice A2 m2 c2, .int .i64 h.num, .int .i64 h.size, .string h.root, .int .i64 h.taken, .string h.troot]) := HBX.out
 have hxb := HXb.out.2.1
 have hfb := HXb.out.2.2
 have hkb := HXb.out.1
 clear hE hR hH hne hnr hnh hpos hch hfe hfr hfh hbx hfl hn0 hn1 hn2 b1 b2 b3
 go_enter Tryz.func58, Tryz.ntmps58
 go_wp2_with fail
 refine calls_named (fun w1 hw => ?_)
 have hz1 : w.heap.size + 1 ≤ w1.heap.size := by rw [hw]; first | omega | (simp [World.setCell]; done) | (simp [World.setCell]; omega)
 have hzz1 : w.heap.size ≤ w1.heap.size := by omega
 have hbn : Below w.heap.size w w1 := by rw [hw]; exact (by ((repeat (first | ((with_reducible refine Below.alloc ?_ ?_ _); rotate_left 1; (focus (first | omega | (simp; done) | (simp; omega)))) | (with_reducible refine Below.drew ?_) | ((with_reducible refine Below.setCell ?_ ?_ _); rotate_left 1; (focus (first | omega | (simp; done) | (simp; omega)))))); exact Below.refl _ _))
 replace HB := Lib.hid (below_then HB.out hbn HB.out.size)
 replace HOE := Lib.hid (HOE.out.below hbn)
 replace HOR := Lib.hid (HOR.out.below hbn)
 replace HOH := Lib.hid (HOH.out.below hbn)
 replace HXb := Lib.hid (HXb.out.below hbn)
 clear hxb hfb hkb
 have hxb := HXb.out.2.1
 have hfb := HXb.out.2.2
 have hkb := HXb.out.1
 clear hbn
 have HXr : Hid (NewBox w1 (w.heap.size) [.slice none 0 0]) := by rw [Hid, hw]; exact ⟨by first | omega | (simp [World.setCell]; done) | (simp [World.setCell]; omega), fun o => by rcases o with _ | o <;> go_simp, fun o => by go_simp⟩
 have hxr := HXr.out.2.1
 have hfr := HXr.out.2.2
 have hkr := HXr.out.1
 clear hw
 refine (diskNewB_c _).mono ?_
 rintro e w2 ⟨bo, rfl, ⟨hbo1, hbo2⟩, hb⟩
 have hzw2 : w1.heap.size ≤ w2.heap.size := hb.size
 have hzzw2 : w.heap.size ≤ w2.heap.size := by omega
 replace HB := Lib.hid (below_then HB.out hb HB.out.size)
 replace HOE := Lib.hid (HOE.out.below hb)
 replace HOR := Lib.hid (HOR.out.below hb)
 replace HOH := Lib.hid (HOH.out.below hb)
 replace HXb := Lib.hid (HXb.out.below hb)
 clear hxb hfb hkb
 have hxb := HXb.out.2.1
 have hfb := HXb.out.2.2
 have hkb := HXb.out.1
 replace HXr := Lib.hid (HXr.out.below hb)
 clear hxr hfr hkr
 have hxr := HXr.out.2.1
 have hfr := HXr.out.2.2
 have hkr := HXr.out.1
 clear hb
 have hbo3 := hbo2.1
 have HXf : Hid (NewBox w2 (bo) [.string ByteArray.empty, .string ByteArray.empty, .string ByteArray.empty]) := hbo2
 have hxf := HXf.out.2.1
 have hff := HXf.out.2.2
 have hkf := HXf.out.1
 clear hbo2
 go_wp2_with fail
 refine calls_named (fun w3 hw => ?_)
 have hz3 : w2.heap.size + 1 ≤ w3.heap.size := by rw [hw]; first | omega | (simp [World.setCell]; done) | (simp [World.setCell]; omega)
 have hzz3 : w.heap.size ≤ w3.heap.size := by omega
 have hbn : Below w2.heap.size w2 w3 := by rw [hw]; exact (by ((repeat (first | ((with_reducible refine Below.alloc ?_ ?_ _); rotate_left 1; (focus (first | omega | (simp; done) | (simp; omega)))) | (with_reducible refine Below.drew ?_) | ((with_reducible refine Below.setCell ?_ ?_ _); rotate_left 1; (focus (first | omega | (simp; done) | (simp; omega)))))); exact Below.refl _ _))
 replace HB := Lib.hid (below_then HB.out hbn HB.out.size)
 replace HOE := Lib.hid (HOE.out.below hbn)
 replace HOR := Lib.hid (HOR.out.below hbn)
 replace HOH := Lib.hid (HOH.out.below hbn)
 replace HXb := Lib.hid (HXb.out.below hbn)
 clear hxb hfb hkb
 have hxb := HXb.out.2.1
 have hfb := HXb.out.2.2
 have hkb := HXb.out.1
 replace HXr := Lib.hid (HXr.out.below hbn)
 clear hxr hfr hkr
 have hxr := HXr.out.2.1
 have hfr := HXr.out.2.2
 have hkr := HXr.out.1
 replace HXf := Lib.hid (HXf.out.below hbn)
 clear hxf hff hkf
 have hxf := HXf.out.2.1
 have hff := HXf.out.2.2
 have hkf := HXf.out.1
 clear hbn
 have HXo : Hid (NewBox w3 (w2.heap.size) [.slice (some ⟨bo, 0, none⟩) 3 3]) := by rw [Hid, hw]; exact ⟨by first | omega | (simp [World.setCell]; done) | (simp [World.setCell]; omega), fun o => by rcases o with _ | o <;> go_simp, fun o => by go_simp⟩
 have hxo := HXo.out.2.1
 have hfo := HXo.out.2.2
 have hko := HXo.out.1
 clear hw
 refine (HC.out _ HXb.out HOE.out.base HOR.out.base HOH.out.base).mono ?_
 rintro e w4 ⟨B0, d0, B1, d1, B2, d2, rfl, ⟨ho0, ho1, ho2⟩, hb⟩
 have hzw4 : w3.heap.size ≤ w4.heap.size := hb.size
 have hzzw4 : w.heap.size ≤ w4.heap.size := by omega
 replace HB := Lib.hid (below_then HB.out hb HB.out.size)
 replace HOE := Lib.hid (HOE.out.below hb)
 replace HOR := Lib.hid (HOR.out.below hb)
 replace HOH := Lib.hid (HOH.out.below hb)
 replace HXb := Lib.hid (HXb.out.below hb)
 clear hxb hfb hkb
 have hxb := HXb.out.2.1
 have hfb := HXb.out.2.2
 have hkb := HXb.out.1
 replace HXr := Lib.hid (HXr.out.below hb)
 clear hxr hfr hkr
 have hxr := HXr.out.2.1
 have hfr := HXr.out.2.2
 have hkr := HXr.out.1
 replace HXf := Lib.hid (HXf.out.below hb)
 clear hxf hff hkf
 have hxf := HXf.out.2.1
 have hff := HXf.out.2.2
 have hkf := HXf.out.1
 replace HXo := Lib.hid (HXo.out.below hb)
 clear hxo hfo hko
 have hxo := HXo.out.2.1
 have hfo := HXo.out.2.2
 have hko := HXo.out.1
 clear hb
 obtain ⟨lo, hlo, hle⟩ : ∃ n, w3.heap.size ≤ n ∧ n ≤ w3.heap.size := ⟨_, Nat.le_refl _, Nat.le_refl _⟩
 obtain ⟨hi, hhi, hhe⟩ : ∃ n, w4.heap.size ≤ n ∧ n ≤ w4.heap.size := ⟨_, Nat.le_refl _, Nat.le_refl _⟩
 clear HOE
 clear HOR
 clear HOH
 clear hxb hfb hkb HXb
 have hix := fun W => (idxArr (.slice B0 ne d0) (.slice B1 nh1 d1) (.slice B2 nr d2) W).1
 have hix1 := fun W => (idxArr (.slice B0 ne d0) (.slice B1 nh1 d1) (.slice B2 nr d2) W).2.1
 have hix2 := fun W => (idxArr (.slice B0 ne d0) (.slice B1 nh1 d1) (.slice B2 nr d2) W).2.2
 have HOT0 : Hid (Own w4 (lo) (hi) (B0) (strs L0)) := Lib.hid (ho0.mono hle hhi (by omega))
 have HOT1 : Hid (Own w4 (lo) (hi) (B1) (strs L1)) := Lib.hid (ho1.mono hle hhi (by omega))
 have HOT2 : Hid (Own w4 (lo) (hi) (B2) (strs L2)) := Lib.hid (ho2.mono hle hhi (by omega))
 clear ho0 ho1 ho2 HC HBX
 go_wp2
 refine wp_named (fun w5 hw => ?_)
 have hz5 : w4.heap.size + 0 ≤ w5.heap.size := by rw [hw]; first | omega | (simp [World.setCell]; done) | (simp [World.setCell]; omega)
 have hzz5 : w.heap.size ≤ w5.heap.size := by omega
 have hbn : Below w4.heap.size w4 w5 := by rw [hw]; exact (by ((repeat (first | ((with_reducible refine Below.alloc ?_ ?_ _); rotate_left 1; (focus (first | omega | (simp; done) | (simp; omega)))) | (with_reducible refine Below.drew ?_) | ((with_reducible refine Below.setCell ?_ ?_ _); rotate_left 1; (focus (first | omega | (simp; done) | (simp; omega)))))); exact Below.refl _ _))
 replace HB := Lib.hid (below_then HB.out hbn HB.out.size)
 replace HOT0 := Lib.hid (HOT0.out.below hbn)
 replace HOT1 := Lib.hid (HOT1.out.below hbn)
 replace HOT2 := Lib.hid (HOT2.out.below hbn)
 replace HXr := Lib.hid (HXr.out.below hbn)
 clear hxr hfr hkr
 have hxr := HXr.out.2.1
 have hfr := HXr.out.2.2
 have hkr := HXr.out.1
 replace HXf := Lib.hid (HXf.out.below hbn)
 clear hxf hff hkf
 have hxf := HXf.out.2.1
 have hff := HXf.out.2.2
 have hkf := HXf.out.1
 replace HXo := Lib.hid (HXo.out.below hbn)
 clear hxo hfo hko
 have hxo := HXo.out.2.1
 have hfo := HXo.out.2.2
 have hko := HXo.out.1
 clear hbn
 clear hw
 go_loopw [9] (fun i wr => ∃ k : Nat, k ≤ 3 ∧ i = .int .i64 k ∧ NewBox wr ((w.heap.size)) [.slice none 0 0] ∧ NewBox wr ((w2.heap.size)) [.slice (some ⟨bo, 0, none⟩) 3 3] ∧ NewBox wr bo (txs tx0 tx1 tx2 k) ∧ Own wr lo hi B0 (strs L0) ∧ Own wr lo hi B1 (strs L1) ∧ Own wr lo hi B2 (strs L2) ∧ Below w.heap.size w wr ∧ w5.heap.size ≤ wr.heap.size) (fun i _ => 3 - (intOf i).toNat)
 case atStart => exact ⟨0, Nat.zero_le _, rfl, HXr.out, HXo.out, HXf.out, HOT0.out, HOT1.out, HOT2.out, HB.out, Nat.le_refl _⟩
 case round =>
  obtain ⟨k, hk, rfl, hbr, hbo, hbf, ht0, ht1, ht2, hbl, hzl⟩ := hrel
  have HBR := Lib.hid hbr
  have HBO := Lib.hid hbo
  have HBF := Lib.hid hbf
  have HT0 := Lib.hid ht0
  have HT1 := Lib.hid ht1
  have HT2 := Lib.hid ht2
  have HBL := Lib.hid hbl
  clear hbr hbo hbf ht0 ht1 ht2 hbl
  obtain rfl | rfl | rfl | rfl : k = 0 ∨ k = 1 ∨ k = 2 ∨ k = 3 := by omega
  ·skip
   replace HB : Hid (Below w.heap.size w wr) := HBL.out
   replace HXr : Hid (NewBox wr (w.heap.size) [.slice none 0 0]) := HBR.out
   clear hxr hfr hkr
   have hxr := HXr.out.2.1
   have hfr := HXr.out.2.2
   have hkr := HXr.out.1
   replace HXo : Hid (NewBox wr (w2.heap.size) [.slice (some ⟨bo, 0, none⟩) 3 3]) := HBO.out
   clear hxo hfo hko
   have hxo := HXo.out.2.1
   have hfo := HXo.out.2.2
   have hko := HXo.out.1
   replace HXf : Hid (NewBox wr (bo) [.string ByteArray.empty, .string ByteArray.empty, .string ByteArray.empty]) := HBF.out
   clear hxf hff hkf
   have hxf := HXf.out.2.1
   have hff := HXf.out.2.2
   have hkf := HXf.out.1
   replace HOT0 : Hid (Own wr (lo) (hi) (B0) (strs L0)) := HT0
   replace HOT1 : Hid (Own wr (lo) (hi) (B1) (strs L1)) := HT1
   replace HOT2 : Hid (Own wr (lo) (hi) (B2) (strs L2)) := HT2
   have hzz_wr : w.heap.size ≤ wr.heap.size := HB.out.size
   go_wp2
   go_wp2_with fail
   refine wp_named (fun w6 hw => ?_)
   have hz6 : wr.heap.size + 0 ≤ w6.heap.size := by rw [hw]; first | omega | (simp [World.setCell]; done) | (simp [World.setCell]; omega)
   have hzz6 : w.heap.size ≤ w6.heap.size := by omega
   have hbn : Below wr.heap.size wr w6 := by rw [hw]; exact (by ((repeat (first | ((with_reducible refine Below.alloc ?_ ?_ _); rotate_left 1; (focus (first | omega | (simp; done) | (simp; omega)))) | (with_reducible refine Below.drew ?_) | ((with_reducible refine Below.setCell ?_ ?_ _); rotate_left 1; (focus (first | omega | (simp; done) | (simp; omega)))))); exact Below.refl _ _))
   replace HB := Lib.hid (below_then HB.out hbn HB.out.size)
   replace HOT0 := Lib.hid (HOT0.out.below hbn)
   replace HOT1 := Lib.hid (HOT1.out.below hbn)
   replace HOT2 := Lib.hid (HOT2.out.below hbn)
   replace HXr := Lib.hid (HXr.out.below hbn)
   clear hxr hfr hkr
   have hxr := HXr.out.2.1
   have hfr := HXr.out.2.2
   have hkr := HXr.out.1
   replace HXf := Lib.hid (HXf.out.below hbn)
   clear hxf hff hkf
   have hxf := HXf.out.2.1
   have hff := HXf.out.2.2
   have hkf := HXf.out.1
   replace HXo := Lib.hid (HXo.out.below hbn)
   clear hxo hfo hko
   have hxo := HXo.out.2.1
   have hfo := HXo.out.2.2
   have hko := HXo.out.1
   clear hbn
   clear hw
   obtain ⟨F, HF⟩ : ∃ F : Facts, Hid (F = fun iq xq tqs dsq uq => match iq with
    | 0 => xq.v = .pointer (some ⟨(w2.heap.size), 0, none⟩)
    | 1 => xq.v = .slice (some ⟨bo, 0, none⟩) 3 3
    | 2 => xq.v = .int .i64 0
    | 3 => xq.v = .slice B0 ne d0
    | 4 => xq.v = .tuple #[.string tx0, .bool tk0]
    | 5 => xq.v = .tuple #[.string tx0, .bool tk0]
    | 6 => xq.v = .string tx0
    | 7 => xq.v = .bool tk0
    | 8 => xq.v = .pointer (some ⟨bo, 0, none⟩)
    | 9 => NewBox uq (bo) [.string tx0, .string ByteArray.empty, .string ByteArray.empty]
    | _ => False) := ⟨_, rfl⟩
   refine wp_region_facts [[], [], [], [], [], [], [], [], [], []] [[], [], [], [], [], [], [], [], [], []] [some 14, some 15, some 16, some 17, some 18, some 13, some 19, some 20, some 21, none] (some 9) (bo) (bo + 1) (.inr (by omega)) F (by kernel_rfl) (by kernel_rfl) (by kernel_rfl) ?_ ⟨?_, ?_, ?_, ?_, ?_, ?_, ?_, ?_, ?_, ?_, trivial⟩ ?_
   ·rw [HF.out]; intro iq xq tqs dsq uq u' hi hf hs hW hx hbk
    have kx : ∀ b, xq.s ≤ b → b < xq.e → u'.heap[b]? = uq.heap[b]? := fun b h1 h2 => hbk b (.inr (.inl ⟨h1, h2⟩))
    have kt : ∀ t ∈ tqs, ∀ b, t.s ≤ b → b < t.e → u'.heap[b]? = uq.heap[b]? := fun t ht b h1 h2 => hbk b (.inr (.inr ⟨t, ht, h1, h2⟩))
    match iq with
    | 0 => exact hf
    | 1 => exact hf
    | 2 => exact hf
    | 3 => exact hf
    | 4 => exact hf
    | 5 => exact hf
    | 6 => exact hf
    | 7 => exact hf
    | 8 => exact hf
    | 9 => exact NewBox.keep hf hs (hbk _ (.inl ⟨hkf, .inr (.inr rfl)⟩))
   ·intro gh ρ u hc hf1 hg1 hd h0 hb he ha hF
    have r3 : ρ (.tmp 3) = .pointer (some ⟨w2.heap.size, 0, none⟩) := (h0 3 (by decide +kernel)).trans rfl
    clear  hd h0 he ha hF
    go_simp
    rw [HF.out]
    exact ⟨OnlyL.refl _ _, rfl⟩
   ·intro gh ρ u hc hf1 hg1 hd h0 hb he ha hF
    first | (replace hb : Below w6.heap.size w6 u := hb.drew.below (by decide +kernel)) | (replace hb : Only (bo) (bo + 1) w6 u := hb.drew.only)
    have hbz : w6.heap.size ≤ u.heap.size := hb.size
    have r14 : ρ (.tmp 14) = .pointer (some ⟨(w2.heap.size), 0, none⟩) := by have h := hF 0 (by decide +kernel) (by decide +kernel); rw [HF.out] at h; exact (hd 0 (by decide +kernel) 14 (by kernel_rfl)).trans h
    have q_o : ∀ o, u.cell? ⟨w2.heap.size, o, none⟩ = [.slice (some ⟨bo, 0, none⟩) 3 3][o]? := by first | exact (HXo.out.below hb).2.1 | exact (HXo.out.only hb (by omega)).2.1
    have k_o : w2.heap.size < u.heap.size := by have := HXo.out.1; omega
    clear  hd h0 he ha hF
    go_simp
    rw [HF.out]
    exact ⟨OnlyL.refl _ _, rfl⟩
   ·intro gh ρ u hc hf1 hg1 hd h0 hb he ha hF
    have r4 : ρ (.tmp 4) = .int .i64 0 := (h0 4 (by decide +kernel)).trans rfl
    clear  hd h0 he ha hF
    go_simp
    rw [HF.out]
    exact ⟨OnlyL.refl _ _, rfl⟩
   ·intro gh ρ u hc hf1 hg1 hd h0 hb he ha hF
    have r5 : ρ (.tmp 5) = .slice B0 ne d0 := (h0 5 (by decide +kernel)).trans rfl
    clear  hd h0 he ha hF
    go_simp
    rw [HF.out]
    exact ⟨OnlyL.refl _ _, rfl⟩
   ·intro gh ρ u hc hf1 hg1 hd h0 hb he ha hF
    first | (replace hb : Below w6.heap.size w6 u := hb.drew.below (by decide +kernel)) | (replace hb : Only (bo) (bo + 1) w6 u := hb.drew.only)
    have hbz : w6.heap.size ≤ u.heap.size := hb.size
    have r17 : ρ (.tmp 17) = .slice B0 ne d0 := by have h := hF 3 (by decide +kernel) (by decide +kernel); rw [HF.out] at h; exact (hd 3 (by decide +kernel) 17 (by kernel_rfl)).trans h
    clear  hd h0 he ha hF
    go_simp
    have q_o := (HXo.out.below hb)
    refine (HF0.out _ _ _ (HOT0.out.rd.below hb).base).mono ?_
    rintro e u1 ⟨rfl, hb1⟩
    rw [HF.out]
    exact ⟨_, rfl, OnlyL.of_below hb1, rfl⟩
   ·intro gh ρ u hc hf1 hg1 hd h0 hb he ha hF
    have r18 : ρ (.tmp 18) = .tuple #[.string tx0, .bool tk0] := by have h := hF 4 (by decide +kernel) (by decide +kernel); rw [HF.out] at h; exact (hd 4 (by decide +kernel) 18 (by kernel_rfl)).trans h
    clear  hd h0 he ha hF
    go_simp
    rw [HF.out]
    exact ⟨OnlyL.refl _ _, rfl⟩
   ·intro gh ρ u hc hf1 hg1 hd h0 hb he ha hF
    have r13 : ρ (.tmp 13) = .tuple #[.string tx0, .bool tk0] := by have h := hF 5 (by decide +kernel) (by decide +kernel); rw [HF.out] at h; exact (hd 5 (by decide +kernel) 13 (by kernel_rfl)).trans h
    clear  hd h0 he ha hF
    go_simp
    rw [HF.out]
    exact ⟨OnlyL.refl _ _, rfl⟩
   ·intro gh ρ u hc hf1 hg1 hd h0 hb he ha hF
    have r13 : ρ (.tmp 13) = .tuple #[.string tx0, .bool tk0] := by have h := hF 5 (by decide +kernel) (by decide +kernel); rw [HF.out] at h; exact (hd 5 (by decide +kernel) 13 (by kernel_rfl)).trans h
    clear  hd h0 he ha hF
    go_simp
    rw [HF.out]
    exact ⟨OnlyL.refl _ _, rfl⟩
   ·intro gh ρ u hc hf1 hg1 hd h0 hb he ha hF
    have r15 : ρ (.tmp 15) = .slice (some ⟨bo, 0, none⟩) 3 3 := by have h := hF 1 (by decide +kernel) (by decide +kernel); rw [HF.out] at h; exact (hd 1 (by decide +kernel) 15 (by kernel_rfl)).trans h
    have r16 : ρ (.tmp 16) = .int .i64 0 := by have h := hF 2 (by decide +kernel) (by decide +kernel); rw [HF.out] at h; exact (hd 2 (by decide +kernel) 16 (by kernel_rfl)).trans h
    clear  hd h0 he ha hF
    go_simp
    rw [HF.out]
    exact ⟨OnlyL.refl _ _, rfl⟩
   ·intro gh ρ u hc hf1 hg1 hd h0 hb he ha hF
    first | (replace hb : Below w6.heap.size w6 u := hb.drew.below (by decide +kernel)) | (replace hb : Only (bo) (bo + 1) w6 u := hb.drew.only)
    have hbz : w6.heap.size ≤ u.heap.size := hb.size
    have r21 : ρ (.tmp 21) = .pointer (some ⟨bo, 0, none⟩) := by have h := hF 8 (by decide +kernel) (by decide +kernel); rw [HF.out] at h; exact (hd 8 (by decide +kernel) 21 (by kernel_rfl)).trans h
    have r19 : ρ (.tmp 19) = .string tx0 := by have h := hF 6 (by decide +kernel) (by decide +kernel); rw [HF.out] at h; exact (hd 6 (by decide +kernel) 19 (by kernel_rfl)).trans h
    obtain ⟨hzk, hzc, hzf⟩ := HXf.out.below hb
    clear  hd h0 he ha hF
    go_simp
    rw [HF.out]
    refine ⟨?_, ?_⟩
    ·refine OnlyL.of_z (lo := bo) (hi := bo + 1) ?_ rfl; refine Only.setCell ?_ (by exact Nat.le_refl _) (by exact Nat.lt_succ_self _) _; exact Only.refl _ _ _
    ·show NewBox _ (bo) _
     exact ⟨by simpa [World.setCell] using hzk, fun o => by rcases o with _ | _ | _ | o <;> go_simp, fun o => by go_simp⟩
   intro gh w7 hB hE hA hF
   replace hB : Only (bo) (bo + 1) w6 w7 := hB.only
   have f0 : (gh 0).v = .pointer (some ⟨(w2.heap.size), 0, none⟩) := by have h := hF 0 (by decide +kernel) (by decide +kernel); rw [HF.out] at h; exact h
   have f1 : (gh 1).v = .slice (some ⟨bo, 0, none⟩) 3 3 := by have h := hF 1 (by decide +kernel) (by decide +kernel); rw [HF.out] at h; exact h
   have f2 : (gh 2).v = .int .i64 0 := by have h := hF 2 (by decide +kernel) (by decide +kernel); rw [HF.out] at h; exact h
   have f3 : (gh 3).v = .slice B0 ne d0 := by have h := hF 3 (by decide +kernel) (by decide +kernel); rw [HF.out] at h; exact h
   have f4 : (gh 4).v = .tuple #[.string tx0, .bool tk0] := by have h := hF 4 (by decide +kernel) (by decide +kernel); rw [HF.out] at h; exact h
   have f5 : (gh 5).v = .tuple #[.string tx0, .bool tk0] := by have h := hF 5 (by decide +kernel) (by decide +kernel); rw [HF.out] at h; exact h
   have f6 : (gh 6).v = .string tx0 := by have h := hF 6 (by decide +kernel) (by decide +kernel); rw [HF.out] at h; exact h
   have f7 : (gh 7).v = .bool tk0 := by have h := hF 7 (by decide +kernel) (by decide +kernel); rw [HF.out] at h; exact h
   have f8 : (gh 8).v = .pointer (some ⟨bo, 0, none⟩) := by have h := hF 8 (by decide +kernel) (by decide +kernel); rw [HF.out] at h; exact h
   have f9 : NewBox w7 (bo) [.string tx0, .string ByteArray.empty, .string ByteArray.empty] := by have h := hF 9 (by decide +kernel) (by decide +kernel); rw [HF.out] at h; exact h
   have hv4 := f4
   have hv0 := f0
   have hv1 := f1
   have hv2 := f2
   have hv3 := f3
   have hv5 := f5
   have hv6 := f6
   have hv7 := f7
   have hv8 := f8
   have hx9 := f9
   clear hE hA hF
   simp only [putDs, Nat.reduceAdd, hv0, hv1, hv2, hv3, hv4, hv5, hv6, hv7, hv8]
   clear hv0 hv1 hv2 hv3 hv4 hv5 hv6 hv7 hv8
   clear HF
   have hb := hB
   clear hB
   have hzw7 : w6.heap.size ≤ w7.heap.size := hb.size
   have hzzw7 : w.heap.size ≤ w7.heap.size := by omega
   replace HB := Lib.hid (below_only HB.out hb (by omega) HB.out.size)
   replace HOT0 := Lib.hid (HOT0.out.only hb (by first | omega | (simp; omega)))
   replace HOT1 := Lib.hid (HOT1.out.only hb (by first | omega | (simp; omega)))
   replace HOT2 := Lib.hid (HOT2.out.only hb (by first | omega | (simp; omega)))
   replace HXr := Lib.hid (HXr.out.only hb (by first | omega | (simp; omega)))
   clear hxr hfr hkr
   have hxr := HXr.out.2.1
   have hfr := HXr.out.2.2
   have hkr := HXr.out.1
   clear hxf hff hkf HXf
   replace HXo := Lib.hid (HXo.out.only hb (by first | omega | (simp; omega)))
   clear hxo hfo hko
   have hxo := HXo.out.2.1
   have hfo := HXo.out.2.2
   have hko := HXo.out.1
   clear hb
   have HXf : Hid (NewBox w7 (bo) [.string tx0, .string ByteArray.empty, .string ByteArray.empty]) := hx9
   have hxf := HXf.out.2.1
   have hff := HXf.out.2.2
   have hkf := HXf.out.1
   clear hx9
   go_wp2
   go_roundw
   case rel => exact ⟨1, by omega, by go_num, HXr.out, HXo.out, HXf.out, HOT0.out, HOT1.out, HOT2.out, HB.out, by omega⟩
   case measure => simp [intOf]
  ·skip
   replace HB : Hid (Below w.heap.size w wr) := HBL.out
   replace HXr : Hid (NewBox wr (w.heap.size) [.slice none 0 0]) := HBR.out
   clear hxr hfr hkr
   have hxr := HXr.out.2.1
   have hfr := HXr.out.2.2
   have hkr := HXr.out.1
   replace HXo : Hid (NewBox wr (w2.heap.size) [.slice (some ⟨bo, 0, none⟩) 3 3]) := HBO.out
   clear hxo hfo hko
   have hxo := HXo.out.2.1
   have hfo := HXo.out.2.2
   have hko := HXo.out.1
   replace HXf : Hid (NewBox wr (bo) [.string tx0, .string ByteArray.empty, .string ByteArray.empty]) := HBF.out
   clear hxf hff hkf
   have hxf := HXf.out.2.1
   have hff := HXf.out.2.2
   have hkf := HXf.out.1
   replace HOT0 : Hid (Own wr (lo) (hi) (B0) (strs L0)) := HT0
   replace HOT1 : Hid (Own wr (lo) (hi) (B1) (strs L1)) := HT1
   replace HOT2 : Hid (Own wr (lo) (hi) (B2) (strs L2)) := HT2
   have hzz_wr : w.heap.size ≤ wr.heap.size := HB.out.size
   go_wp2
   go_wp2_with fail
   refine wp_named (fun w6 hw => ?_)
   have hz6 : wr.heap.size + 0 ≤ w6.heap.size := by rw [hw]; first | omega | (simp [World.setCell]; done) | (simp [World.setCell]; omega)
   have hzz6 : w.heap.size ≤ w6.heap.size := by omega
   have hbn : Below wr.heap.size wr w6 := by rw [hw]; exact (by ((repeat (first | ((with_reducible refine Below.alloc ?_ ?_ _); rotate_left 1; (focus (first | omega | (simp; done) | (simp; omega)))) | (with_reducible refine Below.drew ?_) | ((with_reducible refine Below.setCell ?_ ?_ _); rotate_left 1; (focus (first | omega | (simp; done) | (simp; omega)))))); exact Below.refl _ _))
   replace HB := Lib.hid (below_then HB.out hbn HB.out.size)
   replace HOT0 := Lib.hid (HOT0.out.below hbn)
   replace HOT1 := Lib.hid (HOT1.out.below hbn)
   replace HOT2 := Lib.hid (HOT2.out.below hbn)
   replace HXr := Lib.hid (HXr.out.below hbn)
   clear hxr hfr hkr
   have hxr := HXr.out.2.1
   have hfr := HXr.out.2.2
   have hkr := HXr.out.1
   replace HXf := Lib.hid (HXf.out.below hbn)
   clear hxf hff hkf
   have hxf := HXf.out.2.1
   have hff := HXf.out.2.2
   have hkf := HXf.out.1
   replace HXo := Lib.hid (HXo.out.below hbn)
   clear hxo hfo hko
   have hxo := HXo.out.2.1
   have hfo := HXo.out.2.2
   have hko := HXo.out.1
   clear hbn
   clear hw
   obtain ⟨F, HF⟩ : ∃ F : Facts, Hid (F = fun iq xq tqs dsq uq => match iq with
    | 0 => xq.v = .pointer (some ⟨(w2.heap.size), 0, none⟩)
    | 1 => xq.v = .slice (some ⟨bo, 0, none⟩) 3 3
    | 2 => xq.v = .int .i64 1
    | 3 => xq.v = .slice B1 nh1 d1
    | 4 => xq.v = .tuple #[.string tx1, .bool tk1]
    | 5 => xq.v = .tuple #[.string tx1, .bool tk1]
    | 6 => xq.v = .string tx1
    | 7 => xq.v = .bool tk1
    | 8 => xq.v = .pointer (some ⟨bo, 1, none⟩)
    | 9 => NewBox uq (bo) [.string tx0, .string tx1, .string ByteArray.empty]
    | _ => False) := ⟨_, rfl⟩
   refine wp_region_facts [[], [], [], [], [], [], [], [], [], []] [[], [], [], [], [], [], [], [], [], []] [some 14, some 15, some 16, some 17, some 18, some 13, some 19, some 20, some 21, none] (some 9) (bo) (bo + 1) (.inr (by omega)) F (by kernel_rfl) (by kernel_rfl) (by kernel_rfl) ?_ ⟨?_, ?_, ?_, ?_, ?_, ?_, ?_, ?_, ?_, ?_, trivial⟩ ?_
   ·rw [HF.out]; intro iq xq tqs dsq uq u' hi hf hs hW hx hbk
    have kx : ∀ b, xq.s ≤ b → b < xq.e → u'.heap[b]? = uq.heap[b]? := fun b h1 h2 => hbk b (.inr (.inl ⟨h1, h2⟩))
    have kt : ∀ t ∈ tqs, ∀ b, t.s ≤ b → b < t.e → u'.heap[b]? = uq.heap[b]? := fun t ht b h1 h2 => hbk b (.inr (.inr ⟨t, ht, h1, h2⟩))
    match iq with
    | 0 => exact hf
    | 1 => exact hf
    | 2 => exact hf
    | 3 => exact hf
    | 4 => exact hf
    | 5 => exact hf
    | 6 => exact hf
    | 7 => exact hf
    | 8 => exact hf
    | 9 => exact NewBox.keep hf hs (hbk _ (.inl ⟨hkf, .inr (.inr rfl)⟩))
   ·intro gh ρ u hc hf1 hg1 hd h0 hb he ha hF
    have r3 : ρ (.tmp 3) = .pointer (some ⟨w2.heap.size, 0, none⟩) := (h0 3 (by decide +kernel)).trans rfl
    clear  hd h0 he ha hF
    go_simp
    rw [HF.out]
    exact ⟨OnlyL.refl _ _, rfl⟩
   ·intro gh ρ u hc hf1 hg1 hd h0 hb he ha hF
    first | (replace hb : Below w6.heap.size w6 u := hb.drew.below (by decide +kernel)) | (replace hb : Only (bo) (bo + 1) w6 u := hb.drew.only)
    have hbz : w6.heap.size ≤ u.heap.size := hb.size
    have r14 : ρ (.tmp 14) = .pointer (some ⟨(w2.heap.size), 0, none⟩) := by have h := hF 0 (by decide +kernel) (by decide +kernel); rw [HF.out] at h; exact (hd 0 (by decide +kernel) 14 (by kernel_rfl)).trans h
    have q_o : ∀ o, u.cell? ⟨w2.heap.size, o, none⟩ = [.slice (some ⟨bo, 0, none⟩) 3 3][o]? := by first | exact (HXo.out.below hb).2.1 | exact (HXo.out.only hb (by omega)).2.1
    have k_o : w2.heap.size < u.heap.size := by have := HXo.out.1; omega
    clear  hd h0 he ha hF
    go_simp
    rw [HF.out]
    exact ⟨OnlyL.refl _ _, rfl⟩
   ·intro gh ρ u hc hf1 hg1 hd h0 hb he ha hF
    have r4 : ρ (.tmp 4) = .int .i64 1 := (h0 4 (by decide +kernel)).trans rfl
    clear  hd h0 he ha hF
    go_simp
    rw [HF.out]
    exact ⟨OnlyL.refl _ _, rfl⟩
   ·intro gh ρ u hc hf1 hg1 hd h0 hb he ha hF
    have r5 : ρ (.tmp 5) = .slice B1 nh1 d1 := (h0 5 (by decide +kernel)).trans rfl
    clear  hd h0 he ha hF
    go_simp
    rw [HF.out]
    exact ⟨OnlyL.refl _ _, rfl⟩
   ·intro gh ρ u hc hf1 hg1 hd h0 hb he ha hF
    first | (replace hb : Below w6.heap.size w6 u := hb.drew.below (by decide +kernel)) | (replace hb : Only (bo) (bo + 1) w6 u := hb.drew.only)
    have hbz : w6.heap.size ≤ u.heap.size := hb.size
    have r17 : ρ (.tmp 17) = .slice B1 nh1 d1 := by have h := hF 3 (by decide +kernel) (by decide +kernel); rw [HF.out] at h; exact (hd 3 (by decide +kernel) 17 (by kernel_rfl)).trans h
    clear  hd h0 he ha hF
    go_simp
    have q_o := (HXo.out.below hb)
    refine (HF1.out _ _ _ (HOT1.out.rd.below hb).base).mono ?_
    rintro e u1 ⟨rfl, hb1⟩
    rw [HF.out]
    exact ⟨_, rfl, OnlyL.of_below hb1, rfl⟩
   ·intro gh ρ u hc hf1 hg1 hd h0 hb he ha hF
    have r18 : ρ (.tmp 18) = .tuple #[.string tx1, .bool tk1] := by have h := hF 4 (by decide +kernel) (by decide +kernel); rw [HF.out] at h; exact (hd 4 (by decide +kernel) 18 (by kernel_rfl)).trans h
    clear  hd h0 he ha hF
    go_simp
    rw [HF.out]
    exact ⟨OnlyL.refl _ _, rfl⟩
   ·intro gh ρ u hc hf1 hg1 hd h0 hb he ha hF
    have r13 : ρ (.tmp 13) = .tuple #[.string tx1, .bool tk1] := by have h := hF 5 (by decide +kernel) (by decide +kernel); rw [HF.out] at h; exact (hd 5 (by decide +kernel) 13 (by kernel_rfl)).trans h
    clear  hd h0 he ha hF
    go_simp
    rw [HF.out]
    exact ⟨OnlyL.refl _ _, rfl⟩
   ·intro gh ρ u hc hf1 hg1 hd h0 hb he ha hF
    have r13 : ρ (.tmp 13) = .tuple #[.string tx1, .bool tk1] := by have h := hF 5 (by decide +kernel) (by decide +kernel); rw [HF.out] at h; exact (hd 5 (by decide +kernel) 13 (by kernel_rfl)).trans h
    clear  hd h0 he ha hF
    go_simp
    rw [HF.out]
    exact ⟨OnlyL.refl _ _, rfl⟩
   ·intro gh ρ u hc hf1 hg1 hd h0 hb he ha hF
    have r15 : ρ (.tmp 15) = .slice (some ⟨bo, 0, none⟩) 3 3 := by have h := hF 1 (by decide +kernel) (by decide +kernel); rw [HF.out] at h; exact (hd 1 (by decide +kernel) 15 (by kernel_rfl)).trans h
    have r16 : ρ (.tmp 16) = .int .i64 1 := by have h := hF 2 (by decide +kernel) (by decide +kernel); rw [HF.out] at h; exact (hd 2 (by decide +kernel) 16 (by kernel_rfl)).trans h
    clear  hd h0 he ha hF
    go_simp
    rw [HF.out]
    exact ⟨OnlyL.refl _ _, rfl⟩
   ·intro gh ρ u hc hf1 hg1 hd h0 hb he ha hF
    first | (replace hb : Below w6.heap.size w6 u := hb.drew.below (by decide +kernel)) | (replace hb : Only (bo) (bo + 1) w6 u := hb.drew.only)
    have hbz : w6.heap.size ≤ u.heap.size := hb.size
    have r21 : ρ (.tmp 21) = .pointer (some ⟨bo, 1, none⟩) := by have h := hF 8 (by decide +kernel) (by decide +kernel); rw [HF.out] at h; exact (hd 8 (by decide +kernel) 21 (by kernel_rfl)).trans h
    have r19 : ρ (.tmp 19) = .string tx1 := by have h := hF 6 (by decide +kernel) (by decide +kernel); rw [HF.out] at h; exact (hd 6 (by decide +kernel) 19 (by kernel_rfl)).trans h
    obtain ⟨hzk, hzc, hzf⟩ := HXf.out.below hb
    clear  hd h0 he ha hF
    go_simp
    rw [HF.out]
    refine ⟨?_, ?_⟩
    ·refine OnlyL.of_z (lo := bo) (hi := bo + 1) ?_ rfl; refine Only.setCell ?_ (by exact Nat.le_refl _) (by exact Nat.lt_succ_self _) _; exact Only.refl _ _ _
    ·show NewBox _ (bo) _
     exact ⟨by simpa [World.setCell] using hzk, fun o => by rcases o with _ | _ | _ | o <;> go_simp, fun o => by go_simp⟩
   intro gh w7 hB hE hA hF
   replace hB : Only (bo) (bo + 1) w6 w7 := hB.only
   have f0 : (gh 0).v = .pointer (some ⟨(w2.heap.size), 0, none⟩) := by have h := hF 0 (by decide +kernel) (by decide +kernel); rw [HF.out] at h; exact h
   have f1 : (gh 1).v = .slice (some ⟨bo, 0, none⟩) 3 3 := by have h := hF 1 (by decide +kernel) (by decide +kernel); rw [HF.out] at h; exact h
   have f2 : (gh 2).v = .int .i64 1 := by have h := hF 2 (by decide +kernel) (by decide +kernel); rw [HF.out] at h; exact h
   have f3 : (gh 3).v = .slice B1 nh1 d1 := by have h := hF 3 (by decide +kernel) (by decide +kernel); rw [HF.out] at h; exact h
   have f4 : (gh 4).v = .tuple #[.string tx1, .bool tk1] := by have h := hF 4 (by decide +kernel) (by decide +kernel); rw [HF.out] at h; exact h
   have f5 : (gh 5).v = .tuple #[.string tx1, .bool tk1] := by have h := hF 5 (by decide +kernel) (by decide +kernel); rw [HF.out] at h; exact h
   have f6 : (gh 6).v = .string tx1 := by have h := hF 6 (by decide +kernel) (by decide +kernel); rw [HF.out] at h; exact h
   have f7 : (gh 7).v = .bool tk1 := by have h := hF 7 (by decide +kernel) (by decide +kernel); rw [HF.out] at h; exact h
   have f8 : (gh 8).v = .pointer (some ⟨bo, 1, none⟩) := by have h := hF 8 (by decide +kernel) (by decide +kernel); rw [HF.out] at h; exact h
   have f9 : NewBox w7 (bo) [.string tx0, .string tx1, .string ByteArray.empty] := by have h := hF 9 (by decide +kernel) (by decide +kernel); rw [HF.out] at h; exact h
   have hv4 := f4
   have hv0 := f0
   have hv1 := f1
   have hv2 := f2
   have hv3 := f3
   have hv5 := f5
   have hv6 := f6
   have hv7 := f7
   have hv8 := f8
   have hx9 := f9
   clear hE hA hF
   simp only [putDs, Nat.reduceAdd, hv0, hv1, hv2, hv3, hv4, hv5, hv6, hv7, hv8]
   clear hv0 hv1 hv2 hv3 hv4 hv5 hv6 hv7 hv8
   clear HF
   have hb := hB
   clear hB
   have hzw7 : w6.heap.size ≤ w7.heap.size := hb.size
   have hzzw7 : w.heap.size ≤ w7.heap.size := by omega
   replace HB := Lib.hid (below_only HB.out hb (by omega) HB.out.size)
   replace HOT0 := Lib.hid (HOT0.out.only hb (by first | omega | (simp; omega)))
   replace HOT1 := Lib.hid (HOT1.out.only hb (by first | omega | (simp; omega)))
   replace HOT2 := Lib.hid (HOT2.out.only hb (by first | omega | (simp; omega)))
   replace HXr := Lib.hid (HXr.out.only hb (by first | omega | (simp; omega)))
   clear hxr hfr hkr
   have hxr := HXr.out.2.1
   have hfr := HXr.out.2.2
   have hkr := HXr.out.1
   clear hxf hff hkf HXf
   replace HXo := Lib.hid (HXo.out.only hb (by first | omega | (simp; omega)))
   clear hxo hfo hko
   have hxo := HXo.out.2.1
   have hfo := HXo.out.2.2
   have hko := HXo.out.1
   clear hb
   have HXf : Hid (NewBox w7 (bo) [.string tx0, .string tx1, .string ByteArray.empty]) := hx9
   have hxf := HXf.out.2.1
   have hff := HXf.out.2.2
   have hkf := HXf.out.1
   clear hx9
   go_wp2
   go_roundw
   case rel => exact ⟨2, by omega, by go_num, HXr.out, HXo.out, HXf.out, HOT0.out, HOT1.out, HOT2.out, HB.out, by omega⟩
   case measure => simp [intOf]
  ·skip
   replace HB : Hid (Below w.heap.size w wr) := HBL.out
   replace HXr : Hid (NewBox wr (w.heap.size) [.slice none 0 0]) := HBR.out
   clear hxr hfr hkr
   have hxr := HXr.out.2.1
   have hfr := HXr.out.2.2
   have hkr := HXr.out.1
   replace HXo : Hid (NewBox wr (w2.heap.size) [.slice (some ⟨bo, 0, none⟩) 3 3]) := HBO.out
   clear hxo hfo hko
   have hxo := HXo.out.2.1
   have hfo := HXo.out.2.2
   have hko := HXo.out.1
   replace HXf : Hid (NewBox wr (bo) [.string tx0, .string tx1, .string ByteArray.empty]) := HBF.out
   clear hxf hff hkf
   have hxf := HXf.out.2.1
   have hff := HXf.out.2.2
   have hkf := HXf.out.1
   replace HOT0 : Hid (Own wr (lo) (hi) (B0) (strs L0)) := HT0
   replace HOT1 : Hid (Own wr (lo) (hi) (B1) (strs L1)) := HT1
   replace HOT2 : Hid (Own wr (lo) (hi) (B2) (strs L2)) := HT2
   have hzz_wr : w.heap.size ≤ wr.heap.size := HB.out.size
   go_wp2
   go_wp2_with fail
   refine wp_named (fun w6 hw => ?_)
   have hz6 : wr.heap.size + 0 ≤ w6.heap.size := by rw [hw]; first | omega | (simp [World.setCell]; done) | (simp [World.setCell]; omega)
   have hzz6 : w.heap.size ≤ w6.heap.size := by omega
   have hbn : Below wr.heap.size wr w6 := by rw [hw]; exact (by ((repeat (first | ((with_reducible refine Below.alloc ?_ ?_ _); rotate_left 1; (focus (first | omega | (simp; done) | (simp; omega)))) | (with_reducible refine Below.drew ?_) | ((with_reducible refine Below.setCell ?_ ?_ _); rotate_left 1; (focus (first | omega | (simp; done) | (simp; omega)))))); exact Below.refl _ _))
   replace HB := Lib.hid (below_then HB.out hbn HB.out.size)
   replace HOT0 := Lib.hid (HOT0.out.below hbn)
   replace HOT1 := Lib.hid (HOT1.out.below hbn)
   replace HOT2 := Lib.hid (HOT2.out.below hbn)
   replace HXr := Lib.hid (HXr.out.below hbn)
   clear hxr hfr hkr
   have hxr := HXr.out.2.1
   have hfr := HXr.out.2.2
   have hkr := HXr.out.1
   replace HXf := Lib.hid (HXf.out.below hbn)
   clear hxf hff hkf
   have hxf := HXf.out.2.1
   have hff := HXf.out.2.2
   have hkf := HXf.out.1
   replace HXo := Lib.hid (HXo.out.below hbn)
   clear hxo hfo hko
   have hxo := HXo.out.2.1
   have hfo := HXo.out.2.2
   have hko := HXo.out.1
   clear hbn
   clear hw
   obtain ⟨F, HF⟩ : ∃ F : Facts, Hid (F = fun iq xq tqs dsq uq => match iq with
    | 0 => xq.v = .pointer (some ⟨(w2.heap.size), 0, none⟩)
    | 1 => xq.v = .slice (some ⟨bo, 0, none⟩) 3 3
    | 2 => xq.v = .int .i64 2
    | 3 => xq.v = .slice B2 nr d2
    | 4 => xq.v = .tuple #[.string tx2, .bool tk2]
    | 5 => xq.v = .tuple #[.string tx2, .bool tk2]
    | 6 => xq.v = .string tx2
    | 7 => xq.v = .bool tk2
    | 8 => xq.v = .pointer (some ⟨bo, 2, none⟩)
    | 9 => NewBox uq (bo) [.string tx0, .string tx1, .string tx2]
    | _ => False) := ⟨_, rfl⟩
   refine wp_region_facts [[], [], [], [], [], [], [], [], [], []] [[], [], [], [], [], [], [], [], [], []] [some 14, some 15, some 16, some 17, some 18, some 13, some 19, some 20, some 21, none] (some 9) (bo) (bo + 1) (.inr (by omega)) F (by kernel_rfl) (by kernel_rfl) (by kernel_rfl) ?_ ⟨?_, ?_, ?_, ?_, ?_, ?_, ?_, ?_, ?_, ?_, trivial⟩ ?_
   ·rw [HF.out]; intro iq xq tqs dsq uq u' hi hf hs hW hx hbk
    have kx : ∀ b, xq.s ≤ b → b < xq.e → u'.heap[b]? = uq.heap[b]? := fun b h1 h2 => hbk b (.inr (.inl ⟨h1, h2⟩))
    have kt : ∀ t ∈ tqs, ∀ b, t.s ≤ b → b < t.e → u'.heap[b]? = uq.heap[b]? := fun t ht b h1 h2 => hbk b (.inr (.inr ⟨t, ht, h1, h2⟩))
    match iq with
    | 0 => exact hf
    | 1 => exact hf
    | 2 => exact hf
    | 3 => exact hf
    | 4 => exact hf
    | 5 => exact hf
    | 6 => exact hf
    | 7 => exact hf
    | 8 => exact hf
    | 9 => exact NewBox.keep hf hs (hbk _ (.inl ⟨hkf, .inr (.inr rfl)⟩))
   ·intro gh ρ u hc hf1 hg1 hd h0 hb he ha hF
    have r3 : ρ (.tmp 3) = .pointer (some ⟨w2.heap.size, 0, none⟩) := (h0 3 (by decide +kernel)).trans rfl
    clear  hd h0 he ha hF
    go_simp
    rw [HF.out]
    exact ⟨OnlyL.refl _ _, rfl⟩
   ·intro gh ρ u hc hf1 hg1 hd h0 hb he ha hF
    first | (replace hb : Below w6.heap.size w6 u := hb.drew.below (by decide +kernel)) | (replace hb : Only (bo) (bo + 1) w6 u := hb.drew.only)
    have hbz : w6.heap.size ≤ u.heap.size := hb.size
    have r14 : ρ (.tmp 14) = .pointer (some ⟨(w2.heap.size), 0, none⟩) := by have h := hF 0 (by decide +kernel) (by decide +kernel); rw [HF.out] at h; exact (hd 0 (by decide +kernel) 14 (by kernel_rfl)).trans h
    have q_o : ∀ o, u.cell? ⟨w2.heap.size, o, none⟩ = [.slice (some ⟨bo, 0, none⟩) 3 3][o]? := by first | exact (HXo.out.below hb).2.1 | exact (HXo.out.only hb (by omega)).2.1
    have k_o : w2.heap.size < u.heap.size := by have := HXo.out.1; omega
    clear  hd h0 he ha hF
    go_simp
    rw [HF.out]
    exact ⟨OnlyL.refl _ _, rfl⟩
   ·intro gh ρ u hc hf1 hg1 hd h0 hb he ha hF
    have r4 : ρ (.tmp 4) = .int .i64 2 := (h0 4 (by decide +kernel)).trans rfl
    clear  hd h0 he ha hF
    go_simp
    rw [HF.out]
    exact ⟨OnlyL.refl _ _, rfl⟩
   ·intro gh ρ u hc hf1 hg1 hd h0 hb he ha hF
    have r5 : ρ (.tmp 5) = .slice B2 nr d2 := (h0 5 (by decide +kernel)).trans rfl
    clear  hd h0 he ha hF
    go_simp
    rw [HF.out]
    exact ⟨OnlyL.refl _ _, rfl⟩
   ·intro gh ρ u hc hf1 hg1 hd h0 hb he ha hF
    first | (replace hb : Below w6.heap.size w6 u := hb.drew.below (by decide +kernel)) | (replace hb : Only (bo) (bo + 1) w6 u := hb.drew.only)
    have hbz : w6.heap.size ≤ u.heap.size := hb.size
    have r17 : ρ (.tmp 17) = .slice B2 nr d2 := by have h := hF 3 (by decide +kernel) (by decide +kernel); rw [HF.out] at h; exact (hd 3 (by decide +kernel) 17 (by kernel_rfl)).trans h
    clear  hd h0 he ha hF
    go_simp
    have q_o := (HXo.out.below hb)
    refine (HF2.out _ _ _ (HOT2.out.rd.below hb).base).mono ?_
    rintro e u1 ⟨rfl, hb1⟩
    rw [HF.out]
    exact ⟨_, rfl, OnlyL.of_below hb1, rfl⟩
   ·intro gh ρ u hc hf1 hg1 hd h0 hb he ha hF
    have r18 : ρ (.tmp 18) = .tuple #[.string tx2, .bool tk2] := by have h := hF 4 (by decide +kernel) (by decide +kernel); rw [HF.out] at h; exact (hd 4 (by decide +kernel) 18 (by kernel_rfl)).trans h
    clear  hd h0 he ha hF
    go_simp
    rw [HF.out]
    exact ⟨OnlyL.refl _ _, rfl⟩
   ·intro gh ρ u hc hf1 hg1 hd h0 hb he ha hF
    have r13 : ρ (.tmp 13) = .tuple #[.string tx2, .bool tk2] := by have h := hF 5 (by decide +kernel) (by decide +kernel); rw [HF.out] at h; exact (hd 5 (by decide +kernel) 13 (by kernel_rfl)).trans h
    clear  hd h0 he ha hF
    go_simp
    rw [HF.out]
    exact ⟨OnlyL.refl _ _, rfl⟩
   ·intro gh ρ u hc hf1 hg1 hd h0 hb he ha hF
    have r13 : ρ (.tmp 13) = .tuple #[.string tx2, .bool tk2] := by have h := hF 5 (by decide +kernel) (by decide +kernel); rw [HF.out] at h; exact (hd 5 (by decide +kernel) 13 (by kernel_rfl)).trans h
    clear  hd h0 he ha hF
    go_simp
    rw [HF.out]
    exact ⟨OnlyL.refl _ _, rfl⟩
   ·intro gh ρ u hc hf1 hg1 hd h0 hb he ha hF
    have r15 : ρ (.tmp 15) = .slice (some ⟨bo, 0, none⟩) 3 3 := by have h := hF 1 (by decide +kernel) (by decide +kernel); rw [HF.out] at h; exact (hd 1 (by decide +kernel) 15 (by kernel_rfl)).trans h
    have r16 : ρ (.tmp 16) = .int .i64 2 := by have h := hF 2 (by decide +kernel) (by decide +kernel); rw [HF.out] at h; exact (hd 2 (by decide +kernel) 16 (by kernel_rfl)).trans h
    clear  hd h0 he ha hF
    go_simp
    rw [HF.out]
    exact ⟨OnlyL.refl _ _, rfl⟩
   ·intro gh ρ u hc hf1 hg1 hd h0 hb he ha hF
    first | (replace hb : Below w6.heap.size w6 u := hb.drew.below (by decide +kernel)) | (replace hb : Only (bo) (bo + 1) w6 u := hb.drew.only)
    have hbz : w6.heap.size ≤ u.heap.size := hb.size
    have r21 : ρ (.tmp 21) = .pointer (some ⟨bo, 2, none⟩) := by have h := hF 8 (by decide +kernel) (by decide +kernel); rw [HF.out] at h; exact (hd 8 (by decide +kernel) 21 (by kernel_rfl)).trans h
    have r19 : ρ (.tmp 19) = .string tx2 := by have h := hF 6 (by decide +kernel) (by decide +kernel); rw [HF.out] at h; exact (hd 6 (by decide +kernel) 19 (by kernel_rfl)).trans h
    obtain ⟨hzk, hzc, hzf⟩ := HXf.out.below hb
    clear  hd h0 he ha hF
    go_simp
    rw [HF.out]
    refine ⟨?_, ?_⟩
    ·refine OnlyL.of_z (lo := bo) (hi := bo + 1) ?_ rfl; refine Only.setCell ?_ (by exact Nat.le_refl _) (by exact Nat.lt_succ_self _) _; exact Only.refl _ _ _
    ·show NewBox _ (bo) _
     exact ⟨by simpa [World.setCell] using hzk, fun o => by rcases o with _ | _ | _ | o <;> go_simp, fun o => by go_simp⟩
   intro gh w7 hB hE hA hF
   replace hB : Only (bo) (bo + 1) w6 w7 := hB.only
   have f0 : (gh 0).v = .pointer (some ⟨(w2.heap.size), 0, none⟩) := by have h := hF 0 (by decide +kernel) (by decide +kernel); rw [HF.out] at h; exact h
   have f1 : (gh 1).v = .slice (some ⟨bo, 0, none⟩) 3 3 := by have h := hF 1 (by decide +kernel) (by decide +kernel); rw [HF.out] at h; exact h
   have f2 : (gh 2).v = .int .i64 2 := by have h := hF 2 (by decide +kernel) (by decide +kernel); rw [HF.out] at h; exact h
   have f3 : (gh 3).v = .slice B2 nr d2 := by have h := hF 3 (by decide +kernel) (by decide +kernel); rw [HF.out] at h; exact h
   have f4 : (gh 4).v = .tuple #[.string tx2, .bool tk2] := by have h := hF 4 (by decide +kernel) (by decide +kernel); rw [HF.out] at h; exact h
   have f5 : (gh 5).v = .tuple #[.string tx2, .bool tk2] := by have h := hF 5 (by decide +kernel) (by decide +kernel); rw [HF.out] at h; exact h
   have f6 : (gh 6).v = .string tx2 := by have h := hF 6 (by decide +kernel) (by decide +kernel); rw [HF.out] at h; exact h
   have f7 : (gh 7).v = .bool tk2 := by have h := hF 7 (by decide +kernel) (by decide +kernel); rw [HF.out] at h; exact h
   have f8 : (gh 8).v = .pointer (some ⟨bo, 2, none⟩) := by have h := hF 8 (by decide +kernel) (by decide +kernel); rw [HF.out] at h; exact h
   have f9 : NewBox w7 (bo) [.string tx0, .string tx1, .string tx2] := by have h := hF 9 (by decide +kernel) (by decide +kernel); rw [HF.out] at h; exact h
   have hv4 := f4
   have hv0 := f0
   have hv1 := f1
   have hv2 := f2
   have hv3 := f3
   have hv5 := f5
   have hv6 := f6
   have hv7 := f7
   have hv8 := f8
   have hx9 := f9
   clear hE hA hF
   simp only [putDs, Nat.reduceAdd, hv0, hv1, hv2, hv3, hv4, hv5, hv6, hv7, hv8]
   clear hv0 hv1 hv2 hv3 hv4 hv5 hv6 hv7 hv8
   clear HF
   have hb := hB
   clear hB
   have hzw7 : w6.heap.size ≤ w7.heap.size := hb.size
   have hzzw7 : w.heap.size ≤ w7.heap.size := by omega
   replace HB := Lib.hid (below_only HB.out hb (by omega) HB.out.size)
   replace HOT0 := Lib.hid (HOT0.out.only hb (by first | omega | (simp; omega)))
   replace HOT1 := Lib.hid (HOT1.out.only hb (by first | omega | (simp; omega)))
   replace HOT2 := Lib.hid (HOT2.out.only hb (by first | omega | (simp; omega)))
   replace HXr := Lib.hid (HXr.out.only hb (by first | omega | (simp; omega)))
   clear hxr hfr hkr
   have hxr := HXr.out.2.1
   have hfr := HXr.out.2.2
   have hkr := HXr.out.1
   clear hxf hff hkf HXf
   replace HXo := Lib.hid (HXo.out.only hb (by first | omega | (simp; omega)))
   clear hxo hfo hko
   have hxo := HXo.out.2.1
   have hfo := HXo.out.2.2
   have hko := HXo.out.1
   clear hb
   have HXf : Hid (NewBox w7 (bo) [.string tx0, .string tx1, .string tx2]) := hx9
   have hxf := HXf.out.2.1
   have hff := HXf.out.2.2
   have hkf := HXf.out.1
   clear hx9
   go_wp2
   go_roundw
   case rel => exact ⟨3, by omega, by go_num, HXr.out, HXo.out, HXf.out, HOT0.out, HOT1.out, HOT2.out, HB.out, by omega⟩
   case measure => simp [intOf]
  ·skip
   replace HB : Hid (Below w.heap.size w wr) := HBL.out
   replace HXr : Hid (NewBox wr (w.heap.size) [.slice none 0 0]) := HBR.out
   clear hxr hfr hkr
   have hxr := HXr.out.2.1
   have hfr := HXr.out.2.2
   have hkr := HXr.out.1
   replace HXo : Hid (NewBox wr (w2.heap.size) [.slice (some ⟨bo, 0, none⟩) 3 3]) := HBO.out
   clear hxo hfo hko
   have hxo := HXo.out.2.1
   have hfo := HXo.out.2.2
   have hko := HXo.out.1
   replace HXf : Hid (NewBox wr (bo) [.string tx0, .string tx1, .string tx2]) := HBF.out
   clear hxf hff hkf
   have hxf := HXf.out.2.1
   have hff := HXf.out.2.2
   have hkf := HXf.out.1
   replace HOT0 : Hid (Own wr (lo) (hi) (B0) (strs L0)) := HT0
   replace HOT1 : Hid (Own wr (lo) (hi) (B1) (strs L1)) := HT1
   replace HOT2 : Hid (Own wr (lo) (hi) (B2) (strs L2)) := HT2
   have hzz_wr : w.heap.size ≤ wr.heap.size := HB.out.size
   go_wp2
   refine bodyPost_named (fun w6 hw => ?_)
   have hz6 : wr.heap.size + 0 ≤ w6.heap.size := by rw [hw]; first | omega | (simp [World.setCell]; done) | (simp [World.setCell]; omega)
   have hzz6 : w.heap.size ≤ w6.heap.size := by omega
   replace HB : Hid (Below w.heap.size w w6) := by rw [Hid, hw]; exact (by ((repeat (first | ((with_reducible refine Below.alloc ?_ ?_ _); rotate_left 1; (focus (first | omega | (simp; done) | (simp; omega)))) | (with_reducible refine Below.drew ?_) | ((with_reducible refine Below.setCell ?_ ?_ _); rotate_left 1; (focus (first | omega | (simp; done) | (simp; omega)))))); exact HB.out))
   replace HOT0 : Hid (Own w6 (lo) (hi) (B0) (strs L0)) := by rw [Hid, hw]; (repeat (first | (with_reducible refine Own.alloc ?_ _) | (with_reducible refine Own.drew ?_) | ((with_reducible refine Own.setCell ?_ ?_ _); rotate_left 1; (focus (first | omega | (simp; done) | (simp; omega)))))); exact HOT0.out
   replace HOT1 : Hid (Own w6 (lo) (hi) (B1) (strs L1)) := by rw [Hid, hw]; (repeat (first | (with_reducible refine Own.alloc ?_ _) | (with_reducible refine Own.drew ?_) | ((with_reducible refine Own.setCell ?_ ?_ _); rotate_left 1; (focus (first | omega | (simp; done) | (simp; omega)))))); exact HOT1.out
   replace HOT2 : Hid (Own w6 (lo) (hi) (B2) (strs L2)) := by rw [Hid, hw]; (repeat (first | (with_reducible refine Own.alloc ?_ _) | (with_reducible refine Own.drew ?_) | ((with_reducible refine Own.setCell ?_ ?_ _); rotate_left 1; (focus (first | omega | (simp; done) | (simp; omega)))))); exact HOT2.out
   replace HXr : Hid (NewBox w6 (w.heap.size) [.slice (some ⟨bo, 0, none⟩) 3 3]) := by rw [Hid, hw]; apply NewBox.cast; (focus ((repeat (first | (with_reducible apply NewBox.alloc) | (with_reducible apply NewBox.drew) | (with_reducible apply NewBox.set1) | ((with_reducible apply NewBox.far); (focus (first | omega | (simp; done) | (simp; omega)))))); exact HXr.out)); rfl
   clear hxr hfr hkr
   have hxr := HXr.out.2.1
   have hfr := HXr.out.2.2
   have hkr := HXr.out.1
   replace HXf : Hid (NewBox w6 (bo) [.string tx0, .string tx1, .string tx2]) := by rw [Hid, hw]; (repeat (first | (with_reducible refine NewBox.alloc ?_ _) | (with_reducible refine NewBox.drew ?_) | ((with_reducible refine NewBox.setCell ?_ ?_ _); rotate_left 1; (focus (first | omega | (simp; done) | (simp; omega)))))); exact HXf.out
   clear hxf hff hkf
   have hxf := HXf.out.2.1
   have hff := HXf.out.2.2
   have hkf := HXf.out.1
   replace HXo : Hid (NewBox w6 (w2.heap.size) [.slice (some ⟨bo, 0, none⟩) 3 3]) := by rw [Hid, hw]; (repeat (first | (with_reducible refine NewBox.alloc ?_ _) | (with_reducible refine NewBox.drew ?_) | ((with_reducible refine NewBox.setCell ?_ ?_ _); rotate_left 1; (focus (first | omega | (simp; done) | (simp; omega)))))); exact HXo.out
   clear hxo hfo hko
   have hxo := HXo.out.2.1
   have hfo := HXo.out.2.2
   have hko := HXo.out.1
   clear hw
   refine bodyPost_ret (v := .agg #[.slice (some ⟨bo, 0, none⟩) 3 3]) (by simp [results, Tryz.results58, go_sem, hxr]) rfl ?_
   exact ⟨_, _, rfl, box_own HXf.out (by omega) (by omega) (Nat.le_refl _), HB.out⟩
end Go.Proofs.YtmmepogjocfefaaGreat
