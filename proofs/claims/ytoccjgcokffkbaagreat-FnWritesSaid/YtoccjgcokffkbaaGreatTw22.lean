/- Part 22 of the proof of FnWrites: lemmas and contracts. -/
import Derived.Test.YtoccjgcokffkbaaGreatTw21
namespace Go.Proofs.YtoccjgcokffkbaaGreat
set_option linter.unusedVariables false
set_option linter.unusedSimpArgs false
set_option maxHeartbeats 20000000
set_option maxRecDepth 100000
section
open Go.RowKit
def aW (width : Int) (es : List Ent) (rs : List Rcp) (hs : List Hd) (f : Nat) : List ByteArray := if f = 0 then es.map aI else if f = 1 then (hs.drop 1).map (aL width) else rs.map aK
def dU (width : Int) (es : List Ent) (rs : List Rcp) (hs : List Hd) : List ByteArray := [bq (aW width es rs hs 0), bq (aW width es rs hs 1), bq (aW width es rs hs 2)]
theorem bulkS_le {m : Nat} : ∀ {l : List ByteArray}, (∀ s ∈ l, s.size ≤ m) → bulkS l ≤ l.length * m
 | [], _ => Nat.zero_le _
 | s :: l, h => by
   have h1 := h s List.mem_cons_self
   have h2 := bulkS_le (l := l) (fun t ht => h t (List.mem_cons_of_mem _ ht))
   rw [bulkS, List.length_cons, Nat.add_mul]
   omega
theorem fileL_le {width : Int} {es : List Ent} {rs : List Rcp} {hs : List Hd} (b1 : es.length ≤ 1000) (b2 : rs.length ≤ 1000) (b3 : hs.length ≤ 1000) (f : Nat) : (aW width es rs hs f).length + bulkS (aW width es rs hs f) ≤ 1048576 := by
 have hall : (aW width es rs hs f).length ≤ 1000 ∧ ∀ s ∈ aW width es rs hs f, s.size ≤ 480 := by
  unfold aW
  split
  ·exact ⟨by rw [List.length_map]; exact b1, fun s hs => by obtain ⟨x, _, rfl⟩ := List.mem_map.1 hs; exact dJ x⟩
  split
  ·exact ⟨by rw [List.length_map, List.length_drop]; omega, fun s hs => by obtain ⟨x, _, rfl⟩ := List.mem_map.1 hs; exact Nat.le_trans (il width x) (by omega)⟩
  exact ⟨by rw [List.length_map]; exact b2, fun s hs => by obtain ⟨x, _, rfl⟩ := List.mem_map.1 hs; exact Nat.le_trans (dV x) (by omega)⟩
 have h2 := bulkS_le hall.2
 have h3 := Nat.mul_le_mul_right 480 hall.1
 omega
def cutH (A : Option Addr) (g : Nat) : Option Addr := if g = 1 then A else A.map (fun a => a.add 5)
theorem slice_hd1 (A : Option Addr) (k g : Nat) (h1 : 1 ≤ k) (h2 : k ≤ g) (W : World) : (Instr.slice 28 (.slice A k g) (some (.int .i64 1)) none none).run Tryz.prog W = .ok (.slice (cutH A g) (k - 1) (g - 1)) W := by
 have hu := Tryz.underlying28
 obtain ⟨i0, hi0, hz0, hz1, hz2⟩ := info_parts info_Head
 simp only [cutH]
 have h3 : ¬ ((k : Int) < 1) := by omega
 simp [Instr.slice, run_underlying hu, Instr.sliceBounds, run_sliceBound, h1, h2, h3, go_sem, sizeOf, typeInfo, hi0, hz1]
theorem idxArr (a b c : Value) (W : World) : (Instr.index 146 (.agg #[a, b, c]) (.int .i64 0)).run Tryz.prog W = .ok a W ∧ (Instr.index 146 (.agg #[a, b, c]) (.int .i64 1)).run Tryz.prog W = .ok b W ∧ (Instr.index 146 (.agg #[a, b, c]) (.int .i64 2)).run Tryz.prog W = .ok c W := ⟨by kernel_rfl, by kernel_rfl, by kernel_rfl⟩
theorem cutH_rd {w : World} {lo hi : Nat} {A : Option Addr} {L : List Hd} (h : Rd w lo hi A (hds L)) (g : Nat) (hg : L.length ≤ g) : Rd w lo hi (cutH A g) (hds (L.drop 1)) := by
 rw [cutH]
 split
 ·rename_i e
  rw [List.drop_of_length_le (by omega)]
  exact Rd.nil
 rcases L with _ | ⟨x, L⟩
 ·exact Rd.nil
 obtain ⟨b, off, e, h1, h2, h3, h4⟩ := h (by simp [hds, Hd.cells])
 cases e
 intro _
 refine ⟨b, off + 5, by rw [Option.map_some, Addr.add_lit], h1, h2, h3, fun j u hj => ?_⟩
 have := h4 (5 + j) u (by
  rw [show hds (x :: L) = x.cells ++ hds L from by simp [hds]]
  rw [List.getElem?_append_right (by simp [Hd.cells])]
  simpa [Hd.cells] using hj)
 rw [← this, Nat.add_assoc]
theorem texts_c (width z1 z2 : Int) (p : Nat) (E R H A1 A2 : Option Addr) (ne nr nh ce cr ch c1 c2 lo1 hi1 lo2 hi2 lo3 hi3 m1 m2 : Nat) (es : List Ent) (rs : List Rcp) (hs : List Hd) (h : Hd) (w : World) (hbx : aa w p [.int .i64 width, .slice E ne ce, .slice R nr cr, .slice H nh ch, .int .i64 z1, .slice A1 m1 c1, .int .i64 z2, .slice A2 m2 c2, .int .i64 h.num, .int .i64 h.size, .string h.root, .int .i64 h.taken, .string h.troot])
  (hE : Rd w lo1 hi1 E (aQ es)) (hR : Rd w lo2 hi2 R (bf rs)) (hH : Rd w lo3 hi3 H (hds hs)) (hne : es.length = ne) (hnr : rs.length = nr) (hnh : hs.length = nh) (b1 : ne ≤ 1000) (b2 : nr ≤ 1000) (b3 : nh ≤ 1000) (hpos : 1 ≤ nh) (hch : nh ≤ ch) (hfe : ∀ x ∈ es, x.fits) (hfr : ∀ x ∈ rs, x.fits) (hfh : ∀ x ∈ hs, x.bulk ≤ 1048576) :
  Calls Tryz.prog 94 #[.pointer (some ⟨p, 0, none⟩)] w fun e w' => ∃ B0 d0 B1 d1 B2 d2, e = .returned (.agg #[.slice B0 ne d0, .slice B1 (nh - 1) d1, .slice B2 nr d2]) ∧ (Own w' w.heap.size w'.heap.size B0 (strs (aW width es rs hs 0)) ∧ Own w' w.heap.size w'.heap.size B1 (strs (aW width es rs hs 1)) ∧ Own w' w.heap.size w'.heap.size B2 (strs (aW width es rs hs 2))) ∧ Below w.heap.size w w' := by
 have hsl := slice_hd1 H nh ch hpos hch
 have hT := cutH_rd hH ch (by omega)
 have HF0 := lH hfe
 have HF2 := lH hfr
 have HF1 : Hid (∀ x ∈ hs.drop 1, x.bulk ≤ 1048576) := lH (fun x hx => hfh x (List.mem_of_mem_drop hx))
 obtain ⟨L0, hL0⟩ : ∃ L, L = es.map aI := ⟨_, rfl⟩
 obtain ⟨L1, hL1⟩ : ∃ L, L = (hs.drop 1).map (aL width) := ⟨_, rfl⟩
 obtain ⟨L2, hL2⟩ : ∃ L, L = rs.map aK := ⟨_, rfl⟩
 rw [show aW width es rs hs 0 = L0 from hL0.symm, show aW width es rs hs 1 = L1 from hL1.symm, show aW width es rs hs 2 = L2 from hL2.symm]
 have HL0 := lH hL0
 have HL1 := lH hL1
 have HL2 := lH hL2
 have HN0 := lH hne
 have HN2 := lH hnr
 have HN1 : Hid ((hs.drop 1).length = nh - 1) := lH (by rw [List.length_drop, hnh])
 generalize hs.drop 1 = hs1 at *
 generalize cutH H ch = H1 at *
 obtain ⟨nh1, hnh1⟩ : ∃ n, n = nh - 1 := ⟨_, rfl⟩
 rw [← hnh1] at hsl HN1
 rw [← hnh1]
 have hnl : nh1 ≤ 1000 := by omega
 have HBX := lH hbx
 have HE0 := lH hE.base
 have HR0 := lH hR.base
 have HT0 := lH hT.base
 have hpw : p < w.heap.size := hbx.1
 have HB : Hid (Below w.heap.size w w) := Below.refl _ _
 replace HB : Hid (Below w.heap.size w w) := (Below.refl _ _)
 have HXb : Hid (aa w (p) [.int .i64 width, .slice E ne ce, .slice R nr cr, .slice H nh ch, .int .i64 z1, .slice A1 m1 c1, .int .i64 z2, .slice A2 m2 c2, .int .i64 h.num, .int .i64 h.size, .string h.root, .int .i64 h.taken, .string h.troot]) := HBX.out
 obtain ⟨hkb, hxb, hfb⟩ := HXb.out
 clear hE hR hH hT hne hnr hnh hpos hch hfe hfr hfh hL0 hL1 hL2 hbx hnh1
 go_enter Tryz.func94, Tryz.ntmps94
 go_wp2
 refine aC (fun w1 hw => ?_)
 have hz1 : w.heap.size + 2 ≤ w1.heap.size := zA
 have hbn : Below w.heap.size w w1 := zB
 replace HB := bT HB hbn
 replace HXb := nB HXb hbn
 clear hxb hfb hkb
 obtain ⟨hkb, hxb, hfb⟩ := HXb.out
 clear hbn
 have HXr : Hid (aa w1 (w.heap.size) [.slice none 0 0, .slice none 0 0, .slice none 0 0]) := zG3
 obtain ⟨hkr, hxr, hfr⟩ := HXr.out
 have HXo : Hid (aa w1 (w.heap.size + 1) [.slice none 0 0, .slice none 0 0, .slice none 0 0]) := zG3
 obtain ⟨hko, hxo, hfo⟩ := HXo.out
 clear hw
 obtain ⟨lo0, hlo0, hle0⟩ : ∃ n, w.heap.size + 2 ≤ n ∧ n ≤ w.heap.size + 2 := ⟨_, Nat.le_refl _, Nat.le_refl _⟩
 go_loopw [22] (fun i wr => ∃ (k : Nat) (X0 : Option Addr) (g0 : Nat), k ≤ ne ∧ i = .int .i64 k ∧ aa wr ((w.heap.size)) [.slice none 0 0, .slice none 0 0, .slice none 0 0] ∧ aa wr ((w.heap.size + 1)) [.slice X0 k g0, .slice none 0 0, .slice none 0 0] ∧ aU wr lo0 wr.heap.size (.slice X0 k g0, k) (strs (L0.take k)) ∧ Below w.heap.size w wr ∧ w1.heap.size ≤ wr.heap.size) (fun i _ => ne - (intOf i).toNat)
 case atStart => exact ⟨0, none, 0, Nat.zero_le _, rfl, HXr.out, HXo.out, (aU.of (World.ownsRow_nil _ _ _ _)).mono (by omega) (Nat.le_refl _), HB.out, Nat.le_refl _⟩
 case round =>
  obtain ⟨k, X0, g0, hk, rfl, hbr, hbo, hrw, hbl, hzl⟩ := hrel
  have HBL := lH hbl
  replace HB : Hid (Below w.heap.size w wr) := HBL.out
  replace HXr : Hid (aa wr (w.heap.size) [.slice none 0 0, .slice none 0 0, .slice none 0 0]) := hbr
  clear hxr hfr hkr; obtain ⟨hkr, hxr, hfr⟩ := HXr.out
  replace HXo : Hid (aa wr (w.heap.size + 1) [.slice X0 k g0, .slice none 0 0, .slice none 0 0]) := hbo
  clear hxo hfo hko; obtain ⟨hko, hxo, hfo⟩ := HXo.out; replace HXb := lH (HBX.out.below HBL.out); clear hxb hfb hkb; obtain ⟨hkb, hxb, hfb⟩ := HXb.out
  have HOA : Hid (aU wr (lo0) (wr.heap.size) (.slice X0 k g0, k) (strs (L0.take k))) := lH hrw
  have HOE := lH (HE0.out.below HBL.out)
  have hzz_wr : w.heap.size ≤ wr.heap.size := HB.out.size
  clear hbr hbo hrw hbl
  by_cases hlt : k < ne
  ·skip
   obtain ⟨b2, off, x, rfl, hb2, hks, hcs⟩ := ent_cells HOE.out (k := k) (by rw [HN0.out]; exact hlt)
   have c0' := hcs.1
   have c1' := hcs.2.1
   have c2' := hcs.2.2.1
   have c3' := hcs.2.2.2.1
   have c4' := hcs.2.2.2.2
   have HT : Hid (L0.take (k + 1) = L0.take k ++ [aI x]) := lH (bH (by rw [HL0.out, List.getElem?_map, hks]; rfl))
   have HX := lH (fun W => implLeafText_c x W (HF0.out x (List.mem_of_getElem? hks)))
   have hI : (k : Int) < ne := by omega
   clear hks hcs; generalize aI x = lt at *; generalize aY x = lk at *
   go_wp2_with fail
   refine af (fun w2 hw => ?_)
   have hz2 : wr.heap.size + 1 ≤ w2.heap.size := zA
   have hbn : Below wr.heap.size wr w2 := zB
   replace HB := bT HB hbn; replace HOA := lH (HOA.out.below hbn); replace HOE := lH (HOE.out.below hbn); replace HXb := nB HXb hbn; clear hxb hfb hkb; obtain ⟨hkb, hxb, hfb⟩ := HXb.out; replace HXr := nB HXr hbn; clear hxr hfr hkr; obtain ⟨hkr, hxr, hfr⟩ := HXr.out; replace HXo := nB HXo hbn; clear hxo hfo hko; obtain ⟨hko, hxo, hfo⟩ := HXo.out; clear hbn
   have HXe : Hid (aa w2 (wr.heap.size) [.string x.topic, .int .i64 x.index, .int .i64 x.time, .string x.key, .string x.body]) := zG5
   obtain ⟨hke, hxe, hfe⟩ := HXe.out; clear hw
   refine (HX.out _).mono ?_
   rintro e w3 ⟨rfl, hb⟩
   have hzw3 : w2.heap.size ≤ w3.heap.size := hb.size
   replace HB := bT HB hb; replace HOA := lH (HOA.out.below hb); replace HOE := lH (HOE.out.below hb); replace HXb := nB HXb hb; clear hxb hfb hkb; obtain ⟨hkb, hxb, hfb⟩ := HXb.out; replace HXr := nB HXr hb; clear hxr hfr hkr; obtain ⟨hkr, hxr, hfr⟩ := HXr.out; replace HXo := nB HXo hb; clear hxo hfo hko; obtain ⟨hko, hxo, hfo⟩ := HXo.out; replace HXe := nB HXe hb; clear hxe hfe hke; obtain ⟨hke, hxe, hfe⟩ := HXe.out
   clear hb; clear c0' c1' c2' c3' c4'; clear HOE; clear hxe hfe hke HXe
   go_wp2_with (at_builtin; refine gy rfl _ _ rfl lo0 _ _ _ rfl (HOA.out.1.alloc _) w3.heap.size lt rfl (aa.new w3 _ _) (by omega) (by first | omega | (simp; done) | (simp; omega)) ?_)
   intro v2 w2_ hown2 hg2
   obtain ⟨hrb, hon⟩ := rowB_app HOA.out.1 _ hown2 hg2
   obtain ⟨A2, g2, rfl, _, _, _⟩ := az hown2
   rw [← dZ, ← HT.out] at hrb
   have hzw2_ : w3.heap.size ≤ w2_.heap.size := hon.size
   replace HB := lH (au HB.out hon (by omega) HB.out.size)
   replace HXb := nO HXb hon
   clear hxb hfb hkb; obtain ⟨hkb, hxb, hfb⟩ := HXb.out
   replace HXr := nO HXr hon
   clear hxr hfr hkr; obtain ⟨hkr, hxr, hfr⟩ := HXr.out
   replace HXo := nO HXo hon
   clear hxo hfo hko; obtain ⟨hko, hxo, hfo⟩ := HXo.out; clear HOA
   have HOA : Hid (aU w2_ (lo0) (w2_.heap.size) (.slice A2 (k + 1) g2, k + 1) (strs (L0.take (k + 1)))) := lH hrb
   clear hown2 hg2 hrb hon; go_wp2
   go_roundw
   case rel => exact ⟨k + 1, A2, g2, by omega, by go_num, (by (repeat first | with_reducible apply nA | with_reducible apply aa.drew | (with_reducible refine nC _ ?_ ?_; (focus (first | omega | simp <;> omega)))); exact HXr.out), (by exact ⟨by first | omega | simp [World.setCell] <;> omega, fun o => by rcases o with _ | _ | _ | o <;> go_simp, fun o => by go_simp⟩), ((by (repeat (first | (with_reducible refine aU.alloc ?_ _) | (with_reducible refine aU.drew ?_) | ((with_reducible refine aU.setCell ?_ ?_ _); rotate_left 1; (focus (first | omega | simp <;> omega))))); exact HOA.out) : aU _ lo0 w2_.heap.size _ _).mono (Nat.le_refl _) (by first | omega | simp [World.setCell] <;> omega), (by ((repeat first | with_reducible apply bA | with_reducible apply bD | (with_reducible refine bS ?_ ?_; (focus (first | omega | simp <;> omega)))); exact HB.out)), (by first | omega | simp [World.setCell] <;> omega)⟩
   case measure => simp [intOf]; omega
  obtain rfl : ne = k := by omega
  obtain ⟨lo1, hlo1, hle1⟩ : ∃ n, wr.heap.size ≤ n ∧ n ≤ wr.heap.size := ⟨_, Nat.le_refl _, Nat.le_refl _⟩
  have HXX := lH (HOA.out.mono (Nat.le_refl _) hlo1)
  rw [show L0.take ne = L0 from List.take_of_length_le (by rw [HL0.out, List.length_map, HN0.out]; exact Nat.le_refl _)] at HXX
  clear HOA; clear HOE
  replace HXo : Hid (aa wr (w.heap.size + 1) [.slice X0 ne g0, .slice none 0 0, .slice none 0 0]) := HXo.out
  clear hxo hfo hko; obtain ⟨hko, hxo, hfo⟩ := HXo.out
  have HOX0 : Hid (aU wr (lo0) (lo1) (.slice X0 ne g0, ne) (strs L0)) := HXX
  clear HXX; go_wp2
  refine aC (fun w2 hw => ?_)
  have hz2 : wr.heap.size + 0 ≤ w2.heap.size := zA
  have hbn : Below wr.heap.size wr w2 := zB
  replace HB := bT HB hbn; replace HOX0 := lH (HOX0.out.below hbn); replace HXb := nB HXb hbn; clear hxb hfb hkb; obtain ⟨hkb, hxb, hfb⟩ := HXb.out; replace HXr := nB HXr hbn; clear hxr hfr hkr; obtain ⟨hkr, hxr, hfr⟩ := HXr.out; replace HXo := nB HXo hbn; clear hxo hfo hko; obtain ⟨hko, hxo, hfo⟩ := HXo.out; clear hbn; clear hw
  go_loopw [44] (fun i wr => ∃ (k : Nat) (X1 : Option Addr) (g1 : Nat), k ≤ nh1 ∧ i = .int .i64 k ∧ aa wr ((w.heap.size)) [.slice none 0 0, .slice none 0 0, .slice none 0 0] ∧ aa wr ((w.heap.size + 1)) [.slice X0 ne g0, .slice X1 k g1, .slice none 0 0] ∧ aU wr lo0 lo1 (.slice X0 ne g0, ne) (strs L0) ∧ aU wr lo1 wr.heap.size (.slice X1 k g1, k) (strs (L1.take k)) ∧ Below w.heap.size w wr ∧ w2.heap.size ≤ wr.heap.size) (fun i _ => nh1 - (intOf i).toNat)
  case atStart => exact ⟨0, none, 0, Nat.zero_le _, rfl, HXr.out, HXo.out, HOX0.out, (aU.of (World.ownsRow_nil _ _ _ _)).mono (by omega) (Nat.le_refl _), HB.out, Nat.le_refl _⟩
  case round =>
   obtain ⟨k, X1, g1, hk, rfl, hbr, hbo, hr0, hrw, hbl, hzl⟩ := hrel
   have HBL := lH hbl
   replace HB : Hid (Below w.heap.size w wr) := HBL.out
   replace HXr : Hid (aa wr (w.heap.size) [.slice none 0 0, .slice none 0 0, .slice none 0 0]) := hbr
   clear hxr hfr hkr; obtain ⟨hkr, hxr, hfr⟩ := HXr.out
   replace HXo : Hid (aa wr (w.heap.size + 1) [.slice X0 ne g0, .slice X1 k g1, .slice none 0 0]) := hbo
   clear hxo hfo hko; obtain ⟨hko, hxo, hfo⟩ := HXo.out; replace HXb := lH (HBX.out.below HBL.out); clear hxb hfb hkb; obtain ⟨hkb, hxb, hfb⟩ := HXb.out
   replace HOX0 : Hid (aU wr (lo0) (lo1) (.slice X0 ne g0, ne) (strs L0)) := lH hr0
   have HOA : Hid (aU wr (lo1) (wr.heap.size) (.slice X1 k g1, k) (strs (L1.take k))) := lH hrw
   have HOT := lH (HT0.out.below HBL.out)
   have hzz_wr : w.heap.size ≤ wr.heap.size := HB.out.size
   clear hbr hbo hrw hbl hr0
   by_cases hlt : k < nh1
   ·skip
    obtain ⟨b2, off, x, rfl, hb2, hks, hcs⟩ := hd_cells HOT.out (k := k) (by rw [HN1.out]; exact hlt)
    have c0' := hcs.1
    have c1' := hcs.2.1
    have c2' := hcs.2.2.1
    have c3' := hcs.2.2.2.1
    have c4' := hcs.2.2.2.2
    have HT : Hid (L1.take (k + 1) = L1.take k ++ [aL width x]) := lH (bH (by rw [HL1.out, List.getElem?_map, hks]; rfl))
    have HX := lH (fun W => implHeadText_c width x W (HF1.out x (List.mem_of_getElem? hks)))
    have hI : (k : Int) < nh1 := by omega
    clear hks hcs; generalize aL width x = lt at *; generalize bE width x = lk at *
    go_wp2_with fail
    refine aC (fun w3 hw => ?_)
    have hz3 : wr.heap.size + 1 ≤ w3.heap.size := zA
    have hbn : Below wr.heap.size wr w3 := zB
    replace HB := bT HB hbn; replace HOX0 := lH (HOX0.out.below hbn); replace HOA := lH (HOA.out.below hbn); replace HOT := lH (HOT.out.below hbn); replace HXb := nB HXb hbn; clear hxb hfb hkb; obtain ⟨hkb, hxb, hfb⟩ := HXb.out; replace HXr := nB HXr hbn; clear hxr hfr hkr; obtain ⟨hkr, hxr, hfr⟩ := HXr.out; replace HXo := nB HXo hbn; clear hxo hfo hko; obtain ⟨hko, hxo, hfo⟩ := HXo.out; clear hbn
    have HXe : Hid (aa w3 (wr.heap.size) [.int .i64 x.num, .int .i64 x.size, .string x.root, .int .i64 x.taken, .string x.troot]) := zG5
    obtain ⟨hke, hxe, hfe⟩ := HXe.out; clear hw
    have lb : ∀ v : Later w3, v.v.cell? ⟨p, 0, none⟩ = some (.int .i64 width) := fun v => (ai v _ _ hkb).trans (hxb 0)
    have le0 : ∀ v : Later w3, v.v.cell? ⟨(wr.heap.size), 0, none⟩ = some (.int .i64 x.num) := fun v => (ai v _ _ hke).trans (hxe 0)
    have le1 : ∀ v : Later w3, v.v.cell? ⟨(wr.heap.size), 1, none⟩ = some (.int .i64 x.size) := fun v => (ai v _ _ hke).trans (hxe 1)
    have le2 : ∀ v : Later w3, v.v.cell? ⟨(wr.heap.size), 2, none⟩ = some (.string x.root) := fun v => (ai v _ _ hke).trans (hxe 2)
    have le3 : ∀ v : Later w3, v.v.cell? ⟨(wr.heap.size), 3, none⟩ = some (.int .i64 x.taken) := fun v => (ai v _ _ hke).trans (hxe 3)
    have le4 : ∀ v : Later w3, v.v.cell? ⟨(wr.heap.size), 4, none⟩ = some (.string x.troot) := fun v => (ai v _ _ hke).trans (hxe 4)
    refine aA (by kernel_rfl) (by kernel_rfl) ?_
    repeat (go_big_quiet_step ((first | with_reducible exact aD (HX.out _))))
    refine wpQuiet_nil ?_
    intro w9 h9
    have hb9 := aO h9
    clear lb le0 le1 le2 le3 le4 h9
    have hzw9 : w3.heap.size ≤ w9.heap.size := hb9.size
    replace HB := bT HB hb9; replace HOX0 := lH (HOX0.out.below hb9); replace HOA := lH (HOA.out.below hb9); replace HOT := lH (HOT.out.below hb9); replace HXb := nB HXb hb9; clear hxb hfb hkb; obtain ⟨hkb, hxb, hfb⟩ := HXb.out; replace HXr := nB HXr hb9; clear hxr hfr hkr; obtain ⟨hkr, hxr, hfr⟩ := HXr.out; replace HXo := nB HXo hb9; clear hxo hfo hko; obtain ⟨hko, hxo, hfo⟩ := HXo.out; replace HXe := nB HXe hb9
    clear hxe hfe hke; obtain ⟨hke, hxe, hfe⟩ := HXe.out; clear hb9; clear c0' c1' c2' c3' c4'; clear HOT; clear hxe hfe hke HXe
    go_wp2_with (at_builtin; refine gy rfl _ _ rfl lo1 _ _ _ rfl (HOA.out.1.alloc _) w9.heap.size lt rfl (aa.new w9 _ _) (by omega) (by first | omega | (simp; done) | (simp; omega)) ?_)
    intro v2 w2_ hown2 hg2
    obtain ⟨hrb, hon⟩ := rowB_app HOA.out.1 _ hown2 hg2
    obtain ⟨A2, g2, rfl, _, _, _⟩ := az hown2
    rw [← dZ, ← HT.out] at hrb
    have hzw2_ : w9.heap.size ≤ w2_.heap.size := hon.size
    replace HB := lH (au HB.out hon (by omega) HB.out.size)
    replace HOX0 := lH (HOX0.out.only hon (by first | omega | (simp; omega)))
    replace HXb := nO HXb hon
    clear hxb hfb hkb; obtain ⟨hkb, hxb, hfb⟩ := HXb.out
    replace HXr := nO HXr hon
    clear hxr hfr hkr; obtain ⟨hkr, hxr, hfr⟩ := HXr.out
    replace HXo := nO HXo hon
    clear hxo hfo hko; obtain ⟨hko, hxo, hfo⟩ := HXo.out; clear HOA
    have HOA : Hid (aU w2_ (lo1) (w2_.heap.size) (.slice A2 (k + 1) g2, k + 1) (strs (L1.take (k + 1)))) := lH hrb
    clear hown2 hg2 hrb hon; go_wp2
    go_roundw
    case rel => exact ⟨k + 1, A2, g2, by omega, by go_num, (by (repeat first | with_reducible apply nA | with_reducible apply aa.drew | (with_reducible refine nC _ ?_ ?_; (focus (first | omega | simp <;> omega)))); exact HXr.out), (by exact ⟨by first | omega | simp [World.setCell] <;> omega, fun o => by rcases o with _ | _ | _ | o <;> go_simp, fun o => by go_simp⟩), (by (repeat (first | (with_reducible refine aU.alloc ?_ _) | (with_reducible refine aU.drew ?_) | ((with_reducible refine aU.setCell ?_ ?_ _); rotate_left 1; (focus (first | omega | simp <;> omega))))); exact HOX0.out), ((by (repeat (first | (with_reducible refine aU.alloc ?_ _) | (with_reducible refine aU.drew ?_) | ((with_reducible refine aU.setCell ?_ ?_ _); rotate_left 1; (focus (first | omega | simp <;> omega))))); exact HOA.out) : aU _ lo1 w2_.heap.size _ _).mono (Nat.le_refl _) (by first | omega | simp [World.setCell] <;> omega), (by ((repeat first | with_reducible apply bA | with_reducible apply bD | (with_reducible refine bS ?_ ?_; (focus (first | omega | simp <;> omega)))); exact HB.out)), (by first | omega | simp [World.setCell] <;> omega)⟩
    case measure => simp [intOf]; omega
   obtain rfl : nh1 = k := by omega
   obtain ⟨lo2, hlo2, hle2⟩ : ∃ n, wr.heap.size ≤ n ∧ n ≤ wr.heap.size := ⟨_, Nat.le_refl _, Nat.le_refl _⟩
   have HXX := lH (HOA.out.mono (Nat.le_refl _) hlo2)
   rw [show L1.take nh1 = L1 from List.take_of_length_le (by rw [HL1.out, List.length_map, HN1.out]; exact Nat.le_refl _)] at HXX
   clear HOA; clear HOT
   replace HXo : Hid (aa wr (w.heap.size + 1) [.slice X0 ne g0, .slice X1 nh1 g1, .slice none 0 0]) := HXo.out
   clear hxo hfo hko; obtain ⟨hko, hxo, hfo⟩ := HXo.out
   have HOX1 : Hid (aU wr (lo1) (lo2) (.slice X1 nh1 g1, nh1) (strs L1)) := HXX
   clear HXX; go_wp2
   refine aC (fun w3 hw => ?_)
   have hz3 : wr.heap.size + 0 ≤ w3.heap.size := zA
   have hbn : Below wr.heap.size wr w3 := zB
   replace HB := bT HB hbn; replace HOX0 := lH (HOX0.out.below hbn); replace HOX1 := lH (HOX1.out.below hbn); replace HXb := nB HXb hbn; clear hxb hfb hkb; obtain ⟨hkb, hxb, hfb⟩ := HXb.out; replace HXr := nB HXr hbn; clear hxr hfr hkr; obtain ⟨hkr, hxr, hfr⟩ := HXr.out; replace HXo := nB HXo hbn; clear hxo hfo hko; obtain ⟨hko, hxo, hfo⟩ := HXo.out; clear hbn; clear hw
   go_loopw [69] (fun i wr => ∃ (k : Nat) (X2 : Option Addr) (g2 : Nat), k ≤ nr ∧ i = .int .i64 k ∧ aa wr ((w.heap.size)) [.slice none 0 0, .slice none 0 0, .slice none 0 0] ∧ aa wr ((w.heap.size + 1)) [.slice X0 ne g0, .slice X1 nh1 g1, .slice X2 k g2] ∧ aU wr lo0 lo1 (.slice X0 ne g0, ne) (strs L0) ∧ aU wr lo1 lo2 (.slice X1 nh1 g1, nh1) (strs L1) ∧ aU wr lo2 wr.heap.size (.slice X2 k g2, k) (strs (L2.take k)) ∧ Below w.heap.size w wr ∧ w3.heap.size ≤ wr.heap.size) (fun i _ => nr - (intOf i).toNat)
   case atStart => exact ⟨0, none, 0, Nat.zero_le _, rfl, HXr.out, HXo.out, HOX0.out, HOX1.out, (aU.of (World.ownsRow_nil _ _ _ _)).mono (by omega) (Nat.le_refl _), HB.out, Nat.le_refl _⟩
   case round =>
    obtain ⟨k, X2, g2, hk, rfl, hbr, hbo, hr0, hr1, hrw, hbl, hzl⟩ := hrel
    have HBL := lH hbl
    replace HB : Hid (Below w.heap.size w wr) := HBL.out
    replace HXr : Hid (aa wr (w.heap.size) [.slice none 0 0, .slice none 0 0, .slice none 0 0]) := hbr
    clear hxr hfr hkr; obtain ⟨hkr, hxr, hfr⟩ := HXr.out
    replace HXo : Hid (aa wr (w.heap.size + 1) [.slice X0 ne g0, .slice X1 nh1 g1, .slice X2 k g2]) := hbo
    clear hxo hfo hko; obtain ⟨hko, hxo, hfo⟩ := HXo.out; replace HXb := lH (HBX.out.below HBL.out); clear hxb hfb hkb; obtain ⟨hkb, hxb, hfb⟩ := HXb.out
    replace HOX0 : Hid (aU wr (lo0) (lo1) (.slice X0 ne g0, ne) (strs L0)) := lH hr0
    replace HOX1 : Hid (aU wr (lo1) (lo2) (.slice X1 nh1 g1, nh1) (strs L1)) := lH hr1
    have HOA : Hid (aU wr (lo2) (wr.heap.size) (.slice X2 k g2, k) (strs (L2.take k))) := lH hrw
    have HOR := lH (HR0.out.below HBL.out)
    have hzz_wr : w.heap.size ≤ wr.heap.size := HB.out.size
    clear hbr hbo hrw hbl hr0 hr1
    by_cases hlt : k < nr
    ·skip
     obtain ⟨b2, off, x, rfl, hb2, hks, hcs⟩ := gG HOR.out (k := k) (by rw [HN2.out]; exact hlt)
     have c0' := hcs.1
     have c1' := hcs.2.1
     have c2' := hcs.2.2
     have HT : Hid (L2.take (k + 1) = L2.take k ++ [aK x]) := lH (bH (by rw [HL2.out, List.getElem?_map, hks]; rfl))
     have HX := lH (fun W => ic x W (HF2.out x (List.mem_of_getElem? hks)))
     have hI : (k : Int) < nr := by omega
     clear hks hcs; generalize aK x = lt at *; generalize bZ x = lk at *
     go_wp2_with fail
     refine af (fun w4 hw => ?_)
     have hz4 : wr.heap.size + 1 ≤ w4.heap.size := zA
     have hbn : Below wr.heap.size wr w4 := zB
     replace HB := bT HB hbn; replace HOX0 := lH (HOX0.out.below hbn); replace HOX1 := lH (HOX1.out.below hbn); replace HOA := lH (HOA.out.below hbn); replace HOR := lH (HOR.out.below hbn); replace HXb := nB HXb hbn; clear hxb hfb hkb; obtain ⟨hkb, hxb, hfb⟩ := HXb.out; replace HXr := nB HXr hbn; clear hxr hfr hkr; obtain ⟨hkr, hxr, hfr⟩ := HXr.out; replace HXo := nB HXo hbn; clear hxo hfo hko; obtain ⟨hko, hxo, hfo⟩ := HXo.out
     clear hbn
     have HXe : Hid (aa w4 (wr.heap.size) [.string x.reader, .string x.topic, .int .i64 x.index]) := zG3
     obtain ⟨hke, hxe, hfe⟩ := HXe.out; clear hw
     refine (HX.out _).mono ?_
     rintro e w5 ⟨rfl, hb⟩
     have hzw5 : w4.heap.size ≤ w5.heap.size := hb.size
     replace HB := bT HB hb; replace HOX0 := lH (HOX0.out.below hb); replace HOX1 := lH (HOX1.out.below hb); replace HOA := lH (HOA.out.below hb); replace HOR := lH (HOR.out.below hb); replace HXb := nB HXb hb; clear hxb hfb hkb; obtain ⟨hkb, hxb, hfb⟩ := HXb.out; replace HXr := nB HXr hb; clear hxr hfr hkr; obtain ⟨hkr, hxr, hfr⟩ := HXr.out; replace HXo := nB HXo hb; clear hxo hfo hko; obtain ⟨hko, hxo, hfo⟩ := HXo.out
     replace HXe := nB HXe hb; clear hxe hfe hke; obtain ⟨hke, hxe, hfe⟩ := HXe.out; clear hb; clear c0' c1' c2'; clear HOR; clear hxe hfe hke HXe
     go_wp2_with (at_builtin; refine gy rfl _ _ rfl lo2 _ _ _ rfl (HOA.out.1.alloc _) w5.heap.size lt rfl (aa.new w5 _ _) (by omega) (by first | omega | (simp; done) | (simp; omega)) ?_)
     intro v2 w2_ hown2 hg2
     obtain ⟨hrb, hon⟩ := rowB_app HOA.out.1 _ hown2 hg2
     obtain ⟨A2, g2, rfl, _, _, _⟩ := az hown2
     rw [← dZ, ← HT.out] at hrb
     have hzw2_ : w5.heap.size ≤ w2_.heap.size := hon.size
     replace HB := lH (au HB.out hon (by omega) HB.out.size)
     replace HOX0 := lH (HOX0.out.only hon (by first | omega | (simp; omega)))
     replace HOX1 := lH (HOX1.out.only hon (by first | omega | (simp; omega)))
     replace HXb := nO HXb hon
     clear hxb hfb hkb; obtain ⟨hkb, hxb, hfb⟩ := HXb.out
     replace HXr := nO HXr hon
     clear hxr hfr hkr; obtain ⟨hkr, hxr, hfr⟩ := HXr.out
     replace HXo := nO HXo hon
     clear hxo hfo hko; obtain ⟨hko, hxo, hfo⟩ := HXo.out; clear HOA
     have HOA : Hid (aU w2_ (lo2) (w2_.heap.size) (.slice A2 (k + 1) g2, k + 1) (strs (L2.take (k + 1)))) := lH hrb
     clear hown2 hg2 hrb hon; go_wp2
     go_roundw
     case rel => exact ⟨k + 1, A2, g2, by omega, by go_num, (by (repeat first | with_reducible apply nA | with_reducible apply aa.drew | (with_reducible refine nC _ ?_ ?_; (focus (first | omega | simp <;> omega)))); exact HXr.out), (by exact ⟨by first | omega | simp [World.setCell] <;> omega, fun o => by rcases o with _ | _ | _ | o <;> go_simp, fun o => by go_simp⟩), (by (repeat (first | (with_reducible refine aU.alloc ?_ _) | (with_reducible refine aU.drew ?_) | ((with_reducible refine aU.setCell ?_ ?_ _); rotate_left 1; (focus (first | omega | simp <;> omega))))); exact HOX0.out), (by (repeat (first | (with_reducible refine aU.alloc ?_ _) | (with_reducible refine aU.drew ?_) | ((with_reducible refine aU.setCell ?_ ?_ _); rotate_left 1; (focus (first | omega | simp <;> omega))))); exact HOX1.out), ((by (repeat (first | (with_reducible refine aU.alloc ?_ _) | (with_reducible refine aU.drew ?_) | ((with_reducible refine aU.setCell ?_ ?_ _); rotate_left 1; (focus (first | omega | simp <;> omega))))); exact HOA.out) : aU _ lo2 w2_.heap.size _ _).mono (Nat.le_refl _) (by first | omega | simp [World.setCell] <;> omega), (by ((repeat first | with_reducible apply bA | with_reducible apply bD | (with_reducible refine bS ?_ ?_; (focus (first | omega | simp <;> omega)))); exact HB.out)), (by first | omega | simp [World.setCell] <;> omega)⟩
     case measure => simp [intOf]; omega
    obtain rfl : nr = k := by omega
    obtain ⟨lo3, hlo3, hle3⟩ : ∃ n, wr.heap.size ≤ n ∧ n ≤ wr.heap.size := ⟨_, Nat.le_refl _, Nat.le_refl _⟩
    have HXX := lH (HOA.out.mono (Nat.le_refl _) hlo3)
    rw [show L2.take nr = L2 from List.take_of_length_le (by rw [HL2.out, List.length_map, HN2.out]; exact Nat.le_refl _)] at HXX
    clear HOA; clear HOR
    replace HXo : Hid (aa wr (w.heap.size + 1) [.slice X0 ne g0, .slice X1 nh1 g1, .slice X2 nr g2]) := HXo.out
    clear hxo hfo hko; obtain ⟨hko, hxo, hfo⟩ := HXo.out
    have HOX2 : Hid (aU wr (lo2) (lo3) (.slice X2 nr g2, nr) (strs L2)) := HXX
    clear HXX; go_wp2
    refine ag (fun w4 hw => ?_)
    have hz4 : wr.heap.size + 0 ≤ w4.heap.size := zA
    replace HB : Hid (Below w.heap.size w w4) := zC HB
    replace HOX0 : Hid (aU w4 (lo0) (lo1) (.slice X0 ne g0, ne) (strs L0)) := zLRowB HOX0
    replace HOX1 : Hid (aU w4 (lo1) (lo2) (.slice X1 nh1 g1, nh1) (strs L1)) := zLRowB HOX1
    replace HOX2 : Hid (aU w4 (lo2) (lo3) (.slice X2 nr g2, nr) (strs L2)) := zLRowB HOX2
    replace HXb := nE w4 HXb
    clear hxb hfb hkb; obtain ⟨hkb, hxb, hfb⟩ := HXb.out
    replace HXr : Hid (aa w4 (w.heap.size) [.slice X0 ne g0, .slice X1 nh1 g1, .slice X2 nr g2]) := zD HXr
    clear hxr hfr hkr; obtain ⟨hkr, hxr, hfr⟩ := HXr.out
    replace HXo := nE w4 HXo
    clear hxo hfo hko; obtain ⟨hko, hxo, hfo⟩ := HXo.out; clear hw
    refine bodyPost_ret (v := .agg #[.slice X0 ne g0, .slice X1 nh1 g1, .slice X2 nr g2]) (by simp [results, Tryz.results94, go_sem, hxr]) rfl ?_
    exact ⟨X0, g0, X1, g1, X2, g2, rfl, ⟨(HOX0.out.ownB rfl (by omega) (by omega)).mono (by omega) (by omega) (Nat.le_refl _), (HOX1.out.ownB rfl (by omega) (by omega)).mono (by omega) (by omega) (Nat.le_refl _), (HOX2.out.ownB rfl (by omega) (by omega)).mono (by omega) (by omega) (Nat.le_refl _)⟩, HB.out⟩
theorem row_box {w : World} {b n : Nat} {xs : List Value} {base : Nat} {e : TypeId} (h : w.ownsRow base e 1 (.slice (some ⟨b, 0, none⟩) n n) n xs) : aa w b xs ∧ base ≤ b := by
 rcases h.2 with ⟨e1, _⟩ | ⟨g, cap, cur, e1, h2, h3, h4, h5, h6, h7⟩
 ·cases e1
 cases e1
 rw [Nat.mul_one] at h6 h7
 rw [List.take_of_length_le (by rw [Array.length_toList, h6]; exact Nat.le_refl _)] at h7
 refine ⟨⟨(Array.getElem?_eq_some_iff.1 h3).1, fun o => ?_, fun o => ?_⟩, h2⟩
 ·rw [← h7]; simp [World.cell?, h3]
 simp [World.frozen?, h3]
theorem box_own {w : World} {b lo hi : Nat} {xs : List Value} (h : aa w b xs) (h1 : lo ≤ b) (h2 : b < hi) (h3 : hi ≤ w.heap.size) : Own w lo hi (some ⟨b, 0, none⟩) xs := fun _ =>
 ⟨b, 0, rfl, h1, h2, h3, fun j u hj => by rw [Nat.zero_add]; exact (h.2.1 j).trans hj, fun j => h.2.2 _⟩
def txs (f0 f1 f2 : ByteArray) : Nat → List Value
 | 0 => [.string ByteArray.empty, .string ByteArray.empty, .string ByteArray.empty]
 | 1 => [.string f0, .string ByteArray.empty, .string ByteArray.empty]
 | 2 => [.string f0, .string f1, .string ByteArray.empty]
 | _ => [.string f0, .string f1, .string f2]
theorem diskNewB_c (w : World) : Calls Tryz.prog 93 #[] w fun e w' => ∃ b, e = .returned (.agg #[.slice (some ⟨b, 0, none⟩) 3 3]) ∧ (w.heap.size ≤ b ∧ aa w' b (txs ByteArray.empty ByteArray.empty ByteArray.empty 0)) ∧ Below w.heap.size w w' := by
 obtain ⟨i0, hi0, hz0, hz1, hz2⟩ := info_parts info_string
 go_enter Tryz.func93, Tryz.ntmps93
 go_wp2_with (at_make; refine wpList_make_full _ rfl _ _ 29 rfl w.heap.size 9 i0 _ 1 Tryz.underlying29 hi0 hz0 hz1 _ _ _ _ 3 rfl rfl rfl rfl (by rw [hz2]; omega) (by unfold maxLen; omega) (by simp) ?_)
 intro w1 hown hg
 simp only [Nat.mul_one, Value.cells, toList_madeCells_one] at hown
 have hb1 := ((Below.refl w.heap.size w).alloc (Nat.le_refl _) _).grown hg (by first | omega | (simp; done) | (simp; omega)) (by first | omega | (simp; done) | (simp; omega))
 have hx := (((Below.refl (w.heap.size + 1) (w.alloc (.cells #[.slice none 0 0] 68)))).grown hg (by simp) (by simp)).cell (p := ⟨w.heap.size, 0, none⟩) (by simp)
 replace hx : w1.cell? ⟨w.heap.size, 0, none⟩ = some (.slice none 0 0) := hx.trans (by go_simp)
 have hf := (((Below.refl (w.heap.size + 1) (w.alloc (.cells #[.slice none 0 0] 68)))).grown hg (by simp) (by simp)).frozen (p := ⟨w.heap.size, 0, none⟩) (by simp)
 replace hf : w1.frozen? ⟨w.heap.size, 0, none⟩ = false := hf.trans (by go_simp)
 have HG := lH hg
 have HBB := lH hb1
 have HBX := lH (row_box hown).1
 have hs1 := hb1.size
 clear hg hown hb1 hi0 hz0 hz1 hz2
 go_wp2
 refine bodyPost_ret (v := .agg #[.slice (some ⟨w.heap.size + 1, 0, none⟩) 3 3]) (by simp [results, Tryz.results93, go_sem, World.cell?_setCell_same _ _ _ hx]) rfl ?_
 exact ⟨w.heap.size + 1, rfl, ⟨Nat.le_succ _, HBX.out.setCell (by simp) _⟩, HBB.out.setCell (by simp) _⟩
theorem disk_c (width z1 z2 : Int) (p : Nat) (E R H A1 A2 : Option Addr) (ne nr nh ce cr ch c1 c2 lo1 hi1 lo2 hi2 lo3 hi3 m1 m2 : Nat) (es : List Ent) (rs : List Rcp) (hs : List Hd) (h : Hd) (w : World) (hbx : aa w p [.int .i64 width, .slice E ne ce, .slice R nr cr, .slice H nh ch, .int .i64 z1, .slice A1 m1 c1, .int .i64 z2, .slice A2 m2 c2, .int .i64 h.num, .int .i64 h.size, .string h.root, .int .i64 h.taken, .string h.troot])
  (hE : Rd w lo1 hi1 E (aQ es)) (hR : Rd w lo2 hi2 R (bf rs)) (hH : Rd w lo3 hi3 H (hds hs)) (hne : es.length = ne) (hnr : rs.length = nr) (hnh : hs.length = nh) (b1 : ne ≤ 1000) (b2 : nr ≤ 1000) (b3 : nh ≤ 1000) (hpos : 1 ≤ nh) (hch : nh ≤ ch) (hfe : ∀ x ∈ es, x.fits) (hfr : ∀ x ∈ rs, x.fits) (hfh : ∀ x ∈ hs, x.bulk ≤ 1048576) :
  Calls Tryz.prog 53 #[.pointer (some ⟨p, 0, none⟩)] w fun e w' => ∃ A c, e = .returned (.agg #[.slice A 3 c]) ∧ Own w' w.heap.size w'.heap.size A (strs (dU width es rs hs)) ∧ Below w.heap.size w w' := by
 have hfl := fileL_le (width := width) (es := es) (rs := rs) (hs := hs) (by omega) (by omega) (by omega)
 have hn0 : (aW width es rs hs 0).length = ne := by rw [show aW width es rs hs 0 = es.map aI from rfl, List.length_map, hne]
 have hn1 : (aW width es rs hs 1).length = nh - 1 := by rw [show aW width es rs hs 1 = (hs.drop 1).map (aL width) from rfl, List.length_map, List.length_drop, hnh]
 have hn2 : (aW width es rs hs 2).length = nr := by rw [show aW width es rs hs 2 = rs.map aK from rfl, List.length_map, hnr]
 have HC := lH (fun W (q : aa W p [.int .i64 width, .slice E ne ce, .slice R nr cr, .slice H nh ch, .int .i64 z1, .slice A1 m1 c1, .int .i64 z2, .slice A2 m2 c2, .int .i64 h.num, .int .i64 h.size, .string h.root, .int .i64 h.taken, .string h.troot]) (r0 : Rd W 0 W.heap.size E (aQ es)) (r1 : Rd W 0 W.heap.size R (bf rs)) (r2 : Rd W 0 W.heap.size H (hds hs)) => texts_c width z1 z2 p E R H A1 A2 ne nr nh ce cr ch c1 c2 0 W.heap.size 0 W.heap.size 0 W.heap.size m1 m2 es rs hs h W q r0 r1 r2 hne hnr hnh b1 b2 b3 hpos hch hfe hfr hfh)
 rw [dU]
 have HF0 := lH (fun W A c (r : Rd W 0 W.heap.size A (strs (aW width es rs hs 0))) => implFrames_c A c 0 W.heap.size ne (aW width es rs hs 0) W r hn0 (by have := hfl 0; omega))
 have HF1 := lH (fun W A c (r : Rd W 0 W.heap.size A (strs (aW width es rs hs 1))) => implFrames_c A c 0 W.heap.size (nh - 1) (aW width es rs hs 1) W r hn1 (by have := hfl 1; omega))
 have HF2 := lH (fun W A c (r : Rd W 0 W.heap.size A (strs (aW width es rs hs 2))) => implFrames_c A c 0 W.heap.size nr (aW width es rs hs 2) W r hn2 (by have := hfl 2; omega))
 generalize aW width es rs hs 0 = L0 at *
 generalize aW width es rs hs 1 = L1 at *
 generalize aW width es rs hs 2 = L2 at *
 generalize nh - 1 = nh1 at *
 generalize bq L0 = tx0 at *
 generalize bq L1 = tx1 at *
 generalize bq L2 = tx2 at *
 generalize cZ L0 = tk0 at *
 generalize cZ L1 = tk1 at *
 generalize cZ L2 = tk2 at *
 have HBX := lH hbx
 have hpw : p < w.heap.size := hbx.1
 have HB : Hid (Below w.heap.size w w) := Below.refl _ _
 have HOE : Hid (Rd w (0) (w.heap.size) (E) (aQ es)) := Rd.base hE
 have HOR : Hid (Rd w (0) (w.heap.size) (R) (bf rs)) := Rd.base hR
 have HOH : Hid (Rd w (0) (w.heap.size) (H) (hds hs)) := Rd.base hH
 replace HB : Hid (Below w.heap.size w w) := (Below.refl _ _)
 have HXb : Hid (aa w (p) [.int .i64 width, .slice E ne ce, .slice R nr cr, .slice H nh ch, .int .i64 z1, .slice A1 m1 c1, .int .i64 z2, .slice A2 m2 c2, .int .i64 h.num, .int .i64 h.size, .string h.root, .int .i64 h.taken, .string h.troot]) := HBX.out
 obtain ⟨hkb, hxb, hfb⟩ := HXb.out
 clear hE hR hH hne hnr hnh hpos hch hfe hfr hfh hbx hfl hn0 hn1 hn2 b1 b2 b3
 go_enter Tryz.func53, Tryz.ntmps53
 go_wp2_with fail
 refine af (fun w1 hw => ?_)
 have hz1 : w.heap.size + 1 ≤ w1.heap.size := zA
 have hbn : Below w.heap.size w w1 := zB
 replace HB := bT HB hbn
 replace HOE := lH (HOE.out.below hbn)
 replace HOR := lH (HOR.out.below hbn)
 replace HOH := lH (HOH.out.below hbn)
 replace HXb := nB HXb hbn
 clear hxb hfb hkb
 obtain ⟨hkb, hxb, hfb⟩ := HXb.out
 clear hbn
 have HXr : Hid (aa w1 (w.heap.size) [.slice none 0 0]) := zG1
 obtain ⟨hkr, hxr, hfr⟩ := HXr.out
 clear hw
 refine (diskNewB_c _).mono ?_
 rintro e w2 ⟨bo, rfl, ⟨hbo1, hbo2⟩, hb⟩
 have hzw2 : w1.heap.size ≤ w2.heap.size := hb.size
 replace HB := bT HB hb
 replace HOE := lH (HOE.out.below hb)
 replace HOR := lH (HOR.out.below hb)
 replace HOH := lH (HOH.out.below hb)
 replace HXb := nB HXb hb
 clear hxb hfb hkb
 obtain ⟨hkb, hxb, hfb⟩ := HXb.out
 replace HXr := nB HXr hb
 clear hxr hfr hkr
 obtain ⟨hkr, hxr, hfr⟩ := HXr.out
 clear hb
 have hbo3 := hbo2.1
 have HXf : Hid (aa w2 (bo) [.string ByteArray.empty, .string ByteArray.empty, .string ByteArray.empty]) := hbo2
 obtain ⟨hkf, hxf, hff⟩ := HXf.out
 clear hbo2
 go_wp2_with fail
 refine af (fun w3 hw => ?_)
 have hz3 : w2.heap.size + 1 ≤ w3.heap.size := zA
 have hbn : Below w2.heap.size w2 w3 := zB
 replace HB := bT HB hbn
 replace HOE := lH (HOE.out.below hbn)
 replace HOR := lH (HOR.out.below hbn)
 replace HOH := lH (HOH.out.below hbn)
 replace HXb := nB HXb hbn
 clear hxb hfb hkb
 obtain ⟨hkb, hxb, hfb⟩ := HXb.out
 replace HXr := nB HXr hbn
 clear hxr hfr hkr
 obtain ⟨hkr, hxr, hfr⟩ := HXr.out
 replace HXf := nB HXf hbn
 clear hxf hff hkf
 obtain ⟨hkf, hxf, hff⟩ := HXf.out
 clear hbn
 have HXo : Hid (aa w3 (w2.heap.size) [.slice (some ⟨bo, 0, none⟩) 3 3]) := zG1
 obtain ⟨hko, hxo, hfo⟩ := HXo.out
 clear hw
 refine (HC.out _ HXb.out HOE.out.base HOR.out.base HOH.out.base).mono ?_
 rintro e w4 ⟨B0, d0, B1, d1, B2, d2, rfl, ⟨ho0, ho1, ho2⟩, hb⟩
 have hzw4 : w3.heap.size ≤ w4.heap.size := hb.size
 replace HB := bT HB hb
 replace HOE := lH (HOE.out.below hb)
 replace HOR := lH (HOR.out.below hb)
 replace HOH := lH (HOH.out.below hb)
 replace HXb := nB HXb hb
 clear hxb hfb hkb
 obtain ⟨hkb, hxb, hfb⟩ := HXb.out
 replace HXr := nB HXr hb
 clear hxr hfr hkr
 obtain ⟨hkr, hxr, hfr⟩ := HXr.out
 replace HXf := nB HXf hb
 clear hxf hff hkf
 obtain ⟨hkf, hxf, hff⟩ := HXf.out
 replace HXo := nB HXo hb
 clear hxo hfo hko
 obtain ⟨hko, hxo, hfo⟩ := HXo.out
 clear hb
 obtain ⟨lo, hlo, hle⟩ : ∃ n, w3.heap.size ≤ n ∧ n ≤ w3.heap.size := ⟨_, Nat.le_refl _, Nat.le_refl _⟩
 obtain ⟨hi, hhi, hhe⟩ : ∃ n, w4.heap.size ≤ n ∧ n ≤ w4.heap.size := ⟨_, Nat.le_refl _, Nat.le_refl _⟩
 clear HOE
 clear HOR
 clear HOH
 clear hxb hfb hkb HXb
 have hix := fun W => (idxArr (.slice B0 ne d0) (.slice B1 nh1 d1) (.slice B2 nr d2) W).1
 have hix1 := fun W => (idxArr (.slice B0 ne d0) (.slice B1 nh1 d1) (.slice B2 nr d2) W).2.1
 have hix2 := fun W => (idxArr (.slice B0 ne d0) (.slice B1 nh1 d1) (.slice B2 nr d2) W).2.2
 have HOT0 : Hid (Own w4 (lo) (hi) (B0) (strs L0)) := lH (ho0.mono hle hhi (by omega))
 have HOT1 : Hid (Own w4 (lo) (hi) (B1) (strs L1)) := lH (ho1.mono hle hhi (by omega))
 have HOT2 : Hid (Own w4 (lo) (hi) (B2) (strs L2)) := lH (ho2.mono hle hhi (by omega))
 clear ho0 ho1 ho2 HC HBX
 go_wp2
 refine aC (fun w5 hw => ?_)
 have hz5 : w4.heap.size + 0 ≤ w5.heap.size := zA
 have hbn : Below w4.heap.size w4 w5 := zB
 replace HB := bT HB hbn
 replace HOT0 := lH (HOT0.out.below hbn)
 replace HOT1 := lH (HOT1.out.below hbn)
 replace HOT2 := lH (HOT2.out.below hbn)
 replace HXr := nB HXr hbn
 clear hxr hfr hkr
 obtain ⟨hkr, hxr, hfr⟩ := HXr.out
 replace HXf := nB HXf hbn
 clear hxf hff hkf
 obtain ⟨hkf, hxf, hff⟩ := HXf.out
 replace HXo := nB HXo hbn
 clear hxo hfo hko
 obtain ⟨hko, hxo, hfo⟩ := HXo.out
 clear hbn
 clear hw
 go_loopw [9] (fun i wr => ∃ k : Nat, k ≤ 3 ∧ i = .int .i64 k ∧ aa wr ((w.heap.size)) [.slice none 0 0] ∧ aa wr ((w2.heap.size)) [.slice (some ⟨bo, 0, none⟩) 3 3] ∧ aa wr bo (txs tx0 tx1 tx2 k) ∧ Own wr lo hi B0 (strs L0) ∧ Own wr lo hi B1 (strs L1) ∧ Own wr lo hi B2 (strs L2) ∧ Below w.heap.size w wr ∧ w5.heap.size ≤ wr.heap.size) (fun i _ => 3 - (intOf i).toNat)
 case atStart => exact ⟨0, Nat.zero_le _, rfl, HXr.out, HXo.out, HXf.out, HOT0.out, HOT1.out, HOT2.out, HB.out, Nat.le_refl _⟩
 case round =>
  obtain ⟨k, hk, rfl, hbr, hbo, hbf, ht0, ht1, ht2, hbl, hzl⟩ := hrel
  have HBR := lH hbr
  have HBO := lH hbo
  have HBF := lH hbf
  have HT0 := lH ht0
  have HT1 := lH ht1
  have HT2 := lH ht2
  have HBL := lH hbl
  clear hbr hbo hbf ht0 ht1 ht2 hbl
  obtain rfl | rfl | rfl | rfl : k = 0 ∨ k = 1 ∨ k = 2 ∨ k = 3 := by omega
  ·skip
   replace HB : Hid (Below w.heap.size w wr) := HBL.out
   replace HXr : Hid (aa wr (w.heap.size) [.slice none 0 0]) := HBR.out
   clear hxr hfr hkr; obtain ⟨hkr, hxr, hfr⟩ := HXr.out
   replace HXo : Hid (aa wr (w2.heap.size) [.slice (some ⟨bo, 0, none⟩) 3 3]) := HBO.out
   clear hxo hfo hko; obtain ⟨hko, hxo, hfo⟩ := HXo.out
   replace HXf : Hid (aa wr (bo) [.string ByteArray.empty, .string ByteArray.empty, .string ByteArray.empty]) := HBF.out
   clear hxf hff hkf; obtain ⟨hkf, hxf, hff⟩ := HXf.out
   replace HOT0 : Hid (Own wr (lo) (hi) (B0) (strs L0)) := HT0
   replace HOT1 : Hid (Own wr (lo) (hi) (B1) (strs L1)) := HT1
   replace HOT2 : Hid (Own wr (lo) (hi) (B2) (strs L2)) := HT2
   have hzz_wr : w.heap.size ≤ wr.heap.size := HB.out.size
   go_wp2
   go_wp2_with fail
   refine aC (fun w6 hw => ?_)
   have hz6 : wr.heap.size + 0 ≤ w6.heap.size := zA
   have hbn : Below wr.heap.size wr w6 := zB
   replace HB := bT HB hbn; replace HOT0 := lH (HOT0.out.below hbn); replace HOT1 := lH (HOT1.out.below hbn); replace HOT2 := lH (HOT2.out.below hbn); replace HXr := nB HXr hbn; clear hxr hfr hkr; obtain ⟨hkr, hxr, hfr⟩ := HXr.out; replace HXf := nB HXf hbn; clear hxf hff hkf; obtain ⟨hkf, hxf, hff⟩ := HXf.out; replace HXo := nB HXo hbn; clear hxo hfo hko; obtain ⟨hko, hxo, hfo⟩ := HXo.out; clear hbn
   clear hw
   obtain ⟨F, HF⟩ : ∃ F : Facts, Hid (F = fun iq xq tqs dsq uq => match iq with
    | 0 => xq.v = .pointer (some ⟨(w2.heap.size), 0, none⟩)
    | 1 => xq.v = .slice (some ⟨bo, 0, none⟩) 3 3
    | 2 => xq.v = .int .i64 0
    | 3 => xq.v = .slice B0 ne d0
    | 4 => xq.v = .tuple #[.string tx0, .bool tk0]
    | 5 => xq.v = .tuple #[.string tx0, .bool tk0]
    | 6 => xq.v = .string tx0
    | 7 => xq.v = .bool tk0
    | 8 => xq.v = .pointer (some ⟨bo, 0, none⟩)
    | 9 => aa uq (bo) [.string tx0, .string ByteArray.empty, .string ByteArray.empty]
    | _ => False) := ⟨_, rfl⟩
   refine aX [[], [], [], [], [], [], [], [], [], []] [[], [], [], [], [], [], [], [], [], []] [some 14, some 15, some 16, some 17, some 18, some 13, some 19, some 20, some 21, none] (some 9) (bo) (bo + 1) (.inr (by omega)) F (by kernel_rfl) (by kernel_rfl) (by kernel_rfl) ?_ ⟨?_, ?_, ?_, ?_, ?_, ?_, ?_, ?_, ?_, ?_, trivial⟩ ?_
   ·rw [HF.out]; intro iq xq tqs dsq uq u' hi hf hs hW hx hbk
    have kx : ∀ b, xq.s ≤ b → b < xq.e → u'.heap[b]? = uq.heap[b]? := fun b h1 h2 => hbk b (.inr (.inl ⟨h1, h2⟩))
    have kt : ∀ t ∈ tqs, ∀ b, t.s ≤ b → b < t.e → u'.heap[b]? = uq.heap[b]? := fun t ht b h1 h2 => hbk b (.inr (.inr ⟨t, ht, h1, h2⟩))
    match iq with
    | 0 | 1 => exact hf
    | 2 | 3 => exact hf
    | 4 | 5 => exact hf
    | 6 | 7 | 8 => exact hf
    | 9 => exact aa.keep hf hs (hbk _ (.inl ⟨hkf, .inr (.inr rfl)⟩))
   ·intro gh ρ u _ _ _ hd h0 hb he ha hF
    have r3 : ρ (.tmp 3) = .pointer (some ⟨w2.heap.size, 0, none⟩) := (h0 3 (by decide +kernel)).trans rfl
    clear hd h0 he ha hF; go_simp; exact fE HF rfl
   ·intro gh ρ u _ _ _ hd h0 hb he ha hF
    first | replace hb := hb.drew.below (by decide +kernel) | replace hb := hb.drew.only
    have hbz : w6.heap.size ≤ u.heap.size := hb.size
    have r14 : ρ (.tmp 14) = .pointer (some ⟨(w2.heap.size), 0, none⟩) := fH (hd 0) 14 (fG HF (hF 0))
    first | have q_o := (HXo.out.below hb).2.1 | have q_o := (HXo.out.only hb (by omega)).2.1
    have k_o : w2.heap.size < u.heap.size := by have := HXo.out.1; omega
    clear hd h0 he ha hF; go_simp; exact fE HF rfl
   ·intro gh ρ u _ _ _ hd h0 hb he ha hF
    have r4 : ρ (.tmp 4) = .int .i64 0 := (h0 4 (by decide +kernel)).trans rfl
    clear hd h0 he ha hF; go_simp; exact fE HF rfl
   ·intro gh ρ u _ _ _ hd h0 hb he ha hF
    have r5 : ρ (.tmp 5) = .slice B0 ne d0 := (h0 5 (by decide +kernel)).trans rfl
    clear hd h0 he ha hF; go_simp; exact fE HF rfl
   ·intro gh ρ u _ _ _ hd h0 hb he ha hF
    first | replace hb := hb.drew.below (by decide +kernel) | replace hb := hb.drew.only
    have hbz : w6.heap.size ≤ u.heap.size := hb.size
    have r17 : ρ (.tmp 17) = .slice B0 ne d0 := fH (hd 3) 17 (fG HF (hF 3))
    clear hd h0 he ha hF; go_simp
    have q_o := (HXo.out.below hb)
    refine (HF0.out _ _ _ (HOT0.out.rd.below hb).base).mono ?_
    rintro e u1 ⟨rfl, hb1⟩
    rw [HF.out]
    exact ⟨_, rfl, aS.of_below hb1, rfl⟩
   ·intro gh ρ u _ _ _ hd h0 hb he ha hF
    have r18 : ρ (.tmp 18) = .tuple #[.string tx0, .bool tk0] := fH (hd 4) 18 (fG HF (hF 4))
    clear hd h0 he ha hF; go_simp; exact fE HF rfl
   ·intro gh ρ u _ _ _ hd h0 hb he ha hF
    have r13 : ρ (.tmp 13) = .tuple #[.string tx0, .bool tk0] := fH (hd 5) 13 (fG HF (hF 5))
    clear hd h0 he ha hF; go_simp; exact fE HF rfl
   ·intro gh ρ u _ _ _ hd h0 hb he ha hF
    have r13 : ρ (.tmp 13) = .tuple #[.string tx0, .bool tk0] := fH (hd 5) 13 (fG HF (hF 5))
    clear hd h0 he ha hF; go_simp; exact fE HF rfl
   ·intro gh ρ u _ _ _ hd h0 hb he ha hF
    have r15 : ρ (.tmp 15) = .slice (some ⟨bo, 0, none⟩) 3 3 := fH (hd 1) 15 (fG HF (hF 1))
    have r16 : ρ (.tmp 16) = .int .i64 0 := fH (hd 2) 16 (fG HF (hF 2))
    clear hd h0 he ha hF; go_simp; exact fE HF rfl
   ·intro gh ρ u _ _ _ hd h0 hb he ha hF
    first | replace hb := hb.drew.below (by decide +kernel) | replace hb := hb.drew.only
    have hbz : w6.heap.size ≤ u.heap.size := hb.size
    have r21 : ρ (.tmp 21) = .pointer (some ⟨bo, 0, none⟩) := fH (hd 8) 21 (fG HF (hF 8))
    have r19 : ρ (.tmp 19) = .string tx0 := fH (hd 6) 19 (fG HF (hF 6))
    obtain ⟨hzk, hzc, hzf⟩ := HXf.out.below hb
    clear hd h0 he ha hF; go_simp
    rw [HF.out]
    refine ⟨?_, ?_⟩
    ·refine aS.of_z (lo := bo) (hi := bo + 1) ?_ rfl; refine Only.setCell ?_ (by exact Nat.le_refl _) (by exact Nat.lt_succ_self _) _; exact Only.refl _ _ _
    show aa _ (bo) _
    exact ⟨by simpa [World.setCell] using hzk, fun o => by rcases o with _ | _ | _ | o <;> go_simp, fun o => by go_simp⟩
   intro gh w7 hB hE hA hF
   replace hB : Only (bo) (bo + 1) w6 w7 := hB.only
   have f0 : (gh 0).v = .pointer (some ⟨(w2.heap.size), 0, none⟩) := fG HF (hF 0)
   have f1 : (gh 1).v = .slice (some ⟨bo, 0, none⟩) 3 3 := fG HF (hF 1)
   have f2 : (gh 2).v = .int .i64 0 := fG HF (hF 2)
   have f3 : (gh 3).v = .slice B0 ne d0 := fG HF (hF 3)
   have f4 : (gh 4).v = .tuple #[.string tx0, .bool tk0] := fG HF (hF 4)
   have f5 : (gh 5).v = .tuple #[.string tx0, .bool tk0] := fG HF (hF 5)
   have f6 : (gh 6).v = .string tx0 := fG HF (hF 6)
   have f7 : (gh 7).v = .bool tk0 := fG HF (hF 7)
   have f8 : (gh 8).v = .pointer (some ⟨bo, 0, none⟩) := fG HF (hF 8)
   have f9 : aa w7 (bo) [.string tx0, .string ByteArray.empty, .string ByteArray.empty] := fG HF (hF 9)
   have hv4 := f4; have hv0 := f0; have hv1 := f1; have hv2 := f2; have hv3 := f3; have hv5 := f5; have hv6 := f6; have hv7 := f7; have hv8 := f8; have hx9 := f9; clear hE hA hF
   simp only [dQ, Nat.reduceAdd, hv0, hv1, hv2, hv3, hv4, hv5, hv6, hv7, hv8]
   clear hv0 hv1 hv2 hv3 hv4 hv5 hv6 hv7 hv8; clear HF; have hb := hB; clear hB
   have hzw7 : w6.heap.size ≤ w7.heap.size := hb.size
   replace HB := lH (au HB.out hb (by omega) HB.out.size)
   replace HOT0 := lH (HOT0.out.only hb (by first | omega | (simp; omega)))
   replace HOT1 := lH (HOT1.out.only hb (by first | omega | (simp; omega)))
   replace HOT2 := lH (HOT2.out.only hb (by first | omega | (simp; omega)))
   replace HXr := nO HXr hb
   clear hxr hfr hkr; obtain ⟨hkr, hxr, hfr⟩ := HXr.out; clear hxf hff hkf HXf
   replace HXo := nO HXo hb
   clear hxo hfo hko; obtain ⟨hko, hxo, hfo⟩ := HXo.out; clear hb
   have HXf : Hid (aa w7 (bo) [.string tx0, .string ByteArray.empty, .string ByteArray.empty]) := hx9
   obtain ⟨hkf, hxf, hff⟩ := HXf.out; clear hx9; go_wp2
   go_roundw
   case rel => exact ⟨1, by omega, by go_num, HXr.out, HXo.out, HXf.out, HOT0.out, HOT1.out, HOT2.out, HB.out, by omega⟩
   case measure => simp [intOf]
  ·skip
   replace HB : Hid (Below w.heap.size w wr) := HBL.out
   replace HXr : Hid (aa wr (w.heap.size) [.slice none 0 0]) := HBR.out
   clear hxr hfr hkr; obtain ⟨hkr, hxr, hfr⟩ := HXr.out
   replace HXo : Hid (aa wr (w2.heap.size) [.slice (some ⟨bo, 0, none⟩) 3 3]) := HBO.out
   clear hxo hfo hko; obtain ⟨hko, hxo, hfo⟩ := HXo.out
   replace HXf : Hid (aa wr (bo) [.string tx0, .string ByteArray.empty, .string ByteArray.empty]) := HBF.out
   clear hxf hff hkf; obtain ⟨hkf, hxf, hff⟩ := HXf.out
   replace HOT0 : Hid (Own wr (lo) (hi) (B0) (strs L0)) := HT0
   replace HOT1 : Hid (Own wr (lo) (hi) (B1) (strs L1)) := HT1
   replace HOT2 : Hid (Own wr (lo) (hi) (B2) (strs L2)) := HT2
   have hzz_wr : w.heap.size ≤ wr.heap.size := HB.out.size
   go_wp2
   go_wp2_with fail
   refine aC (fun w6 hw => ?_)
   have hz6 : wr.heap.size + 0 ≤ w6.heap.size := zA
   have hbn : Below wr.heap.size wr w6 := zB
   replace HB := bT HB hbn; replace HOT0 := lH (HOT0.out.below hbn); replace HOT1 := lH (HOT1.out.below hbn); replace HOT2 := lH (HOT2.out.below hbn); replace HXr := nB HXr hbn; clear hxr hfr hkr; obtain ⟨hkr, hxr, hfr⟩ := HXr.out; replace HXf := nB HXf hbn; clear hxf hff hkf; obtain ⟨hkf, hxf, hff⟩ := HXf.out; replace HXo := nB HXo hbn; clear hxo hfo hko; obtain ⟨hko, hxo, hfo⟩ := HXo.out; clear hbn
   clear hw
   obtain ⟨F, HF⟩ : ∃ F : Facts, Hid (F = fun iq xq tqs dsq uq => match iq with
    | 0 => xq.v = .pointer (some ⟨(w2.heap.size), 0, none⟩)
    | 1 => xq.v = .slice (some ⟨bo, 0, none⟩) 3 3
    | 2 => xq.v = .int .i64 1
    | 3 => xq.v = .slice B1 nh1 d1
    | 4 => xq.v = .tuple #[.string tx1, .bool tk1]
    | 5 => xq.v = .tuple #[.string tx1, .bool tk1]
    | 6 => xq.v = .string tx1
    | 7 => xq.v = .bool tk1
    | 8 => xq.v = .pointer (some ⟨bo, 1, none⟩)
    | 9 => aa uq (bo) [.string tx0, .string tx1, .string ByteArray.empty]
    | _ => False) := ⟨_, rfl⟩
   refine aX [[], [], [], [], [], [], [], [], [], []] [[], [], [], [], [], [], [], [], [], []] [some 14, some 15, some 16, some 17, some 18, some 13, some 19, some 20, some 21, none] (some 9) (bo) (bo + 1) (.inr (by omega)) F (by kernel_rfl) (by kernel_rfl) (by kernel_rfl) ?_ ⟨?_, ?_, ?_, ?_, ?_, ?_, ?_, ?_, ?_, ?_, trivial⟩ ?_
   ·rw [HF.out]; intro iq xq tqs dsq uq u' hi hf hs hW hx hbk
    have kx : ∀ b, xq.s ≤ b → b < xq.e → u'.heap[b]? = uq.heap[b]? := fun b h1 h2 => hbk b (.inr (.inl ⟨h1, h2⟩))
    have kt : ∀ t ∈ tqs, ∀ b, t.s ≤ b → b < t.e → u'.heap[b]? = uq.heap[b]? := fun t ht b h1 h2 => hbk b (.inr (.inr ⟨t, ht, h1, h2⟩))
    match iq with
    | 0 | 1 => exact hf
    | 2 | 3 => exact hf
    | 4 | 5 => exact hf
    | 6 | 7 | 8 => exact hf
    | 9 => exact aa.keep hf hs (hbk _ (.inl ⟨hkf, .inr (.inr rfl)⟩))
   ·intro gh ρ u _ _ _ hd h0 hb he ha hF
    have r3 : ρ (.tmp 3) = .pointer (some ⟨w2.heap.size, 0, none⟩) := (h0 3 (by decide +kernel)).trans rfl
    clear hd h0 he ha hF; go_simp; exact fE HF rfl
   ·intro gh ρ u _ _ _ hd h0 hb he ha hF
    first | replace hb := hb.drew.below (by decide +kernel) | replace hb := hb.drew.only
    have hbz : w6.heap.size ≤ u.heap.size := hb.size
    have r14 : ρ (.tmp 14) = .pointer (some ⟨(w2.heap.size), 0, none⟩) := fH (hd 0) 14 (fG HF (hF 0))
    first | have q_o := (HXo.out.below hb).2.1 | have q_o := (HXo.out.only hb (by omega)).2.1
    have k_o : w2.heap.size < u.heap.size := by have := HXo.out.1; omega
    clear hd h0 he ha hF; go_simp; exact fE HF rfl
   ·intro gh ρ u _ _ _ hd h0 hb he ha hF
    have r4 : ρ (.tmp 4) = .int .i64 1 := (h0 4 (by decide +kernel)).trans rfl
    clear hd h0 he ha hF; go_simp; exact fE HF rfl
   ·intro gh ρ u _ _ _ hd h0 hb he ha hF
    have r5 : ρ (.tmp 5) = .slice B1 nh1 d1 := (h0 5 (by decide +kernel)).trans rfl
    clear hd h0 he ha hF; go_simp; exact fE HF rfl
   ·intro gh ρ u _ _ _ hd h0 hb he ha hF
    first | replace hb := hb.drew.below (by decide +kernel) | replace hb := hb.drew.only
    have hbz : w6.heap.size ≤ u.heap.size := hb.size
    have r17 : ρ (.tmp 17) = .slice B1 nh1 d1 := fH (hd 3) 17 (fG HF (hF 3))
    clear hd h0 he ha hF; go_simp
    have q_o := (HXo.out.below hb)
    refine (HF1.out _ _ _ (HOT1.out.rd.below hb).base).mono ?_
    rintro e u1 ⟨rfl, hb1⟩
    rw [HF.out]
    exact ⟨_, rfl, aS.of_below hb1, rfl⟩
   ·intro gh ρ u _ _ _ hd h0 hb he ha hF
    have r18 : ρ (.tmp 18) = .tuple #[.string tx1, .bool tk1] := fH (hd 4) 18 (fG HF (hF 4))
    clear hd h0 he ha hF; go_simp; exact fE HF rfl
   ·intro gh ρ u _ _ _ hd h0 hb he ha hF
    have r13 : ρ (.tmp 13) = .tuple #[.string tx1, .bool tk1] := fH (hd 5) 13 (fG HF (hF 5))
    clear hd h0 he ha hF; go_simp; exact fE HF rfl
   ·intro gh ρ u _ _ _ hd h0 hb he ha hF
    have r13 : ρ (.tmp 13) = .tuple #[.string tx1, .bool tk1] := fH (hd 5) 13 (fG HF (hF 5))
    clear hd h0 he ha hF; go_simp; exact fE HF rfl
   ·intro gh ρ u _ _ _ hd h0 hb he ha hF
    have r15 : ρ (.tmp 15) = .slice (some ⟨bo, 0, none⟩) 3 3 := fH (hd 1) 15 (fG HF (hF 1))
    have r16 : ρ (.tmp 16) = .int .i64 1 := fH (hd 2) 16 (fG HF (hF 2))
    clear hd h0 he ha hF; go_simp; exact fE HF rfl
   ·intro gh ρ u _ _ _ hd h0 hb he ha hF
    first | replace hb := hb.drew.below (by decide +kernel) | replace hb := hb.drew.only
    have hbz : w6.heap.size ≤ u.heap.size := hb.size
    have r21 : ρ (.tmp 21) = .pointer (some ⟨bo, 1, none⟩) := fH (hd 8) 21 (fG HF (hF 8))
    have r19 : ρ (.tmp 19) = .string tx1 := fH (hd 6) 19 (fG HF (hF 6))
    obtain ⟨hzk, hzc, hzf⟩ := HXf.out.below hb
    clear hd h0 he ha hF; go_simp
    rw [HF.out]
    refine ⟨?_, ?_⟩
    ·refine aS.of_z (lo := bo) (hi := bo + 1) ?_ rfl; refine Only.setCell ?_ (by exact Nat.le_refl _) (by exact Nat.lt_succ_self _) _; exact Only.refl _ _ _
    show aa _ (bo) _
    exact ⟨by simpa [World.setCell] using hzk, fun o => by rcases o with _ | _ | _ | o <;> go_simp, fun o => by go_simp⟩
   intro gh w7 hB hE hA hF
   replace hB : Only (bo) (bo + 1) w6 w7 := hB.only
   have f0 : (gh 0).v = .pointer (some ⟨(w2.heap.size), 0, none⟩) := fG HF (hF 0)
   have f1 : (gh 1).v = .slice (some ⟨bo, 0, none⟩) 3 3 := fG HF (hF 1)
   have f2 : (gh 2).v = .int .i64 1 := fG HF (hF 2)
   have f3 : (gh 3).v = .slice B1 nh1 d1 := fG HF (hF 3)
   have f4 : (gh 4).v = .tuple #[.string tx1, .bool tk1] := fG HF (hF 4)
   have f5 : (gh 5).v = .tuple #[.string tx1, .bool tk1] := fG HF (hF 5)
   have f6 : (gh 6).v = .string tx1 := fG HF (hF 6)
   have f7 : (gh 7).v = .bool tk1 := fG HF (hF 7)
   have f8 : (gh 8).v = .pointer (some ⟨bo, 1, none⟩) := fG HF (hF 8)
   have f9 : aa w7 (bo) [.string tx0, .string tx1, .string ByteArray.empty] := fG HF (hF 9)
   have hv4 := f4; have hv0 := f0; have hv1 := f1; have hv2 := f2; have hv3 := f3; have hv5 := f5; have hv6 := f6; have hv7 := f7; have hv8 := f8; have hx9 := f9; clear hE hA hF
   simp only [dQ, Nat.reduceAdd, hv0, hv1, hv2, hv3, hv4, hv5, hv6, hv7, hv8]
   clear hv0 hv1 hv2 hv3 hv4 hv5 hv6 hv7 hv8; clear HF; have hb := hB; clear hB
   have hzw7 : w6.heap.size ≤ w7.heap.size := hb.size
   replace HB := lH (au HB.out hb (by omega) HB.out.size)
   replace HOT0 := lH (HOT0.out.only hb (by first | omega | (simp; omega)))
   replace HOT1 := lH (HOT1.out.only hb (by first | omega | (simp; omega)))
   replace HOT2 := lH (HOT2.out.only hb (by first | omega | (simp; omega)))
   replace HXr := nO HXr hb
   clear hxr hfr hkr; obtain ⟨hkr, hxr, hfr⟩ := HXr.out; clear hxf hff hkf HXf
   replace HXo := nO HXo hb
   clear hxo hfo hko; obtain ⟨hko, hxo, hfo⟩ := HXo.out; clear hb
   have HXf : Hid (aa w7 (bo) [.string tx0, .string tx1, .string ByteArray.empty]) := hx9
   obtain ⟨hkf, hxf, hff⟩ := HXf.out; clear hx9; go_wp2
   go_roundw
   case rel => exact ⟨2, by omega, by go_num, HXr.out, HXo.out, HXf.out, HOT0.out, HOT1.out, HOT2.out, HB.out, by omega⟩
   case measure => simp [intOf]
  ·skip
   replace HB : Hid (Below w.heap.size w wr) := HBL.out
   replace HXr : Hid (aa wr (w.heap.size) [.slice none 0 0]) := HBR.out
   clear hxr hfr hkr; obtain ⟨hkr, hxr, hfr⟩ := HXr.out
   replace HXo : Hid (aa wr (w2.heap.size) [.slice (some ⟨bo, 0, none⟩) 3 3]) := HBO.out
   clear hxo hfo hko; obtain ⟨hko, hxo, hfo⟩ := HXo.out
   replace HXf : Hid (aa wr (bo) [.string tx0, .string tx1, .string ByteArray.empty]) := HBF.out
   clear hxf hff hkf; obtain ⟨hkf, hxf, hff⟩ := HXf.out
   replace HOT0 : Hid (Own wr (lo) (hi) (B0) (strs L0)) := HT0
   replace HOT1 : Hid (Own wr (lo) (hi) (B1) (strs L1)) := HT1
   replace HOT2 : Hid (Own wr (lo) (hi) (B2) (strs L2)) := HT2
   have hzz_wr : w.heap.size ≤ wr.heap.size := HB.out.size
   go_wp2
   go_wp2_with fail
   refine aC (fun w6 hw => ?_)
   have hz6 : wr.heap.size + 0 ≤ w6.heap.size := zA
   have hbn : Below wr.heap.size wr w6 := zB
   replace HB := bT HB hbn; replace HOT0 := lH (HOT0.out.below hbn); replace HOT1 := lH (HOT1.out.below hbn); replace HOT2 := lH (HOT2.out.below hbn); replace HXr := nB HXr hbn; clear hxr hfr hkr; obtain ⟨hkr, hxr, hfr⟩ := HXr.out; replace HXf := nB HXf hbn; clear hxf hff hkf; obtain ⟨hkf, hxf, hff⟩ := HXf.out; replace HXo := nB HXo hbn; clear hxo hfo hko; obtain ⟨hko, hxo, hfo⟩ := HXo.out; clear hbn
   clear hw
   obtain ⟨F, HF⟩ : ∃ F : Facts, Hid (F = fun iq xq tqs dsq uq => match iq with
    | 0 => xq.v = .pointer (some ⟨(w2.heap.size), 0, none⟩)
    | 1 => xq.v = .slice (some ⟨bo, 0, none⟩) 3 3
    | 2 => xq.v = .int .i64 2
    | 3 => xq.v = .slice B2 nr d2
    | 4 => xq.v = .tuple #[.string tx2, .bool tk2]
    | 5 => xq.v = .tuple #[.string tx2, .bool tk2]
    | 6 => xq.v = .string tx2
    | 7 => xq.v = .bool tk2
    | 8 => xq.v = .pointer (some ⟨bo, 2, none⟩)
    | 9 => aa uq (bo) [.string tx0, .string tx1, .string tx2]
    | _ => False) := ⟨_, rfl⟩
   refine aX [[], [], [], [], [], [], [], [], [], []] [[], [], [], [], [], [], [], [], [], []] [some 14, some 15, some 16, some 17, some 18, some 13, some 19, some 20, some 21, none] (some 9) (bo) (bo + 1) (.inr (by omega)) F (by kernel_rfl) (by kernel_rfl) (by kernel_rfl) ?_ ⟨?_, ?_, ?_, ?_, ?_, ?_, ?_, ?_, ?_, ?_, trivial⟩ ?_
   ·rw [HF.out]; intro iq xq tqs dsq uq u' hi hf hs hW hx hbk
    have kx : ∀ b, xq.s ≤ b → b < xq.e → u'.heap[b]? = uq.heap[b]? := fun b h1 h2 => hbk b (.inr (.inl ⟨h1, h2⟩))
    have kt : ∀ t ∈ tqs, ∀ b, t.s ≤ b → b < t.e → u'.heap[b]? = uq.heap[b]? := fun t ht b h1 h2 => hbk b (.inr (.inr ⟨t, ht, h1, h2⟩))
    match iq with
    | 0 | 1 => exact hf
    | 2 | 3 => exact hf
    | 4 | 5 => exact hf
    | 6 | 7 | 8 => exact hf
    | 9 => exact aa.keep hf hs (hbk _ (.inl ⟨hkf, .inr (.inr rfl)⟩))
   ·intro gh ρ u _ _ _ hd h0 hb he ha hF
    have r3 : ρ (.tmp 3) = .pointer (some ⟨w2.heap.size, 0, none⟩) := (h0 3 (by decide +kernel)).trans rfl
    clear hd h0 he ha hF; go_simp; exact fE HF rfl
   ·intro gh ρ u _ _ _ hd h0 hb he ha hF
    first | replace hb := hb.drew.below (by decide +kernel) | replace hb := hb.drew.only
    have hbz : w6.heap.size ≤ u.heap.size := hb.size
    have r14 : ρ (.tmp 14) = .pointer (some ⟨(w2.heap.size), 0, none⟩) := fH (hd 0) 14 (fG HF (hF 0))
    first | have q_o := (HXo.out.below hb).2.1 | have q_o := (HXo.out.only hb (by omega)).2.1
    have k_o : w2.heap.size < u.heap.size := by have := HXo.out.1; omega
    clear hd h0 he ha hF; go_simp; exact fE HF rfl
   ·intro gh ρ u _ _ _ hd h0 hb he ha hF
    have r4 : ρ (.tmp 4) = .int .i64 2 := (h0 4 (by decide +kernel)).trans rfl
    clear hd h0 he ha hF; go_simp; exact fE HF rfl
   ·intro gh ρ u _ _ _ hd h0 hb he ha hF
    have r5 : ρ (.tmp 5) = .slice B2 nr d2 := (h0 5 (by decide +kernel)).trans rfl
    clear hd h0 he ha hF; go_simp; exact fE HF rfl
   ·intro gh ρ u _ _ _ hd h0 hb he ha hF
    first | replace hb := hb.drew.below (by decide +kernel) | replace hb := hb.drew.only
    have hbz : w6.heap.size ≤ u.heap.size := hb.size
    have r17 : ρ (.tmp 17) = .slice B2 nr d2 := fH (hd 3) 17 (fG HF (hF 3))
    clear hd h0 he ha hF; go_simp
    have q_o := (HXo.out.below hb)
    refine (HF2.out _ _ _ (HOT2.out.rd.below hb).base).mono ?_
    rintro e u1 ⟨rfl, hb1⟩
    rw [HF.out]
    exact ⟨_, rfl, aS.of_below hb1, rfl⟩
   ·intro gh ρ u _ _ _ hd h0 hb he ha hF
    have r18 : ρ (.tmp 18) = .tuple #[.string tx2, .bool tk2] := fH (hd 4) 18 (fG HF (hF 4))
    clear hd h0 he ha hF; go_simp; exact fE HF rfl
   ·intro gh ρ u _ _ _ hd h0 hb he ha hF
    have r13 : ρ (.tmp 13) = .tuple #[.string tx2, .bool tk2] := fH (hd 5) 13 (fG HF (hF 5))
    clear hd h0 he ha hF; go_simp; exact fE HF rfl
   ·intro gh ρ u _ _ _ hd h0 hb he ha hF
    have r13 : ρ (.tmp 13) = .tuple #[.string tx2, .bool tk2] := fH (hd 5) 13 (fG HF (hF 5))
    clear hd h0 he ha hF; go_simp; exact fE HF rfl
   ·intro gh ρ u _ _ _ hd h0 hb he ha hF
    have r15 : ρ (.tmp 15) = .slice (some ⟨bo, 0, none⟩) 3 3 := fH (hd 1) 15 (fG HF (hF 1))
    have r16 : ρ (.tmp 16) = .int .i64 2 := fH (hd 2) 16 (fG HF (hF 2))
    clear hd h0 he ha hF; go_simp; exact fE HF rfl
   ·intro gh ρ u _ _ _ hd h0 hb he ha hF
    first | replace hb := hb.drew.below (by decide +kernel) | replace hb := hb.drew.only
    have hbz : w6.heap.size ≤ u.heap.size := hb.size
    have r21 : ρ (.tmp 21) = .pointer (some ⟨bo, 2, none⟩) := fH (hd 8) 21 (fG HF (hF 8))
    have r19 : ρ (.tmp 19) = .string tx2 := fH (hd 6) 19 (fG HF (hF 6))
    obtain ⟨hzk, hzc, hzf⟩ := HXf.out.below hb
    clear hd h0 he ha hF; go_simp
    rw [HF.out]
    refine ⟨?_, ?_⟩
    ·refine aS.of_z (lo := bo) (hi := bo + 1) ?_ rfl; refine Only.setCell ?_ (by exact Nat.le_refl _) (by exact Nat.lt_succ_self _) _; exact Only.refl _ _ _
    show aa _ (bo) _
    exact ⟨by simpa [World.setCell] using hzk, fun o => by rcases o with _ | _ | _ | o <;> go_simp, fun o => by go_simp⟩
   intro gh w7 hB hE hA hF
   replace hB : Only (bo) (bo + 1) w6 w7 := hB.only
   have f0 : (gh 0).v = .pointer (some ⟨(w2.heap.size), 0, none⟩) := fG HF (hF 0)
   have f1 : (gh 1).v = .slice (some ⟨bo, 0, none⟩) 3 3 := fG HF (hF 1)
   have f2 : (gh 2).v = .int .i64 2 := fG HF (hF 2)
   have f3 : (gh 3).v = .slice B2 nr d2 := fG HF (hF 3)
   have f4 : (gh 4).v = .tuple #[.string tx2, .bool tk2] := fG HF (hF 4)
   have f5 : (gh 5).v = .tuple #[.string tx2, .bool tk2] := fG HF (hF 5)
   have f6 : (gh 6).v = .string tx2 := fG HF (hF 6)
   have f7 : (gh 7).v = .bool tk2 := fG HF (hF 7)
   have f8 : (gh 8).v = .pointer (some ⟨bo, 2, none⟩) := fG HF (hF 8)
   have f9 : aa w7 (bo) [.string tx0, .string tx1, .string tx2] := fG HF (hF 9)
   have hv4 := f4; have hv0 := f0; have hv1 := f1; have hv2 := f2; have hv3 := f3; have hv5 := f5; have hv6 := f6; have hv7 := f7; have hv8 := f8; have hx9 := f9; clear hE hA hF
   simp only [dQ, Nat.reduceAdd, hv0, hv1, hv2, hv3, hv4, hv5, hv6, hv7, hv8]
   clear hv0 hv1 hv2 hv3 hv4 hv5 hv6 hv7 hv8; clear HF; have hb := hB; clear hB
   have hzw7 : w6.heap.size ≤ w7.heap.size := hb.size
   replace HB := lH (au HB.out hb (by omega) HB.out.size)
   replace HOT0 := lH (HOT0.out.only hb (by first | omega | (simp; omega)))
   replace HOT1 := lH (HOT1.out.only hb (by first | omega | (simp; omega)))
   replace HOT2 := lH (HOT2.out.only hb (by first | omega | (simp; omega)))
   replace HXr := nO HXr hb
   clear hxr hfr hkr; obtain ⟨hkr, hxr, hfr⟩ := HXr.out; clear hxf hff hkf HXf
   replace HXo := nO HXo hb
   clear hxo hfo hko; obtain ⟨hko, hxo, hfo⟩ := HXo.out; clear hb
   have HXf : Hid (aa w7 (bo) [.string tx0, .string tx1, .string tx2]) := hx9
   obtain ⟨hkf, hxf, hff⟩ := HXf.out; clear hx9; go_wp2
   go_roundw
   case rel => exact ⟨3, by omega, by go_num, HXr.out, HXo.out, HXf.out, HOT0.out, HOT1.out, HOT2.out, HB.out, by omega⟩
   case measure => simp [intOf]
  replace HB : Hid (Below w.heap.size w wr) := HBL.out
  replace HXr : Hid (aa wr (w.heap.size) [.slice none 0 0]) := HBR.out
  clear hxr hfr hkr; obtain ⟨hkr, hxr, hfr⟩ := HXr.out
  replace HXo : Hid (aa wr (w2.heap.size) [.slice (some ⟨bo, 0, none⟩) 3 3]) := HBO.out
  clear hxo hfo hko; obtain ⟨hko, hxo, hfo⟩ := HXo.out
  replace HXf : Hid (aa wr (bo) [.string tx0, .string tx1, .string tx2]) := HBF.out
  clear hxf hff hkf; obtain ⟨hkf, hxf, hff⟩ := HXf.out
  replace HOT0 : Hid (Own wr (lo) (hi) (B0) (strs L0)) := HT0
  replace HOT1 : Hid (Own wr (lo) (hi) (B1) (strs L1)) := HT1
  replace HOT2 : Hid (Own wr (lo) (hi) (B2) (strs L2)) := HT2
  have hzz_wr : w.heap.size ≤ wr.heap.size := HB.out.size
  go_wp2
  refine ag (fun w6 hw => ?_)
  have hz6 : wr.heap.size + 0 ≤ w6.heap.size := zA
  replace HB : Hid (Below w.heap.size w w6) := zC HB
  replace HOT0 : Hid (Own w6 (lo) (hi) (B0) (strs L0)) := zLOwn HOT0
  replace HOT1 : Hid (Own w6 (lo) (hi) (B1) (strs L1)) := zLOwn HOT1
  replace HOT2 : Hid (Own w6 (lo) (hi) (B2) (strs L2)) := zLOwn HOT2
  replace HXr : Hid (aa w6 (w.heap.size) [.slice (some ⟨bo, 0, none⟩) 3 3]) := zD HXr
  clear hxr hfr hkr; obtain ⟨hkr, hxr, hfr⟩ := HXr.out
  replace HXf := nE w6 HXf
  clear hxf hff hkf; obtain ⟨hkf, hxf, hff⟩ := HXf.out
  replace HXo := nE w6 HXo
  clear hxo hfo hko; obtain ⟨hko, hxo, hfo⟩ := HXo.out; clear hw
  refine bodyPost_ret (v := .agg #[.slice (some ⟨bo, 0, none⟩) 3 3]) (by simp [results, Tryz.results53, go_sem, hxr]) rfl ?_
  exact ⟨_, _, rfl, box_own HXf.out (by omega) (by omega) (Nat.le_refl _), HB.out⟩
end
end Go.Proofs.YtoccjgcokffkbaaGreat
