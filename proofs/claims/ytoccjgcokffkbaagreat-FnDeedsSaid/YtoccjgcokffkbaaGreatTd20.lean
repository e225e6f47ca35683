/- Part 20 of the proof of FnDeeds: lemmas and contracts. -/
import Derived.Test.YtoccjgcokffkbaaGreatTd19
import Derived.StillTailTactics
namespace Go.Proofs.YtoccjgcokffkbaaGreat
set_option linter.unusedVariables false
set_option linter.unusedSimpArgs false
set_option maxHeartbeats 20000000
section
open Go.RowKit
theorem brkOk_parts {width : Int} {es : List Ent} {rs : List Rcp} {hs : List Hd} {z1 : Int} {l1 : List ByteArray} {z2 : Int} {l2 : List ByteArray} {h : Hd} (hb : brkOk width es rs hs z1 l1 z2 l2 h = true) : aB width es rs hs := by
 rw [brkOk, Bool.and_eq_true] at hb
 exact brkParts_all hb.1
theorem aT.ownB {w : World} {lo hi n c m : Nat} {A : Option Addr} {xs : List Value} (h : aT w lo hi (.slice A n c, m) xs) (hm : m = n) (hh : hi ≤ w.heap.size) (hl : lo ≤ w.heap.size) : Own w lo hi A xs := by
 subst hm
 rcases row_one h.1 hl with rfl | ⟨g, rfl, h1, h2, h3⟩
 ·exact Own.nil
 exact h3.mono h1 (h.2 g rfl) hh
def bC (l : List ByteArray) : List UInt8 := l.flatMap fun t => (bJ t).data.toList
def dn (l : List ByteArray) : Nat → Bool
 | 0 => true
 | k + 1 => dn l k && match l[k]? with
   | some t => dh t && decide (((bJ t).size : Int) ≤ 300000 - (bC (l.take k)).length)
   | none => false
def fe (l : List ByteArray) : Bool := decide (l.length ≤ 600) && dn l l.length
def dB (l : List ByteArray) : ByteArray := if fe l then ⟨(bC l).toArray⟩ else ByteArray.empty
theorem framesW_take {l : List ByteArray} {k : Nat} {t : ByteArray} (h : l[k]? = some t) : bC (l.take (k + 1)) = bC (l.take k) ++ (bJ t).data.toList := by
 rw [bI h, bC, List.flatMap_append]; simp [bC]
theorem framesFine_le {l : List ByteArray} : ∀ {n k : Nat}, k ≤ n → dn l n = true → dn l k = true
 | 0, k, hk, h => by
   obtain rfl : k = 0 := by omega
   exact h
 | n + 1, k, hk, h => by
   by_cases e : k = n + 1
   ·subst e; exact h
   rw [dn, Bool.and_eq_true] at h
   exact framesFine_le (by omega) h.1
theorem framesOk_no {l : List ByteArray} {n k : Nat} {t : ByteArray} (hn : l.length = n) (hk : k < n) (ht : l[k]? = some t) (h : (dh t && decide (((bJ t).size : Int) ≤ 300000 - (bC (l.take k)).length)) = false) : fe l = false := by
 rcases hh : fe l with _ | _
 ·rfl
 rw [fe, Bool.and_eq_true] at hh
 have h1 := framesFine_le (n := l.length) (k := k + 1) (by omega) hh.2
 rw [dn, ht] at h1
 simp only [h, Bool.and_false] at h1
 cases h1
theorem frameM_pos {t : ByteArray} (h : dh t = true) : 2 ≤ (bJ t).size := by
 rw [bJ, if_pos h, frameB, ByteArray.size_append, ByteArray.size_append, bi]; omega
theorem frameM_le {t : ByteArray} (h : dh t = true) : (bJ t).size ≤ 1040 := by
 have h1 := digM_le 4 4 t
 have h2 := az.1 h
 rw [bJ, if_pos h, frameB, ByteArray.size_append, ByteArray.size_append, bi]; omega
set_option maxRecDepth 100000 in
theorem specFrames_c (A : Option Addr) (c lo hi n : Nat) (l : List ByteArray) (w : World) (hr : Rd w lo hi A (strs l)) (hn : l.length = n) (hl : n + bulkS l ≤ 1048576) :
  Calls Tryz.prog 195 #[.slice A n c] w fun e w' => e = .returned (.tuple #[.string (dB l), .bool (fe l)]) ∧ Below w.heap.size w w' := by
 have HR := lH hr.base
 have HN := lH hn
 have HL := lH hl
 have hn2 : n ≤ 1048576 := by omega
 have hrow := dL w 5 0
 have hbl : Below w.heap.size w (w.alloc (.cells #[] 5)) := (Below.refl _ _).alloc (Nat.le_refl _) _
 have HROW := lH hrow
 have HBL := lH hbl
 have hcv := fun (W : World) (s : ByteArray) => Lib.run_convert_string_bytes (P := Tryz.prog) W 9 22 5 s Tryz.underlying9 Tryz.underlying22 Tryz.underlying5
 have hbad : fe l = false → (.tuple #[.string (dB l), .bool (fe l)] : Value) = .tuple #[.string ⟨#[]⟩, .bool false] := fun h => by rw [dB, h]; rfl
 have HBAD := lH hbad
 clear hr hn hl hbad hrow hbl
 by_cases h6 : n ≤ 600
 ·go_enter Tryz.func195, Tryz.ntmps195
  go_wp2
  go_loopw [4, 5] (fun v i wx => ∃ k m g c0 : Nat, k ≤ n ∧ i = .int .i64 k ∧ m ≤ 300000 ∧ (bC (l.take k)).length = m ∧ dn l k = true ∧ v = .slice (some ⟨g, 0, none⟩) m c0 ∧ wx.ownsRow w.heap.size 5 1 (.slice (some ⟨g, 0, none⟩) m c0) m (Lib.byteCells (bC (l.take k))) ∧ Below w.heap.size w wx) (fun _ i _ => n - (intOf i).toNat)
  case atStart => exact ⟨0, 0, _, 0, Nat.zero_le _, rfl, Nat.zero_le _, rfl, rfl, rfl, HROW.out, HBL.out⟩
  case round =>
   obtain ⟨k, m, g, c0, hk, rfl, hm3, hm, hfi, rfl, how, hb⟩ := hrel
   have HB := lH hb
   have HOW := lH how
   have HM := lH hm
   have HFI := lH hfi
   clear hb how hm hfi
   by_cases hlt : k < n
   ·obtain ⟨b, off, t, rfl, hb, hks, hcell⟩ := (HR.out.below HB.out).str (k := k) (by rw [HN.out]; exact hlt)
    have htz := bulkS_get hks
    have ht1 : t.size ≤ 1048576 := by have := HL.out; omega
    have HT := lH (framesW_take hks)
    have HNO := lH (framesOk_no HN.out hlt hks)
    have HFF : Hid (dn l (k + 1) = (dn l k && (dh t && decide (((bJ t).size : Int) ≤ 300000 - (bC (l.take k)).length)))) := lH (by rw [dn, hks])
    have HFR := lH (fun W => specFrame_c t W ht1)
    have hI : (k : Int) < n := by omega
    clear hks htz
    go_wp2_with fail
    refine (HFR.out _).mono ?_
    rintro e w1 ⟨rfl, hb1⟩
    have HB1 := lH (ak HB.out hb1 HB.out.size)
    have HO1 := lH (dK HOW.out hb1)
    clear hb1 HOW
    rcases q1 : dh t with _ | _
    ·have HD := lH (HBAD.out (HNO.out (by rw [q1]; rfl)))
     clear q1; generalize bJ t = fr at *; go_wp2
     refine bodyPost_ret (v := .tuple #[.string ⟨#[]⟩, .bool false]) (by simp [results, Tryz.results195, go_sem]) rfl ?_
     exact ⟨by rw [HD.out], HB1.out⟩
    have hfz := frameM_le q1
    have hfp := frameM_pos q1
    rw [q1, HM.out] at HNO HFF
    clear q1; generalize bJ t = fr at *
    have E1 : IntKind.i64.wrap (300000 - (m : Int)) = 300000 - m := by rw [IntKind.wrap_i64]; omega
    rcases Nat.lt_or_ge 300000 (fr.size + m) with hbig | hsm
    ·have HD := lH (HBAD.out (HNO.out (by rw [decide_eq_false (by omega)]; rfl)))
     have hd : decide (300000 - (m : Int) < (fr.size : Int)) = true := decide_eq_true (by omega)
     go_wp2
     refine bodyPost_ret (v := .tuple #[.string ⟨#[]⟩, .bool false]) (by simp [results, Tryz.results195, go_sem]) rfl ?_
     exact ⟨by rw [HD.out], HB1.out⟩
    have HFG : Hid (dn l (k + 1) = true) := lH (by rw [HFF.out, HFI.out, decide_eq_true (by omega)]; rfl)
    have hd : decide (300000 - (m : Int) < (fr.size : Int)) = false := decide_eq_false (by omega)
    have HO2 := lH (dK HO1.out (bytes_below w1 5 fr))
    have HB2 := lH (ak HB1.out (bytes_below w1 5 fr) HB1.out.size)
    have HRD := lH (bytes_rd w1 5 fr)
    go_wp2_with (at_builtin; refine appBy rfl _ _ rfl w.heap.size _ _ _ rfl HO2.out _ fr.size _ 0 _ fr.data.toList rfl (by rw [Array.length_toList]; rfl) HRD.out (fun h => by cases h) (by omega) HB2.out.size ?_)
    intro v2 w2 hown2 hg2
    have hon := bG HO2.out hg2
    have HB3 := lH (au HB2.out hon (Nat.le_refl _) HB2.out.size)
    obtain ⟨g2, c2, rfl⟩ := row_form hown2 (by omega)
    rw [← bys_app, ← HT.out] at hown2
    have HO3 := lH hown2
    clear hown2 hg2 hon HO2 HO1 hd E1; go_wp2
    go_roundw
    case rel => exact ⟨k + 1, m + fr.size, g2, c2, by omega, by go_num, by omega, by rw [HT.out, List.length_append, HM.out, Array.length_toList]; rfl, HFG.out, rfl, HO3.out, HB3.out⟩
    case measure => simp [intOf]; omega
   obtain rfl : k = n := by omega
   have HOK : Hid (fe l = true) := lH (by rw [fe, HN.out, HFI.out, decide_eq_true h6]; rfl)
   have HLT : l.take k = l := List.take_of_length_le (by rw [HN.out]; exact Nat.le_refl _)
   rw [HLT] at HOW HM
   have hr := (Own.bg HOW.out).rd
   have hcb := run_convert_bytes_back (P := Tryz.prog) wr 22 9 5 ⟨g, 0, none⟩ c0 (bC l) Tryz.underlying22 Tryz.underlying5 Tryz.underlying9 (fun j hj => by
    have hne : Lib.byteCells (bC l) ≠ [] := by
     intro e
     have e2 := bys_len (bC l)
     rw [e] at e2
     simp at e2
     omega
    obtain ⟨b, off, h0, _, _, _, hcs⟩ := hr hne
    cases h0
    have h := hcs j (.int .u8 ((bC l)[j].toNat : Int)) (by simp [Lib.byteCells, hj])
    rwa [Addr.add_lit])
   rw [HM.out] at hcb
   clear hr hcv HLT; go_wp2
   refine bodyPost_ret (v := .tuple #[.string ⟨(bC l).toArray⟩, .bool true]) (by simp [results, Tryz.results195, go_sem]) rfl ?_
   exact ⟨by rw [dB, HOK.out]; rfl, HB.out⟩
 have HD := lH (HBAD.out (by rw [fe, HN.out, decide_eq_false h6]; rfl))
 go_enter Tryz.func195, Tryz.ntmps195
 go_wp2
 refine bodyPost_ret (v := .tuple #[.string ⟨#[]⟩, .bool false]) (by simp [results, Tryz.results195, go_sem]) rfl ?_
 exact ⟨by rw [HD.out], Below.refl _ _⟩
def bB (width : Int) (es : List Ent) (rs : List Rcp) (hs : List Hd) (f : Nat) : List ByteArray := if f = 0 then es.map aJ else if f = 1 then (hs.drop 1).map (aL width) else rs.map aK
theorem bulkS_le {m : Nat} : ∀ {l : List ByteArray}, (∀ s ∈ l, s.size ≤ m) → bulkS l ≤ l.length * m
 | [], _ => Nat.zero_le _
 | s :: l, h => by
   have h1 := h s List.mem_cons_self
   have h2 := bulkS_le (l := l) (fun t ht => h t (List.mem_cons_of_mem _ ht))
   rw [bulkS, List.length_cons, Nat.add_mul]
   omega
theorem fileL_le {width : Int} {es : List Ent} {rs : List Rcp} {hs : List Hd} (b1 : es.length ≤ 1000) (b2 : rs.length ≤ 1000) (b3 : hs.length ≤ 1000) (f : Nat) : (bB width es rs hs f).length + bulkS (bB width es rs hs f) ≤ 1048576 := by
 have hall : (bB width es rs hs f).length ≤ 1000 ∧ ∀ s ∈ bB width es rs hs f, s.size ≤ 480 := by
  unfold bB
  split
  ·exact ⟨by rw [List.length_map]; exact b1, fun s hs => by obtain ⟨x, _, rfl⟩ := List.mem_map.1 hs; exact dF x⟩
  split
  ·exact ⟨by rw [List.length_map, List.length_drop]; omega, fun s hs => by obtain ⟨x, _, rfl⟩ := List.mem_map.1 hs; exact Nat.le_trans (gQ width x) (by omega)⟩
  exact ⟨by rw [List.length_map]; exact b2, fun s hs => by obtain ⟨x, _, rfl⟩ := List.mem_map.1 hs; exact Nat.le_trans (dO x) (by omega)⟩
 have h2 := bulkS_le hall.2
 have h3 := Nat.mul_le_mul_right 480 hall.1
 omega
def cutH (A : Option Addr) (g : Nat) : Option Addr := if g = 1 then A else A.map (fun a => a.add 5)
theorem slice_hd1 (A : Option Addr) (k g : Nat) (h1 : 1 ≤ k) (h2 : k ≤ g) (W : World) : (Instr.slice 28 (.slice A k g) (some (.int .i64 1)) none none).run Tryz.prog W = .ok (.slice (cutH A g) (k - 1) (g - 1)) W := by
 have hu := Tryz.underlying28
 obtain ⟨i0, hi0, hz0, hz1, hz2⟩ := info_parts info_Head
 simp only [cutH]
 have h3 : ¬ ((k : Int) < 1) := by omega
 simp [Instr.slice, run_underlying hu, Instr.sliceBounds, run_sliceBound, h1, h2, h3, go_sem, sizeOf, typeInfo, hi0, hz1]
theorem idxArr (a b c : Value) (W : World) : (Instr.index 146 (.agg #[a, b, c]) (.int .i64 0)).run Tryz.prog W = .ok a W ∧ (Instr.index 146 (.agg #[a, b, c]) (.int .i64 1)).run Tryz.prog W = .ok b W ∧ (Instr.index 146 (.agg #[a, b, c]) (.int .i64 2)).run Tryz.prog W = .ok c W := ⟨by kernel_rfl, by kernel_rfl, by kernel_rfl⟩
theorem cutH_rd {w : World} {lo hi : Nat} {A : Option Addr} {L : List Hd} (h : Rd w lo hi A (hds L)) (g : Nat) (hg : L.length ≤ g) : Rd w lo hi (cutH A g) (hds (L.drop 1)) := by
 rw [cutH]
 split
 ·rename_i e
  rw [List.drop_of_length_le (by omega)]
  exact Rd.nil
 rcases L with _ | ⟨x, L⟩
 ·exact Rd.nil
 obtain ⟨b, off, e, h1, h2, h3, h4⟩ := h (by simp [hds, Hd.cells])
 cases e
 intro _
 refine ⟨b, off + 5, by rw [Option.map_some, Addr.add_lit], h1, h2, h3, fun j u hj => ?_⟩
 have := h4 (5 + j) u (by
  rw [show hds (x :: L) = x.cells ++ hds L from by simp [hds]]
  rw [List.getElem?_append_right (by simp [Hd.cells])]
  simpa [Hd.cells] using hj)
 rw [← this, Nat.add_assoc]
set_option maxRecDepth 100000 in
theorem texts_c (width z1 z2 : Int) (p : Nat) (E R H A1 A2 : Option Addr) (ne nr nh ce cr ch c1 c2 lo1 hi1 lo2 hi2 lo3 hi3 m1 m2 : Nat) (es : List Ent) (rs : List Rcp) (hs : List Hd) (h : Hd) (w : World) (hbx : aa w p [.int .i64 width, .slice E ne ce, .slice R nr cr, .slice H nh ch, .int .i64 z1, .slice A1 m1 c1, .int .i64 z2, .slice A2 m2 c2, .int .i64 h.num, .int .i64 h.size, .string h.root, .int .i64 h.taken, .string h.troot])
  (hE : Rd w lo1 hi1 E (aR es)) (hR : Rd w lo2 hi2 R (bf rs)) (hH : Rd w lo3 hi3 H (hds hs)) (hne : es.length = ne) (hnr : rs.length = nr) (hnh : hs.length = nh) (b1 : ne ≤ 1000) (b2 : nr ≤ 1000) (b3 : nh ≤ 1000) (hpos : 1 ≤ nh) (hch : nh ≤ ch) (hfe : ∀ x ∈ es, x.fits) (hfr : ∀ x ∈ rs, x.fits) (hfh : ∀ x ∈ hs, x.bulk ≤ 1048576) :
  Calls Tryz.prog 94 #[.pointer (some ⟨p, 0, none⟩)] w fun e w' => ∃ B0 d0 B1 d1 B2 d2, e = .returned (.agg #[.slice B0 ne d0, .slice B1 (nh - 1) d1, .slice B2 nr d2]) ∧ (Own w' w.heap.size w'.heap.size B0 (strs (bB width es rs hs 0)) ∧ Own w' w.heap.size w'.heap.size B1 (strs (bB width es rs hs 1)) ∧ Own w' w.heap.size w'.heap.size B2 (strs (bB width es rs hs 2))) ∧ Below w.heap.size w w' := by
 have hsl := slice_hd1 H nh ch hpos hch
 have hT := cutH_rd hH ch (by omega)
 have HF0 := lH hfe
 have HF2 := lH hfr
 have HF1 : Hid (∀ x ∈ hs.drop 1, x.bulk ≤ 1048576) := lH (fun x hx => hfh x (List.mem_of_mem_drop hx))
 obtain ⟨L0, hL0⟩ : ∃ L, L = es.map aJ := ⟨_, rfl⟩
 obtain ⟨L1, hL1⟩ : ∃ L, L = (hs.drop 1).map (aL width) := ⟨_, rfl⟩
 obtain ⟨L2, hL2⟩ : ∃ L, L = rs.map aK := ⟨_, rfl⟩
 rw [show bB width es rs hs 0 = L0 from hL0.symm, show bB width es rs hs 1 = L1 from hL1.symm, show bB width es rs hs 2 = L2 from hL2.symm]
 have HL0 := lH hL0
 have HL1 := lH hL1
 have HL2 := lH hL2
 have HN0 := lH hne
 have HN2 := lH hnr
 have HN1 : Hid ((hs.drop 1).length = nh - 1) := lH (by rw [List.length_drop, hnh])
 generalize hs.drop 1 = hs1 at *
 generalize cutH H ch = H1 at *
 obtain ⟨nh1, hnh1⟩ : ∃ n, n = nh - 1 := ⟨_, rfl⟩
 rw [← hnh1] at hsl HN1
 rw [← hnh1]
 have hnl : nh1 ≤ 1000 := by omega
 have HBX := lH hbx
 have HE0 := lH hE.base
 have HR0 := lH hR.base
 have HT0 := lH hT.base
 have hpw : p < w.heap.size := hbx.1
 have HB : Hid (Below w.heap.size w w) := Below.refl _ _
 replace HB : Hid (Below w.heap.size w w) := (Below.refl _ _)
 have HXb : Hid (aa w (p) [.int .i64 width, .slice E ne ce, .slice R nr cr, .slice H nh ch, .int .i64 z1, .slice A1 m1 c1, .int .i64 z2, .slice A2 m2 c2, .int .i64 h.num, .int .i64 h.size, .string h.root, .int .i64 h.taken, .string h.troot]) := HBX.out
 obtain ⟨hkb, hxb, hfb⟩ := HXb.out
 clear hE hR hH hT hne hnr hnh hpos hch hfe hfr hfh hL0 hL1 hL2 hbx hnh1
 go_enter Tryz.func94, Tryz.ntmps94
 go_wp2
 refine aD (fun w1 hw => ?_)
 have hz1 : w.heap.size + 2 ≤ w1.heap.size := zA
 have hbn : Below w.heap.size w w1 := zB
 replace HB := bT HB hbn
 replace HXb := nB HXb hbn
 clear hxb hfb hkb
 obtain ⟨hkb, hxb, hfb⟩ := HXb.out
 clear hbn
 have HXr : Hid (aa w1 (w.heap.size) [.slice none 0 0, .slice none 0 0, .slice none 0 0]) := zG3
 obtain ⟨hkr, hxr, hfr⟩ := HXr.out
 have HXo : Hid (aa w1 (w.heap.size + 1) [.slice none 0 0, .slice none 0 0, .slice none 0 0]) := zG3
 obtain ⟨hko, hxo, hfo⟩ := HXo.out
 clear hw
 obtain ⟨lo0, hlo0, hle0⟩ : ∃ n, w.heap.size + 2 ≤ n ∧ n ≤ w.heap.size + 2 := ⟨_, Nat.le_refl _, Nat.le_refl _⟩
 go_loopw [22] (fun i wr => ∃ (k : Nat) (X0 : Option Addr) (g0 : Nat), k ≤ ne ∧ i = .int .i64 k ∧ aa wr ((w.heap.size)) [.slice none 0 0, .slice none 0 0, .slice none 0 0] ∧ aa wr ((w.heap.size + 1)) [.slice X0 k g0, .slice none 0 0, .slice none 0 0] ∧ aT wr lo0 wr.heap.size (.slice X0 k g0, k) (strs (L0.take k)) ∧ Below w.heap.size w wr ∧ w1.heap.size ≤ wr.heap.size) (fun i _ => ne - (intOf i).toNat)
 case atStart => exact ⟨0, none, 0, Nat.zero_le _, rfl, HXr.out, HXo.out, (aT.of (World.ownsRow_nil _ _ _ _)).mono (by omega) (Nat.le_refl _), HB.out, Nat.le_refl _⟩
 case round =>
  obtain ⟨k, X0, g0, hk, rfl, hbr, hbo, hrw, hbl, hzl⟩ := hrel
  have HBL := lH hbl
  replace HB : Hid (Below w.heap.size w wr) := HBL.out
  replace HXr : Hid (aa wr (w.heap.size) [.slice none 0 0, .slice none 0 0, .slice none 0 0]) := hbr
  clear hxr hfr hkr; obtain ⟨hkr, hxr, hfr⟩ := HXr.out
  replace HXo : Hid (aa wr (w.heap.size + 1) [.slice X0 k g0, .slice none 0 0, .slice none 0 0]) := hbo
  clear hxo hfo hko; obtain ⟨hko, hxo, hfo⟩ := HXo.out; replace HXb := lH (HBX.out.below HBL.out); clear hxb hfb hkb; obtain ⟨hkb, hxb, hfb⟩ := HXb.out
  have HOA : Hid (aT wr (lo0) (wr.heap.size) (.slice X0 k g0, k) (strs (L0.take k))) := lH hrw
  have HOE := lH (HE0.out.below HBL.out)
  have hzz_wr : w.heap.size ≤ wr.heap.size := HB.out.size
  clear hbr hbo hrw hbl
  by_cases hlt : k < ne
  ·skip
   obtain ⟨b2, off, x, rfl, hb2, hks, hcs⟩ := ent_cells HOE.out (k := k) (by rw [HN0.out]; exact hlt)
   have c0' := hcs.1
   have c1' := hcs.2.1
   have c2' := hcs.2.2.1
   have c3' := hcs.2.2.2.1
   have c4' := hcs.2.2.2.2
   have HT : Hid (L0.take (k + 1) = L0.take k ++ [aJ x]) := lH (bI (by rw [HL0.out, List.getElem?_map, hks]; rfl))
   have HX := lH (fun W => implLeafText_c x W (HF0.out x (List.mem_of_getElem? hks)))
   have hI : (k : Int) < ne := by omega
   clear hks hcs; generalize aJ x = lt at *; generalize aV x = lk at *
   go_wp2_with fail
   refine af (fun w2 hw => ?_)
   have hz2 : wr.heap.size + 1 ≤ w2.heap.size := zA
   have hbn : Below wr.heap.size wr w2 := zB
   replace HB := bT HB hbn; replace HOA := lH (HOA.out.below hbn); replace HOE := lH (HOE.out.below hbn); replace HXb := nB HXb hbn; clear hxb hfb hkb; obtain ⟨hkb, hxb, hfb⟩ := HXb.out; replace HXr := nB HXr hbn; clear hxr hfr hkr; obtain ⟨hkr, hxr, hfr⟩ := HXr.out; replace HXo := nB HXo hbn; clear hxo hfo hko; obtain ⟨hko, hxo, hfo⟩ := HXo.out; clear hbn
   have HXe : Hid (aa w2 (wr.heap.size) [.string x.topic, .int .i64 x.index, .int .i64 x.time, .string x.key, .string x.body]) := zG5
   obtain ⟨hke, hxe, hfe⟩ := HXe.out; clear hw
   refine (HX.out _).mono ?_
   rintro e w3 ⟨rfl, hb⟩
   have hzw3 : w2.heap.size ≤ w3.heap.size := hb.size
   replace HB := bT HB hb; replace HOA := lH (HOA.out.below hb); replace HOE := lH (HOE.out.below hb); replace HXb := nB HXb hb; clear hxb hfb hkb; obtain ⟨hkb, hxb, hfb⟩ := HXb.out; replace HXr := nB HXr hb; clear hxr hfr hkr; obtain ⟨hkr, hxr, hfr⟩ := HXr.out; replace HXo := nB HXo hb; clear hxo hfo hko; obtain ⟨hko, hxo, hfo⟩ := HXo.out; replace HXe := nB HXe hb; clear hxe hfe hke; obtain ⟨hke, hxe, hfe⟩ := HXe.out
   clear hb; clear c0' c1' c2' c3' c4'; clear HOE; clear hxe hfe hke HXe
   go_wp2_with (at_builtin; refine fQ rfl _ _ rfl lo0 _ _ _ rfl (HOA.out.1.alloc _) w3.heap.size lt rfl (aa.new w3 _ _) (by omega) (by first | omega | (simp; done) | (simp; omega)) ?_)
   intro v2 w2_ hown2 hg2
   obtain ⟨hrb, hon⟩ := rowB_app HOA.out.1 _ hown2 hg2
   obtain ⟨A2, g2, rfl, _, _, _⟩ := ay hown2
   rw [← dU, ← HT.out] at hrb
   have hzw2_ : w3.heap.size ≤ w2_.heap.size := hon.size
   replace HB := lH (au HB.out hon (by omega) HB.out.size)
   replace HXb := lH (HXb.out.only hon (by first | omega | (simp; omega)))
   clear hxb hfb hkb; obtain ⟨hkb, hxb, hfb⟩ := HXb.out
   replace HXr := lH (HXr.out.only hon (by first | omega | (simp; omega)))
   clear hxr hfr hkr; obtain ⟨hkr, hxr, hfr⟩ := HXr.out
   replace HXo := lH (HXo.out.only hon (by first | omega | (simp; omega)))
   clear hxo hfo hko; obtain ⟨hko, hxo, hfo⟩ := HXo.out; clear HOA
   have HOA : Hid (aT w2_ (lo0) (w2_.heap.size) (.slice A2 (k + 1) g2, k + 1) (strs (L0.take (k + 1)))) := lH hrb
   clear hown2 hg2 hrb hon; go_wp2
   go_roundw
   case rel => exact ⟨k + 1, A2, g2, by omega, by go_num, (by (repeat first | with_reducible apply nA | with_reducible apply aa.drew | (with_reducible refine nC _ ?_ ?_; (focus (first | omega | simp <;> omega)))); exact HXr.out), (by exact ⟨by first | omega | simp [World.setCell] <;> omega, fun o => by rcases o with _ | _ | _ | o <;> go_simp, fun o => by go_simp⟩), ((by (repeat (first | (with_reducible refine aT.alloc ?_ _) | (with_reducible refine aT.drew ?_) | ((with_reducible refine aT.setCell ?_ ?_ _); rotate_left 1; (focus (first | omega | simp <;> omega))))); exact HOA.out) : aT _ lo0 w2_.heap.size _ _).mono (Nat.le_refl _) (by first | omega | simp [World.setCell] <;> omega), (by ((repeat first | with_reducible apply bA | with_reducible apply bD | (with_reducible refine bS ?_ ?_; (focus (first | omega | simp <;> omega)))); exact HB.out)), (by first | omega | simp [World.setCell] <;> omega)⟩
   case measure => simp [intOf]; omega
  obtain rfl : ne = k := by omega
  obtain ⟨lo1, hlo1, hle1⟩ : ∃ n, wr.heap.size ≤ n ∧ n ≤ wr.heap.size := ⟨_, Nat.le_refl _, Nat.le_refl _⟩
  have HXX := lH (HOA.out.mono (Nat.le_refl _) hlo1)
  rw [show L0.take ne = L0 from List.take_of_length_le (by rw [HL0.out, List.length_map, HN0.out]; exact Nat.le_refl _)] at HXX
  clear HOA; clear HOE
  replace HXo : Hid (aa wr (w.heap.size + 1) [.slice X0 ne g0, .slice none 0 0, .slice none 0 0]) := HXo.out
  clear hxo hfo hko; obtain ⟨hko, hxo, hfo⟩ := HXo.out
  have HOX0 : Hid (aT wr (lo0) (lo1) (.slice X0 ne g0, ne) (strs L0)) := HXX
  clear HXX; go_wp2
  refine aD (fun w2 hw => ?_)
  have hz2 : wr.heap.size + 0 ≤ w2.heap.size := zA
  have hbn : Below wr.heap.size wr w2 := zB
  replace HB := bT HB hbn; replace HOX0 := lH (HOX0.out.below hbn); replace HXb := nB HXb hbn; clear hxb hfb hkb; obtain ⟨hkb, hxb, hfb⟩ := HXb.out; replace HXr := nB HXr hbn; clear hxr hfr hkr; obtain ⟨hkr, hxr, hfr⟩ := HXr.out; replace HXo := nB HXo hbn; clear hxo hfo hko; obtain ⟨hko, hxo, hfo⟩ := HXo.out; clear hbn; clear hw
  go_loopw [44] (fun i wr => ∃ (k : Nat) (X1 : Option Addr) (g1 : Nat), k ≤ nh1 ∧ i = .int .i64 k ∧ aa wr ((w.heap.size)) [.slice none 0 0, .slice none 0 0, .slice none 0 0] ∧ aa wr ((w.heap.size + 1)) [.slice X0 ne g0, .slice X1 k g1, .slice none 0 0] ∧ aT wr lo0 lo1 (.slice X0 ne g0, ne) (strs L0) ∧ aT wr lo1 wr.heap.size (.slice X1 k g1, k) (strs (L1.take k)) ∧ Below w.heap.size w wr ∧ w2.heap.size ≤ wr.heap.size) (fun i _ => nh1 - (intOf i).toNat)
  case atStart => exact ⟨0, none, 0, Nat.zero_le _, rfl, HXr.out, HXo.out, HOX0.out, (aT.of (World.ownsRow_nil _ _ _ _)).mono (by omega) (Nat.le_refl _), HB.out, Nat.le_refl _⟩
  case round =>
   obtain ⟨k, X1, g1, hk, rfl, hbr, hbo, hr0, hrw, hbl, hzl⟩ := hrel
   have HBL := lH hbl
   replace HB : Hid (Below w.heap.size w wr) := HBL.out
   replace HXr : Hid (aa wr (w.heap.size) [.slice none 0 0, .slice none 0 0, .slice none 0 0]) := hbr
   clear hxr hfr hkr; obtain ⟨hkr, hxr, hfr⟩ := HXr.out
   replace HXo : Hid (aa wr (w.heap.size + 1) [.slice X0 ne g0, .slice X1 k g1, .slice none 0 0]) := hbo
   clear hxo hfo hko; obtain ⟨hko, hxo, hfo⟩ := HXo.out; replace HXb := lH (HBX.out.below HBL.out); clear hxb hfb hkb; obtain ⟨hkb, hxb, hfb⟩ := HXb.out
   replace HOX0 : Hid (aT wr (lo0) (lo1) (.slice X0 ne g0, ne) (strs L0)) := lH hr0
   have HOA : Hid (aT wr (lo1) (wr.heap.size) (.slice X1 k g1, k) (strs (L1.take k))) := lH hrw
   have HOT := lH (HT0.out.below HBL.out)
   have hzz_wr : w.heap.size ≤ wr.heap.size := HB.out.size
   clear hbr hbo hrw hbl hr0
   by_cases hlt : k < nh1
   ·skip
    obtain ⟨b2, off, x, rfl, hb2, hks, hcs⟩ := hd_cells HOT.out (k := k) (by rw [HN1.out]; exact hlt)
    have c0' := hcs.1
    have c1' := hcs.2.1
    have c2' := hcs.2.2.1
    have c3' := hcs.2.2.2.1
    have c4' := hcs.2.2.2.2
    have HT : Hid (L1.take (k + 1) = L1.take k ++ [aL width x]) := lH (bI (by rw [HL1.out, List.getElem?_map, hks]; rfl))
    have HX := lH (fun W => implHeadText_c width x W (HF1.out x (List.mem_of_getElem? hks)))
    have hI : (k : Int) < nh1 := by omega
    clear hks hcs; generalize aL width x = lt at *; generalize bu width x = lk at *
    go_wp2_with fail
    refine aD (fun w3 hw => ?_)
    have hz3 : wr.heap.size + 1 ≤ w3.heap.size := zA
    have hbn : Below wr.heap.size wr w3 := zB
    replace HB := bT HB hbn; replace HOX0 := lH (HOX0.out.below hbn); replace HOA := lH (HOA.out.below hbn); replace HOT := lH (HOT.out.below hbn); replace HXb := nB HXb hbn; clear hxb hfb hkb; obtain ⟨hkb, hxb, hfb⟩ := HXb.out; replace HXr := nB HXr hbn; clear hxr hfr hkr; obtain ⟨hkr, hxr, hfr⟩ := HXr.out; replace HXo := nB HXo hbn; clear hxo hfo hko; obtain ⟨hko, hxo, hfo⟩ := HXo.out; clear hbn
    have HXe : Hid (aa w3 (wr.heap.size) [.int .i64 x.num, .int .i64 x.size, .string x.root, .int .i64 x.taken, .string x.troot]) := zG5
    obtain ⟨hke, hxe, hfe⟩ := HXe.out; clear hw
    have lb : ∀ v : Later w3, v.v.cell? ⟨p, 0, none⟩ = some (.int .i64 width) := fun v => (ag v _ _ hkb).trans (hxb 0)
    have le0 : ∀ v : Later w3, v.v.cell? ⟨(wr.heap.size), 0, none⟩ = some (.int .i64 x.num) := fun v => (ag v _ _ hke).trans (hxe 0)
    have le1 : ∀ v : Later w3, v.v.cell? ⟨(wr.heap.size), 1, none⟩ = some (.int .i64 x.size) := fun v => (ag v _ _ hke).trans (hxe 1)
    have le2 : ∀ v : Later w3, v.v.cell? ⟨(wr.heap.size), 2, none⟩ = some (.string x.root) := fun v => (ag v _ _ hke).trans (hxe 2)
    have le3 : ∀ v : Later w3, v.v.cell? ⟨(wr.heap.size), 3, none⟩ = some (.int .i64 x.taken) := fun v => (ag v _ _ hke).trans (hxe 3)
    have le4 : ∀ v : Later w3, v.v.cell? ⟨(wr.heap.size), 4, none⟩ = some (.string x.troot) := fun v => (ag v _ _ hke).trans (hxe 4)
    refine aA (by kernel_rfl) (by kernel_rfl) ?_
    repeat (go_big_quiet_step ((first | with_reducible exact aC (HX.out _))))
    refine wpQuiet_nil ?_
    intro w9 h9
    have hb9 := aP h9
    clear lb le0 le1 le2 le3 le4 h9
    have hzw9 : w3.heap.size ≤ w9.heap.size := hb9.size
    replace HB := bT HB hb9; replace HOX0 := lH (HOX0.out.below hb9); replace HOA := lH (HOA.out.below hb9); replace HOT := lH (HOT.out.below hb9); replace HXb := nB HXb hb9; clear hxb hfb hkb; obtain ⟨hkb, hxb, hfb⟩ := HXb.out; replace HXr := nB HXr hb9; clear hxr hfr hkr; obtain ⟨hkr, hxr, hfr⟩ := HXr.out; replace HXo := nB HXo hb9; clear hxo hfo hko; obtain ⟨hko, hxo, hfo⟩ := HXo.out; replace HXe := nB HXe hb9
    clear hxe hfe hke; obtain ⟨hke, hxe, hfe⟩ := HXe.out; clear hb9; clear c0' c1' c2' c3' c4'; clear HOT; clear hxe hfe hke HXe
    go_wp2_with (at_builtin; refine fQ rfl _ _ rfl lo1 _ _ _ rfl (HOA.out.1.alloc _) w9.heap.size lt rfl (aa.new w9 _ _) (by omega) (by first | omega | (simp; done) | (simp; omega)) ?_)
    intro v2 w2_ hown2 hg2
    obtain ⟨hrb, hon⟩ := rowB_app HOA.out.1 _ hown2 hg2
    obtain ⟨A2, g2, rfl, _, _, _⟩ := ay hown2
    rw [← dU, ← HT.out] at hrb
    have hzw2_ : w9.heap.size ≤ w2_.heap.size := hon.size
    replace HB := lH (au HB.out hon (by omega) HB.out.size)
    replace HOX0 := lH (HOX0.out.only hon (by first | omega | (simp; omega)))
    replace HXb := lH (HXb.out.only hon (by first | omega | (simp; omega)))
    clear hxb hfb hkb; obtain ⟨hkb, hxb, hfb⟩ := HXb.out
    replace HXr := lH (HXr.out.only hon (by first | omega | (simp; omega)))
    clear hxr hfr hkr; obtain ⟨hkr, hxr, hfr⟩ := HXr.out
    replace HXo := lH (HXo.out.only hon (by first | omega | (simp; omega)))
    clear hxo hfo hko; obtain ⟨hko, hxo, hfo⟩ := HXo.out; clear HOA
    have HOA : Hid (aT w2_ (lo1) (w2_.heap.size) (.slice A2 (k + 1) g2, k + 1) (strs (L1.take (k + 1)))) := lH hrb
    clear hown2 hg2 hrb hon; go_wp2
    go_roundw
    case rel => exact ⟨k + 1, A2, g2, by omega, by go_num, (by (repeat first | with_reducible apply nA | with_reducible apply aa.drew | (with_reducible refine nC _ ?_ ?_; (focus (first | omega | simp <;> omega)))); exact HXr.out), (by exact ⟨by first | omega | simp [World.setCell] <;> omega, fun o => by rcases o with _ | _ | _ | o <;> go_simp, fun o => by go_simp⟩), (by (repeat (first | (with_reducible refine aT.alloc ?_ _) | (with_reducible refine aT.drew ?_) | ((with_reducible refine aT.setCell ?_ ?_ _); rotate_left 1; (focus (first | omega | simp <;> omega))))); exact HOX0.out), ((by (repeat (first | (with_reducible refine aT.alloc ?_ _) | (with_reducible refine aT.drew ?_) | ((with_reducible refine aT.setCell ?_ ?_ _); rotate_left 1; (focus (first | omega | simp <;> omega))))); exact HOA.out) : aT _ lo1 w2_.heap.size _ _).mono (Nat.le_refl _) (by first | omega | simp [World.setCell] <;> omega), (by ((repeat first | with_reducible apply bA | with_reducible apply bD | (with_reducible refine bS ?_ ?_; (focus (first | omega | simp <;> omega)))); exact HB.out)), (by first | omega | simp [World.setCell] <;> omega)⟩
    case measure => simp [intOf]; omega
   obtain rfl : nh1 = k := by omega
   obtain ⟨lo2, hlo2, hle2⟩ : ∃ n, wr.heap.size ≤ n ∧ n ≤ wr.heap.size := ⟨_, Nat.le_refl _, Nat.le_refl _⟩
   have HXX := lH (HOA.out.mono (Nat.le_refl _) hlo2)
   rw [show L1.take nh1 = L1 from List.take_of_length_le (by rw [HL1.out, List.length_map, HN1.out]; exact Nat.le_refl _)] at HXX
   clear HOA; clear HOT
   replace HXo : Hid (aa wr (w.heap.size + 1) [.slice X0 ne g0, .slice X1 nh1 g1, .slice none 0 0]) := HXo.out
   clear hxo hfo hko; obtain ⟨hko, hxo, hfo⟩ := HXo.out
   have HOX1 : Hid (aT wr (lo1) (lo2) (.slice X1 nh1 g1, nh1) (strs L1)) := HXX
   clear HXX; go_wp2
   refine aD (fun w3 hw => ?_)
   have hz3 : wr.heap.size + 0 ≤ w3.heap.size := zA
   have hbn : Below wr.heap.size wr w3 := zB
   replace HB := bT HB hbn; replace HOX0 := lH (HOX0.out.below hbn); replace HOX1 := lH (HOX1.out.below hbn); replace HXb := nB HXb hbn; clear hxb hfb hkb; obtain ⟨hkb, hxb, hfb⟩ := HXb.out; replace HXr := nB HXr hbn; clear hxr hfr hkr; obtain ⟨hkr, hxr, hfr⟩ := HXr.out; replace HXo := nB HXo hbn; clear hxo hfo hko; obtain ⟨hko, hxo, hfo⟩ := HXo.out; clear hbn; clear hw
   go_loopw [69] (fun i wr => ∃ (k : Nat) (X2 : Option Addr) (g2 : Nat), k ≤ nr ∧ i = .int .i64 k ∧ aa wr ((w.heap.size)) [.slice none 0 0, .slice none 0 0, .slice none 0 0] ∧ aa wr ((w.heap.size + 1)) [.slice X0 ne g0, .slice X1 nh1 g1, .slice X2 k g2] ∧ aT wr lo0 lo1 (.slice X0 ne g0, ne) (strs L0) ∧ aT wr lo1 lo2 (.slice X1 nh1 g1, nh1) (strs L1) ∧ aT wr lo2 wr.heap.size (.slice X2 k g2, k) (strs (L2.take k)) ∧ Below w.heap.size w wr ∧ w3.heap.size ≤ wr.heap.size) (fun i _ => nr - (intOf i).toNat)
   case atStart => exact ⟨0, none, 0, Nat.zero_le _, rfl, HXr.out, HXo.out, HOX0.out, HOX1.out, (aT.of (World.ownsRow_nil _ _ _ _)).mono (by omega) (Nat.le_refl _), HB.out, Nat.le_refl _⟩
   case round =>
    obtain ⟨k, X2, g2, hk, rfl, hbr, hbo, hr0, hr1, hrw, hbl, hzl⟩ := hrel
    have HBL := lH hbl
    replace HB : Hid (Below w.heap.size w wr) := HBL.out
    replace HXr : Hid (aa wr (w.heap.size) [.slice none 0 0, .slice none 0 0, .slice none 0 0]) := hbr
    clear hxr hfr hkr; obtain ⟨hkr, hxr, hfr⟩ := HXr.out
    replace HXo : Hid (aa wr (w.heap.size + 1) [.slice X0 ne g0, .slice X1 nh1 g1, .slice X2 k g2]) := hbo
    clear hxo hfo hko; obtain ⟨hko, hxo, hfo⟩ := HXo.out; replace HXb := lH (HBX.out.below HBL.out); clear hxb hfb hkb; obtain ⟨hkb, hxb, hfb⟩ := HXb.out
    replace HOX0 : Hid (aT wr (lo0) (lo1) (.slice X0 ne g0, ne) (strs L0)) := lH hr0
    replace HOX1 : Hid (aT wr (lo1) (lo2) (.slice X1 nh1 g1, nh1) (strs L1)) := lH hr1
    have HOA : Hid (aT wr (lo2) (wr.heap.size) (.slice X2 k g2, k) (strs (L2.take k))) := lH hrw
    have HOR := lH (HR0.out.below HBL.out)
    have hzz_wr : w.heap.size ≤ wr.heap.size := HB.out.size
    clear hbr hbo hrw hbl hr0 hr1
    by_cases hlt : k < nr
    ·skip
     obtain ⟨b2, off, x, rfl, hb2, hks, hcs⟩ := gm HOR.out (k := k) (by rw [HN2.out]; exact hlt)
     have c0' := hcs.1
     have c1' := hcs.2.1
     have c2' := hcs.2.2
     have HT : Hid (L2.take (k + 1) = L2.take k ++ [aK x]) := lH (bI (by rw [HL2.out, List.getElem?_map, hks]; rfl))
     have HX := lH (fun W => gN x W (HF2.out x (List.mem_of_getElem? hks)))
     have hI : (k : Int) < nr := by omega
     clear hks hcs; generalize aK x = lt at *; generalize bX x = lk at *
     go_wp2_with fail
     refine af (fun w4 hw => ?_)
     have hz4 : wr.heap.size + 1 ≤ w4.heap.size := zA
     have hbn : Below wr.heap.size wr w4 := zB
     replace HB := bT HB hbn; replace HOX0 := lH (HOX0.out.below hbn); replace HOX1 := lH (HOX1.out.below hbn); replace HOA := lH (HOA.out.below hbn); replace HOR := lH (HOR.out.below hbn); replace HXb := nB HXb hbn; clear hxb hfb hkb; obtain ⟨hkb, hxb, hfb⟩ := HXb.out; replace HXr := nB HXr hbn; clear hxr hfr hkr; obtain ⟨hkr, hxr, hfr⟩ := HXr.out; replace HXo := nB HXo hbn; clear hxo hfo hko; obtain ⟨hko, hxo, hfo⟩ := HXo.out
     clear hbn
     have HXe : Hid (aa w4 (wr.heap.size) [.string x.reader, .string x.topic, .int .i64 x.index]) := zG3
     obtain ⟨hke, hxe, hfe⟩ := HXe.out; clear hw
     refine (HX.out _).mono ?_
     rintro e w5 ⟨rfl, hb⟩
     have hzw5 : w4.heap.size ≤ w5.heap.size := hb.size
     replace HB := bT HB hb; replace HOX0 := lH (HOX0.out.below hb); replace HOX1 := lH (HOX1.out.below hb); replace HOA := lH (HOA.out.below hb); replace HOR := lH (HOR.out.below hb); replace HXb := nB HXb hb; clear hxb hfb hkb; obtain ⟨hkb, hxb, hfb⟩ := HXb.out; replace HXr := nB HXr hb; clear hxr hfr hkr; obtain ⟨hkr, hxr, hfr⟩ := HXr.out; replace HXo := nB HXo hb; clear hxo hfo hko; obtain ⟨hko, hxo, hfo⟩ := HXo.out
     replace HXe := nB HXe hb; clear hxe hfe hke; obtain ⟨hke, hxe, hfe⟩ := HXe.out; clear hb; clear c0' c1' c2'; clear HOR; clear hxe hfe hke HXe
     go_wp2_with (at_builtin; refine fQ rfl _ _ rfl lo2 _ _ _ rfl (HOA.out.1.alloc _) w5.heap.size lt rfl (aa.new w5 _ _) (by omega) (by first | omega | (simp; done) | (simp; omega)) ?_)
     intro v2 w2_ hown2 hg2
     obtain ⟨hrb, hon⟩ := rowB_app HOA.out.1 _ hown2 hg2
     obtain ⟨A2, g2, rfl, _, _, _⟩ := ay hown2
     rw [← dU, ← HT.out] at hrb
     have hzw2_ : w5.heap.size ≤ w2_.heap.size := hon.size
     replace HB := lH (au HB.out hon (by omega) HB.out.size)
     replace HOX0 := lH (HOX0.out.only hon (by first | omega | (simp; omega)))
     replace HOX1 := lH (HOX1.out.only hon (by first | omega | (simp; omega)))
     replace HXb := lH (HXb.out.only hon (by first | omega | (simp; omega)))
     clear hxb hfb hkb; obtain ⟨hkb, hxb, hfb⟩ := HXb.out
     replace HXr := lH (HXr.out.only hon (by first | omega | (simp; omega)))
     clear hxr hfr hkr; obtain ⟨hkr, hxr, hfr⟩ := HXr.out
     replace HXo := lH (HXo.out.only hon (by first | omega | (simp; omega)))
     clear hxo hfo hko; obtain ⟨hko, hxo, hfo⟩ := HXo.out; clear HOA
     have HOA : Hid (aT w2_ (lo2) (w2_.heap.size) (.slice A2 (k + 1) g2, k + 1) (strs (L2.take (k + 1)))) := lH hrb
     clear hown2 hg2 hrb hon; go_wp2
     go_roundw
     case rel => exact ⟨k + 1, A2, g2, by omega, by go_num, (by (repeat first | with_reducible apply nA | with_reducible apply aa.drew | (with_reducible refine nC _ ?_ ?_; (focus (first | omega | simp <;> omega)))); exact HXr.out), (by exact ⟨by first | omega | simp [World.setCell] <;> omega, fun o => by rcases o with _ | _ | _ | o <;> go_simp, fun o => by go_simp⟩), (by (repeat (first | (with_reducible refine aT.alloc ?_ _) | (with_reducible refine aT.drew ?_) | ((with_reducible refine aT.setCell ?_ ?_ _); rotate_left 1; (focus (first | omega | simp <;> omega))))); exact HOX0.out), (by (repeat (first | (with_reducible refine aT.alloc ?_ _) | (with_reducible refine aT.drew ?_) | ((with_reducible refine aT.setCell ?_ ?_ _); rotate_left 1; (focus (first | omega | simp <;> omega))))); exact HOX1.out), ((by (repeat (first | (with_reducible refine aT.alloc ?_ _) | (with_reducible refine aT.drew ?_) | ((with_reducible refine aT.setCell ?_ ?_ _); rotate_left 1; (focus (first | omega | simp <;> omega))))); exact HOA.out) : aT _ lo2 w2_.heap.size _ _).mono (Nat.le_refl _) (by first | omega | simp [World.setCell] <;> omega), (by ((repeat first | with_reducible apply bA | with_reducible apply bD | (with_reducible refine bS ?_ ?_; (focus (first | omega | simp <;> omega)))); exact HB.out)), (by first | omega | simp [World.setCell] <;> omega)⟩
     case measure => simp [intOf]; omega
    obtain rfl : nr = k := by omega
    obtain ⟨lo3, hlo3, hle3⟩ : ∃ n, wr.heap.size ≤ n ∧ n ≤ wr.heap.size := ⟨_, Nat.le_refl _, Nat.le_refl _⟩
    have HXX := lH (HOA.out.mono (Nat.le_refl _) hlo3)
    rw [show L2.take nr = L2 from List.take_of_length_le (by rw [HL2.out, List.length_map, HN2.out]; exact Nat.le_refl _)] at HXX
    clear HOA; clear HOR
    replace HXo : Hid (aa wr (w.heap.size + 1) [.slice X0 ne g0, .slice X1 nh1 g1, .slice X2 nr g2]) := HXo.out
    clear hxo hfo hko; obtain ⟨hko, hxo, hfo⟩ := HXo.out
    have HOX2 : Hid (aT wr (lo2) (lo3) (.slice X2 nr g2, nr) (strs L2)) := HXX
    clear HXX; go_wp2
    refine ai (fun w4 hw => ?_)
    have hz4 : wr.heap.size + 0 ≤ w4.heap.size := zA
    replace HB : Hid (Below w.heap.size w w4) := zC HB
    replace HOX0 : Hid (aT w4 (lo0) (lo1) (.slice X0 ne g0, ne) (strs L0)) := zLRowB HOX0
    replace HOX1 : Hid (aT w4 (lo1) (lo2) (.slice X1 nh1 g1, nh1) (strs L1)) := zLRowB HOX1
    replace HOX2 : Hid (aT w4 (lo2) (lo3) (.slice X2 nr g2, nr) (strs L2)) := zLRowB HOX2
    replace HXb : Hid (aa w4 (p) [.int .i64 width, .slice E ne ce, .slice R nr cr, .slice H nh ch, .int .i64 z1, .slice A1 m1 c1, .int .i64 z2, .slice A2 m2 c2, .int .i64 h.num, .int .i64 h.size, .string h.root, .int .i64 h.taken, .string h.troot]) := zE HXb
    clear hxb hfb hkb; obtain ⟨hkb, hxb, hfb⟩ := HXb.out
    replace HXr : Hid (aa w4 (w.heap.size) [.slice X0 ne g0, .slice X1 nh1 g1, .slice X2 nr g2]) := zD HXr
    clear hxr hfr hkr; obtain ⟨hkr, hxr, hfr⟩ := HXr.out
    replace HXo : Hid (aa w4 (w.heap.size + 1) [.slice X0 ne g0, .slice X1 nh1 g1, .slice X2 nr g2]) := zE HXo
    clear hxo hfo hko; obtain ⟨hko, hxo, hfo⟩ := HXo.out; clear hw
    refine bodyPost_ret (v := .agg #[.slice X0 ne g0, .slice X1 nh1 g1, .slice X2 nr g2]) (by simp [results, Tryz.results94, go_sem, hxr]) rfl ?_
    exact ⟨X0, g0, X1, g1, X2, g2, rfl, ⟨(HOX0.out.ownB rfl (by omega) (by omega)).mono (by omega) (by omega) (Nat.le_refl _), (HOX1.out.ownB rfl (by omega) (by omega)).mono (by omega) (by omega) (Nat.le_refl _), (HOX2.out.ownB rfl (by omega) (by omega)).mono (by omega) (by omega) (Nat.le_refl _)⟩, HB.out⟩
theorem frameM_size {t : ByteArray} (h : dh t = true) : (bJ t).size = 6 + t.size := by
 have h2 := az.1 h
 have h3 : bM 4 4 t = true := by rw [bM, decide_eq_true (by omega : t.size ≤ 4000)]; rfl
 rw [bJ, if_pos h, frameB, ByteArray.size_append, ByteArray.size_append, bi, digM_size h3]
 show 2 + 4 + t.size = 6 + t.size
 omega
def Recs (l : List ByteArray) : Prop := ∀ t ∈ l, dh t = true ∧ t.size ≤ 480
theorem framesW_app (a b : List ByteArray) : bC (a ++ b) = bC a ++ bC b := by rw [bC, List.flatMap_append]; rfl
theorem framesW_one (t : ByteArray) : bC [t] = (bJ t).data.toList := by rw [bC, List.flatMap_cons, List.flatMap_nil, List.append_nil]
theorem framesW_le : ∀ {l : List ByteArray}, Recs l → (bC l).length ≤ l.length * 486
 | [], _ => Nat.zero_le _
 | t :: l, h => by
   have h1 := h t List.mem_cons_self
   have h2 := framesW_le (l := l) (fun s hs => h s (List.mem_cons_of_mem _ hs))
   have h3 := frameM_size h1.1
   have h4 : (bJ t).data.toList.length = (bJ t).size := Array.length_toList
   rw [show t :: l = [t] ++ l from rfl, framesW_app, List.length_append, framesW_one, h4, List.length_append, show [t].length = 1 from rfl, Nat.add_mul]
   omega
theorem recs_sub {l m : List ByteArray} (h : Recs l) (hs : ∀ t ∈ m, t ∈ l) : Recs m := fun t ht => h t (hs t ht)
theorem frames_fine {l : List ByteArray} (h : Recs l) (hn : l.length ≤ 600) : ∀ {k : Nat}, k ≤ l.length → dn l k = true
 | 0, _ => rfl
 | k + 1, hk => by
   obtain ⟨t, ht⟩ : ∃ t, l[k]? = some t := ⟨_, List.getElem?_eq_getElem (by omega)⟩
   have h1 := h t (List.mem_of_getElem? ht)
   have h2 := framesW_le (recs_sub h (fun s hs => List.mem_of_mem_take (i := k) hs))
   have h3 := frameM_size h1.1
   have h4 : (l.take k).length ≤ 599 := by rw [List.length_take]; omega
   have h5 := Nat.mul_le_mul_right 486 h4
   rw [dn, frames_fine h hn (by omega), ht]
   show (true && (dh t && decide (((bJ t).size : Int) ≤ 300000 - (bC (l.take k)).length))) = true
   rw [h1.1, decide_eq_true (by omega)]; rfl
theorem frames_ok {l : List ByteArray} (h : Recs l) (hn : l.length ≤ 600) : dB l = ⟨(bC l).toArray⟩ ∧ (dB l).size = (bC l).length ∧ (dB l).size ≤ 291600 := by
 have e : dB l = ⟨(bC l).toArray⟩ := by
  rw [dB, if_pos]
  rw [fe, decide_eq_true hn, frames_fine h hn (Nat.le_refl _)]; rfl
 have e2 : (dB l).size = (bC l).length := by rw [e]; exact List.size_toArray
 have h2 := framesW_le h
 have h5 := Nat.mul_le_mul_right 486 hn
 exact ⟨e, e2, by omega⟩
theorem frames_step {l : List ByteArray} (h : Recs l) {k : Nat} {t : ByteArray} (ht : l[k]? = some t) : (bC (l.take (k + 1))).length = (bC (l.take k)).length + 6 + t.size := by
 have h1 := frameM_size (h t (List.mem_of_getElem? ht)).1
 have h4 : (bJ t).data.toList.length = (bJ t).size := Array.length_toList
 rw [framesW_take ht, List.length_append, h4, h1]; omega
section
variable {width : Int} {es : List Ent} {rs : List Rcp} {hs : List Hd}
theorem leaf_rec {x : Ent} (h : aV x = true) : dh (aJ x) = true ∧ (aJ x).size ≤ 480 := by
 have h1 := dF x
 refine ⟨az.2 ⟨?_, by omega⟩, h1⟩
 rw [aJ, if_pos h, leafTextB]
 simp only [ByteArray.size_append, bi]
 omega
theorem rcp_rec {x : Rcp} (h : bX x = true) : dh (aK x) = true ∧ (aK x).size ≤ 480 := by
 have h1 := dO x
 refine ⟨az.2 ⟨?_, by omega⟩, by omega⟩
 rw [aK, if_pos h, rcpTextB]
 simp only [ByteArray.size_append, bi]
 omega
theorem head_rec {x : Hd} (h : bu width x = true) : dh (aL width x) = true ∧ (aL width x).size ≤ 480 := by
 have h1 := gQ width x
 refine ⟨az.2 ⟨?_, by omega⟩, by omega⟩
 rw [aL, if_pos h]
 simp only [ByteArray.size_append, bi]
 omega
theorem hds_mem (h : aB width es rs hs) {x : Hd} (hx : x ∈ hs) : bu width x = true := by
 obtain ⟨k, hk⟩ := List.mem_iff_getElem?.1 hx
 exact (fU h.heads hk).2.1
theorem file_recs (h : aB width es rs hs) (f : Nat) : Recs (bB width es rs hs f) ∧ (bB width es rs hs f).length ≤ 600 := by
 have l1 := logOk_len h.log
 have l2 := rcpsOk_len h.bf
 have l3 := headsOk_len h.heads
 unfold bB
 split
 ·exact ⟨fun t ht => by obtain ⟨x, hx, rfl⟩ := List.mem_map.1 ht; exact leaf_rec (logOk_mem h.log x hx), by rw [List.length_map]; omega⟩
 split
 ·exact ⟨fun t ht => by obtain ⟨x, hx, rfl⟩ := List.mem_map.1 ht; exact head_rec (hds_mem h (List.mem_of_mem_drop hx)), by rw [List.length_map, List.length_drop]; omega⟩
 exact ⟨fun t ht => by obtain ⟨x, hx, rfl⟩ := List.mem_map.1 ht; exact rcp_rec (rcpsOk_mem h.bf x hx), by rw [List.length_map]; omega⟩
end
structure Deed (m m' : Bm) (f : Nat) (t : ByteArray) : Prop where
 ok : aB m'.width m'.es m'.rs m'.hs
 wd : m'.width = m.width
 le : f ≤ 2
 at_ : bB m'.width m'.es m'.rs m'.hs f = bB m.width m.es m.rs m.hs f ++ [t]
 off : ∀ g, g ≤ 2 → g ≠ f → bB m'.width m'.es m'.rs m'.hs g = bB m.width m.es m.rs m.hs g
def Bm.file (m : Bm) (f : Nat) : List ByteArray := bB m.width m.es m.rs m.hs f
def dZ (m : Bm) (f : Nat) (t : ByteArray) : Wri := ⟨f, (dB (m.file f)).size, bJ t⟩
section
variable {width : Int} {es : List Ent} {rs : List Rcp} {hs : List Hd}
theorem deed_pub (h : aB width es rs hs) {t k b : ByteArray} {ti : Int} (hc : bK es t ti k b = 0) : Deed ⟨width, es, rs, hs⟩ ⟨width, es ++ [aY es t ti k b], rs, hs⟩ 0 (aJ (aY es t ti k b)) :=
 ⟨h.publish hc, rfl, by omega, List.map_append, fun g hg hn => by
   obtain e | e : g = 1 ∨ g = 2 := by omega
   all_goals subst e; rfl⟩
theorem deed_take (h : aB width es rs hs) {r : Rcp} (h1 : bX r = true) (h2 : dJ es (ae hs).size.toNat r = true) (h3 : r ∉ rs) (h4 : rs.length < 512) : Deed ⟨width, es, rs, hs⟩ ⟨width, es, rs ++ [r], hs⟩ 2 (aK r) :=
 ⟨h.take h1 h2 h3 h4, rfl, by omega, List.map_append, fun g hg hn => by
   obtain e | e : g = 0 ∨ g = 1 := by omega
   all_goals subst e; rfl⟩
theorem deed_seal (h : aB width es rs hs) (hl : hs.length < 400) : Deed ⟨width, es, rs, hs⟩ ⟨width, es, rs, hs ++ [eH width es rs hs]⟩ 1 (aL width (eH width es rs hs)) :=
 ⟨h.seal_ hl, rfl, by omega, by
   show ((hs ++ [eH width es rs hs]).drop 1).map (aL width) = (hs.drop 1).map (aL width) ++ [aL width (eH width es rs hs)]
   rw [List.drop_append_of_le_length (by have := h.pos; omega), List.map_append]; rfl, fun g hg hn => by
   obtain e | e : g = 0 ∨ g = 2 := by omega
   all_goals subst e; rfl⟩
end
end
end Go.Proofs.YtoccjgcokffkbaaGreat
