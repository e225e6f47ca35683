/- Part 21 of the proof of FnDeeds: lemmas and contracts. -/
import Derived.Test.YtoccjgcokffkbaaGreatTd20
namespace Go.Proofs.YtoccjgcokffkbaaGreat
set_option linter.unusedVariables false
set_option linter.unusedSimpArgs false
set_option maxHeartbeats 20000000
section
open Go.RowKit
theorem Rd.strAt {w : World} {lo hi : Nat} {A : Option Addr} {l : List ByteArray} (h : Rd w lo hi A (strs l)) {k : Nat} {s : ByteArray} (hk : l[k]? = some s) : ∃ b off, A = some ⟨b, off, none⟩ ∧ b < w.heap.size ∧ w.cell? ⟨b, off + k, none⟩ = some (.string s) := by
 obtain ⟨b, off, e, _, h3, h4, h5⟩ := h (fun e => by have h9 := strs_get hk; rw [e] at h9; cases h9)
 exact ⟨b, off, e, by omega, h5 k _ (strs_get hk)⟩
theorem aa.rdL {w : World} {k lo : Nat} {cs : List Value} (h : aa w k cs) (hl : lo ≤ k) : Rd w lo w.heap.size (some ⟨k, 0, none⟩) cs := fun _ =>
 ⟨k, 0, rfl, hl, h.1, Nat.le_refl _, fun j u hu => by rw [Nat.zero_add]; exact (h.2.1 j).trans hu⟩
theorem idxStrU (R : Option Addr) (b off nr cr k : Nat) (hR : R = some ⟨b, off, none⟩) (hk : k < nr) (W : World) : (Instr.indexAt 29 (.slice R nr cr) (.int .i64 k)).run Tryz.prog W = .ok (.pointer (some ⟨b, off + k, none⟩)) W := by
 subst hR
 have h1 : (k : Int) < nr := by omega
 go_simp
set_option maxRecDepth 100000 in
theorem writeBehind_c (width z1 z2 : Int) (p f : Nat) (E R H A1 A2 : Option Addr) (ne nr nh ce cr ch c1 c2 lo1 hi1 lo2 hi2 lo3 hi3 m1 m2 : Nat) (es : List Ent) (rs : List Rcp) (hs : List Hd) (h : Hd) (t : ByteArray) (w : World) (hbx : aa w p [.int .i64 width, .slice E ne ce, .slice R nr cr, .slice H nh ch, .int .i64 z1, .slice A1 m1 c1, .int .i64 z2, .slice A2 m2 c2, .int .i64 h.num, .int .i64 h.size, .string h.root, .int .i64 h.taken, .string h.troot])
  (hE : Rd w lo1 hi1 E (aR es)) (hR : Rd w lo2 hi2 R (bf rs)) (hH : Rd w lo3 hi3 H (hds hs)) (hne : es.length = ne) (hnr : rs.length = nr) (hnh : hs.length = nh) (b1 : ne ≤ 1000) (b2 : nr ≤ 1000) (b3 : nh ≤ 1000) (hpos : 1 ≤ nh) (hch : nh ≤ ch) (hfe : ∀ x ∈ es, x.fits) (hfr : ∀ x ∈ rs, x.fits) (hfh : ∀ x ∈ hs, x.bulk ≤ 1048576)
  (hf2 : f ≤ 2) (hrc : Recs (bB width es rs hs f)) (hrn : (bB width es rs hs f).length ≤ 600) (ht : t.size ≤ 1048576) :
  Calls Tryz.prog 138 #[.pointer (some ⟨p, 0, none⟩), .int .i64 f, .string t] w fun e w' => ∃ k, e = .returned (.slice (some ⟨k, 0, none⟩) 1 1) ∧ Rd w' w.heap.size w'.heap.size (some ⟨k, 0, none⟩) (wris [⟨f, (dB (bB width es rs hs f)).size, bJ t⟩]) ∧ Below w.heap.size w w' := by
 have HTX := lH (fun W (q : aa W p [.int .i64 width, .slice E ne ce, .slice R nr cr, .slice H nh ch, .int .i64 z1, .slice A1 m1 c1, .int .i64 z2, .slice A2 m2 c2, .int .i64 h.num, .int .i64 h.size, .string h.root, .int .i64 h.taken, .string h.troot]) (r0 : Rd W 0 W.heap.size E (aR es)) (r1 : Rd W 0 W.heap.size R (bf rs)) (r2 : Rd W 0 W.heap.size H (hds hs)) => texts_c width z1 z2 p E R H A1 A2 ne nr nh ce cr ch c1 c2 0 W.heap.size 0 W.heap.size 0 W.heap.size m1 m2 es rs hs h W q r0 r1 r2 hne hnr hnh b1 b2 b3 hpos hch hfe hfr hfh)
 have HFM := lH (fun W => implFrame_c t W ht)
 have hk9 := frames_ok hrc hrn
 have hl0 : (bB width es rs hs 0).length = ne := by show (es.map aJ).length = ne; rw [List.length_map, hne]
 have hl1 : (bB width es rs hs 1).length = nh - 1 := by show ((hs.drop 1).map (aL width)).length = nh - 1; rw [List.length_map, List.length_drop, hnh]
 have hl2 : (bB width es rs hs 2).length = nr := by show (rs.map aK).length = nr; rw [List.length_map, hnr]
 have hpick : ∀ (W : World) (B0 B1 B2 : Option Addr) (d0 d1 d2 : Nat), Own W w.heap.size W.heap.size B0 (strs (bB width es rs hs 0)) ∧ Own W w.heap.size W.heap.size B1 (strs (bB width es rs hs 1)) ∧ Own W w.heap.size W.heap.size B2 (strs (bB width es rs hs 2)) →
   ∃ (X : Option Addr) (nf d : Nat), (∀ V, (Instr.index 146 (.agg #[.slice B0 ne d0, .slice B1 (nh - 1) d1, .slice B2 nr d2]) (.int .i64 f)).run Tryz.prog V = .ok (.slice X nf d) V) ∧ Own W w.heap.size W.heap.size X (strs (bB width es rs hs f)) ∧ (bB width es rs hs f).length = nf := by
  intro W B0 B1 B2 d0 d1 d2 ⟨o0, o1, o2⟩
  obtain rfl | rfl | rfl : f = 0 ∨ f = 1 ∨ f = 2 := by omega
  ·exact ⟨B0, ne, d0, fun V => (idxArr _ _ _ V).1, o0, hl0⟩
  ·exact ⟨B1, nh - 1, d1, fun V => (idxArr _ _ _ V).2.1, o1, hl1⟩
  exact ⟨B2, nr, d2, fun V => (idxArr _ _ _ V).2.2, o2, hl2⟩
 have HPICK := lH hpick
 rw [hk9.2.1]
 obtain ⟨L, hL⟩ : ∃ L, bB width es rs hs f = L := ⟨_, rfl⟩
 rw [hL] at hrc hrn HPICK hk9 ⊢
 have HRC := lH hrc
 have HRN := lH hrn
 have hle : ∀ k, (bC (L.take k)).length ≤ 291600 := fun k => by
  have h1 := framesW_le (recs_sub hrc (fun s hs => List.mem_of_mem_take (i := k) hs))
  have h2 : (L.take k).length ≤ 600 := by rw [List.length_take]; omega
  have h3 := Nat.mul_le_mul_right 486 h2
  omega
 have HLE := lH hle
 have HST := lH (fun (k : Nat) (s : ByteArray) (hs : L[k]? = some s) => frames_step hrc hs)
 have hpw : p < w.heap.size := hbx.1
 have htz : t.size ≤ 1048576 := ht
 generalize bJ t = fm at *
 generalize dh t = fo at *
 have HB : Hid (Below w.heap.size w w) := Below.refl _ _
 have HOE : Hid (Rd w (0) (w.heap.size) (E) (aR es)) := Rd.base hE
 have HOR : Hid (Rd w (0) (w.heap.size) (R) (bf rs)) := Rd.base hR
 have HOH : Hid (Rd w (0) (w.heap.size) (H) (hds hs)) := Rd.base hH
 replace HB : Hid (Below w.heap.size w w) := (Below.refl _ _)
 have HXb : Hid (aa w (p) [.int .i64 width, .slice E ne ce, .slice R nr cr, .slice H nh ch, .int .i64 z1, .slice A1 m1 c1, .int .i64 z2, .slice A2 m2 c2, .int .i64 h.num, .int .i64 h.size, .string h.root, .int .i64 h.taken, .string h.troot]) := hbx
 obtain ⟨hkb, hxb, hfb⟩ := HXb.out
 clear hbx hE hR hH hne hnr hnh hpos hch hfe hfr hfh hrc hrn hk9 hl0 hl1 hl2 hpick hL hle
 go_enter Tryz.func138, Tryz.ntmps138
 go_wp2_with fail
 refine af (fun w1 hw => ?_)
 have hz1 : w.heap.size + 0 ≤ w1.heap.size := zA
 have hbn : Below w.heap.size w w1 := zB
 replace HB := bT HB hbn
 replace HOE := lH (HOE.out.below hbn)
 replace HOR := lH (HOR.out.below hbn)
 replace HOH := lH (HOH.out.below hbn)
 replace HXb := nB HXb hbn
 clear hxb hfb hkb
 obtain ⟨hkb, hxb, hfb⟩ := HXb.out
 clear hbn
 clear hw
 refine (HTX.out _ HXb.out HOE.out.base HOR.out.base HOH.out.base).mono ?_
 rintro e w2 ⟨B0, d0, B1, d1, B2, d2, rfl, ho, hb⟩
 have hzw2 : w1.heap.size ≤ w2.heap.size := hb.size
 replace HB := bT HB hb
 replace HOE := lH (HOE.out.below hb)
 replace HOR := lH (HOR.out.below hb)
 replace HOH := lH (HOH.out.below hb)
 replace HXb := nB HXb hb
 clear hxb hfb hkb
 obtain ⟨hkb, hxb, hfb⟩ := HXb.out
 clear hb
 clear HOE
 clear HOR
 clear HOH
 clear hxb hfb hkb HXb
 obtain ⟨X, nf, d, hix, hX, hnf⟩ := HPICK.out _ B0 B1 B2 d0 d1 d2 (ho.imp (fun q => q.mono (by omega) (Nat.le_refl _) (Nat.le_refl _)) (fun q => q.imp (fun q => q.mono (by omega) (Nat.le_refl _) (Nat.le_refl _)) (fun q => q.mono (by omega) (Nat.le_refl _) (Nat.le_refl _))))
 have HOX : Hid (Rd w2 (w.heap.size) (w2.heap.size) (X) (strs L)) := lH hX.rd
 have HNF := lH hnf
 have hnfb : nf ≤ 600 := by rw [← hnf]; exact HRN.out
 clear ho hX hnf HPICK HTX
 go_wp2
 refine aD (fun w3 hw => ?_)
 have hz3 : w2.heap.size + 0 ≤ w3.heap.size := zA
 have hbn : Below w2.heap.size w2 w3 := zB
 replace HB := bT HB hbn
 replace HOX := lH (HOX.out.below hbn)
 clear hbn
 clear hw
 clear hix
 go_loopw [7, 9, 17] (fun a _ i wx => ∃ k : Nat, k ≤ nf ∧ i = .int .i64 k ∧ a = .int .i64 ((bC (L.take k)).length : Nat) ∧ Rd wx 0 wx.heap.size X (strs L) ∧ Below w.heap.size w wx) (fun _ _ i _ => nf - (intOf i).toNat)
 case atStart => exact ⟨0, Nat.zero_le _, rfl, rfl, HOX.out.base, HB.out⟩
 case round =>
  obtain ⟨wi, rfl⟩ : ∃ wi : World, wi = wr := ⟨_, rfl⟩
  obtain ⟨k, hk, rfl, rfl, hrx, hbl⟩ := hrel
  replace HB : Hid (Below w.heap.size w wi) := lH hbl
  replace HOX : Hid (Rd wi (0) (wi.heap.size) (X) (strs L)) := lH hrx
  have hzz_wi : w.heap.size ≤ wi.heap.size := HB.out.size
  clear hrx hbl
  have hf1 := HLE.out k
  by_cases hlt : k < nf
  ·have hI : (k : Int) < nf := by omega
   obtain ⟨s, hs⟩ : ∃ s, L[k]? = some s := ⟨_, List.getElem?_eq_getElem (by rw [HNF.out]; exact hlt)⟩
   obtain ⟨b2, off, hXe, hb2, hcell⟩ := HOX.out.strAt hs
   have hix := idxStrU X b2 off nf d k hXe hlt
   have hsz := (HRC.out s (List.mem_of_getElem? hs)).2
   have hst := HST.out k s hs
   have hf2' := HLE.out (k + 1)
   rw [hst] at hf2'
   have HS := lH hst
   clear hs hXe hst
   generalize (bC (L.take k)).length = fl at *
   have w1 : IntKind.i64.wrap (6 + (s.size : Int)) = 6 + (s.size : Int) := by rw [IntKind.wrap_i64]; omega
   have w2 : IntKind.i64.wrap ((fl : Int) + (6 + (s.size : Int))) = (fl : Int) + (6 + (s.size : Int)) := by rw [IntKind.wrap_i64]; omega
   go_wp2
   go_roundw
   case rel => exact ⟨k + 1, by omega, by go_num, by rw [HS.out]; go_num, HOX.out.base, HB.out⟩
   case measure => simp [intOf]; omega
  obtain rfl : nf = k := by omega
  have hI : ¬ (nf : Int) < nf := by omega
  have htk : L.take nf = L := List.take_of_length_le (by rw [HNF.out]; exact Nat.le_refl _)
  rw [htk] at hf1 ⊢
  clear htk
  obtain ⟨fl, hfl⟩ : ∃ fl, (bC L).length = fl := ⟨_, rfl⟩
  rw [hfl] at hf1 ⊢
  have HFL := lH hfl
  clear hfl; clear HOX
  go_wp2_with fail
  refine af (fun w4 hw => ?_)
  have hz4 : wi.heap.size + 0 ≤ w4.heap.size := zA
  have hbn : Below wi.heap.size wi w4 := zB
  replace HB := bT HB hbn; clear hbn; clear hw
  refine (HFM.out _).mono ?_
  rintro e w5 ⟨rfl, hb⟩
  have hzw5 : w4.heap.size ≤ w5.heap.size := hb.size
  replace HB := bT HB hb; clear hb; clear HFM; go_wp2
  refine ai (fun w6 hw => ?_)
  have hz6 : w5.heap.size + 1 ≤ w6.heap.size := zA
  have hbn : Below w5.heap.size w5 w6 := zB
  replace HB := bT HB hbn; clear hbn
  have HXz : Hid (aa w6 (w5.heap.size) [.int .i64 (f : Int), .int .i64 (fl : Int), .string fm]) := zG3
  obtain ⟨hkz, hxz, hfz⟩ := HXz.out; clear hw
  refine bodyPost_ret (v := .slice (some ⟨w5.heap.size, 0, none⟩) 1 1) (by simp [results, Tryz.results138, go_sem, hxz]) rfl ?_
  exact ⟨_, rfl, by rw [HFL.out]; exact aa.rdL (cs := [.int .i64 (f : Int), .int .i64 (fl : Int), .string fm]) HXz.out (by omega), HB.out⟩
end
end Go.Proofs.YtoccjgcokffkbaaGreat
