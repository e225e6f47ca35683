/- Part 27 of the proof of FnWrites: lemmas and contracts. -/
import Derived.Test.YtoccjgcokffkbaaGreatTw25
import Derived.Test.YtoccjgcokffkbaaGreatTw26
namespace Go.Proofs.YtoccjgcokffkbaaGreat
set_option linter.unusedVariables false
set_option linter.unusedSimpArgs false
set_option maxHeartbeats 20000000
set_option maxRecDepth 100000
section
open Go.RowKit
def zeroBk : Bk := ⟨none, none, none, none, none, 0, 0, 0, 0, 0⟩
def zeroBm : Bm := ⟨0, [], [], []⟩
def gF (w w' : World) (m : Bm) (a' : Bk) (m' : Bm) (code : Int) : Prop := (code = 0 → aH w' w.heap.size w'.heap.size a' m' ∧ m'.width = m.width ∧ m'.es.length ≤ m.es.length + 1) ∧ Below w.heap.size w w'
theorem gF.no {w w' : World} {m : Bm} {code : Int} (hc : ¬ code = 0) (hb : Below w.heap.size w w') : gF w w' m zeroBk zeroBm code := ⟨fun h => absurd h hc, hb⟩
theorem l12WriteP_c (width : Int) (E R H A1 A2 : Option Addr) (ne nr nh ce cr ch c1 c2 m1 m2 : Nat) (es : List Ent) (rs : List Rcp) (hs : List Hd) (l1 l2 : List ByteArray) (h : Hd) (lo hi f : Nat) (t : ByteArray) (w : World) (hk : aH w lo hi ⟨E, R, H, A1, A2, ce, cr, ch, c1, c2⟩ ⟨width, es, rs, hs⟩) (hne : es.length = ne) (hnr : rs.length = nr) (hnh : hs.length = nh) (hl1 : pk1 width es hs = l1) (hl2 : pk2 width rs hs = l2) (hm1 : l1.length = m1) (hm2 : l2.length = m2) (hh : ae hs = h) (hf : f ≤ 2) (ht : t.size ≤ 1048576) :
  Calls Tryz.prog 103 #[.agg #[.int .i64 width, .slice E ne ce, .slice R nr cr, .slice H nh ch, .int .i64 h.size, .slice A1 m1 c1, .int .i64 h.taken, .slice A2 m2 c2, .int .i64 h.num, .int .i64 h.size, .string h.root, .int .i64 h.taken, .string h.troot], .int .i64 f, .string t] w fun e w' => ∃ k, e = .returned (.slice (some ⟨k, 0, none⟩) 1 1) ∧ Below w.heap.size w w' := by
 obtain ⟨f1, f2, f3, g1, g2, g3, g4, f4, g5, g6, g7⟩ := cK hk.ok
 have hlast := hk.ok.last
 have hpos := hk.ok.pos
 dsimp only at f1 f2 f3 g1 g2 g3 g4 f4 g5 g6 g7 hlast hpos
 rw [hne] at g1 hlast
 rw [hnr] at g2 hlast
 rw [hnh] at g3 g4 hpos
 rw [hh] at f4 g5 hlast
 rw [hl1, hm1] at g6
 rw [hl2, hm2] at g7
 have HF := lH (fun W (r : aH W 0 W.heap.size ⟨E, R, H, A1, A2, ce, cr, ch, c1, c2⟩ ⟨width, es, rs, hs⟩) => l12File_c width h.size h.taken E R H A1 A2 ne nr nh ce cr ch c1 c2 0 W.heap.size 0 W.heap.size 0 W.heap.size m1 m2 es rs hs h f W r.rE r.rR r.rH hne hnr hnh (by omega) (by omega) (by omega) (by omega) (by have := r.kH; dsimp only at this; omega) f1 f2 (fun x hx => by have h1 := f3 x hx; have h2 : x.bulk ≤ dG Hd.bulk hs := sumBy_mem Hd.bulk hx; omega) hf)
 have HFM := lH (fun W => specFrame_c t W ht)
 have HB : Hid (Below w.heap.size w w) := Below.refl _ _
 have HOB : Hid (aH w (0) (w.heap.size) (⟨E, R, H, A1, A2, ce, cr, ch, c1, c2⟩) (⟨width, es, rs, hs⟩)) := lH hk.base
 clear hk f1 f2 f3 f4 hlast hne hnr hnh hl1 hl2 hm1 hm2 hh
 generalize bq (aW width es rs hs f) = ft at *
 generalize bC t = fm at *
 generalize cB t = fo at *
 have hz := ft.size
 go_enter Tryz.func103, Tryz.ntmps103
 go_wp2_with fail
 refine af (fun w1 hw => ?_)
 have hz1 : w.heap.size + 1 ≤ w1.heap.size := zA
 have hbn : Below w.heap.size w w1 := zB
 replace HB := bT HB hbn
 replace HOB := lH (HOB.out.below hbn)
 clear hbn
 have HXb : Hid (aa w1 (w.heap.size) [.int .i64 width, .slice E ne ce, .slice R nr cr, .slice H nh ch, .int .i64 h.size, .slice A1 m1 c1, .int .i64 h.taken, .slice A2 m2 c2, .int .i64 h.num, .int .i64 h.size, .string h.root, .int .i64 h.taken, .string h.troot]) := zG13
 obtain ⟨hkb, hxb, hfb⟩ := HXb.out
 clear hw
 refine (HFM.out _).mono ?_
 rintro e w2 ⟨rfl, hb⟩
 have hzw2 : w1.heap.size ≤ w2.heap.size := hb.size
 replace HB := bT HB hb
 replace HOB := lH (HOB.out.below hb)
 replace HXb := nB HXb hb
 clear hxb hfb hkb
 obtain ⟨hkb, hxb, hfb⟩ := HXb.out
 clear hb
 go_wp2_with fail
 refine af (fun w3 hw => ?_)
 have hz3 : w2.heap.size + 0 ≤ w3.heap.size := zA
 have hbn : Below w2.heap.size w2 w3 := zB
 replace HB := bT HB hbn
 replace HOB := lH (HOB.out.below hbn)
 replace HXb := nB HXb hbn
 clear hxb hfb hkb
 obtain ⟨hkb, hxb, hfb⟩ := HXb.out
 clear hbn
 clear hw
 refine (HF.out _ HOB.out.base).mono ?_
 rintro e w4 ⟨rfl, hb⟩
 have hzw4 : w3.heap.size ≤ w4.heap.size := hb.size
 replace HB := bT HB hb
 replace HOB := lH (HOB.out.below hb)
 replace HXb := nB HXb hb
 clear hxb hfb hkb
 obtain ⟨hkb, hxb, hfb⟩ := HXb.out
 clear hb
 go_wp2
 refine ag (fun w77 hw => ?_)
 have hb77 : Hid (Below w.heap.size w w77) := zC HB
 clear hw
 go_ret
 exact ⟨_, rfl, hb77.out⟩
theorem addCode_ne {l : List Ent} {t k b : ByteArray} {ti : Int} (h : ¬ bL l t ti k b = 0) : addL l t ti k b = [] ∧ addLeaf l t ti k b = 0 := fO rfl h
theorem l12PublishP_c (width : Int) (E R H A1 A2 : Option Addr) (ne nr nh ce cr ch c1 c2 m1 m2 : Nat) (es : List Ent) (rs : List Rcp) (hs : List Hd) (l1 l2 : List ByteArray) (h : Hd) (lo hi : Nat) (t : ByteArray) (ti : Int) (k b : ByteArray) (w : World) (hk : aH w lo hi ⟨E, R, H, A1, A2, ce, cr, ch, c1, c2⟩ ⟨width, es, rs, hs⟩) (hne : es.length = ne) (hnr : rs.length = nr) (hnh : hs.length = nh) (hl1 : pk1 width es hs = l1) (hl2 : pk2 width rs hs = l2) (hm1 : l1.length = m1) (hm2 : l2.length = m2) (hh : ae hs = h) (ht : t.size ≤ 1048576) (hti : I64 ti) (hks : k.size ≤ 1048576) (hbs : b.size ≤ 1048576) :
  Calls Tryz.prog 61 #[.agg #[.int .i64 width, .slice E ne ce, .slice R nr cr, .slice H nh ch, .int .i64 h.size, .slice A1 m1 c1, .int .i64 h.taken, .slice A2 m2 c2, .int .i64 h.num, .int .i64 h.size, .string h.root, .int .i64 h.taken, .string h.troot], .string t, .int .i64 ti, .string k, .string b] w fun e w' => ∃ (a' : Bk) (m' : Bm) (L : Option Addr) (q g : Nat) (leaf code : Int), e = .returned (.tuple #[.agg #[.int .i64 m'.width, .slice a'.E m'.es.length a'.ce, .slice a'.R m'.rs.length a'.cr, .slice a'.H m'.hs.length a'.ch, .int .i64 (ae m'.hs).size, .slice a'.A1 (pk1 m'.width m'.es m'.hs).length a'.c1, .int .i64 (ae m'.hs).taken, .slice a'.A2 (pk2 m'.width m'.rs m'.hs).length a'.c2, .int .i64 (ae m'.hs).num, .int .i64 (ae m'.hs).size, .string (ae m'.hs).root, .int .i64 (ae m'.hs).taken, .string (ae m'.hs).troot], .slice L q g, .int .i64 leaf, .int .i64 code]) ∧ gF w w' ⟨width, es, rs, hs⟩ a' m' code := by
 have hkk := hk
 obtain ⟨f1, f2, f3, g1, g2, g3, g4, f4, g5, g6, g7⟩ := cK hk.ok
 have hlast := hk.ok.last
 have hpos := hk.ok.pos
 dsimp only at f1 f2 f3 g1 g2 g3 g4 f4 g5 g6 g7 hlast hpos
 rw [hne] at g1 hlast
 rw [hnr] at g2 hlast
 rw [hnh] at g3 g4 hpos
 rw [hh] at f4 g5 hlast
 rw [hl1, hm1] at g6
 rw [hl2, hm2] at g7
 have HAD := lH (fun W (r : aH W 0 W.heap.size ⟨E, R, H, A1, A2, ce, cr, ch, c1, c2⟩ ⟨width, es, rs, hs⟩) => l09Add_c E ce 0 W.heap.size ne es t ti k b W r.rE hne (by omega) r.nE ht hti hks hbs)
 by_cases hc : bL es t ti k b = 0
 ·have hpub := hk.ok.publish hc
  have hfx := ent_fit (newEnt_ok hc)
  dsimp only at hpub
  have hlen : (es ++ [bg es t ti k b]).length = ne + 1 := by rw [List.length_append, hne]; rfl
  have hlast1 : (es ++ [bg es t ti k b])[ne]? = some (bg es t ti k b) := by rw [← hne, List.getElem?_append_right (Nat.le_refl _), Nat.sub_self]; rfl
  rw [(addL_yes hc).1, (addL_yes hc).2, hc, hlen, hne] at HAD
  have hpk : (pk1 width (es ++ [bg es t ti k b]) hs).length = m1 := by rw [pk1_more hk.ok, hl1, hm1]
  generalize bg es t ti k b = x at *
  have HCP := lH (fun W (r : aH W 0 W.heap.size ⟨E, R, H, A1, A2, ce, cr, ch, c1, c2⟩ ⟨width, es, rs, hs⟩) => l12CopyP_c width h.size h.taken E R H A1 A2 ne nr nh ce cr ch c1 c2 m1 m2 es rs hs l1 l2 h W r.rE r.rR r.rH (hl1 ▸ r.r1) (hl2 ▸ r.r2) hne hnr hnh hm1 hm2 (by omega) (by omega) (by omega) (by omega) (by omega) r.nE r.nR r.nH r.n1 r.n2)
  have HWR := lH (fun W (r : aH W 0 W.heap.size ⟨E, R, H, A1, A2, ce, cr, ch, c1, c2⟩ ⟨width, es, rs, hs⟩) s hs2 => l12WriteP_c width E R H A1 A2 ne nr nh ce cr ch c1 c2 m1 m2 es rs hs l1 l2 h 0 W.heap.size 0 s W r hne hnr hnh hl1 hl2 hm1 hm2 hh (by omega) hs2)
  have HTX := lH (fun W => specLeafText_c x W hfx)
  have hts := dJ x
  have hbl : (⟨es, rs, hs, l1, l2⟩ : Bl) = Bm.bl ⟨width, es, rs, hs⟩ := by show _ = Bl.mk es rs hs _ _; rw [hl1, hl2]
  have HBL := lH hbl
  have HPB := lH hpub
  have HOK := lH hk.ok
  have HV1 := lH hpk
  have HL := lH hlen
  have HL1 := lH hlast1
  have HNR := lH hnr
  have HNH := lH hnh
  have HNE := lH hne
  have HHH := lH hh
  have HM2 : Hid ((pk2 width rs hs).length = m2) := lH (by rw [hl2, hm2])
  have HB : Hid (Below w.heap.size w w) := Below.refl _ _
  have HOB : Hid (aH w (0) (w.heap.size) (⟨E, R, H, A1, A2, ce, cr, ch, c1, c2⟩) (⟨width, es, rs, hs⟩)) := lH hk.base
  clear hk hkk f1 f2 f3 f4 hlast hne hnr hnh hl1 hl2 hm1 hm2 hh hpub hfx hlen hlast1 hpk hbl hc; generalize aI x = tx at *; generalize aY x = ok at *
  go_enter Tryz.func61, Tryz.ntmps61
  go_wp2_with fail
  refine af (fun w1 hw => ?_)
  have hz1 : w.heap.size + 2 ≤ w1.heap.size := zA
  have hbn : Below w.heap.size w w1 := zB
  replace HB := bT HB hbn; replace HOB := lH (HOB.out.below hbn); clear hbn
  have HXb : Hid (aa w1 (w.heap.size) [.int .i64 width, .slice E ne ce, .slice R nr cr, .slice H nh ch, .int .i64 h.size, .slice A1 m1 c1, .int .i64 h.taken, .slice A2 m2 c2, .int .i64 h.num, .int .i64 h.size, .string h.root, .int .i64 h.taken, .string h.troot]) := zG13
  obtain ⟨hkb, hxb, hfb⟩ := HXb.out
  have HXq : Hid (aa w1 (w.heap.size + 1) [.int .i64 0, .slice none 0 0, .slice none 0 0, .slice none 0 0, .int .i64 0, .slice none 0 0, .int .i64 0, .slice none 0 0, .int .i64 0, .int .i64 0, .string ⟨#[]⟩, .int .i64 0, .string ⟨#[]⟩]) := zG13
  obtain ⟨hkq, hxq, hfq⟩ := HXq.out; clear hw
  refine (HAD.out _ HOB.out.base).mono ?_
  rintro e w2 ⟨A9, c9, rfl, ⟨hA9, hc9⟩, ho9, hb⟩
  have hzw2 : w1.heap.size ≤ w2.heap.size := hb.size
  replace HB := bT HB hb; replace HOB := lH (HOB.out.below hb); replace HXb := nB HXb hb; clear hxb hfb hkb; obtain ⟨hkb, hxb, hfb⟩ := HXb.out; replace HXq := nB HXq hb; clear hxq hfq hkq; obtain ⟨hkq, hxq, hfq⟩ := HXq.out; clear hb
  have HON : Hid (Rd w2 (w1.heap.size) (w2.heap.size) (A9) (aQ (es ++ [x]))) := lH ho9.rd
  have HA9 := lH hA9
  clear ho9 hA9 HAD
  obtain ⟨b2, off, y, hEe, hb2, hks2, hcs⟩ := ent_cells HON.out (k := ne) (by rw [HL.out]; omega)
  obtain rfl : x = y := by rw [HL1.out] at hks2; exact Option.some.inj hks2
  have c0' := hcs.1
  have c1' := hcs.2.1
  have c2' := hcs.2.2.1
  have c3' := hcs.2.2.2.1
  have c4' := hcs.2.2.2.2
  have hix := idxEnt A9 b2 off (ne + 1) c9 ne hEe (by omega)
  clear hks2 hcs hEe
  go_wp2_with fail
  refine af (fun w3 hw => ?_)
  have hz3 : w2.heap.size + 1 ≤ w3.heap.size := zA
  have hbn : Below w2.heap.size w2 w3 := zB
  replace HB := bT HB hbn; replace HOB := lH (HOB.out.below hbn); replace HON := lH (HON.out.below hbn); replace HXb := nB HXb hbn; clear hxb hfb hkb; obtain ⟨hkb, hxb, hfb⟩ := HXb.out; replace HXq := nB HXq hbn; clear hxq hfq hkq; obtain ⟨hkq, hxq, hfq⟩ := HXq.out; clear hbn
  have HXl : Hid (aa w3 (w2.heap.size) [.slice A9 (ne + 1) c9]) := zG1
  obtain ⟨hkl, hxl, hfl⟩ := HXl.out; clear hw
  refine (HTX.out _).mono ?_
  rintro e w4 ⟨rfl, hb⟩
  have hzw4 : w3.heap.size ≤ w4.heap.size := hb.size
  replace HB := bT HB hb; replace HOB := lH (HOB.out.below hb); replace HON := lH (HON.out.below hb); replace HXb := nB HXb hb; clear hxb hfb hkb; obtain ⟨hkb, hxb, hfb⟩ := HXb.out; replace HXq := nB HXq hb; clear hxq hfq hkq; obtain ⟨hkq, hxq, hfq⟩ := HXq.out; replace HXl := nB HXl hb; clear hxl hfl hkl; obtain ⟨hkl, hxl, hfl⟩ := HXl.out; clear hb; clear c0' c1' c2' c3' c4' hix hb2 HTX
  go_wp2_with fail
  refine af (fun w5 hw => ?_)
  have hz5 : w4.heap.size + 0 ≤ w5.heap.size := zA
  have hbn : Below w4.heap.size w4 w5 := zB
  replace HB := bT HB hbn; replace HOB := lH (HOB.out.below hbn); replace HON := lH (HON.out.below hbn); replace HXb := nB HXb hbn; clear hxb hfb hkb; obtain ⟨hkb, hxb, hfb⟩ := HXb.out; replace HXq := nB HXq hbn; clear hxq hfq hkq; obtain ⟨hkq, hxq, hfq⟩ := HXq.out; replace HXl := nB HXl hbn; clear hxl hfl hkl; obtain ⟨hkl, hxl, hfl⟩ := HXl.out; clear hbn; clear hw
  refine (HCP.out _ HOB.out.base).mono ?_
  rintro e w6 ⟨a3, rfl, hcp, hb⟩
  have hzw6 : w5.heap.size ≤ w6.heap.size := hb.size
  replace HB := bT HB hb; replace HOB := lH (HOB.out.below hb); replace HON := lH (HON.out.below hb); replace HXb := nB HXb hb; clear hxb hfb hkb; obtain ⟨hkb, hxb, hfb⟩ := HXb.out; replace HXq := nB HXq hb; clear hxq hfq hkq; obtain ⟨hkq, hxq, hfq⟩ := HXq.out; replace HXl := nB HXl hb; clear hxl hfl hkl; obtain ⟨hkl, hxl, hfl⟩ := HXl.out; clear hb
  have HOC : Hid (bY w6 (w5.heap.size) (w6.heap.size) (a3) (⟨es, rs, hs, l1, l2⟩)) := lH hcp
  clear hcp HCP
  obtain ⟨lo5, hlo5, hlo5'⟩ : ∃ n, n ≤ w5.heap.size ∧ w5.heap.size ≤ n := ⟨_, Nat.le_refl _, Nat.le_refl _⟩
  go_upto_region 7 with fail
  refine aC (fun w7 hw => ?_)
  have hz7 : w6.heap.size + 1 ≤ w7.heap.size := zA
  have hbn : Below w6.heap.size w6 w7 := zB
  replace HB := bT HB hbn; replace HOB := lH (HOB.out.below hbn); replace HON := lH (HON.out.below hbn); replace HOC := lH (HOC.out.below hbn); replace HXb := nB HXb hbn; clear hxb hfb hkb; obtain ⟨hkb, hxb, hfb⟩ := HXb.out; replace HXq := nB HXq hbn; clear hxq hfq hkq; obtain ⟨hkq, hxq, hfq⟩ := HXq.out; replace HXl := nB HXl hbn; clear hxl hfl hkl; obtain ⟨hkl, hxl, hfl⟩ := HXl.out; clear hbn
  have HXo : Hid (aa w7 (w6.heap.size) [.int .i64 width, .slice A9 (ne + 1) c9, .slice a3.R nr a3.cr, .slice a3.H nh a3.ch, .int .i64 h.size, .slice a3.A1 m1 a3.c1, .int .i64 h.taken, .slice a3.A2 m2 a3.c2, .int .i64 h.num, .int .i64 h.size, .string h.root, .int .i64 h.taken, .string h.troot]) := zG13
  obtain ⟨hko, hxo, hfo⟩ := HXo.out; clear hw
  obtain ⟨F, HF⟩ : ∃ F : Facts, Hid (F = fun iq xq tqs dsq uq => match iq with
   | 0 => xq.v = .agg #[.int .i64 width, .slice A9 (ne + 1) c9, .slice a3.R nr a3.cr, .slice a3.H nh a3.ch, .int .i64 h.size, .slice a3.A1 m1 a3.c1, .int .i64 h.taken, .slice a3.A2 m2 a3.c2, .int .i64 h.num, .int .i64 h.size, .string h.root, .int .i64 h.taken, .string h.troot]
   | 1 => xq.v = .agg #[.int .i64 width, .slice E ne ce, .slice R nr cr, .slice H nh ch, .int .i64 h.size, .slice A1 m1 c1, .int .i64 h.taken, .slice A2 m2 c2, .int .i64 h.num, .int .i64 h.size, .string h.root, .int .i64 h.taken, .string h.troot]
   | 2 => xq.v = .string tx
   | 3 => ∃ (kw : Nat), xq.v = .slice (some ⟨kw, 0, none⟩) 1 1 ∧ (True)
   | 4 => xq.v = .int .i64 (ne : Int)
   | 5 => aa uq (w.heap.size + 1) [.int .i64 width, .slice A9 (ne + 1) c9, .slice a3.R nr a3.cr, .slice a3.H nh a3.ch, .int .i64 h.size, .slice a3.A1 m1 a3.c1, .int .i64 h.taken, .slice a3.A2 m2 a3.c2, .int .i64 h.num, .int .i64 h.size, .string h.root, .int .i64 h.taken, .string h.troot]
   | 6 => (match tqs, dsq with | [], [yq0] => ∃ (kw : Nat), yq0.v = .slice (some ⟨kw, 0, none⟩) 1 1 ∧ xq.v = .slice (some ⟨kw, 0, none⟩) 1 1 | _, _ => False)
   | 7 => xq.v = .int .i64 (ne : Int)
   | 8 => xq.v = .int .i64 0
   | _ => False) := ⟨_, rfl⟩
  refine aX [[], [], [], [], [], [], [3], [], []] [[], [], [], [], [], [], [], [], []] [some 49, some 50, some 51, some 52, some 53, none, some 11, some 12, some 13] (some 5) (w.heap.size + 1) (w.heap.size + 1 + 1) (.inr (by omega)) F (by kernel_rfl) (by kernel_rfl) (by kernel_rfl) ?_ ⟨?_, ?_, ?_, ?_, ?_, ?_, ?_, ?_, ?_, trivial⟩ ?_
  ·rw [HF.out]; intro iq xq tqs dsq uq u' hi hf hs hW hx hbk
   have kx : ∀ b, xq.s ≤ b → b < xq.e → u'.heap[b]? = uq.heap[b]? := fun b h1 h2 => hbk b (.inr (.inl ⟨h1, h2⟩))
   have kt : ∀ t ∈ tqs, ∀ b, t.s ≤ b → b < t.e → u'.heap[b]? = uq.heap[b]? := fun t ht b h1 h2 => hbk b (.inr (.inr ⟨t, ht, h1, h2⟩))
   match iq with
   | 0 | 1 | 2 => exact hf
   | 3 => obtain ⟨kw, hv, p0⟩ := hf; exact ⟨kw, hv, trivial⟩
   | 4 => exact hf
   | 5 => exact aa.keep hf hs (hbk _ (.inl ⟨hkq, .inr (.inr rfl)⟩))
   | 6 | 7 | 8 => exact hf
  ·intro gh ρ u _ _ _ hd h0 hb he ha hF
   first | replace hb := hb.drew.below (by decide +kernel) | replace hb := hb.drew.only
   have hbz : w7.heap.size ≤ u.heap.size := hb.size
   have r19 : ρ (.tmp 19) = .pointer (some ⟨w6.heap.size, 0, none⟩) := (h0 19 (by decide +kernel)).trans rfl
   first | have q_o := (HXo.out.below hb).2.1 | have q_o := (HXo.out.only hb (by omega)).2.1
   have k_o : w6.heap.size < u.heap.size := by have := HXo.out.1; omega
   first | have q_b := (HXb.out.below hb).2.1 | have q_b := (HXb.out.only hb (by omega)).2.1
   have k_b : w.heap.size < u.heap.size := by have := HXb.out.1; omega
   clear hd h0 he ha hF; go_simp; exact fE HF rfl
  ·intro gh ρ u _ _ _ hd h0 hb he ha hF
   first | replace hb := hb.drew.below (by decide +kernel) | replace hb := hb.drew.only
   have hbz : w7.heap.size ≤ u.heap.size := hb.size
   have r5 : ρ (.tmp 5) = .pointer (some ⟨w.heap.size, 0, none⟩) := (h0 5 (by decide +kernel)).trans rfl
   first | have q_o := (HXo.out.below hb).2.1 | have q_o := (HXo.out.only hb (by omega)).2.1
   have k_o : w6.heap.size < u.heap.size := by have := HXo.out.1; omega
   first | have q_b := (HXb.out.below hb).2.1 | have q_b := (HXb.out.only hb (by omega)).2.1
   have k_b : w.heap.size < u.heap.size := by have := HXb.out.1; omega
   clear hd h0 he ha hF; go_simp; exact fE HF rfl
  ·intro gh ρ u _ _ _ hd h0 hb he ha hF
   have r17 : ρ (.tmp 17) = .string tx := (h0 17 (by decide +kernel)).trans rfl
   clear hd h0 he ha hF; go_simp; exact fE HF rfl
  ·intro gh ρ u _ _ _ hd h0 hb he ha hF
   first | replace hb := hb.drew.below (by decide +kernel) | replace hb := hb.drew.only
   have hbz : w7.heap.size ≤ u.heap.size := hb.size
   have r50 : ρ (.tmp 50) = .agg #[.int .i64 width, .slice E ne ce, .slice R nr cr, .slice H nh ch, .int .i64 h.size, .slice A1 m1 c1, .int .i64 h.taken, .slice A2 m2 c2, .int .i64 h.num, .int .i64 h.size, .string h.root, .int .i64 h.taken, .string h.troot] := fH (hd 1) 50 (fG HF (hF 1))
   have r51 : ρ (.tmp 51) = .string tx := fH (hd 2) 51 (fG HF (hF 2))
   clear hd h0 he ha hF; go_simp
   have q_o := (HXo.out.below hb)
   have q_b := (HXb.out.below hb)
   refine (HWR.out _ (HOB.out.below hb).base tx (by omega)).mono ?_
   rintro e u1 ⟨kw, rfl, hb1⟩
   rw [HF.out]
   exact ⟨_, rfl, aS.of_below hb1, kw, rfl, trivial⟩
  ·intro gh ρ u _ _ _ hd h0 hb he ha hF
   have r15 : ρ (.tmp 15) = .int .i64 (ne : Int) := (h0 15 (by decide +kernel)).trans rfl
   clear hd h0 he ha hF; go_simp; exact fE HF rfl
  ·intro gh ρ u _ _ _ hd h0 hb he ha hF
   first | replace hb := hb.drew.below (by decide +kernel) | replace hb := hb.drew.only
   have hbz : w7.heap.size ≤ u.heap.size := hb.size
   have r10 : ρ (.tmp 10) = .pointer (some ⟨w.heap.size + 1, 0, none⟩) := (h0 10 (by decide +kernel)).trans rfl
   have r49 : ρ (.tmp 49) = .agg #[.int .i64 width, .slice A9 (ne + 1) c9, .slice a3.R nr a3.cr, .slice a3.H nh a3.ch, .int .i64 h.size, .slice a3.A1 m1 a3.c1, .int .i64 h.taken, .slice a3.A2 m2 a3.c2, .int .i64 h.num, .int .i64 h.size, .string h.root, .int .i64 h.taken, .string h.troot] := fH (hd 0) 49 (fG HF (hF 0))
   obtain ⟨hzk, hzc, hzf⟩ := HXq.out.below hb
   clear hd h0 he ha hF; go_simp
   rw [HF.out]
   refine ⟨?_, ?_⟩
   ·refine aS.of_z (lo := w.heap.size + 1) (hi := w.heap.size + 1 + 1) ?_ rfl; (iterate 13 refine Only.setCell ?_ (by exact Nat.le_refl _) (by exact Nat.lt_succ_self _) _); exact Only.refl _ _ _
   show aa _ (w.heap.size + 1) _
   exact ⟨by simpa [World.setCell] using hzk, fun o => by rcases o with _ | _ | _ | _ | _ | _ | _ | _ | _ | _ | _ | _ | _ | o <;> go_simp, fun o => by go_simp⟩
  ·intro gh ρ u _ _ _ hd h0 hb he ha hF
   have f3 : ∃ (kw : Nat), (gh 3).v = .slice (some ⟨kw, 0, none⟩) 1 1 ∧ (True) := fG HF (hF 3)
   obtain ⟨kw, hv3, g3_0⟩ := f3; have hrt3 := hv3
   have r52 : ρ (.tmp 52) = .slice (some ⟨kw, 0, none⟩) 1 1 := (hd 3 (by decide +kernel) 52 (by kernel_rfl)).trans hv3
   have HRT3 := lH hrt3
   clear hv3 hrt3 hd h0 he ha hF; go_simp
   rw [HF.out]
   exact ⟨aS.refl _ _, kw, HRT3.out, rfl⟩
  ·intro gh ρ u _ _ _ hd h0 hb he ha hF
   have r53 : ρ (.tmp 53) = .int .i64 (ne : Int) := fH (hd 4) 53 (fG HF (hF 4))
   clear hd h0 he ha hF; go_simp; exact fE HF rfl
  ·intro gh ρ u _ _ _ hd h0 hb he ha hF
   clear hd h0 he ha hF; go_simp; exact fE HF rfl
  intro gh w8 hB hE hA hF
  replace hB : Only (w.heap.size + 1) (w.heap.size + 1 + 1) w7 w8 := hB.only
  have f0 : (gh 0).v = .agg #[.int .i64 width, .slice A9 (ne + 1) c9, .slice a3.R nr a3.cr, .slice a3.H nh a3.ch, .int .i64 h.size, .slice a3.A1 m1 a3.c1, .int .i64 h.taken, .slice a3.A2 m2 a3.c2, .int .i64 h.num, .int .i64 h.size, .string h.root, .int .i64 h.taken, .string h.troot] := fG HF (hF 0)
  have f1 : (gh 1).v = .agg #[.int .i64 width, .slice E ne ce, .slice R nr cr, .slice H nh ch, .int .i64 h.size, .slice A1 m1 c1, .int .i64 h.taken, .slice A2 m2 c2, .int .i64 h.num, .int .i64 h.size, .string h.root, .int .i64 h.taken, .string h.troot] := fG HF (hF 1)
  have f2 : (gh 2).v = .string tx := fG HF (hF 2)
  have f3 : ∃ (kw : Nat), (gh 3).v = .slice (some ⟨kw, 0, none⟩) 1 1 ∧ (True) := fG HF (hF 3)
  have f4 : (gh 4).v = .int .i64 (ne : Int) := fG HF (hF 4)
  have f5 : aa w8 (w.heap.size + 1) [.int .i64 width, .slice A9 (ne + 1) c9, .slice a3.R nr a3.cr, .slice a3.H nh a3.ch, .int .i64 h.size, .slice a3.A1 m1 a3.c1, .int .i64 h.taken, .slice a3.A2 m2 a3.c2, .int .i64 h.num, .int .i64 h.size, .string h.root, .int .i64 h.taken, .string h.troot] := fG HF (hF 5)
  have f6 : ∃ (kw : Nat), (gh 3).v = .slice (some ⟨kw, 0, none⟩) 1 1 ∧ (gh 6).v = .slice (some ⟨kw, 0, none⟩) 1 1 := fG HF (hF 6)
  have f7 : (gh 7).v = .int .i64 (ne : Int) := fG HF (hF 7)
  have f8 : (gh 8).v = .int .i64 0 := fG HF (hF 8)
  obtain ⟨kw, hv3, _⟩ := f3; have hv0 := f0; have hv1 := f1; have hv2 := f2; have hv4 := f4; have hx5 := f5; obtain ⟨kw_6, hu3, hv6⟩ := f6
  replace hu3 := hv3.symm.trans hu3
  simp at hu3
  try simp only [and_assoc] at hu3
  obtain rfl := hu3
  have hv7 := f7; have hv8 := f8; clear hE hA hF
  simp only [dQ, Nat.reduceAdd, hv0, hv1, hv2, hv3, hv4, hv6, hv7, hv8]
  clear hv0 hv1 hv2 hv3 hv4 hv6 hv7 hv8; clear HF; have hb := hB; clear hB
  have hzw8 : w7.heap.size ≤ w8.heap.size := hb.size
  replace HB := lH (au HB.out hb (by omega) HB.out.size)
  replace HOB := lH (HOB.out.only hb (by first | omega | (simp; omega)))
  replace HON := lH (HON.out.only hb (by first | omega | (simp; omega)))
  replace HOC := lH (HOC.out.only hb (by first | omega | (simp; omega)))
  replace HXb := nO HXb hb
  clear hxb hfb hkb; obtain ⟨hkb, hxb, hfb⟩ := HXb.out; clear hxq hfq hkq HXq
  replace HXl := nO HXl hb
  clear hxl hfl hkl; obtain ⟨hkl, hxl, hfl⟩ := HXl.out
  replace HXo := nO HXo hb
  clear hxo hfo hko; obtain ⟨hko, hxo, hfo⟩ := HXo.out; clear hb
  have HXq : Hid (aa w8 (w.heap.size + 1) [.int .i64 width, .slice A9 (ne + 1) c9, .slice a3.R nr a3.cr, .slice a3.H nh a3.ch, .int .i64 h.size, .slice a3.A1 m1 a3.c1, .int .i64 h.taken, .slice a3.A2 m2 a3.c2, .int .i64 h.num, .int .i64 h.size, .string h.root, .int .i64 h.taken, .string h.troot]) := hx5
  obtain ⟨hkq, hxq, hfq⟩ := HXq.out; clear hx5
  have hbk : aH w8 w.heap.size w8.heap.size ⟨A9, a3.R, a3.H, a3.A1, a3.A2, c9, a3.cr, a3.ch, a3.c1, a3.c2⟩ ⟨width, es ++ [x], rs, hs⟩ := by
   have h7 := HOC.out
   rw [HBL.out] at h7
   have h8 := bY.pushE (m := ⟨width, es, rs, hs⟩) (lo0 := w.heap.size) (h7.mono (Nat.le_refl _) (hi' := w8.heap.size) (by omega)) (Nat.le_refl _) (by omega) HOK.out (x := x) (E' := A9) (c' := c9) HPB.out (HON.out.mono (by omega) (by omega) (Nat.le_refl _)) (by show es.length + 1 ≤ c9; rw [HNE.out]; exact hc9) HA9.out
   exact h8
  have HBK := lH hbk
  clear hbk; go_wp2
  refine bodyPost_ret (v := .tuple #[.agg #[.int .i64 width, .slice A9 (ne + 1) c9, .slice a3.R nr a3.cr, .slice a3.H nh a3.ch, .int .i64 h.size, .slice a3.A1 m1 a3.c1, .int .i64 h.taken, .slice a3.A2 m2 a3.c2, .int .i64 h.num, .int .i64 h.size, .string h.root, .int .i64 h.taken, .string h.troot], .slice (some ⟨kw, 0, none⟩) 1 1, .int .i64 ne, .int .i64 0]) (by simp [results, Tryz.results61, go_sem, hxq]) rfl ?_
  exact ⟨⟨A9, a3.R, a3.H, a3.A1, a3.A2, c9, a3.cr, a3.ch, a3.c1, a3.c2⟩, ⟨width, es ++ [x], rs, hs⟩, some ⟨kw, 0, none⟩, 1, 1, ne, 0, by dsimp only; rw [HL.out, HNR.out, HNH.out, HV1.out, HM2.out, HHH.out], fun _ => ⟨HBK.out, rfl, by dsimp only; rw [List.length_append]; exact Nat.le_refl _⟩, HB.out⟩
 rw [(addCode_ne hc).1, (addCode_ne hc).2] at HAD
 have hcd : ¬ bL es t ti k b = 0 := hc
 generalize bL es t ti k b = cd at *
 have hcq : (cd == 0) = false := beq_eq_false_iff_ne.2 hcd
 have HCD := lH hcd
 have HB : Hid (Below w.heap.size w w) := Below.refl _ _
 have HOB : Hid (aH w (0) (w.heap.size) (⟨E, R, H, A1, A2, ce, cr, ch, c1, c2⟩) (⟨width, es, rs, hs⟩)) := lH hk.base
 clear hk hkk f1 f2 f3 f4 hlast hne hnr hnh hl1 hl2 hm1 hm2 hh hc hcd
 go_enter Tryz.func61, Tryz.ntmps61
 go_wp2_with fail
 refine af (fun w1 hw => ?_)
 have hz1 : w.heap.size + 2 ≤ w1.heap.size := zA
 have hbn : Below w.heap.size w w1 := zB
 replace HB := bT HB hbn
 replace HOB := lH (HOB.out.below hbn)
 clear hbn
 have HXb : Hid (aa w1 (w.heap.size) [.int .i64 width, .slice E ne ce, .slice R nr cr, .slice H nh ch, .int .i64 h.size, .slice A1 m1 c1, .int .i64 h.taken, .slice A2 m2 c2, .int .i64 h.num, .int .i64 h.size, .string h.root, .int .i64 h.taken, .string h.troot]) := zG13
 obtain ⟨hkb, hxb, hfb⟩ := HXb.out
 have HXq : Hid (aa w1 (w.heap.size + 1) [.int .i64 0, .slice none 0 0, .slice none 0 0, .slice none 0 0, .int .i64 0, .slice none 0 0, .int .i64 0, .slice none 0 0, .int .i64 0, .int .i64 0, .string ⟨#[]⟩, .int .i64 0, .string ⟨#[]⟩]) := zG13
 obtain ⟨hkq, hxq, hfq⟩ := HXq.out
 clear hw
 refine (HAD.out _ HOB.out.base).mono ?_
 rintro e w2 ⟨A9, c9, rfl, hA9, ho9, hb⟩
 have hzw2 : w1.heap.size ≤ w2.heap.size := hb.size
 replace HB := bT HB hb
 replace HOB := lH (HOB.out.below hb)
 replace HXb := nB HXb hb
 clear hxb hfb hkb
 obtain ⟨hkb, hxb, hfb⟩ := HXb.out
 replace HXq := nB HXq hb
 clear hxq hfq hkq
 obtain ⟨hkq, hxq, hfq⟩ := HXq.out
 clear hb
 clear hA9 ho9 HAD
 go_wp2
 refine ag (fun w3 hw => ?_)
 have hz3 : w2.heap.size + 1 ≤ w3.heap.size := zA
 replace HB : Hid (Below w.heap.size w w3) := zC HB
 replace HOB : Hid (aH w3 (0) (w.heap.size) (⟨E, R, H, A1, A2, ce, cr, ch, c1, c2⟩) (⟨width, es, rs, hs⟩)) := zLBrkK HOB
 replace HXb := nE w3 HXb
 clear hxb hfb hkb
 obtain ⟨hkb, hxb, hfb⟩ := HXb.out
 replace HXq : Hid (aa w3 (w.heap.size + 1) [.int .i64 0, .slice none 0 0, .slice none 0 0, .slice none 0 0, .int .i64 0, .slice none 0 0, .int .i64 0, .slice none 0 0, .int .i64 0, .int .i64 0, .string ⟨#[]⟩, .int .i64 0, .string ⟨#[]⟩]) := zD HXq
 clear hxq hfq hkq
 obtain ⟨hkq, hxq, hfq⟩ := HXq.out
 have HXl : Hid (aa w3 (w2.heap.size) [.slice A9 0 c9]) := zG1
 obtain ⟨hkl, hxl, hfl⟩ := HXl.out
 clear hw
 refine bodyPost_ret (v := .tuple #[.agg #[.int .i64 0, .slice none 0 0, .slice none 0 0, .slice none 0 0, .int .i64 0, .slice none 0 0, .int .i64 0, .slice none 0 0, .int .i64 0, .int .i64 0, .string ⟨#[]⟩, .int .i64 0, .string ⟨#[]⟩], .slice (some ⟨w2.heap.size + 1, 0, none⟩) 0 0, .int .i64 0, .int .i64 cd]) (by simp [results, Tryz.results61, go_sem, hxq]) rfl ?_
 exact ⟨zeroBk, zeroBm, _, 0, 0, 0, cd, rfl, gF.no HCD.out HB.out⟩
end
end Go.Proofs.YtoccjgcokffkbaaGreat
