/- Part 21 of the proof of FnProofs: lemmas and contracts. -/
import Derived.Test.YtoccjgcokffkbaaGreatTq17
import Derived.Test.YtoccjgcokffkbaaGreatTq20
import Derived.Test.YtoccjgcokffkbaaGreatTq16
namespace Go.Proofs.YtoccjgcokffkbaaGreat
set_option linter.unusedVariables false
set_option linter.unusedSimpArgs false
set_option maxHeartbeats 20000000
section
open Go.RowKit
def zeroBk : Bk := ⟨none, none, none, none, none, 0, 0, 0, 0, 0⟩
def zeroBm : Bm := ⟨0, [], [], []⟩
def NextOk (w w' : World) (m : Bm) (a' : Bk) (m' : Bm) (code : Int) : Prop := (code = 0 → BrkK w' w.heap.size w'.heap.size a' m' ∧ m'.width = m.width ∧ m'.es.length ≤ m.es.length + 1) ∧ Below w.heap.size w w'
theorem NextOk.no {w w' : World} {m : Bm} {code : Int} (hc : ¬ code = 0) (hb : Below w.heap.size w w') : NextOk w w' m zeroBk zeroBm code := ⟨fun h => absurd h hc, hb⟩
set_option maxRecDepth 100000 in
theorem l12WriteP_c (width : Int) (E R H A1 A2 : Option Addr) (ne nr nh ce cr ch c1 c2 m1 m2 : Nat) (es : List Ent) (rs : List Rcp) (hs : List Hd) (l1 l2 : List ByteArray) (h : Hd) (lo hi f : Nat) (t : ByteArray) (w : World) (hk : BrkK w lo hi ⟨E, R, H, A1, A2, ce, cr, ch, c1, c2⟩ ⟨width, es, rs, hs⟩) (hne : es.length = ne) (hnr : rs.length = nr) (hnh : hs.length = nh) (hl1 : pk1 width es hs = l1) (hl2 : pk2 width rs hs = l2) (hm1 : l1.length = m1) (hm2 : l2.length = m2) (hh : lastHd hs = h) (hf : f ≤ 2) (ht : t.size ≤ 1048576) :
  Calls Tryz.prog 103 #[.agg #[.int .i64 width, .slice E ne ce, .slice R nr cr, .slice H nh ch, .int .i64 h.size, .slice A1 m1 c1, .int .i64 h.taken, .slice A2 m2 c2, .int .i64 h.num, .int .i64 h.size, .string h.root, .int .i64 h.taken, .string h.troot], .int .i64 f, .string t] w fun e w' => ∃ k, e = .returned (.slice (some ⟨k, 0, none⟩) 1 1) ∧ Below w.heap.size w w' := by
 obtain ⟨f1, f2, f3, g1, g2, g3, g4, f4, g5, g6, g7⟩ := parts_fits hk.ok
 have hlast := hk.ok.last
 have hpos := hk.ok.pos
 dsimp only at f1 f2 f3 g1 g2 g3 g4 f4 g5 g6 g7 hlast hpos
 rw [hne] at g1 hlast
 rw [hnr] at g2 hlast
 rw [hnh] at g3 g4 hpos
 rw [hh] at f4 g5 hlast
 rw [hl1, hm1] at g6
 rw [hl2, hm2] at g7
 have HF := lH (fun W (r : BrkK W 0 W.heap.size ⟨E, R, H, A1, A2, ce, cr, ch, c1, c2⟩ ⟨width, es, rs, hs⟩) => l12File_c width h.size h.taken E R H A1 A2 ne nr nh ce cr ch c1 c2 0 W.heap.size 0 W.heap.size 0 W.heap.size m1 m2 es rs hs h f W r.rE r.rR r.rH hne hnr hnh (by omega) (by omega) (by omega) (by omega) (by have := r.kH; dsimp only at this; omega) f1 f2 (fun x hx => by have h1 := f3 x hx; have h2 : x.bulk ≤ sumBy Hd.bulk hs := sumBy_mem Hd.bulk hx; omega) hf)
 have HFM := lH (fun W => specFrame_c t W ht)
 have HB : Hid (Below w.heap.size w w) := Below.refl _ _
 have HOB : Hid (BrkK w (0) (w.heap.size) (⟨E, R, H, A1, A2, ce, cr, ch, c1, c2⟩) (⟨width, es, rs, hs⟩)) := lH hk.base
 clear hk f1 f2 f3 f4 hlast hne hnr hnh hl1 hl2 hm1 hm2 hh
 generalize framesM (fileL width es rs hs f) = ft at *
 generalize frameM t = fm at *
 generalize frameOk t = fo at *
 have hz := ft.size
 go_enter Tryz.func103, Tryz.ntmps103
 go_wp2_with fail
 refine calls_named (fun w1 hw => ?_)
 have hz1 : w.heap.size + 1 ≤ w1.heap.size := by rw [hw]; first | omega | simp [World.setCell] <;> omega
 have hzz1 : w.heap.size ≤ w1.heap.size := by omega
 have hbn : Below w.heap.size w w1 := by rw [hw]; exact (by repeat with_reducible first | exact bR _ | apply bA | apply bD)
 replace HB := lH (below_then HB.out hbn HB.out.size)
 replace HOB := lH (HOB.out.below hbn)
 clear hbn
 have HXb : Hid (NewBox w1 (w.heap.size) [.int .i64 width, .slice E ne ce, .slice R nr cr, .slice H nh ch, .int .i64 h.size, .slice A1 m1 c1, .int .i64 h.taken, .slice A2 m2 c2, .int .i64 h.num, .int .i64 h.size, .string h.root, .int .i64 h.taken, .string h.troot]) := by rw [Hid, hw]; exact ⟨by first | omega | (simp [World.setCell]; done) | (simp [World.setCell]; omega), fun o => by rcases o with _ | _ | _ | _ | _ | _ | _ | _ | _ | _ | _ | _ | _ | o <;> go_simp, fun o => by go_simp⟩
 obtain ⟨hkb, hxb, hfb⟩ := HXb.out
 clear hw
 refine (HFM.out _).mono ?_
 rintro e w2 ⟨rfl, hb⟩
 have hzw2 : w1.heap.size ≤ w2.heap.size := hb.size
 have hzzw2 : w.heap.size ≤ w2.heap.size := by omega
 replace HB := lH (below_then HB.out hb HB.out.size)
 replace HOB := lH (HOB.out.below hb)
 replace HXb := lH (HXb.out.below hb)
 clear hxb hfb hkb
 obtain ⟨hkb, hxb, hfb⟩ := HXb.out
 clear hb
 go_wp2_with fail
 refine calls_named (fun w3 hw => ?_)
 have hz3 : w2.heap.size + 0 ≤ w3.heap.size := by rw [hw]; first | omega | simp [World.setCell] <;> omega
 have hzz3 : w.heap.size ≤ w3.heap.size := by omega
 have hbn : Below w2.heap.size w2 w3 := by rw [hw]; exact (by repeat with_reducible first | exact bR _ | apply bA | apply bD)
 replace HB := lH (below_then HB.out hbn HB.out.size)
 replace HOB := lH (HOB.out.below hbn)
 replace HXb := lH (HXb.out.below hbn)
 clear hxb hfb hkb
 obtain ⟨hkb, hxb, hfb⟩ := HXb.out
 clear hbn
 clear hw
 refine (HF.out _ HOB.out.base).mono ?_
 rintro e w4 ⟨rfl, hb⟩
 have hzw4 : w3.heap.size ≤ w4.heap.size := hb.size
 have hzzw4 : w.heap.size ≤ w4.heap.size := by omega
 replace HB := lH (below_then HB.out hb HB.out.size)
 replace HOB := lH (HOB.out.below hb)
 replace HXb := lH (HXb.out.below hb)
 clear hxb hfb hkb
 obtain ⟨hkb, hxb, hfb⟩ := HXb.out
 clear hb
 go_wp2
 refine bodyPost_named (fun w77 hw => ?_)
 have hb77 : Hid (Below w.heap.size w w77) := by rw [Hid, hw]; exact (by ((repeat first | with_reducible apply bA | with_reducible apply bD | (with_reducible refine bS ?_ ?_; (focus (first | omega | (simp; done) | (simp; omega))))); exact HB.out))
 clear hw
 go_ret
 exact ⟨_, rfl, hb77.out⟩
theorem addCode_ne {l : List Ent} {t k b : ByteArray} {ti : Int} (h : ¬ addCode l t ti k b = 0) : addL l t ti k b = [] ∧ addLeaf l t ti k b = 0 := addL_no rfl h
set_option maxRecDepth 100000 in
theorem l12PublishP_c (width : Int) (E R H A1 A2 : Option Addr) (ne nr nh ce cr ch c1 c2 m1 m2 : Nat) (es : List Ent) (rs : List Rcp) (hs : List Hd) (l1 l2 : List ByteArray) (h : Hd) (lo hi : Nat) (t : ByteArray) (ti : Int) (k b : ByteArray) (w : World) (hk : BrkK w lo hi ⟨E, R, H, A1, A2, ce, cr, ch, c1, c2⟩ ⟨width, es, rs, hs⟩) (hne : es.length = ne) (hnr : rs.length = nr) (hnh : hs.length = nh) (hl1 : pk1 width es hs = l1) (hl2 : pk2 width rs hs = l2) (hm1 : l1.length = m1) (hm2 : l2.length = m2) (hh : lastHd hs = h) (ht : t.size ≤ 1048576) (hti : I64 ti) (hks : k.size ≤ 1048576) (hbs : b.size ≤ 1048576) :
  Calls Tryz.prog 61 #[.agg #[.int .i64 width, .slice E ne ce, .slice R nr cr, .slice H nh ch, .int .i64 h.size, .slice A1 m1 c1, .int .i64 h.taken, .slice A2 m2 c2, .int .i64 h.num, .int .i64 h.size, .string h.root, .int .i64 h.taken, .string h.troot], .string t, .int .i64 ti, .string k, .string b] w fun e w' => ∃ (a' : Bk) (m' : Bm) (L : Option Addr) (q g : Nat) (leaf code : Int), e = .returned (.tuple #[.agg #[.int .i64 m'.width, .slice a'.E m'.es.length a'.ce, .slice a'.R m'.rs.length a'.cr, .slice a'.H m'.hs.length a'.ch, .int .i64 (lastHd m'.hs).size, .slice a'.A1 (pk1 m'.width m'.es m'.hs).length a'.c1, .int .i64 (lastHd m'.hs).taken, .slice a'.A2 (pk2 m'.width m'.rs m'.hs).length a'.c2, .int .i64 (lastHd m'.hs).num, .int .i64 (lastHd m'.hs).size, .string (lastHd m'.hs).root, .int .i64 (lastHd m'.hs).taken, .string (lastHd m'.hs).troot], .slice L q g, .int .i64 leaf, .int .i64 code]) ∧ NextOk w w' ⟨width, es, rs, hs⟩ a' m' code := by
 have hkk := hk
 obtain ⟨f1, f2, f3, g1, g2, g3, g4, f4, g5, g6, g7⟩ := parts_fits hk.ok
 have hlast := hk.ok.last
 have hpos := hk.ok.pos
 dsimp only at f1 f2 f3 g1 g2 g3 g4 f4 g5 g6 g7 hlast hpos
 rw [hne] at g1 hlast
 rw [hnr] at g2 hlast
 rw [hnh] at g3 g4 hpos
 rw [hh] at f4 g5 hlast
 rw [hl1, hm1] at g6
 rw [hl2, hm2] at g7
 have HAD := lH (fun W (r : BrkK W 0 W.heap.size ⟨E, R, H, A1, A2, ce, cr, ch, c1, c2⟩ ⟨width, es, rs, hs⟩) => l09Add_c E ce 0 W.heap.size ne es t ti k b W r.rE hne (by omega) r.nE ht hti hks hbs)
 by_cases hc : addCode es t ti k b = 0
 ·have hpub := hk.ok.publish hc
  have hfx := ent_fit (newEnt_ok hc)
  dsimp only at hpub
  have hlen : (es ++ [newEnt es t ti k b]).length = ne + 1 := by rw [List.length_append, hne]; rfl
  have hlast1 : (es ++ [newEnt es t ti k b])[ne]? = some (newEnt es t ti k b) := by rw [← hne, List.getElem?_append_right (Nat.le_refl _), Nat.sub_self]; rfl
  rw [(addL_yes hc).1, (addL_yes hc).2, hc, hlen, hne] at HAD
  have hpk : (pk1 width (es ++ [newEnt es t ti k b]) hs).length = m1 := by rw [pk1_more hk.ok, hl1, hm1]
  generalize newEnt es t ti k b = x at *
  have HCP := lH (fun W (r : BrkK W 0 W.heap.size ⟨E, R, H, A1, A2, ce, cr, ch, c1, c2⟩ ⟨width, es, rs, hs⟩) => l12CopyP_c width h.size h.taken E R H A1 A2 ne nr nh ce cr ch c1 c2 m1 m2 es rs hs l1 l2 h W r.rE r.rR r.rH (hl1 ▸ r.r1) (hl2 ▸ r.r2) hne hnr hnh hm1 hm2 (by omega) (by omega) (by omega) (by omega) (by omega) r.nE r.nR r.nH r.n1 r.n2)
  have HWR := lH (fun W (r : BrkK W 0 W.heap.size ⟨E, R, H, A1, A2, ce, cr, ch, c1, c2⟩ ⟨width, es, rs, hs⟩) s hs2 => l12WriteP_c width E R H A1 A2 ne nr nh ce cr ch c1 c2 m1 m2 es rs hs l1 l2 h 0 W.heap.size 0 s W r hne hnr hnh hl1 hl2 hm1 hm2 hh (by omega) hs2)
  have HTX := lH (fun W => specLeafText_c x W hfx)
  have hts := leafTextM_size x
  have hbl : (⟨es, rs, hs, l1, l2⟩ : Bl) = Bm.bl ⟨width, es, rs, hs⟩ := by show _ = Bl.mk es rs hs _ _; rw [hl1, hl2]
  have HBL := lH hbl
  have HPB := lH hpub
  have HOK := lH hk.ok
  have HV1 := lH hpk
  have HL := lH hlen
  have HL1 := lH hlast1
  have HNR := lH hnr
  have HNH := lH hnh
  have HNE := lH hne
  have HHH := lH hh
  have HM2 : Hid ((pk2 width rs hs).length = m2) := lH (by rw [hl2, hm2])
  have HB : Hid (Below w.heap.size w w) := Below.refl _ _
  have HOB : Hid (BrkK w (0) (w.heap.size) (⟨E, R, H, A1, A2, ce, cr, ch, c1, c2⟩) (⟨width, es, rs, hs⟩)) := lH hk.base
  clear hk hkk f1 f2 f3 f4 hlast hne hnr hnh hl1 hl2 hm1 hm2 hh hpub hfx hlen hlast1 hpk hbl hc
  generalize leafTextM x = tx at *
  generalize entryOk x = ok at *
  go_enter Tryz.func61, Tryz.ntmps61
  go_wp2_with fail
  refine calls_named (fun w1 hw => ?_)
  have hz1 : w.heap.size + 2 ≤ w1.heap.size := by rw [hw]; first | omega | simp [World.setCell] <;> omega
  have hzz1 : w.heap.size ≤ w1.heap.size := by omega
  have hbn : Below w.heap.size w w1 := by rw [hw]; exact (by repeat with_reducible first | exact bR _ | apply bA | apply bD)
  replace HB := lH (below_then HB.out hbn HB.out.size)
  replace HOB := lH (HOB.out.below hbn)
  clear hbn
  have HXb : Hid (NewBox w1 (w.heap.size) [.int .i64 width, .slice E ne ce, .slice R nr cr, .slice H nh ch, .int .i64 h.size, .slice A1 m1 c1, .int .i64 h.taken, .slice A2 m2 c2, .int .i64 h.num, .int .i64 h.size, .string h.root, .int .i64 h.taken, .string h.troot]) := by rw [Hid, hw]; exact ⟨by first | omega | (simp [World.setCell]; done) | (simp [World.setCell]; omega), fun o => by rcases o with _ | _ | _ | _ | _ | _ | _ | _ | _ | _ | _ | _ | _ | o <;> go_simp, fun o => by go_simp⟩
  obtain ⟨hkb, hxb, hfb⟩ := HXb.out
  have HXq : Hid (NewBox w1 (w.heap.size + 1) [.int .i64 0, .slice none 0 0, .slice none 0 0, .slice none 0 0, .int .i64 0, .slice none 0 0, .int .i64 0, .slice none 0 0, .int .i64 0, .int .i64 0, .string ⟨#[]⟩, .int .i64 0, .string ⟨#[]⟩]) := by rw [Hid, hw]; exact ⟨by first | omega | (simp [World.setCell]; done) | (simp [World.setCell]; omega), fun o => by rcases o with _ | _ | _ | _ | _ | _ | _ | _ | _ | _ | _ | _ | _ | o <;> go_simp, fun o => by go_simp⟩
  obtain ⟨hkq, hxq, hfq⟩ := HXq.out
  clear hw
  refine (HAD.out _ HOB.out.base).mono ?_
  rintro e w2 ⟨A9, c9, rfl, ⟨hA9, hc9⟩, ho9, hb⟩
  have hzw2 : w1.heap.size ≤ w2.heap.size := hb.size
  have hzzw2 : w.heap.size ≤ w2.heap.size := by omega
  replace HB := lH (below_then HB.out hb HB.out.size)
  replace HOB := lH (HOB.out.below hb)
  replace HXb := lH (HXb.out.below hb)
  clear hxb hfb hkb
  obtain ⟨hkb, hxb, hfb⟩ := HXb.out
  replace HXq := lH (HXq.out.below hb)
  clear hxq hfq hkq
  obtain ⟨hkq, hxq, hfq⟩ := HXq.out
  clear hb
  have HON : Hid (Rd w2 (w1.heap.size) (w2.heap.size) (A9) (ents (es ++ [x]))) := lH ho9.rd
  have HA9 := lH hA9
  clear ho9 hA9 HAD
  obtain ⟨b2, off, y, hEe, hb2, hks2, hcs⟩ := ent_cells HON.out (k := ne) (by rw [HL.out]; omega)
  obtain rfl : x = y := by rw [HL1.out] at hks2; exact Option.some.inj hks2
  have c0' := hcs.1
  have c1' := hcs.2.1
  have c2' := hcs.2.2.1
  have c3' := hcs.2.2.2.1
  have c4' := hcs.2.2.2.2
  have hix := idxEnt A9 b2 off (ne + 1) c9 ne hEe (by omega)
  clear hks2 hcs hEe
  go_wp2_with fail
  refine calls_named (fun w3 hw => ?_)
  have hz3 : w2.heap.size + 1 ≤ w3.heap.size := by rw [hw]; first | omega | simp [World.setCell] <;> omega
  have hzz3 : w.heap.size ≤ w3.heap.size := by omega
  have hbn : Below w2.heap.size w2 w3 := by rw [hw]; exact (by repeat with_reducible first | exact bR _ | apply bA | apply bD)
  replace HB := lH (below_then HB.out hbn HB.out.size)
  replace HOB := lH (HOB.out.below hbn)
  replace HON := lH (HON.out.below hbn)
  replace HXb := lH (HXb.out.below hbn)
  clear hxb hfb hkb
  obtain ⟨hkb, hxb, hfb⟩ := HXb.out
  replace HXq := lH (HXq.out.below hbn)
  clear hxq hfq hkq
  obtain ⟨hkq, hxq, hfq⟩ := HXq.out
  clear hbn
  have HXl : Hid (NewBox w3 (w2.heap.size) [.slice A9 (ne + 1) c9]) := by rw [Hid, hw]; exact ⟨by first | omega | (simp [World.setCell]; done) | (simp [World.setCell]; omega), fun o => by rcases o with _ | o <;> go_simp, fun o => by go_simp⟩
  obtain ⟨hkl, hxl, hfl⟩ := HXl.out
  clear hw
  refine (HTX.out _).mono ?_
  rintro e w4 ⟨rfl, hb⟩
  have hzw4 : w3.heap.size ≤ w4.heap.size := hb.size
  have hzzw4 : w.heap.size ≤ w4.heap.size := by omega
  replace HB := lH (below_then HB.out hb HB.out.size)
  replace HOB := lH (HOB.out.below hb)
  replace HON := lH (HON.out.below hb)
  replace HXb := lH (HXb.out.below hb)
  clear hxb hfb hkb
  obtain ⟨hkb, hxb, hfb⟩ := HXb.out
  replace HXq := lH (HXq.out.below hb)
  clear hxq hfq hkq
  obtain ⟨hkq, hxq, hfq⟩ := HXq.out
  replace HXl := lH (HXl.out.below hb)
  clear hxl hfl hkl
  obtain ⟨hkl, hxl, hfl⟩ := HXl.out
  clear hb
  clear c0' c1' c2' c3' c4' hix hb2 HTX
  go_wp2_with fail
  refine calls_named (fun w5 hw => ?_)
  have hz5 : w4.heap.size + 0 ≤ w5.heap.size := by rw [hw]; first | omega | simp [World.setCell] <;> omega
  have hzz5 : w.heap.size ≤ w5.heap.size := by omega
  have hbn : Below w4.heap.size w4 w5 := by rw [hw]; exact (by repeat with_reducible first | exact bR _ | apply bA | apply bD)
  replace HB := lH (below_then HB.out hbn HB.out.size)
  replace HOB := lH (HOB.out.below hbn)
  replace HON := lH (HON.out.below hbn)
  replace HXb := lH (HXb.out.below hbn)
  clear hxb hfb hkb
  obtain ⟨hkb, hxb, hfb⟩ := HXb.out
  replace HXq := lH (HXq.out.below hbn)
  clear hxq hfq hkq
  obtain ⟨hkq, hxq, hfq⟩ := HXq.out
  replace HXl := lH (HXl.out.below hbn)
  clear hxl hfl hkl
  obtain ⟨hkl, hxl, hfl⟩ := HXl.out
  clear hbn
  clear hw
  refine (HCP.out _ HOB.out.base).mono ?_
  rintro e w6 ⟨a3, rfl, hcp, hb⟩
  have hzw6 : w5.heap.size ≤ w6.heap.size := hb.size
  have hzzw6 : w.heap.size ≤ w6.heap.size := by omega
  replace HB := lH (below_then HB.out hb HB.out.size)
  replace HOB := lH (HOB.out.below hb)
  replace HON := lH (HON.out.below hb)
  replace HXb := lH (HXb.out.below hb)
  clear hxb hfb hkb
  obtain ⟨hkb, hxb, hfb⟩ := HXb.out
  replace HXq := lH (HXq.out.below hb)
  clear hxq hfq hkq
  obtain ⟨hkq, hxq, hfq⟩ := HXq.out
  replace HXl := lH (HXl.out.below hb)
  clear hxl hfl hkl
  obtain ⟨hkl, hxl, hfl⟩ := HXl.out
  clear hb
  have HOC : Hid (CopyK w6 (w5.heap.size) (w6.heap.size) (a3) (⟨es, rs, hs, l1, l2⟩)) := lH hcp
  clear hcp HCP
  obtain ⟨lo5, hlo5, hlo5'⟩ : ∃ n, n ≤ w5.heap.size ∧ w5.heap.size ≤ n := ⟨_, Nat.le_refl _, Nat.le_refl _⟩
  go_upto_region 7 with fail
  refine wp_named (fun w7 hw => ?_)
  have hz7 : w6.heap.size + 1 ≤ w7.heap.size := by rw [hw]; first | omega | simp [World.setCell] <;> omega
  have hzz7 : w.heap.size ≤ w7.heap.size := by omega
  have hbn : Below w6.heap.size w6 w7 := by rw [hw]; exact (by repeat with_reducible first | exact bR _ | apply bA | apply bD)
  replace HB := lH (below_then HB.out hbn HB.out.size)
  replace HOB := lH (HOB.out.below hbn)
  replace HON := lH (HON.out.below hbn)
  replace HOC := lH (HOC.out.below hbn)
  replace HXb := lH (HXb.out.below hbn)
  clear hxb hfb hkb
  obtain ⟨hkb, hxb, hfb⟩ := HXb.out
  replace HXq := lH (HXq.out.below hbn)
  clear hxq hfq hkq
  obtain ⟨hkq, hxq, hfq⟩ := HXq.out
  replace HXl := lH (HXl.out.below hbn)
  clear hxl hfl hkl
  obtain ⟨hkl, hxl, hfl⟩ := HXl.out
  clear hbn
  have HXo : Hid (NewBox w7 (w6.heap.size) [.int .i64 width, .slice A9 (ne + 1) c9, .slice a3.R nr a3.cr, .slice a3.H nh a3.ch, .int .i64 h.size, .slice a3.A1 m1 a3.c1, .int .i64 h.taken, .slice a3.A2 m2 a3.c2, .int .i64 h.num, .int .i64 h.size, .string h.root, .int .i64 h.taken, .string h.troot]) := by rw [Hid, hw]; exact ⟨by first | omega | (simp [World.setCell]; done) | (simp [World.setCell]; omega), fun o => by rcases o with _ | _ | _ | _ | _ | _ | _ | _ | _ | _ | _ | _ | _ | o <;> go_simp, fun o => by go_simp⟩
  obtain ⟨hko, hxo, hfo⟩ := HXo.out
  clear hw
  obtain ⟨F, HF⟩ : ∃ F : Facts, Hid (F = fun iq xq tqs dsq uq => match iq with
   | 0 => xq.v = .agg #[.int .i64 width, .slice A9 (ne + 1) c9, .slice a3.R nr a3.cr, .slice a3.H nh a3.ch, .int .i64 h.size, .slice a3.A1 m1 a3.c1, .int .i64 h.taken, .slice a3.A2 m2 a3.c2, .int .i64 h.num, .int .i64 h.size, .string h.root, .int .i64 h.taken, .string h.troot]
   | 1 => xq.v = .agg #[.int .i64 width, .slice E ne ce, .slice R nr cr, .slice H nh ch, .int .i64 h.size, .slice A1 m1 c1, .int .i64 h.taken, .slice A2 m2 c2, .int .i64 h.num, .int .i64 h.size, .string h.root, .int .i64 h.taken, .string h.troot]
   | 2 => xq.v = .string tx
   | 3 => ∃ (kw : Nat), xq.v = .slice (some ⟨kw, 0, none⟩) 1 1 ∧ (True)
   | 4 => xq.v = .int .i64 (ne : Int)
   | 5 => NewBox uq (w.heap.size + 1) [.int .i64 width, .slice A9 (ne + 1) c9, .slice a3.R nr a3.cr, .slice a3.H nh a3.ch, .int .i64 h.size, .slice a3.A1 m1 a3.c1, .int .i64 h.taken, .slice a3.A2 m2 a3.c2, .int .i64 h.num, .int .i64 h.size, .string h.root, .int .i64 h.taken, .string h.troot]
   | 6 => (match tqs, dsq with | [], [yq0] => ∃ (kw : Nat), yq0.v = .slice (some ⟨kw, 0, none⟩) 1 1 ∧ xq.v = .slice (some ⟨kw, 0, none⟩) 1 1 | _, _ => False)
   | 7 => xq.v = .int .i64 (ne : Int)
   | 8 => xq.v = .int .i64 0
   | _ => False) := ⟨_, rfl⟩
  refine wp_region_facts [[], [], [], [], [], [], [3], [], []] [[], [], [], [], [], [], [], [], []] [some 49, some 50, some 51, some 52, some 53, none, some 11, some 12, some 13] (some 5) (w.heap.size + 1) (w.heap.size + 1 + 1) (.inr (by omega)) F (by kernel_rfl) (by kernel_rfl) (by kernel_rfl) ?_ ⟨?_, ?_, ?_, ?_, ?_, ?_, ?_, ?_, ?_, trivial⟩ ?_
  ·rw [HF.out]; intro iq xq tqs dsq uq u' hi hf hs hW hx hbk
   have kx : ∀ b, xq.s ≤ b → b < xq.e → u'.heap[b]? = uq.heap[b]? := fun b h1 h2 => hbk b (.inr (.inl ⟨h1, h2⟩))
   have kt : ∀ t ∈ tqs, ∀ b, t.s ≤ b → b < t.e → u'.heap[b]? = uq.heap[b]? := fun t ht b h1 h2 => hbk b (.inr (.inr ⟨t, ht, h1, h2⟩))
   match iq with
   | 0 => exact hf
   | 1 => exact hf
   | 2 => exact hf
   | 3 => obtain ⟨kw, hv, p0⟩ := hf; exact ⟨kw, hv, trivial⟩
   | 4 => exact hf
   | 5 => exact NewBox.keep hf hs (hbk _ (.inl ⟨hkq, .inr (.inr rfl)⟩))
   | 6 => exact hf
   | 7 => exact hf
   | 8 => exact hf
  ·intro gh ρ u hc hf1 hg1 hd h0 hb he ha hF
   first | (replace hb : Below w7.heap.size w7 u := hb.drew.below (by decide +kernel)) | (replace hb : Only (w.heap.size + 1) (w.heap.size + 1 + 1) w7 u := hb.drew.only)
   have hbz : w7.heap.size ≤ u.heap.size := hb.size
   have r19 : ρ (.tmp 19) = .pointer (some ⟨w6.heap.size, 0, none⟩) := (h0 19 (by decide +kernel)).trans rfl
   have q_o : ∀ o, u.cell? ⟨w6.heap.size, o, none⟩ = [.int .i64 width, .slice A9 (ne + 1) c9, .slice a3.R nr a3.cr, .slice a3.H nh a3.ch, .int .i64 h.size, .slice a3.A1 m1 a3.c1, .int .i64 h.taken, .slice a3.A2 m2 a3.c2, .int .i64 h.num, .int .i64 h.size, .string h.root, .int .i64 h.taken, .string h.troot][o]? := by first | exact (HXo.out.below hb).2.1 | exact (HXo.out.only hb (by omega)).2.1
   have k_o : w6.heap.size < u.heap.size := by have := HXo.out.1; omega
   have q_b : ∀ o, u.cell? ⟨w.heap.size, o, none⟩ = [.int .i64 width, .slice E ne ce, .slice R nr cr, .slice H nh ch, .int .i64 h.size, .slice A1 m1 c1, .int .i64 h.taken, .slice A2 m2 c2, .int .i64 h.num, .int .i64 h.size, .string h.root, .int .i64 h.taken, .string h.troot][o]? := by first | exact (HXb.out.below hb).2.1 | exact (HXb.out.only hb (by omega)).2.1
   have k_b : w.heap.size < u.heap.size := by have := HXb.out.1; omega
   clear  hd h0 he ha hF
   go_simp
   rw [HF.out]
   exact ⟨OnlyL.refl _ _, rfl⟩
  ·intro gh ρ u hc hf1 hg1 hd h0 hb he ha hF
   first | (replace hb : Below w7.heap.size w7 u := hb.drew.below (by decide +kernel)) | (replace hb : Only (w.heap.size + 1) (w.heap.size + 1 + 1) w7 u := hb.drew.only)
   have hbz : w7.heap.size ≤ u.heap.size := hb.size
   have r5 : ρ (.tmp 5) = .pointer (some ⟨w.heap.size, 0, none⟩) := (h0 5 (by decide +kernel)).trans rfl
   have q_o : ∀ o, u.cell? ⟨w6.heap.size, o, none⟩ = [.int .i64 width, .slice A9 (ne + 1) c9, .slice a3.R nr a3.cr, .slice a3.H nh a3.ch, .int .i64 h.size, .slice a3.A1 m1 a3.c1, .int .i64 h.taken, .slice a3.A2 m2 a3.c2, .int .i64 h.num, .int .i64 h.size, .string h.root, .int .i64 h.taken, .string h.troot][o]? := by first | exact (HXo.out.below hb).2.1 | exact (HXo.out.only hb (by omega)).2.1
   have k_o : w6.heap.size < u.heap.size := by have := HXo.out.1; omega
   have q_b : ∀ o, u.cell? ⟨w.heap.size, o, none⟩ = [.int .i64 width, .slice E ne ce, .slice R nr cr, .slice H nh ch, .int .i64 h.size, .slice A1 m1 c1, .int .i64 h.taken, .slice A2 m2 c2, .int .i64 h.num, .int .i64 h.size, .string h.root, .int .i64 h.taken, .string h.troot][o]? := by first | exact (HXb.out.below hb).2.1 | exact (HXb.out.only hb (by omega)).2.1
   have k_b : w.heap.size < u.heap.size := by have := HXb.out.1; omega
   clear  hd h0 he ha hF
   go_simp
   rw [HF.out]
   exact ⟨OnlyL.refl _ _, rfl⟩
  ·intro gh ρ u hc hf1 hg1 hd h0 hb he ha hF
   have r17 : ρ (.tmp 17) = .string tx := (h0 17 (by decide +kernel)).trans rfl
   clear  hd h0 he ha hF
   go_simp
   rw [HF.out]
   exact ⟨OnlyL.refl _ _, rfl⟩
  ·intro gh ρ u hc hf1 hg1 hd h0 hb he ha hF
   first | (replace hb : Below w7.heap.size w7 u := hb.drew.below (by decide +kernel)) | (replace hb : Only (w.heap.size + 1) (w.heap.size + 1 + 1) w7 u := hb.drew.only)
   have hbz : w7.heap.size ≤ u.heap.size := hb.size
   have r50 : ρ (.tmp 50) = .agg #[.int .i64 width, .slice E ne ce, .slice R nr cr, .slice H nh ch, .int .i64 h.size, .slice A1 m1 c1, .int .i64 h.taken, .slice A2 m2 c2, .int .i64 h.num, .int .i64 h.size, .string h.root, .int .i64 h.taken, .string h.troot] := by have h := hF 1 (by decide +kernel) (by decide +kernel); rw [HF.out] at h; exact (hd 1 (by decide +kernel) 50 (by kernel_rfl)).trans h
   have r51 : ρ (.tmp 51) = .string tx := by have h := hF 2 (by decide +kernel) (by decide +kernel); rw [HF.out] at h; exact (hd 2 (by decide +kernel) 51 (by kernel_rfl)).trans h
   clear  hd h0 he ha hF
   go_simp
   have q_o := (HXo.out.below hb)
   have q_b := (HXb.out.below hb)
   refine (HWR.out _ (HOB.out.below hb).base tx (by omega)).mono ?_
   rintro e u1 ⟨kw, rfl, hb1⟩
   rw [HF.out]
   exact ⟨_, rfl, OnlyL.of_below hb1, kw, rfl, trivial⟩
  ·intro gh ρ u hc hf1 hg1 hd h0 hb he ha hF
   have r15 : ρ (.tmp 15) = .int .i64 (ne : Int) := (h0 15 (by decide +kernel)).trans rfl
   clear  hd h0 he ha hF
   go_simp
   rw [HF.out]
   exact ⟨OnlyL.refl _ _, rfl⟩
  ·intro gh ρ u hc hf1 hg1 hd h0 hb he ha hF
   first | (replace hb : Below w7.heap.size w7 u := hb.drew.below (by decide +kernel)) | (replace hb : Only (w.heap.size + 1) (w.heap.size + 1 + 1) w7 u := hb.drew.only)
   have hbz : w7.heap.size ≤ u.heap.size := hb.size
   have r10 : ρ (.tmp 10) = .pointer (some ⟨w.heap.size + 1, 0, none⟩) := (h0 10 (by decide +kernel)).trans rfl
   have r49 : ρ (.tmp 49) = .agg #[.int .i64 width, .slice A9 (ne + 1) c9, .slice a3.R nr a3.cr, .slice a3.H nh a3.ch, .int .i64 h.size, .slice a3.A1 m1 a3.c1, .int .i64 h.taken, .slice a3.A2 m2 a3.c2, .int .i64 h.num, .int .i64 h.size, .string h.root, .int .i64 h.taken, .string h.troot] := by have h := hF 0 (by decide +kernel) (by decide +kernel); rw [HF.out] at h; exact (hd 0 (by decide +kernel) 49 (by kernel_rfl)).trans h
   obtain ⟨hzk, hzc, hzf⟩ := HXq.out.below hb
   clear  hd h0 he ha hF
   go_simp
   rw [HF.out]
   refine ⟨?_, ?_⟩
   ·refine OnlyL.of_z (lo := w.heap.size + 1) (hi := w.heap.size + 1 + 1) ?_ rfl; refine Only.setCell ?_ (by exact Nat.le_refl _) (by exact Nat.lt_succ_self _) _; refine Only.setCell ?_ (by exact Nat.le_refl _) (by exact Nat.lt_succ_self _) _; refine Only.setCell ?_ (by exact Nat.le_refl _) (by exact Nat.lt_succ_self _) _; refine Only.setCell ?_ (by exact Nat.le_refl _) (by exact Nat.lt_succ_self _) _; refine Only.setCell ?_ (by exact Nat.le_refl _) (by exact Nat.lt_succ_self _) _; refine Only.setCell ?_ (by exact Nat.le_refl _) (by exact Nat.lt_succ_self _) _; refine Only.setCell ?_ (by exact Nat.le_refl _) (by exact Nat.lt_succ_self _) _; refine Only.setCell ?_ (by exact Nat.le_refl _) (by exact Nat.lt_succ_self _) _; refine Only.setCell ?_ (by exact Nat.le_refl _) (by exact Nat.lt_succ_self _) _; refine Only.setCell ?_ (by exact Nat.le_refl _) (by exact Nat.lt_succ_self _) _; refine Only.setCell ?_ (by exact Nat.le_refl _) (by exact Nat.lt_succ_self _) _; refine Only.setCell ?_ (by exact Nat.le_refl _) (by exact Nat.lt_succ_self _) _; refine Only.setCell ?_ (by exact Nat.le_refl _) (by exact Nat.lt_succ_self _) _; exact Only.refl _ _ _
   ·show NewBox _ (w.heap.size + 1) _
    exact ⟨by simpa [World.setCell] using hzk, fun o => by rcases o with _ | _ | _ | _ | _ | _ | _ | _ | _ | _ | _ | _ | _ | o <;> go_simp, fun o => by go_simp⟩
  ·intro gh ρ u hc hf1 hg1 hd h0 hb he ha hF
   have f3 : ∃ (kw : Nat), (gh 3).v = .slice (some ⟨kw, 0, none⟩) 1 1 ∧ (True) := by have h := hF 3 (by decide +kernel) (by decide +kernel); rw [HF.out] at h; exact h
   obtain ⟨kw, hv3, g3_0⟩ := f3
   have hrt3 := hv3
   have r52 : ρ (.tmp 52) = .slice (some ⟨kw, 0, none⟩) 1 1 := (hd 3 (by decide +kernel) 52 (by kernel_rfl)).trans hv3
   have HRT3 := lH hrt3
   clear hv3 hrt3 hd h0 he ha hF
   go_simp
   rw [HF.out]
   exact ⟨OnlyL.refl _ _, kw, HRT3.out, rfl⟩
  ·intro gh ρ u hc hf1 hg1 hd h0 hb he ha hF
   have r53 : ρ (.tmp 53) = .int .i64 (ne : Int) := by have h := hF 4 (by decide +kernel) (by decide +kernel); rw [HF.out] at h; exact (hd 4 (by decide +kernel) 53 (by kernel_rfl)).trans h
   clear  hd h0 he ha hF
   go_simp
   rw [HF.out]
   exact ⟨OnlyL.refl _ _, rfl⟩
  ·intro gh ρ u hc hf1 hg1 hd h0 hb he ha hF
   clear  hd h0 he ha hF
   go_simp
   rw [HF.out]
   exact ⟨OnlyL.refl _ _, rfl⟩
  intro gh w8 hB hE hA hF
  replace hB : Only (w.heap.size + 1) (w.heap.size + 1 + 1) w7 w8 := hB.only
  have f0 : (gh 0).v = .agg #[.int .i64 width, .slice A9 (ne + 1) c9, .slice a3.R nr a3.cr, .slice a3.H nh a3.ch, .int .i64 h.size, .slice a3.A1 m1 a3.c1, .int .i64 h.taken, .slice a3.A2 m2 a3.c2, .int .i64 h.num, .int .i64 h.size, .string h.root, .int .i64 h.taken, .string h.troot] := by have h := hF 0 (by decide +kernel) (by decide +kernel); rw [HF.out] at h; exact h
  have f1 : (gh 1).v = .agg #[.int .i64 width, .slice E ne ce, .slice R nr cr, .slice H nh ch, .int .i64 h.size, .slice A1 m1 c1, .int .i64 h.taken, .slice A2 m2 c2, .int .i64 h.num, .int .i64 h.size, .string h.root, .int .i64 h.taken, .string h.troot] := by have h := hF 1 (by decide +kernel) (by decide +kernel); rw [HF.out] at h; exact h
  have f2 : (gh 2).v = .string tx := by have h := hF 2 (by decide +kernel) (by decide +kernel); rw [HF.out] at h; exact h
  have f3 : ∃ (kw : Nat), (gh 3).v = .slice (some ⟨kw, 0, none⟩) 1 1 ∧ (True) := by have h := hF 3 (by decide +kernel) (by decide +kernel); rw [HF.out] at h; exact h
  have f4 : (gh 4).v = .int .i64 (ne : Int) := by have h := hF 4 (by decide +kernel) (by decide +kernel); rw [HF.out] at h; exact h
  have f5 : NewBox w8 (w.heap.size + 1) [.int .i64 width, .slice A9 (ne + 1) c9, .slice a3.R nr a3.cr, .slice a3.H nh a3.ch, .int .i64 h.size, .slice a3.A1 m1 a3.c1, .int .i64 h.taken, .slice a3.A2 m2 a3.c2, .int .i64 h.num, .int .i64 h.size, .string h.root, .int .i64 h.taken, .string h.troot] := by have h := hF 5 (by decide +kernel) (by decide +kernel); rw [HF.out] at h; exact h
  have f6 : ∃ (kw : Nat), (gh 3).v = .slice (some ⟨kw, 0, none⟩) 1 1 ∧ (gh 6).v = .slice (some ⟨kw, 0, none⟩) 1 1 := by have h := hF 6 (by decide +kernel) (by decide +kernel); rw [HF.out] at h; exact h
  have f7 : (gh 7).v = .int .i64 (ne : Int) := by have h := hF 7 (by decide +kernel) (by decide +kernel); rw [HF.out] at h; exact h
  have f8 : (gh 8).v = .int .i64 0 := by have h := hF 8 (by decide +kernel) (by decide +kernel); rw [HF.out] at h; exact h
  obtain ⟨kw, hv3, _⟩ := f3
  have hv0 := f0
  have hv1 := f1
  have hv2 := f2
  have hv4 := f4
  have hx5 := f5
  obtain ⟨kw_6, hu3, hv6⟩ := f6
  replace hu3 := hv3.symm.trans hu3
  simp at hu3
  try simp only [and_assoc] at hu3
  obtain rfl := hu3
  have hv7 := f7
  have hv8 := f8
  clear hE hA hF
  simp only [putDs, Nat.reduceAdd, hv0, hv1, hv2, hv3, hv4, hv6, hv7, hv8]
  clear hv0 hv1 hv2 hv3 hv4 hv6 hv7 hv8
  clear HF
  have hb := hB
  clear hB
  have hzw8 : w7.heap.size ≤ w8.heap.size := hb.size
  have hzzw8 : w.heap.size ≤ w8.heap.size := by omega
  replace HB := lH (below_only HB.out hb (by omega) HB.out.size)
  replace HOB := lH (HOB.out.only hb (by first | omega | (simp; omega)))
  replace HON := lH (HON.out.only hb (by first | omega | (simp; omega)))
  replace HOC := lH (HOC.out.only hb (by first | omega | (simp; omega)))
  replace HXb := lH (HXb.out.only hb (by first | omega | (simp; omega)))
  clear hxb hfb hkb
  obtain ⟨hkb, hxb, hfb⟩ := HXb.out
  clear hxq hfq hkq HXq
  replace HXl := lH (HXl.out.only hb (by first | omega | (simp; omega)))
  clear hxl hfl hkl
  obtain ⟨hkl, hxl, hfl⟩ := HXl.out
  replace HXo := lH (HXo.out.only hb (by first | omega | (simp; omega)))
  clear hxo hfo hko
  obtain ⟨hko, hxo, hfo⟩ := HXo.out
  clear hb
  have HXq : Hid (NewBox w8 (w.heap.size + 1) [.int .i64 width, .slice A9 (ne + 1) c9, .slice a3.R nr a3.cr, .slice a3.H nh a3.ch, .int .i64 h.size, .slice a3.A1 m1 a3.c1, .int .i64 h.taken, .slice a3.A2 m2 a3.c2, .int .i64 h.num, .int .i64 h.size, .string h.root, .int .i64 h.taken, .string h.troot]) := hx5
  obtain ⟨hkq, hxq, hfq⟩ := HXq.out
  clear hx5
  have hbk : BrkK w8 w.heap.size w8.heap.size ⟨A9, a3.R, a3.H, a3.A1, a3.A2, c9, a3.cr, a3.ch, a3.c1, a3.c2⟩ ⟨width, es ++ [x], rs, hs⟩ := by
   have h7 := HOC.out
   rw [HBL.out] at h7
   have h8 := CopyK.pushE (m := ⟨width, es, rs, hs⟩) (lo0 := w.heap.size) (h7.mono (Nat.le_refl _) (hi' := w8.heap.size) (by omega)) (Nat.le_refl _) (by omega) HOK.out (x := x) (E' := A9) (c' := c9) HPB.out (HON.out.mono (by omega) (by omega) (Nat.le_refl _)) (by show es.length + 1 ≤ c9; rw [HNE.out]; exact hc9) HA9.out
   exact h8
  have HBK := lH hbk
  clear hbk
  go_wp2
  refine bodyPost_ret (v := .tuple #[.agg #[.int .i64 width, .slice A9 (ne + 1) c9, .slice a3.R nr a3.cr, .slice a3.H nh a3.ch, .int .i64 h.size, .slice a3.A1 m1 a3.c1, .int .i64 h.taken, .slice a3.A2 m2 a3.c2, .int .i64 h.num, .int .i64 h.size, .string h.root, .int .i64 h.taken, .string h.troot], .slice (some ⟨kw, 0, none⟩) 1 1, .int .i64 ne, .int .i64 0]) (by simp [results, Tryz.results61, go_sem, hxq]) rfl ?_
  exact ⟨⟨A9, a3.R, a3.H, a3.A1, a3.A2, c9, a3.cr, a3.ch, a3.c1, a3.c2⟩, ⟨width, es ++ [x], rs, hs⟩, some ⟨kw, 0, none⟩, 1, 1, ne, 0, by dsimp only; rw [HL.out, HNR.out, HNH.out, HV1.out, HM2.out, HHH.out], fun _ => ⟨HBK.out, rfl, by dsimp only; rw [List.length_append]; exact Nat.le_refl _⟩, HB.out⟩
 ·rw [(addCode_ne hc).1, (addCode_ne hc).2] at HAD
  have hcd : ¬ addCode es t ti k b = 0 := hc
  generalize addCode es t ti k b = cd at *
  have hcq : (cd == 0) = false := beq_eq_false_iff_ne.2 hcd
  have HCD := lH hcd
  have HB : Hid (Below w.heap.size w w) := Below.refl _ _
  have HOB : Hid (BrkK w (0) (w.heap.size) (⟨E, R, H, A1, A2, ce, cr, ch, c1, c2⟩) (⟨width, es, rs, hs⟩)) := lH hk.base
  clear hk hkk f1 f2 f3 f4 hlast hne hnr hnh hl1 hl2 hm1 hm2 hh hc hcd
  go_enter Tryz.func61, Tryz.ntmps61
  go_wp2_with fail
  refine calls_named (fun w1 hw => ?_)
  have hz1 : w.heap.size + 2 ≤ w1.heap.size := by rw [hw]; first | omega | simp [World.setCell] <;> omega
  have hzz1 : w.heap.size ≤ w1.heap.size := by omega
  have hbn : Below w.heap.size w w1 := by rw [hw]; exact (by repeat with_reducible first | exact bR _ | apply bA | apply bD)
  replace HB := lH (below_then HB.out hbn HB.out.size)
  replace HOB := lH (HOB.out.below hbn)
  clear hbn
  have HXb : Hid (NewBox w1 (w.heap.size) [.int .i64 width, .slice E ne ce, .slice R nr cr, .slice H nh ch, .int .i64 h.size, .slice A1 m1 c1, .int .i64 h.taken, .slice A2 m2 c2, .int .i64 h.num, .int .i64 h.size, .string h.root, .int .i64 h.taken, .string h.troot]) := by rw [Hid, hw]; exact ⟨by first | omega | (simp [World.setCell]; done) | (simp [World.setCell]; omega), fun o => by rcases o with _ | _ | _ | _ | _ | _ | _ | _ | _ | _ | _ | _ | _ | o <;> go_simp, fun o => by go_simp⟩
  obtain ⟨hkb, hxb, hfb⟩ := HXb.out
  have HXq : Hid (NewBox w1 (w.heap.size + 1) [.int .i64 0, .slice none 0 0, .slice none 0 0, .slice none 0 0, .int .i64 0, .slice none 0 0, .int .i64 0, .slice none 0 0, .int .i64 0, .int .i64 0, .string ⟨#[]⟩, .int .i64 0, .string ⟨#[]⟩]) := by rw [Hid, hw]; exact ⟨by first | omega | (simp [World.setCell]; done) | (simp [World.setCell]; omega), fun o => by rcases o with _ | _ | _ | _ | _ | _ | _ | _ | _ | _ | _ | _ | _ | o <;> go_simp, fun o => by go_simp⟩
  obtain ⟨hkq, hxq, hfq⟩ := HXq.out
  clear hw
  refine (HAD.out _ HOB.out.base).mono ?_
  rintro e w2 ⟨A9, c9, rfl, hA9, ho9, hb⟩
  have hzw2 : w1.heap.size ≤ w2.heap.size := hb.size
  have hzzw2 : w.heap.size ≤ w2.heap.size := by omega
  replace HB := lH (below_then HB.out hb HB.out.size)
  replace HOB := lH (HOB.out.below hb)
  replace HXb := lH (HXb.out.below hb)
  clear hxb hfb hkb
  obtain ⟨hkb, hxb, hfb⟩ := HXb.out
  replace HXq := lH (HXq.out.below hb)
  clear hxq hfq hkq
  obtain ⟨hkq, hxq, hfq⟩ := HXq.out
  clear hb
  clear hA9 ho9 HAD
  go_wp2
  refine bodyPost_named (fun w3 hw => ?_)
  have hz3 : w2.heap.size + 1 ≤ w3.heap.size := by rw [hw]; first | omega | simp [World.setCell] <;> omega
  have hzz3 : w.heap.size ≤ w3.heap.size := by omega
  replace HB : Hid (Below w.heap.size w w3) := by rw [Hid, hw]; exact (by ((repeat first | with_reducible apply bA | with_reducible apply bD | (with_reducible refine bS ?_ ?_; (focus (first | omega | (simp; done) | (simp; omega))))); exact HB.out))
  replace HOB : Hid (BrkK w3 (0) (w.heap.size) (⟨E, R, H, A1, A2, ce, cr, ch, c1, c2⟩) (⟨width, es, rs, hs⟩)) := by rw [Hid, hw]; (repeat (first | (with_reducible refine BrkK.alloc ?_ _) | (with_reducible refine BrkK.drew ?_) | ((with_reducible refine BrkK.setCell ?_ ?_ _); rotate_left 1; (focus (first | omega | (simp; done) | (simp; omega)))))); exact HOB.out
  replace HXb : Hid (NewBox w3 (w.heap.size) [.int .i64 width, .slice E ne ce, .slice R nr cr, .slice H nh ch, .int .i64 h.size, .slice A1 m1 c1, .int .i64 h.taken, .slice A2 m2 c2, .int .i64 h.num, .int .i64 h.size, .string h.root, .int .i64 h.taken, .string h.troot]) := by rw [Hid, hw]; (repeat (first | (with_reducible refine NewBox.alloc ?_ _) | (with_reducible refine NewBox.drew ?_) | ((with_reducible refine NewBox.setCell ?_ ?_ _); rotate_left 1; (focus (first | omega | (simp; done) | (simp; omega)))))); exact HXb.out
  clear hxb hfb hkb
  obtain ⟨hkb, hxb, hfb⟩ := HXb.out
  replace HXq : Hid (NewBox w3 (w.heap.size + 1) [.int .i64 0, .slice none 0 0, .slice none 0 0, .slice none 0 0, .int .i64 0, .slice none 0 0, .int .i64 0, .slice none 0 0, .int .i64 0, .int .i64 0, .string ⟨#[]⟩, .int .i64 0, .string ⟨#[]⟩]) := by rw [Hid, hw]; apply NewBox.cast; (focus ((repeat (first | (with_reducible apply NewBox.alloc) | (with_reducible apply NewBox.drew) | (with_reducible apply NewBox.set1) | ((with_reducible apply NewBox.far); (focus (first | omega | (simp; done) | (simp; omega)))))); exact HXq.out)); rfl
  clear hxq hfq hkq
  obtain ⟨hkq, hxq, hfq⟩ := HXq.out
  have HXl : Hid (NewBox w3 (w2.heap.size) [.slice A9 0 c9]) := by rw [Hid, hw]; exact ⟨by first | omega | (simp [World.setCell]; done) | (simp [World.setCell]; omega), fun o => by rcases o with _ | o <;> go_simp, fun o => by go_simp⟩
  obtain ⟨hkl, hxl, hfl⟩ := HXl.out
  clear hw
  refine bodyPost_ret (v := .tuple #[.agg #[.int .i64 0, .slice none 0 0, .slice none 0 0, .slice none 0 0, .int .i64 0, .slice none 0 0, .int .i64 0, .slice none 0 0, .int .i64 0, .int .i64 0, .string ⟨#[]⟩, .int .i64 0, .string ⟨#[]⟩], .slice (some ⟨w2.heap.size + 1, 0, none⟩) 0 0, .int .i64 0, .int .i64 cd]) (by simp [results, Tryz.results61, go_sem, hxq]) rfl ?_
  exact ⟨zeroBk, zeroBm, _, 0, 0, 0, cd, rfl, NextOk.no HCD.out HB.out⟩
def cutX (m : Nat) (A : Option Addr) (n g : Nat) : Option Addr := if g = n then A else A.map (fun a => a.add (n * m))
theorem Rd.sufX {α : Type} {f : α → List Value} {m : Nat} {w : World} {lo hi : Nat} {A : Option Addr} {L : List α} (hm : ∀ x, (f x).length = m) (h : Rd w lo hi A (L.flatMap f)) (n g : Nat) (hg : L.length ≤ g) : Rd w lo hi (cutX m A n g) ((L.drop n).flatMap f) := by
 rw [cutX]
 split
 ·rename_i e
  rw [List.drop_of_length_le (by omega)]
  exact Rd.nil
 ·intro hn
  have hL : L.flatMap f = (L.take n).flatMap f ++ (L.drop n).flatMap f := by rw [← List.flatMap_append, List.take_append_drop]
  have hlen : ∀ l : List α, (l.flatMap f).length = l.length * m := by
   intro l
   induction l with
   | nil => simp
   | cons x l ih => rw [List.flatMap_cons, List.length_append, hm, ih, List.length_cons, Nat.add_mul]; omega
  have hnl : n < L.length := by
   rcases Nat.lt_or_ge n L.length with h1 | h1
   ·exact h1
   ·rw [List.drop_of_length_le h1] at hn; exact absurd rfl hn
  obtain ⟨b, off, e, h1, h2, h3, h4⟩ := h (by rw [hL]; intro e; exact hn (List.append_eq_nil_iff.1 e).2)
  subst e
  refine ⟨b, off + n * m, by rw [Option.map_some, Addr.add_lit], h1, h2, h3, fun j u hj => ?_⟩
  have ht : ((L.take n).flatMap f).length = n * m := by rw [hlen, List.length_take, Nat.min_eq_left (by omega)]
  have := h4 (n * m + j) u (by rw [hL, List.getElem?_append_right (by rw [ht]; omega), ht, Nat.add_sub_cancel_left]; exact hj)
  rw [← this, Nat.add_assoc]
theorem sufE_rd {w : World} {lo hi : Nat} {A : Option Addr} {L : List Ent} (h : Rd w lo hi A (ents L)) (n g : Nat) (hg : L.length ≤ g) : Rd w lo hi (cutX 5 A n g) (ents (L.drop n)) := Rd.sufX (f := Ent.cells) (fun _ => rfl) h n g hg
theorem sufR_rd {w : World} {lo hi : Nat} {A : Option Addr} {L : List Rcp} (h : Rd w lo hi A (rcps L)) (n g : Nat) (hg : L.length ≤ g) : Rd w lo hi (cutX 3 A n g) (rcps (L.drop n)) := Rd.sufX (f := Rcp.cells) (fun _ => rfl) h n g hg
theorem preXE (A : Option Addr) (k g m : Nat) (h : m ≤ g) (W : World) : (Instr.slice 24 (.slice A k g) none (some (.int .i64 m)) none).run Tryz.prog W = .ok (.slice A m g) W := by
 have hu := Tryz.underlying24
 simp [Instr.slice, run_underlying hu, Instr.sliceBounds, run_sliceBound, h, go_sem]
theorem sufXE (A : Option Addr) (k g n : Nat) (h1 : n ≤ k) (h2 : k ≤ g) (W : World) : (Instr.slice 24 (.slice A k g) (some (.int .i64 n)) none none).run Tryz.prog W = .ok (.slice (cutX 5 A n g) (k - n) (g - n)) W := by
 have hu := Tryz.underlying24
 obtain ⟨i0, hi0, hz0, hz1, hz2⟩ := info_parts info_Entry
 simp only [cutX]
 simp [Instr.slice, run_underlying hu, Instr.sliceBounds, run_sliceBound, h1, h2, go_sem, sizeOf, typeInfo, hi0, hz1]
theorem sufXR (A : Option Addr) (k g n : Nat) (h1 : n ≤ k) (h2 : k ≤ g) (W : World) : (Instr.slice 27 (.slice A k g) (some (.int .i64 n)) none none).run Tryz.prog W = .ok (.slice (cutX 3 A n g) (k - n) (g - n)) W := by
 have hu := Tryz.underlying27
 obtain ⟨i0, hi0, hz0, hz1, hz2⟩ := info_parts info_Receipt
 simp only [cutX]
 simp [Instr.slice, run_underlying hu, Instr.sliceBounds, run_sliceBound, h1, h2, go_sem, sizeOf, typeInfo, hi0, hz1]
end
end Go.Proofs.YtoccjgcokffkbaaGreat
