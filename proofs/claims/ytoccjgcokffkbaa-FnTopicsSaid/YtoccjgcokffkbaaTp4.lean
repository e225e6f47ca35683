/- What a deed makes of a right broker, by the reference: Publish. Beginnings and ends of slices of entries and of receipts. What a deed makes of a right broker, by the reference: TakeReceipt. Sealing at once and in two parts: what SealMore hands back. Pieces of slices of texts. What a deed makes of a right broker, by the reference: SealNow. What the laws' own helpers do to a slice of ints. The cursor of the draws as a kind of the walk. -/
import Derived.Test.YtoccjgcokffkbaaTp3
import Derived.Test.YtoccjgcokffkbaaTp1
import Derived.Test.YtoccjgcokffkbaaTp2
namespace Go.Proofs.Ytoccjgcokffkbaa
set_option linter.unusedVariables false
set_option linter.unusedSimpArgs false
open Go.RowKit
def zeroBk : Bk := ⟨none, none, none, none, none, 0, 0, 0, 0, 0⟩
def zeroBm : Bm := ⟨0, [], [], []⟩
/-- what is behind a deed: with code 0, a right broker -/
def NextOk (w w' : World) (m : Bm) (a' : Bk) (m' : Bm) (code : Int) : Prop := (code = 0 → BrkK w' w.heap.size w'.heap.size a' m' ∧ m'.width = m.width ∧ m'.es.length ≤ m.es.length + 1) ∧ Below w.heap.size w w'
theorem NextOk.no {w w' : World} {m : Bm} {code : Int} (hc : ¬ code = 0) (hb : Below w.heap.size w w') : NextOk w w' m zeroBk zeroBm code := ⟨fun h => absurd h hc, hb⟩
set_option maxRecDepth 100000 in
set_option maxHeartbeats 4000000 in
theorem l12WriteP_c (width : Int) (E R H A1 A2 : Option Addr) (ne nr nh ce cr ch c1 c2 m1 m2 : Nat) (es : List Ent) (rs : List Rcp) (hs : List Hd) (l1 l2 : List ByteArray) (h : Hd) (lo hi f : Nat) (t : ByteArray) (w : World) (hk : BrkK w lo hi ⟨E, R, H, A1, A2, ce, cr, ch, c1, c2⟩ ⟨width, es, rs, hs⟩) (hne : es.length = ne) (hnr : rs.length = nr) (hnh : hs.length = nh) (hl1 : pk1 width es hs = l1) (hl2 : pk2 width rs hs = l2) (hm1 : l1.length = m1) (hm2 : l2.length = m2) (hh : lastHd hs = h) (hf : f ≤ 2) (ht : t.size ≤ 1048576) :
  Calls Try.prog 110 #[.agg #[.int .i64 width, .slice E ne ce, .slice R nr cr, .slice H nh ch, .int .i64 h.size, .slice A1 m1 c1, .int .i64 h.taken, .slice A2 m2 c2, .int .i64 h.num, .int .i64 h.size, .string h.root, .int .i64 h.taken, .string h.troot], .int .i64 f, .string t] w fun e w' => ∃ k, e = .returned (.slice (some ⟨k, 0, none⟩) 1 1) ∧ Below w.heap.size w w' := by
 obtain ⟨f1, f2, f3, g1, g2, g3, g4, f4, g5, g6, g7⟩ := parts_fits hk.ok
 have hlast := hk.ok.last
 have hpos := hk.ok.pos
 dsimp only at f1 f2 f3 g1 g2 g3 g4 f4 g5 g6 g7 hlast hpos
 rw [hne] at g1 hlast
 rw [hnr] at g2 hlast
 rw [hnh] at g3 g4 hpos
 rw [hh] at f4 g5 hlast
 rw [hl1, hm1] at g6
 rw [hl2, hm2] at g7
 have HF := Lib.hid (fun W (r : BrkK W 0 W.heap.size ⟨E, R, H, A1, A2, ce, cr, ch, c1, c2⟩ ⟨width, es, rs, hs⟩) => l12File_c width h.size h.taken E R H A1 A2 ne nr nh ce cr ch c1 c2 0 W.heap.size 0 W.heap.size 0 W.heap.size m1 m2 es rs hs h f W r.rE r.rR r.rH hne hnr hnh (by omega) (by omega) (by omega) (by omega) (by have := r.kH; dsimp only at this; omega) f1 f2 (fun x hx => by have h1 := f3 x hx; have h2 : x.bulk ≤ sumBy Hd.bulk hs := sumBy_mem Hd.bulk hx; omega) hf)
 have HFM := Lib.hid (fun W => specFrame_c t W ht)
 have HB : Hid (Below w.heap.size w w) := Below.refl _ _
 have HOB : Hid (BrkK w (0) (w.heap.size) (⟨E, R, H, A1, A2, ce, cr, ch, c1, c2⟩) (⟨width, es, rs, hs⟩)) := Lib.hid hk.base
 clear hk f1 f2 f3 f4 hlast hne hnr hnh hl1 hl2 hm1 hm2 hh
 generalize framesM (fileL width es rs hs f) = ft at *
 generalize frameM t = fm at *
 generalize frameOk t = fo at *
 have hz := ft.size
 go_enter Try.func110, Try.ntmps110
 go_wp2_with fail
 refine calls_named (fun w1 hw => ?_)
 have hz1 : w.heap.size + 1 ≤ w1.heap.size := by rw [hw]; first | omega | (simp [World.setCell]; done) | (simp [World.setCell]; omega)
 have hzz1 : w.heap.size ≤ w1.heap.size := by omega
 have hbn : Below w.heap.size w w1 := by rw [hw]; exact (by ((repeat (first | ((with_reducible refine Below.alloc ?_ ?_ _); rotate_left 1; (focus (first | omega | (simp; done) | (simp; omega)))) | (with_reducible refine Below.drew ?_) | ((with_reducible refine Below.setCell ?_ ?_ _); rotate_left 1; (focus (first | omega | (simp; done) | (simp; omega)))))); exact Below.refl _ _))
 replace HB := Lib.hid (below_then HB.out hbn HB.out.size)
 replace HOB := Lib.hid (HOB.out.below hbn)
 clear hbn
 have HXb : Hid (NewBox w1 (w.heap.size) [.int .i64 width, .slice E ne ce, .slice R nr cr, .slice H nh ch, .int .i64 h.size, .slice A1 m1 c1, .int .i64 h.taken, .slice A2 m2 c2, .int .i64 h.num, .int .i64 h.size, .string h.root, .int .i64 h.taken, .string h.troot]) := by rw [Hid, hw]; exact ⟨by first | omega | (simp [World.setCell]; done) | (simp [World.setCell]; omega), fun o => by rcases o with _ | _ | _ | _ | _ | _ | _ | _ | _ | _ | _ | _ | _ | o <;> go_simp, fun o => by go_simp⟩
 have hxb := HXb.out.2.1
 have hfb := HXb.out.2.2
 have hkb := HXb.out.1
 clear hw
 refine (HFM.out _).mono ?_
 rintro e w2 ⟨rfl, hb⟩
 have hzw2 : w1.heap.size ≤ w2.heap.size := hb.size
 have hzzw2 : w.heap.size ≤ w2.heap.size := by omega
 replace HB := Lib.hid (below_then HB.out hb HB.out.size)
 replace HOB := Lib.hid (HOB.out.below hb)
 replace HXb := Lib.hid (HXb.out.below hb)
 clear hxb hfb hkb
 have hxb := HXb.out.2.1
 have hfb := HXb.out.2.2
 have hkb := HXb.out.1
 clear hb
 go_wp2_with fail
 refine calls_named (fun w3 hw => ?_)
 have hz3 : w2.heap.size + 0 ≤ w3.heap.size := by rw [hw]; first | omega | (simp [World.setCell]; done) | (simp [World.setCell]; omega)
 have hzz3 : w.heap.size ≤ w3.heap.size := by omega
 have hbn : Below w2.heap.size w2 w3 := by rw [hw]; exact (by ((repeat (first | ((with_reducible refine Below.alloc ?_ ?_ _); rotate_left 1; (focus (first | omega | (simp; done) | (simp; omega)))) | (with_reducible refine Below.drew ?_) | ((with_reducible refine Below.setCell ?_ ?_ _); rotate_left 1; (focus (first | omega | (simp; done) | (simp; omega)))))); exact Below.refl _ _))
 replace HB := Lib.hid (below_then HB.out hbn HB.out.size)
 replace HOB := Lib.hid (HOB.out.below hbn)
 replace HXb := Lib.hid (HXb.out.below hbn)
 clear hxb hfb hkb
 have hxb := HXb.out.2.1
 have hfb := HXb.out.2.2
 have hkb := HXb.out.1
 clear hbn
 clear hw
 refine (HF.out _ HOB.out.base).mono ?_
 rintro e w4 ⟨rfl, hb⟩
 have hzw4 : w3.heap.size ≤ w4.heap.size := hb.size
 have hzzw4 : w.heap.size ≤ w4.heap.size := by omega
 replace HB := Lib.hid (below_then HB.out hb HB.out.size)
 replace HOB := Lib.hid (HOB.out.below hb)
 replace HXb := Lib.hid (HXb.out.below hb)
 clear hxb hfb hkb
 have hxb := HXb.out.2.1
 have hfb := HXb.out.2.2
 have hkb := HXb.out.1
 clear hb
 go_wp2
 refine bodyPost_named (fun w77 hw => ?_)
 have hb77 : Hid (Below w.heap.size w w77) := by rw [Hid, hw]; exact (by ((repeat (first | ((with_reducible refine Below.alloc ?_ ?_ _); rotate_left 1; (focus (first | omega | (simp; done) | (simp; omega)))) | (with_reducible refine Below.drew ?_) | ((with_reducible refine Below.setCell ?_ ?_ _); rotate_left 1; (focus (first | omega | (simp; done) | (simp; omega)))))); exact HB.out))
 clear hw
 go_ret
 exact ⟨_, rfl, hb77.out⟩
theorem addCode_ne {l : List Ent} {t k b : ByteArray} {ti : Int} (h : ¬ addCode l t ti k b = 0) : addL l t ti k b = [] ∧ addLeaf l t ti k b = 0 := addL_no rfl h
set_option maxRecDepth 100000 in
set_option maxHeartbeats 4000000 in
theorem l12PublishP_c (width : Int) (E R H A1 A2 : Option Addr) (ne nr nh ce cr ch c1 c2 m1 m2 : Nat) (es : List Ent) (rs : List Rcp) (hs : List Hd) (l1 l2 : List ByteArray) (h : Hd) (lo hi : Nat) (t : ByteArray) (ti : Int) (k b : ByteArray) (w : World) (hk : BrkK w lo hi ⟨E, R, H, A1, A2, ce, cr, ch, c1, c2⟩ ⟨width, es, rs, hs⟩) (hne : es.length = ne) (hnr : rs.length = nr) (hnh : hs.length = nh) (hl1 : pk1 width es hs = l1) (hl2 : pk2 width rs hs = l2) (hm1 : l1.length = m1) (hm2 : l2.length = m2) (hh : lastHd hs = h) (ht : t.size ≤ 1048576) (hti : I64 ti) (hks : k.size ≤ 1048576) (hbs : b.size ≤ 1048576) :
  Calls Try.prog 79 #[.agg #[.int .i64 width, .slice E ne ce, .slice R nr cr, .slice H nh ch, .int .i64 h.size, .slice A1 m1 c1, .int .i64 h.taken, .slice A2 m2 c2, .int .i64 h.num, .int .i64 h.size, .string h.root, .int .i64 h.taken, .string h.troot], .string t, .int .i64 ti, .string k, .string b] w fun e w' => ∃ (a' : Bk) (m' : Bm) (L : Option Addr) (q g : Nat) (leaf code : Int), e = .returned (.tuple #[.agg #[.int .i64 m'.width, .slice a'.E m'.es.length a'.ce, .slice a'.R m'.rs.length a'.cr, .slice a'.H m'.hs.length a'.ch, .int .i64 (lastHd m'.hs).size, .slice a'.A1 (pk1 m'.width m'.es m'.hs).length a'.c1, .int .i64 (lastHd m'.hs).taken, .slice a'.A2 (pk2 m'.width m'.rs m'.hs).length a'.c2, .int .i64 (lastHd m'.hs).num, .int .i64 (lastHd m'.hs).size, .string (lastHd m'.hs).root, .int .i64 (lastHd m'.hs).taken, .string (lastHd m'.hs).troot], .slice L q g, .int .i64 leaf, .int .i64 code]) ∧ NextOk w w' ⟨width, es, rs, hs⟩ a' m' code := by
 have hkk := hk
 obtain ⟨f1, f2, f3, g1, g2, g3, g4, f4, g5, g6, g7⟩ := parts_fits hk.ok
 have hlast := hk.ok.last
 have hpos := hk.ok.pos
 dsimp only at f1 f2 f3 g1 g2 g3 g4 f4 g5 g6 g7 hlast hpos
 rw [hne] at g1 hlast
 rw [hnr] at g2 hlast
 rw [hnh] at g3 g4 hpos
 rw [hh] at f4 g5 hlast
 rw [hl1, hm1] at g6
 rw [hl2, hm2] at g7
 have HAD := Lib.hid (fun W (r : BrkK W 0 W.heap.size ⟨E, R, H, A1, A2, ce, cr, ch, c1, c2⟩ ⟨width, es, rs, hs⟩) => l09Add_c E ce 0 W.heap.size ne es t ti k b W r.rE hne (by omega) r.nE ht hti hks hbs)
 by_cases hc : addCode es t ti k b = 0
 ·have hpub := hk.ok.publish hc
  have hfx := ent_fit (newEnt_ok hc)
  dsimp only at hpub
  have hlen : (es ++ [newEnt es t ti k b]).length = ne + 1 := by rw [List.length_append, hne]; rfl
  have hlast1 : (es ++ [newEnt es t ti k b])[ne]? = some (newEnt es t ti k b) := by rw [← hne, List.getElem?_append_right (Nat.le_refl _), Nat.sub_self]; rfl
  rw [(addL_yes hc).1, (addL_yes hc).2, hc, hlen, hne] at HAD
  have hpk : (pk1 width (es ++ [newEnt es t ti k b]) hs).length = m1 := by rw [pk1_more hk.ok, hl1, hm1]
  generalize newEnt es t ti k b = x at *
  have HCP := Lib.hid (fun W (r : BrkK W 0 W.heap.size ⟨E, R, H, A1, A2, ce, cr, ch, c1, c2⟩ ⟨width, es, rs, hs⟩) => l12CopyP_c width h.size h.taken E R H A1 A2 ne nr nh ce cr ch c1 c2 m1 m2 es rs hs l1 l2 h W r.rE r.rR r.rH (hl1 ▸ r.r1) (hl2 ▸ r.r2) hne hnr hnh hm1 hm2 (by omega) (by omega) (by omega) (by omega) (by omega) r.nE r.nR r.nH r.n1 r.n2)
  have HWR := Lib.hid (fun W (r : BrkK W 0 W.heap.size ⟨E, R, H, A1, A2, ce, cr, ch, c1, c2⟩ ⟨width, es, rs, hs⟩) s hs2 => l12WriteP_c width E R H A1 A2 ne nr nh ce cr ch c1 c2 m1 m2 es rs hs l1 l2 h 0 W.heap.size 0 s W r hne hnr hnh hl1 hl2 hm1 hm2 hh (by omega) hs2)
  have HTX := Lib.hid (fun W => specLeafText_c x W hfx)
  have hts := leafTextM_size x
  have hbl : (⟨es, rs, hs, l1, l2⟩ : Bl) = Bm.bl ⟨width, es, rs, hs⟩ := by show _ = Bl.mk es rs hs _ _; rw [hl1, hl2]
  have HBL := Lib.hid hbl
  have HPB := Lib.hid hpub
  have HOK := Lib.hid hk.ok
  have HV1 := Lib.hid hpk
  have HL := Lib.hid hlen
  have HL1 := Lib.hid hlast1
  have HNR := Lib.hid hnr
  have HNH := Lib.hid hnh
  have HNE := Lib.hid hne
  have HHH := Lib.hid hh
  have HM2 : Hid ((pk2 width rs hs).length = m2) := Lib.hid (by rw [hl2, hm2])
  have HB : Hid (Below w.heap.size w w) := Below.refl _ _
  have HOB : Hid (BrkK w (0) (w.heap.size) (⟨E, R, H, A1, A2, ce, cr, ch, c1, c2⟩) (⟨width, es, rs, hs⟩)) := Lib.hid hk.base
  clear hk hkk f1 f2 f3 f4 hlast hne hnr hnh hl1 hl2 hm1 hm2 hh hpub hfx hlen hlast1 hpk hbl hc
  generalize leafTextM x = tx at *
  generalize entryOk x = ok at *
  go_enter Try.func79, Try.ntmps79
  go_wp2_with fail
  refine calls_named (fun w1 hw => ?_)
  have hz1 : w.heap.size + 2 ≤ w1.heap.size := by rw [hw]; first | omega | (simp [World.setCell]; done) | (simp [World.setCell]; omega)
  have hzz1 : w.heap.size ≤ w1.heap.size := by omega
  have hbn : Below w.heap.size w w1 := by rw [hw]; exact (by ((repeat (first | ((with_reducible refine Below.alloc ?_ ?_ _); rotate_left 1; (focus (first | omega | (simp; done) | (simp; omega)))) | (with_reducible refine Below.drew ?_) | ((with_reducible refine Below.setCell ?_ ?_ _); rotate_left 1; (focus (first | omega | (simp; done) | (simp; omega)))))); exact Below.refl _ _))
  replace HB := Lib.hid (below_then HB.out hbn HB.out.size)
  replace HOB := Lib.hid (HOB.out.below hbn)
  clear hbn
  have HXb : Hid (NewBox w1 (w.heap.size) [.int .i64 width, .slice E ne ce, .slice R nr cr, .slice H nh ch, .int .i64 h.size, .slice A1 m1 c1, .int .i64 h.taken, .slice A2 m2 c2, .int .i64 h.num, .int .i64 h.size, .string h.root, .int .i64 h.taken, .string h.troot]) := by rw [Hid, hw]; exact ⟨by first | omega | (simp [World.setCell]; done) | (simp [World.setCell]; omega), fun o => by rcases o with _ | _ | _ | _ | _ | _ | _ | _ | _ | _ | _ | _ | _ | o <;> go_simp, fun o => by go_simp⟩
  have hxb := HXb.out.2.1
  have hfb := HXb.out.2.2
  have hkb := HXb.out.1
  have HXq : Hid (NewBox w1 (w.heap.size + 1) [.int .i64 0, .slice none 0 0, .slice none 0 0, .slice none 0 0, .int .i64 0, .slice none 0 0, .int .i64 0, .slice none 0 0, .int .i64 0, .int .i64 0, .string ⟨#[]⟩, .int .i64 0, .string ⟨#[]⟩]) := by rw [Hid, hw]; exact ⟨by first | omega | (simp [World.setCell]; done) | (simp [World.setCell]; omega), fun o => by rcases o with _ | _ | _ | _ | _ | _ | _ | _ | _ | _ | _ | _ | _ | o <;> go_simp, fun o => by go_simp⟩
  have hxq := HXq.out.2.1
  have hfq := HXq.out.2.2
  have hkq := HXq.out.1
  clear hw
  refine (HAD.out _ HOB.out.base).mono ?_
  rintro e w2 ⟨A9, c9, rfl, ⟨hA9, hc9⟩, ho9, hb⟩
  have hzw2 : w1.heap.size ≤ w2.heap.size := hb.size
  have hzzw2 : w.heap.size ≤ w2.heap.size := by omega
  replace HB := Lib.hid (below_then HB.out hb HB.out.size)
  replace HOB := Lib.hid (HOB.out.below hb)
  replace HXb := Lib.hid (HXb.out.below hb)
  clear hxb hfb hkb
  have hxb := HXb.out.2.1
  have hfb := HXb.out.2.2
  have hkb := HXb.out.1
  replace HXq := Lib.hid (HXq.out.below hb)
  clear hxq hfq hkq
  have hxq := HXq.out.2.1
  have hfq := HXq.out.2.2
  have hkq := HXq.out.1
  clear hb
  have HON : Hid (Rd w2 (w1.heap.size) (w2.heap.size) (A9) (ents (es ++ [x]))) := Lib.hid ho9.rd
  have HA9 := Lib.hid hA9
  clear ho9 hA9 HAD
  obtain ⟨b2, off, y, hEe, hb2, hks2, hcs⟩ := ent_cells HON.out (k := ne) (by rw [HL.out]; omega)
  obtain rfl : x = y := by rw [HL1.out] at hks2; exact Option.some.inj hks2
  have c0' := hcs.1
  have c1' := hcs.2.1
  have c2' := hcs.2.2.1
  have c3' := hcs.2.2.2.1
  have c4' := hcs.2.2.2.2
  have hix := idxEnt A9 b2 off (ne + 1) c9 ne hEe (by omega)
  clear hks2 hcs hEe
  go_wp2_with fail
  refine calls_named (fun w3 hw => ?_)
  have hz3 : w2.heap.size + 1 ≤ w3.heap.size := by rw [hw]; first | omega | (simp [World.setCell]; done) | (simp [World.setCell]; omega)
  have hzz3 : w.heap.size ≤ w3.heap.size := by omega
  have hbn : Below w2.heap.size w2 w3 := by rw [hw]; exact (by ((repeat (first | ((with_reducible refine Below.alloc ?_ ?_ _); rotate_left 1; (focus (first | omega | (simp; done) | (simp; omega)))) | (with_reducible refine Below.drew ?_) | ((with_reducible refine Below.setCell ?_ ?_ _); rotate_left 1; (focus (first | omega | (simp; done) | (simp; omega)))))); exact Below.refl _ _))
  replace HB := Lib.hid (below_then HB.out hbn HB.out.size)
  replace HOB := Lib.hid (HOB.out.below hbn)
  replace HON := Lib.hid (HON.out.below hbn)
  replace HXb := Lib.hid (HXb.out.below hbn)
  clear hxb hfb hkb
  have hxb := HXb.out.2.1
  have hfb := HXb.out.2.2
  have hkb := HXb.out.1
  replace HXq := Lib.hid (HXq.out.below hbn)
  clear hxq hfq hkq
  have hxq := HXq.out.2.1
  have hfq := HXq.out.2.2
  have hkq := HXq.out.1
  clear hbn
  have HXl : Hid (NewBox w3 (w2.heap.size) [.slice A9 (ne + 1) c9]) := by rw [Hid, hw]; exact ⟨by first | omega | (simp [World.setCell]; done) | (simp [World.setCell]; omega), fun o => by rcases o with _ | o <;> go_simp, fun o => by go_simp⟩
  have hxl := HXl.out.2.1
  have hfl := HXl.out.2.2
  have hkl := HXl.out.1
  clear hw
  refine (HTX.out _).mono ?_
  rintro e w4 ⟨rfl, hb⟩
  have hzw4 : w3.heap.size ≤ w4.heap.size := hb.size
  have hzzw4 : w.heap.size ≤ w4.heap.size := by omega
  replace HB := Lib.hid (below_then HB.out hb HB.out.size)
  replace HOB := Lib.hid (HOB.out.below hb)
  replace HON := Lib.hid (HON.out.below hb)
  replace HXb := Lib.hid (HXb.out.below hb)
  clear hxb hfb hkb
  have hxb := HXb.out.2.1
  have hfb := HXb.out.2.2
  have hkb := HXb.out.1
  replace HXq := Lib.hid (HXq.out.below hb)
  clear hxq hfq hkq
  have hxq := HXq.out.2.1
  have hfq := HXq.out.2.2
  have hkq := HXq.out.1
  replace HXl := Lib.hid (HXl.out.below hb)
  clear hxl hfl hkl
  have hxl := HXl.out.2.1
  have hfl := HXl.out.2.2
  have hkl := HXl.out.1
  clear hb
  clear c0' c1' c2' c3' c4' hix hb2 HTX
  go_wp2_with fail
  refine calls_named (fun w5 hw => ?_)
  have hz5 : w4.heap.size + 0 ≤ w5.heap.size := by rw [hw]; first | omega | (simp [World.setCell]; done) | (simp [World.setCell]; omega)
  have hzz5 : w.heap.size ≤ w5.heap.size := by omega
  have hbn : Below w4.heap.size w4 w5 := by rw [hw]; exact (by ((repeat (first | ((with_reducible refine Below.alloc ?_ ?_ _); rotate_left 1; (focus (first | omega | (simp; done) | (simp; omega)))) | (with_reducible refine Below.drew ?_) | ((with_reducible refine Below.setCell ?_ ?_ _); rotate_left 1; (focus (first | omega | (simp; done) | (simp; omega)))))); exact Below.refl _ _))
  replace HB := Lib.hid (below_then HB.out hbn HB.out.size)
  replace HOB := Lib.hid (HOB.out.below hbn)
  replace HON := Lib.hid (HON.out.below hbn)
  replace HXb := Lib.hid (HXb.out.below hbn)
  clear hxb hfb hkb
  have hxb := HXb.out.2.1
  have hfb := HXb.out.2.2
  have hkb := HXb.out.1
  replace HXq := Lib.hid (HXq.out.below hbn)
  clear hxq hfq hkq
  have hxq := HXq.out.2.1
  have hfq := HXq.out.2.2
  have hkq := HXq.out.1
  replace HXl := Lib.hid (HXl.out.below hbn)
  clear hxl hfl hkl
  have hxl := HXl.out.2.1
  have hfl := HXl.out.2.2
  have hkl := HXl.out.1
  clear hbn
  clear hw
  refine (HCP.out _ HOB.out.base).mono ?_
  rintro e w6 ⟨a3, rfl, hcp, hb⟩
  have hzw6 : w5.heap.size ≤ w6.heap.size := hb.size
  have hzzw6 : w.heap.size ≤ w6.heap.size := by omega
  replace HB := Lib.hid (below_then HB.out hb HB.out.size)
  replace HOB := Lib.hid (HOB.out.below hb)
  replace HON := Lib.hid (HON.out.below hb)
  replace HXb := Lib.hid (HXb.out.below hb)
  clear hxb hfb hkb
  have hxb := HXb.out.2.1
  have hfb := HXb.out.2.2
  have hkb := HXb.out.1
  replace HXq := Lib.hid (HXq.out.below hb)
  clear hxq hfq hkq
  have hxq := HXq.out.2.1
  have hfq := HXq.out.2.2
  have hkq := HXq.out.1
  replace HXl := Lib.hid (HXl.out.below hb)
  clear hxl hfl hkl
  have hxl := HXl.out.2.1
  have hfl := HXl.out.2.2
  have hkl := HXl.out.1
  clear hb
  have HOC : Hid (CopyK w6 (w5.heap.size) (w6.heap.size) (a3) (⟨es, rs, hs, l1, l2⟩)) := Lib.hid hcp
  clear hcp HCP
  obtain ⟨lo5, hlo5, hlo5'⟩ : ∃ n, n ≤ w5.heap.size ∧ w5.heap.size ≤ n := ⟨_, Nat.le_refl _, Nat.le_refl _⟩
  go_upto_region 7 with fail
  refine wp_named (fun w7 hw => ?_)
  have hz7 : w6.heap.size + 1 ≤ w7.heap.size := by rw [hw]; first | omega | (simp [World.setCell]; done) | (simp [World.setCell]; omega)
  have hzz7 : w.heap.size ≤ w7.heap.size := by omega
  have hbn : Below w6.heap.size w6 w7 := by rw [hw]; exact (by ((repeat (first | ((with_reducible refine Below.alloc ?_ ?_ _); rotate_left 1; (focus (first | omega | (simp; done) | (simp; omega)))) | (with_reducible refine Below.drew ?_) | ((with_reducible refine Below.setCell ?_ ?_ _); rotate_left 1; (focus (first | omega | (simp; done) | (simp; omega)))))); exact Below.refl _ _))
  replace HB := Lib.hid (below_then HB.out hbn HB.out.size)
  replace HOB := Lib.hid (HOB.out.below hbn)
  replace HON := Lib.hid (HON.out.below hbn)
  replace HOC := Lib.hid (HOC.out.below hbn)
  replace HXb := Lib.hid (HXb.out.below hbn)
  clear hxb hfb hkb
  have hxb := HXb.out.2.1
  have hfb := HXb.out.2.2
  have hkb := HXb.out.1
  replace HXq := Lib.hid (HXq.out.below hbn)
  clear hxq hfq hkq
  have hxq := HXq.out.2.1
  have hfq := HXq.out.2.2
  have hkq := HXq.out.1
  replace HXl := Lib.hid (HXl.out.below hbn)
  clear hxl hfl hkl
  have hxl := HXl.out.2.1
  have hfl := HXl.out.2.2
  have hkl := HXl.out.1
  clear hbn
  have HXo : Hid (NewBox w7 (w6.heap.size) [.int .i64 width, .slice A9 (ne + 1) c9, .slice a3.R nr a3.cr, .slice a3.H nh a3.ch, .int .i64 h.size, .slice a3.A1 m1 a3.c1, .int .i64 h.taken, .slice a3.A2 m2 a3.c2, .int .i64 h.num, .int .i64 h.size, .string h.root, .int .i64 h.taken, .string h.troot]) := by rw [Hid, hw]; exact ⟨by first | omega | (simp [World.setCell]; done) | (simp [World.setCell]; omega), fun o => by rcases o with _ | _ | _ | _ | _ | _ | _ | _ | _ | _ | _ | _ | _ | o <;> go_simp, fun o => by go_simp⟩
  have hxo := HXo.out.2.1
  have hfo := HXo.out.2.2
  have hko := HXo.out.1
  clear hw
  obtain ⟨F, HF⟩ : ∃ F : Facts, Hid (F = fun iq xq tqs dsq uq => match iq with
   | 0 => xq.v = .agg #[.int .i64 width, .slice A9 (ne + 1) c9, .slice a3.R nr a3.cr, .slice a3.H nh a3.ch, .int .i64 h.size, .slice a3.A1 m1 a3.c1, .int .i64 h.taken, .slice a3.A2 m2 a3.c2, .int .i64 h.num, .int .i64 h.size, .string h.root, .int .i64 h.taken, .string h.troot]
   | 1 => xq.v = .agg #[.int .i64 width, .slice E ne ce, .slice R nr cr, .slice H nh ch, .int .i64 h.size, .slice A1 m1 c1, .int .i64 h.taken, .slice A2 m2 c2, .int .i64 h.num, .int .i64 h.size, .string h.root, .int .i64 h.taken, .string h.troot]
   | 2 => xq.v = .string tx
   | 3 => ∃ (kw : Nat), xq.v = .slice (some ⟨kw, 0, none⟩) 1 1 ∧ (True)
   | 4 => xq.v = .int .i64 (ne : Int)
   | 5 => NewBox uq (w.heap.size + 1) [.int .i64 width, .slice A9 (ne + 1) c9, .slice a3.R nr a3.cr, .slice a3.H nh a3.ch, .int .i64 h.size, .slice a3.A1 m1 a3.c1, .int .i64 h.taken, .slice a3.A2 m2 a3.c2, .int .i64 h.num, .int .i64 h.size, .string h.root, .int .i64 h.taken, .string h.troot]
   | 6 => (match tqs, dsq with | [], [yq0] => ∃ (kw : Nat), yq0.v = .slice (some ⟨kw, 0, none⟩) 1 1 ∧ xq.v = .slice (some ⟨kw, 0, none⟩) 1 1 | _, _ => False)
   | 7 => xq.v = .int .i64 (ne : Int)
   | 8 => xq.v = .int .i64 0
   | _ => False) := ⟨_, rfl⟩
  refine wp_region_facts [[], [], [], [], [], [], [3], [], []] [[], [], [], [], [], [], [], [], []] [some 49, some 50, some 51, some 52, some 53, none, some 11, some 12, some 13] (some 5) (w.heap.size + 1) (w.heap.size + 1 + 1) (.inr (by omega)) F (by kernel_rfl) (by kernel_rfl) (by kernel_rfl) ?_ ⟨?_, ?_, ?_, ?_, ?_, ?_, ?_, ?_, ?_, trivial⟩ ?_
  ·rw [HF.out]; intro iq xq tqs dsq uq u' hi hf hs hW hx hbk
   have kx : ∀ b, xq.s ≤ b → b < xq.e → u'.heap[b]? = uq.heap[b]? := fun b h1 h2 => hbk b (.inr (.inl ⟨h1, h2⟩))
   have kt : ∀ t ∈ tqs, ∀ b, t.s ≤ b → b < t.e → u'.heap[b]? = uq.heap[b]? := fun t ht b h1 h2 => hbk b (.inr (.inr ⟨t, ht, h1, h2⟩))
   match iq with
   | 0 => exact hf
   | 1 => exact hf
   | 2 => exact hf
   | 3 => obtain ⟨kw, hv, p0⟩ := hf; exact ⟨kw, hv, trivial⟩
   | 4 => exact hf
   | 5 => exact NewBox.keep hf hs (hbk _ (.inl ⟨hkq, .inr (.inr rfl)⟩))
   | 6 => exact hf
   | 7 => exact hf
   | 8 => exact hf
  ·intro gh ρ u hc hf1 hg1 hd h0 hb he ha hF
   first | (replace hb : Below w7.heap.size w7 u := hb.drew.below (by decide +kernel)) | (replace hb : Only (w.heap.size + 1) (w.heap.size + 1 + 1) w7 u := hb.drew.only)
   have hbz : w7.heap.size ≤ u.heap.size := hb.size
   have r19 : ρ (.tmp 19) = .pointer (some ⟨w6.heap.size, 0, none⟩) := (h0 19 (by decide +kernel)).trans rfl
   have q_o : ∀ o, u.cell? ⟨w6.heap.size, o, none⟩ = [.int .i64 width, .slice A9 (ne + 1) c9, .slice a3.R nr a3.cr, .slice a3.H nh a3.ch, .int .i64 h.size, .slice a3.A1 m1 a3.c1, .int .i64 h.taken, .slice a3.A2 m2 a3.c2, .int .i64 h.num, .int .i64 h.size, .string h.root, .int .i64 h.taken, .string h.troot][o]? := by first | exact (HXo.out.below hb).2.1 | exact (HXo.out.only hb (by omega)).2.1
   have k_o : w6.heap.size < u.heap.size := by have := HXo.out.1; omega
   have q_b : ∀ o, u.cell? ⟨w.heap.size, o, none⟩ = [.int .i64 width, .slice E ne ce, .slice R nr cr, .slice H nh ch, .int .i64 h.size, .slice A1 m1 c1, .int .i64 h.taken, .slice A2 m2 c2, .int .i64 h.num, .int .i64 h.size, .string h.root, .int .i64 h.taken, .string h.troot][o]? := by first | exact (HXb.out.below hb).2.1 | exact (HXb.out.only hb (by omega)).2.1
   have k_b : w.heap.size < u.heap.size := by have := HXb.out.1; omega
   clear  hd h0 he ha hF
   go_simp
   rw [HF.out]
   exact ⟨OnlyL.refl _ _, rfl⟩
  ·intro gh ρ u hc hf1 hg1 hd h0 hb he ha hF
   first | (replace hb : Below w7.heap.size w7 u := hb.drew.below (by decide +kernel)) | (replace hb : Only (w.heap.size + 1) (w.heap.size + 1 + 1) w7 u := hb.drew.only)
   have hbz : w7.heap.size ≤ u.heap.size := hb.size
   have r5 : ρ (.tmp 5) = .pointer (some ⟨w.heap.size, 0, none⟩) := (h0 5 (by decide +kernel)).trans rfl
   have q_o : ∀ o, u.cell? ⟨w6.heap.size, o, none⟩ = [.int .i64 width, .slice A9 (ne + 1) c9, .slice a3.R nr a3.cr, .slice a3.H nh a3.ch, .int .i64 h.size, .slice a3.A1 m1 a3.c1, .int .i64 h.taken, .slice a3.A2 m2 a3.c2, .int .i64 h.num, .int .i64 h.size, .string h.root, .int .i64 h.taken, .string h.troot][o]? := by first | exact (HXo.out.below hb).2.1 | exact (HXo.out.only hb (by omega)).2.1
   have k_o : w6.heap.size < u.heap.size := by have := HXo.out.1; omega
   have q_b : ∀ o, u.cell? ⟨w.heap.size, o, none⟩ = [.int .i64 width, .slice E ne ce, .slice R nr cr, .slice H nh ch, .int .i64 h.size, .slice A1 m1 c1, .int .i64 h.taken, .slice A2 m2 c2, .int .i64 h.num, .int .i64 h.size, .string h.root, .int .i64 h.taken, .string h.troot][o]? := by first | exact (HXb.out.below hb).2.1 | exact (HXb.out.only hb (by omega)).2.1
   have k_b : w.heap.size < u.heap.size := by have := HXb.out.1; omega
   clear  hd h0 he ha hF
   go_simp
   rw [HF.out]
   exact ⟨OnlyL.refl _ _, rfl⟩
  ·intro gh ρ u hc hf1 hg1 hd h0 hb he ha hF
   have r17 : ρ (.tmp 17) = .string tx := (h0 17 (by decide +kernel)).trans rfl
   clear  hd h0 he ha hF
   go_simp
   rw [HF.out]
   exact ⟨OnlyL.refl _ _, rfl⟩
  ·intro gh ρ u hc hf1 hg1 hd h0 hb he ha hF
   first | (replace hb : Below w7.heap.size w7 u := hb.drew.below (by decide +kernel)) | (replace hb : Only (w.heap.size + 1) (w.heap.size + 1 + 1) w7 u := hb.drew.only)
   have hbz : w7.heap.size ≤ u.heap.size := hb.size
   have r50 : ρ (.tmp 50) = .agg #[.int .i64 width, .slice E ne ce, .slice R nr cr, .slice H nh ch, .int .i64 h.size, .slice A1 m1 c1, .int .i64 h.taken, .slice A2 m2 c2, .int .i64 h.num, .int .i64 h.size, .string h.root, .int .i64 h.taken, .string h.troot] := by have h := hF 1 (by decide +kernel) (by decide +kernel); rw [HF.out] at h; exact (hd 1 (by decide +kernel) 50 (by kernel_rfl)).trans h
   have r51 : ρ (.tmp 51) = .string tx := by have h := hF 2 (by decide +kernel) (by decide +kernel); rw [HF.out] at h; exact (hd 2 (by decide +kernel) 51 (by kernel_rfl)).trans h
   clear  hd h0 he ha hF
   go_simp
   have q_o := (HXo.out.below hb)
   have q_b := (HXb.out.below hb)
   refine (HWR.out _ (HOB.out.below hb).base tx (by omega)).mono ?_
   rintro e u1 ⟨kw, rfl, hb1⟩
   rw [HF.out]
   exact ⟨_, rfl, OnlyL.of_below hb1, kw, rfl, trivial⟩
  ·intro gh ρ u hc hf1 hg1 hd h0 hb he ha hF
   have r15 : ρ (.tmp 15) = .int .i64 (ne : Int) := (h0 15 (by decide +kernel)).trans rfl
   clear  hd h0 he ha hF
   go_simp
   rw [HF.out]
   exact ⟨OnlyL.refl _ _, rfl⟩
  ·intro gh ρ u hc hf1 hg1 hd h0 hb he ha hF
   first | (replace hb : Below w7.heap.size w7 u := hb.drew.below (by decide +kernel)) | (replace hb : Only (w.heap.size + 1) (w.heap.size + 1 + 1) w7 u := hb.drew.only)
   have hbz : w7.heap.size ≤ u.heap.size := hb.size
   have r10 : ρ (.tmp 10) = .pointer (some ⟨w.heap.size + 1, 0, none⟩) := (h0 10 (by decide +kernel)).trans rfl
   have r49 : ρ (.tmp 49) = .agg #[.int .i64 width, .slice A9 (ne + 1) c9, .slice a3.R nr a3.cr, .slice a3.H nh a3.ch, .int .i64 h.size, .slice a3.A1 m1 a3.c1, .int .i64 h.taken, .slice a3.A2 m2 a3.c2, .int .i64 h.num, .int .i64 h.size, .string h.root, .int .i64 h.taken, .string h.troot] := by have h := hF 0 (by decide +kernel) (by decide +kernel); rw [HF.out] at h; exact (hd 0 (by decide +kernel) 49 (by kernel_rfl)).trans h
   obtain ⟨hzk, hzc, hzf⟩ := HXq.out.below hb
   clear  hd h0 he ha hF
   go_simp
   rw [HF.out]
   refine ⟨?_, ?_⟩
   ·refine OnlyL.of_z (lo := w.heap.size + 1) (hi := w.heap.size + 1 + 1) ?_ rfl; refine Only.setCell ?_ (by exact Nat.le_refl _) (by exact Nat.lt_succ_self _) _; refine Only.setCell ?_ (by exact Nat.le_refl _) (by exact Nat.lt_succ_self _) _; refine Only.setCell ?_ (by exact Nat.le_refl _) (by exact Nat.lt_succ_self _) _; refine Only.setCell ?_ (by exact Nat.le_refl _) (by exact Nat.lt_succ_self _) _; refine Only.setCell ?_ (by exact Nat.le_refl _) (by exact Nat.lt_succ_self _) _; refine Only.setCell ?_ (by exact Nat.le_refl _) (by exact Nat.lt_succ_self _) _; refine Only.setCell ?_ (by exact Nat.le_refl _) (by exact Nat.lt_succ_self _) _; refine Only.setCell ?_ (by exact Nat.le_refl _) (by exact Nat.lt_succ_self _) _; refine Only.setCell ?_ (by exact Nat.le_refl _) (by exact Nat.lt_succ_self _) _; refine Only.setCell ?_ (by exact Nat.le_refl _) (by exact Nat.lt_succ_self _) _; refine Only.setCell ?_ (by exact Nat.le_refl _) (by exact Nat.lt_succ_self _) _; refine Only.setCell ?_ (by exact Nat.le_refl _) (by exact Nat.lt_succ_self _) _; refine Only.setCell ?_ (by exact Nat.le_refl _) (by exact Nat.lt_succ_self _) _; exact Only.refl _ _ _
   ·show NewBox _ (w.heap.size + 1) _
    exact ⟨by simpa [World.setCell] using hzk, fun o => by rcases o with _ | _ | _ | _ | _ | _ | _ | _ | _ | _ | _ | _ | _ | o <;> go_simp, fun o => by go_simp⟩
  ·intro gh ρ u hc hf1 hg1 hd h0 hb he ha hF
   have f3 : ∃ (kw : Nat), (gh 3).v = .slice (some ⟨kw, 0, none⟩) 1 1 ∧ (True) := by have h := hF 3 (by decide +kernel) (by decide +kernel); rw [HF.out] at h; exact h
   obtain ⟨kw, hv3, g3_0⟩ := f3
   have hrt3 := hv3
   have r52 : ρ (.tmp 52) = .slice (some ⟨kw, 0, none⟩) 1 1 := (hd 3 (by decide +kernel) 52 (by kernel_rfl)).trans hv3
   have HRT3 := Lib.hid hrt3
   clear hv3 hrt3 hd h0 he ha hF
   go_simp
   rw [HF.out]
   exact ⟨OnlyL.refl _ _, kw, HRT3.out, rfl⟩
  ·intro gh ρ u hc hf1 hg1 hd h0 hb he ha hF
   have r53 : ρ (.tmp 53) = .int .i64 (ne : Int) := by have h := hF 4 (by decide +kernel) (by decide +kernel); rw [HF.out] at h; exact (hd 4 (by decide +kernel) 53 (by kernel_rfl)).trans h
   clear  hd h0 he ha hF
   go_simp
   rw [HF.out]
   exact ⟨OnlyL.refl _ _, rfl⟩
  ·intro gh ρ u hc hf1 hg1 hd h0 hb he ha hF
   clear  hd h0 he ha hF
   go_simp
   rw [HF.out]
   exact ⟨OnlyL.refl _ _, rfl⟩
  intro gh w8 hB hE hA hF
  replace hB : Only (w.heap.size + 1) (w.heap.size + 1 + 1) w7 w8 := hB.only
  have f0 : (gh 0).v = .agg #[.int .i64 width, .slice A9 (ne + 1) c9, .slice a3.R nr a3.cr, .slice a3.H nh a3.ch, .int .i64 h.size, .slice a3.A1 m1 a3.c1, .int .i64 h.taken, .slice a3.A2 m2 a3.c2, .int .i64 h.num, .int .i64 h.size, .string h.root, .int .i64 h.taken, .string h.troot] := by have h := hF 0 (by decide +kernel) (by decide +kernel); rw [HF.out] at h; exact h
  have f1 : (gh 1).v = .agg #[.int .i64 width, .slice E ne ce, .slice R nr cr, .slice H nh ch, .int .i64 h.size, .slice A1 m1 c1, .int .i64 h.taken, .slice A2 m2 c2, .int .i64 h.num, .int .i64 h.size, .string h.root, .int .i64 h.taken, .string h.troot] := by have h := hF 1 (by decide +kernel) (by decide +kernel); rw [HF.out] at h; exact h
  have f2 : (gh 2).v = .string tx := by have h := hF 2 (by decide +kernel) (by decide +kernel); rw [HF.out] at h; exact h
  have f3 : ∃ (kw : Nat), (gh 3).v = .slice (some ⟨kw, 0, none⟩) 1 1 ∧ (True) := by have h := hF 3 (by decide +kernel) (by decide +kernel); rw [HF.out] at h; exact h
  have f4 : (gh 4).v = .int .i64 (ne : Int) := by have h := hF 4 (by decide +kernel) (by decide +kernel); rw [HF.out] at h; exact h
  have f5 : NewBox w8 (w.heap.size + 1) [.int .i64 width, .slice A9 (ne + 1) c9, .slice a3.R nr a3.cr, .slice a3.H nh a3.ch, .int .i64 h.size, .slice a3.A1 m1 a3.c1, .int .i64 h.taken, .slice a3.A2 m2 a3.c2, .int .i64 h.num, .int .i64 h.size, .string h.root, .int .i64 h.taken, .string h.troot] := by have h := hF 5 (by decide +kernel) (by decide +kernel); rw [HF.out] at h; exact h
  have f6 : ∃ (kw : Nat), (gh 3).v = .slice (some ⟨kw, 0, none⟩) 1 1 ∧ (gh 6).v = .slice (some ⟨kw, 0, none⟩) 1 1 := by have h := hF 6 (by decide +kernel) (by decide +kernel); rw [HF.out] at h; exact h
  have f7 : (gh 7).v = .int .i64 (ne : Int) := by have h := hF 7 (by decide +kernel) (by decide +kernel); rw [HF.out] at h; exact h
  have f8 : (gh 8).v = .int .i64 0 := by have h := hF 8 (by decide +kernel) (by decide +kernel); rw [HF.out] at h; exact h
  obtain ⟨kw, hv3, _⟩ := f3
  have hv0 := f0
  have hv1 := f1
  have hv2 := f2
  have hv4 := f4
  have hx5 := f5
  obtain ⟨kw_6, hu3, hv6⟩ := f6
  replace hu3 := hv3.symm.trans hu3
  simp at hu3
  try simp only [and_assoc] at hu3
  obtain rfl := hu3
  have hv7 := f7
  have hv8 := f8
  clear hE hA hF
  simp only [putDs, Nat.reduceAdd, hv0, hv1, hv2, hv3, hv4, hv6, hv7, hv8]
  clear hv0 hv1 hv2 hv3 hv4 hv6 hv7 hv8
  clear HF
  have hb := hB
  clear hB
  have hzw8 : w7.heap.size ≤ w8.heap.size := hb.size
  have hzzw8 : w.heap.size ≤ w8.heap.size := by omega
  replace HB := Lib.hid (below_only HB.out hb (by omega) HB.out.size)
  replace HOB := Lib.hid (HOB.out.only hb (by first | omega | (simp; omega)))
  replace HON := Lib.hid (HON.out.only hb (by first | omega | (simp; omega)))
  replace HOC := Lib.hid (HOC.out.only hb (by first | omega | (simp; omega)))
  replace HXb := Lib.hid (HXb.out.only hb (by first | omega | (simp; omega)))
  clear hxb hfb hkb
  have hxb := HXb.out.2.1
  have hfb := HXb.out.2.2
  have hkb := HXb.out.1
  clear hxq hfq hkq HXq
  replace HXl := Lib.hid (HXl.out.only hb (by first | omega | (simp; omega)))
  clear hxl hfl hkl
  have hxl := HXl.out.2.1
  have hfl := HXl.out.2.2
  have hkl := HXl.out.1
  replace HXo := Lib.hid (HXo.out.only hb (by first | omega | (simp; omega)))
  clear hxo hfo hko
  have hxo := HXo.out.2.1
  have hfo := HXo.out.2.2
  have hko := HXo.out.1
  clear hb
  have HXq : Hid (NewBox w8 (w.heap.size + 1) [.int .i64 width, .slice A9 (ne + 1) c9, .slice a3.R nr a3.cr, .slice a3.H nh a3.ch, .int .i64 h.size, .slice a3.A1 m1 a3.c1, .int .i64 h.taken, .slice a3.A2 m2 a3.c2, .int .i64 h.num, .int .i64 h.size, .string h.root, .int .i64 h.taken, .string h.troot]) := hx5
  have hxq := HXq.out.2.1
  have hfq := HXq.out.2.2
  have hkq := HXq.out.1
  clear hx5
  have hbk : BrkK w8 w.heap.size w8.heap.size ⟨A9, a3.R, a3.H, a3.A1, a3.A2, c9, a3.cr, a3.ch, a3.c1, a3.c2⟩ ⟨width, es ++ [x], rs, hs⟩ := by
   have h7 := HOC.out
   rw [HBL.out] at h7
   have h8 := CopyK.pushE (m := ⟨width, es, rs, hs⟩) (lo0 := w.heap.size) (h7.mono (Nat.le_refl _) (hi' := w8.heap.size) (by omega)) (Nat.le_refl _) (by omega) HOK.out (x := x) (E' := A9) (c' := c9) HPB.out (HON.out.mono (by omega) (by omega) (Nat.le_refl _)) (by show es.length + 1 ≤ c9; rw [HNE.out]; exact hc9) HA9.out
   exact h8
  have HBK := Lib.hid hbk
  clear hbk
  go_wp2
  refine bodyPost_ret (v := .tuple #[.agg #[.int .i64 width, .slice A9 (ne + 1) c9, .slice a3.R nr a3.cr, .slice a3.H nh a3.ch, .int .i64 h.size, .slice a3.A1 m1 a3.c1, .int .i64 h.taken, .slice a3.A2 m2 a3.c2, .int .i64 h.num, .int .i64 h.size, .string h.root, .int .i64 h.taken, .string h.troot], .slice (some ⟨kw, 0, none⟩) 1 1, .int .i64 ne, .int .i64 0]) (by simp [results, Try.results79, go_sem, hxq]) rfl ?_
  exact ⟨⟨A9, a3.R, a3.H, a3.A1, a3.A2, c9, a3.cr, a3.ch, a3.c1, a3.c2⟩, ⟨width, es ++ [x], rs, hs⟩, some ⟨kw, 0, none⟩, 1, 1, ne, 0, by dsimp only; rw [HL.out, HNR.out, HNH.out, HV1.out, HM2.out, HHH.out], fun _ => ⟨HBK.out, rfl, by dsimp only; rw [List.length_append]; exact Nat.le_refl _⟩, HB.out⟩
 ·rw [(addCode_ne hc).1, (addCode_ne hc).2] at HAD
  have hcd : ¬ addCode es t ti k b = 0 := hc
  generalize addCode es t ti k b = cd at *
  have hcq : (cd == 0) = false := beq_eq_false_iff_ne.2 hcd
  have HCD := Lib.hid hcd
  have HB : Hid (Below w.heap.size w w) := Below.refl _ _
  have HOB : Hid (BrkK w (0) (w.heap.size) (⟨E, R, H, A1, A2, ce, cr, ch, c1, c2⟩) (⟨width, es, rs, hs⟩)) := Lib.hid hk.base
  clear hk hkk f1 f2 f3 f4 hlast hne hnr hnh hl1 hl2 hm1 hm2 hh hc hcd
  go_enter Try.func79, Try.ntmps79
  go_wp2_with fail
  refine calls_named (fun w1 hw => ?_)
  have hz1 : w.heap.size + 2 ≤ w1.heap.size := by rw [hw]; first | omega | (simp [World.setCell]; done) | (simp [World.setCell]; omega)
  have hzz1 : w.heap.size ≤ w1.heap.size := by omega
  have hbn : Below w.heap.size w w1 := by rw [hw]; exact (by ((repeat (first | ((with_reducible refine Below.alloc ?_ ?_ _); rotate_left 1; (focus (first | omega | (simp; done) | (simp; omega)))) | (with_reducible refine Below.drew ?_) | ((with_reducible refine Below.setCell ?_ ?_ _); rotate_left 1; (focus (first | omega | (simp; done) | (simp; omega)))))); exact Below.refl _ _))
  replace HB := Lib.hid (below_then HB.out hbn HB.out.size)
  replace HOB := Lib.hid (HOB.out.below hbn)
  clear hbn
  have HXb : Hid (NewBox w1 (w.heap.size) [.int .i64 width, .slice E ne ce, .slice R nr cr, .slice H nh ch, .int .i64 h.size, .slice A1 m1 c1, .int .i64 h.taken, .slice A2 m2 c2, .int .i64 h.num, .int .i64 h.size, .string h.root, .int .i64 h.taken, .string h.troot]) := by rw [Hid, hw]; exact ⟨by first | omega | (simp [World.setCell]; done) | (simp [World.setCell]; omega), fun o => by rcases o with _ | _ | _ | _ | _ | _ | _ | _ | _ | _ | _ | _ | _ | o <;> go_simp, fun o => by go_simp⟩
  have hxb := HXb.out.2.1
  have hfb := HXb.out.2.2
  have hkb := HXb.out.1
  have HXq : Hid (NewBox w1 (w.heap.size + 1) [.int .i64 0, .slice none 0 0, .slice none 0 0, .slice none 0 0, .int .i64 0, .slice none 0 0, .int .i64 0, .slice none 0 0, .int .i64 0, .int .i64 0, .string ⟨#[]⟩, .int .i64 0, .string ⟨#[]⟩]) := by rw [Hid, hw]; exact ⟨by first | omega | (simp [World.setCell]; done) | (simp [World.setCell]; omega), fun o => by rcases o with _ | _ | _ | _ | _ | _ | _ | _ | _ | _ | _ | _ | _ | o <;> go_simp, fun o => by go_simp⟩
  have hxq := HXq.out.2.1
  have hfq := HXq.out.2.2
  have hkq := HXq.out.1
  clear hw
  refine (HAD.out _ HOB.out.base).mono ?_
  rintro e w2 ⟨A9, c9, rfl, hA9, ho9, hb⟩
  have hzw2 : w1.heap.size ≤ w2.heap.size := hb.size
  have hzzw2 : w.heap.size ≤ w2.heap.size := by omega
  replace HB := Lib.hid (below_then HB.out hb HB.out.size)
  replace HOB := Lib.hid (HOB.out.below hb)
  replace HXb := Lib.hid (HXb.out.below hb)
  clear hxb hfb hkb
  have hxb := HXb.out.2.1
  have hfb := HXb.out.2.2
  have hkb := HXb.out.1
  replace HXq := Lib.hid (HXq.out.below hb)
  clear hxq hfq hkq
  have hxq := HXq.out.2.1
  have hfq := HXq.out.2.2
  have hkq := HXq.out.1
  clear hb
  clear hA9 ho9 HAD
  go_wp2
  refine bodyPost_named (fun w3 hw => ?_)
  have hz3 : w2.heap.size + 1 ≤ w3.heap.size := by rw [hw]; first | omega | (simp [World.setCell]; done) | (simp [World.setCell]; omega)
  have hzz3 : w.heap.size ≤ w3.heap.size := by omega
  replace HB : Hid (Below w.heap.size w w3) := by rw [Hid, hw]; exact (by ((repeat (first | ((with_reducible refine Below.alloc ?_ ?_ _); rotate_left 1; (focus (first | omega | (simp; done) | (simp; omega)))) | (with_reducible refine Below.drew ?_) | ((with_reducible refine Below.setCell ?_ ?_ _); rotate_left 1; (focus (first | omega | (simp; done) | (simp; omega)))))); exact HB.out))
  replace HOB : Hid (BrkK w3 (0) (w.heap.size) (⟨E, R, H, A1, A2, ce, cr, ch, c1, c2⟩) (⟨width, es, rs, hs⟩)) := by rw [Hid, hw]; (repeat (first | (with_reducible refine BrkK.alloc ?_ _) | (with_reducible refine BrkK.drew ?_) | ((with_reducible refine BrkK.setCell ?_ ?_ _); rotate_left 1; (focus (first | omega | (simp; done) | (simp; omega)))))); exact HOB.out
  replace HXb : Hid (NewBox w3 (w.heap.size) [.int .i64 width, .slice E ne ce, .slice R nr cr, .slice H nh ch, .int .i64 h.size, .slice A1 m1 c1, .int .i64 h.taken, .slice A2 m2 c2, .int .i64 h.num, .int .i64 h.size, .string h.root, .int .i64 h.taken, .string h.troot]) := by rw [Hid, hw]; (repeat (first | (with_reducible refine NewBox.alloc ?_ _) | (with_reducible refine NewBox.drew ?_) | ((with_reducible refine NewBox.setCell ?_ ?_ _); rotate_left 1; (focus (first | omega | (simp; done) | (simp; omega)))))); exact HXb.out
  clear hxb hfb hkb
  have hxb := HXb.out.2.1
  have hfb := HXb.out.2.2
  have hkb := HXb.out.1
  replace HXq : Hid (NewBox w3 (w.heap.size + 1) [.int .i64 0, .slice none 0 0, .slice none 0 0, .slice none 0 0, .int .i64 0, .slice none 0 0, .int .i64 0, .slice none 0 0, .int .i64 0, .int .i64 0, .string ⟨#[]⟩, .int .i64 0, .string ⟨#[]⟩]) := by rw [Hid, hw]; apply NewBox.cast; (focus ((repeat (first | (with_reducible apply NewBox.alloc) | (with_reducible apply NewBox.drew) | (with_reducible apply NewBox.set1) | ((with_reducible apply NewBox.far); (focus (first | omega | (simp; done) | (simp; omega)))))); exact HXq.out)); rfl
  clear hxq hfq hkq
  have hxq := HXq.out.2.1
  have hfq := HXq.out.2.2
  have hkq := HXq.out.1
  have HXl : Hid (NewBox w3 (w2.heap.size) [.slice A9 0 c9]) := by rw [Hid, hw]; exact ⟨by first | omega | (simp [World.setCell]; done) | (simp [World.setCell]; omega), fun o => by rcases o with _ | o <;> go_simp, fun o => by go_simp⟩
  have hxl := HXl.out.2.1
  have hfl := HXl.out.2.2
  have hkl := HXl.out.1
  clear hw
  refine bodyPost_ret (v := .tuple #[.agg #[.int .i64 0, .slice none 0 0, .slice none 0 0, .slice none 0 0, .int .i64 0, .slice none 0 0, .int .i64 0, .slice none 0 0, .int .i64 0, .int .i64 0, .string ⟨#[]⟩, .int .i64 0, .string ⟨#[]⟩], .slice (some ⟨w2.heap.size + 1, 0, none⟩) 0 0, .int .i64 0, .int .i64 cd]) (by simp [results, Try.results79, go_sem, hxq]) rfl ?_
  exact ⟨zeroBk, zeroBm, _, 0, 0, 0, cd, rfl, NextOk.no HCD.out HB.out⟩
end Go.Proofs.Ytoccjgcokffkbaa
namespace Go.Proofs.Ytoccjgcokffkbaa
set_option linter.unusedVariables false
set_option linter.unusedSimpArgs false
open Go.RowKit
/-- the address of what lies behind n elements of m cells -/
def cutX (m : Nat) (A : Option Addr) (n g : Nat) : Option Addr := if g = n then A else A.map (fun a => a.add (n * m))
theorem Rd.sufX {α : Type} {f : α → List Value} {m : Nat} {w : World} {lo hi : Nat} {A : Option Addr} {L : List α} (hm : ∀ x, (f x).length = m) (h : Rd w lo hi A (L.flatMap f)) (n g : Nat) (hg : L.length ≤ g) : Rd w lo hi (cutX m A n g) ((L.drop n).flatMap f) := by
 rw [cutX]
 split
 ·rename_i e
  rw [List.drop_of_length_le (by omega)]
  exact Rd.nil
 ·intro hn
  have hL : L.flatMap f = (L.take n).flatMap f ++ (L.drop n).flatMap f := by rw [← List.flatMap_append, List.take_append_drop]
  have hlen : ∀ l : List α, (l.flatMap f).length = l.length * m := by
   intro l
   induction l with
   | nil => simp
   | cons x l ih => rw [List.flatMap_cons, List.length_append, hm, ih, List.length_cons, Nat.add_mul]; omega
  have hnl : n < L.length := by
   rcases Nat.lt_or_ge n L.length with h1 | h1
   ·exact h1
   ·rw [List.drop_of_length_le h1] at hn; exact absurd rfl hn
  obtain ⟨b, off, e, h1, h2, h3, h4⟩ := h (by rw [hL]; intro e; exact hn (List.append_eq_nil_iff.1 e).2)
  subst e
  refine ⟨b, off + n * m, by rw [Option.map_some, Addr.add_lit], h1, h2, h3, fun j u hj => ?_⟩
  have ht : ((L.take n).flatMap f).length = n * m := by rw [hlen, List.length_take, Nat.min_eq_left (by omega)]
  have := h4 (n * m + j) u (by rw [hL, List.getElem?_append_right (by rw [ht]; omega), ht, Nat.add_sub_cancel_left]; exact hj)
  rw [← this, Nat.add_assoc]
theorem sufE_rd {w : World} {lo hi : Nat} {A : Option Addr} {L : List Ent} (h : Rd w lo hi A (ents L)) (n g : Nat) (hg : L.length ≤ g) : Rd w lo hi (cutX 5 A n g) (ents (L.drop n)) := Rd.sufX (f := Ent.cells) (fun _ => rfl) h n g hg
theorem sufR_rd {w : World} {lo hi : Nat} {A : Option Addr} {L : List Rcp} (h : Rd w lo hi A (rcps L)) (n g : Nat) (hg : L.length ≤ g) : Rd w lo hi (cutX 3 A n g) (rcps (L.drop n)) := Rd.sufX (f := Rcp.cells) (fun _ => rfl) h n g hg
theorem preXE (A : Option Addr) (k g m : Nat) (h : m ≤ g) (W : World) : (Instr.slice 40 (.slice A k g) none (some (.int .i64 m)) none).run Try.prog W = .ok (.slice A m g) W := by
 have hu := Try.underlying40
 simp [Instr.slice, run_underlying hu, Instr.sliceBounds, run_sliceBound, h, go_sem]
theorem sufXE (A : Option Addr) (k g n : Nat) (h1 : n ≤ k) (h2 : k ≤ g) (W : World) : (Instr.slice 40 (.slice A k g) (some (.int .i64 n)) none none).run Try.prog W = .ok (.slice (cutX 5 A n g) (k - n) (g - n)) W := by
 have hu := Try.underlying40
 obtain ⟨i0, hi0, hz0, hz1, hz2⟩ := info_parts info_Entry
 simp only [cutX]
 simp [Instr.slice, run_underlying hu, Instr.sliceBounds, run_sliceBound, h1, h2, go_sem, sizeOf, typeInfo, hi0, hz1]
theorem sufXR (A : Option Addr) (k g n : Nat) (h1 : n ≤ k) (h2 : k ≤ g) (W : World) : (Instr.slice 43 (.slice A k g) (some (.int .i64 n)) none none).run Try.prog W = .ok (.slice (cutX 3 A n g) (k - n) (g - n)) W := by
 have hu := Try.underlying43
 obtain ⟨i0, hi0, hz0, hz1, hz2⟩ := info_parts info_Receipt
 simp only [cutX]
 simp [Instr.slice, run_underlying hu, Instr.sliceBounds, run_sliceBound, h1, h2, go_sem, sizeOf, typeInfo, hi0, hz1]
end Go.Proofs.Ytoccjgcokffkbaa
namespace Go.Proofs.Ytoccjgcokffkbaa
set_option linter.unusedVariables false
set_option linter.unusedSimpArgs false
open Go.RowKit
set_option maxRecDepth 100000 in
set_option maxHeartbeats 20000000 in
theorem l12ReceiptP_c (width : Int) (E R H A1 A2 : Option Addr) (ne nr nh ce cr ch c1 c2 m1 m2 : Nat) (es : List Ent) (rs : List Rcp) (hs : List Hd) (l1 l2 : List ByteArray) (h : Hd) (lo hi : Nat) (r : Rcp) (w : World) (hk : BrkK w lo hi ⟨E, R, H, A1, A2, ce, cr, ch, c1, c2⟩ ⟨width, es, rs, hs⟩) (hne : es.length = ne) (hnr : rs.length = nr) (hnh : hs.length = nh) (hl1 : pk1 width es hs = l1) (hl2 : pk2 width rs hs = l2) (hm1 : l1.length = m1) (hm2 : l2.length = m2) (hh : lastHd hs = h) (hrf : r.fits) :
  Calls Try.prog 78 #[.agg #[.int .i64 width, .slice E ne ce, .slice R nr cr, .slice H nh ch, .int .i64 h.size, .slice A1 m1 c1, .int .i64 h.taken, .slice A2 m2 c2, .int .i64 h.num, .int .i64 h.size, .string h.root, .int .i64 h.taken, .string h.troot], .agg #[.string r.reader, .string r.topic, .int .i64 r.index]] w fun e w' => ∃ (a' : Bk) (m' : Bm) (L : Option Addr) (q g : Nat) (code : Int), e = .returned (.tuple #[.agg #[.int .i64 m'.width, .slice a'.E m'.es.length a'.ce, .slice a'.R m'.rs.length a'.cr, .slice a'.H m'.hs.length a'.ch, .int .i64 (lastHd m'.hs).size, .slice a'.A1 (pk1 m'.width m'.es m'.hs).length a'.c1, .int .i64 (lastHd m'.hs).taken, .slice a'.A2 (pk2 m'.width m'.rs m'.hs).length a'.c2, .int .i64 (lastHd m'.hs).num, .int .i64 (lastHd m'.hs).size, .string (lastHd m'.hs).root, .int .i64 (lastHd m'.hs).taken, .string (lastHd m'.hs).troot], .slice L q g, .int .i64 code]) ∧ NextOk w w' ⟨width, es, rs, hs⟩ a' m' code := by
 have hkk := hk
 obtain ⟨f1, f2, f3, g1, g2, g3, g4, f4, g5, g6, g7⟩ := parts_fits hk.ok
 have hlast := hk.ok.last
 have hpos := hk.ok.pos
 dsimp only at f1 f2 f3 g1 g2 g3 g4 f4 g5 g6 g7 hlast hpos
 rw [hne] at g1 hlast
 rw [hnr] at g2 hlast
 rw [hnh] at g3 g4 hpos
 rw [hh] at f4 g5 hlast
 rw [hl1, hm1] at g6
 rw [hl2, hm2] at g7
 have HRO := Lib.hid (fun W => specReceiptOk_c r W hrf)
 have HLA := Lib.hid (fun W (rr : BrkK W 0 W.heap.size ⟨E, R, H, A1, A2, ce, cr, ch, c1, c2⟩ ⟨width, es, rs, hs⟩) => l12Last_c width h.size h.taken E R H A1 A2 ne nr nh ce cr ch c1 c2 0 W.heap.size m1 m2 hs h W rr.rH hnh (by omega) (by omega))
 rw [hh] at HLA
 obtain ⟨sz, hsz⟩ : ∃ n : Nat, h.size = n := ⟨h.size.toNat, by omega⟩
 have hkE := hk.kE
 dsimp only at hkE
 have hsl := fun W => preXE E ne ce sz (by omega) W
 have HLF := Lib.hid (fun W (rr : BrkK W 0 W.heap.size ⟨E, R, H, A1, A2, ce, cr, ch, c1, c2⟩ ⟨width, es, rs, hs⟩) => ((l09Leaf_c E ce 0 W.heap.size sz (es.take sz) r.topic r.index W (Rd.entsTake rr.rE sz) (by rw [List.length_take]; omega) (by omega)).mono (fun e w' ⟨q1, q2⟩ => ⟨q1, q2 ▸ Below.refl _ _⟩) : Calls Try.prog 112 #[.slice E sz ce, .string r.topic, .int .i64 r.index] W fun e w' => e = .returned (.int .i64 (firstFrom (isTI r.topic r.index) (es.take sz) 0)) ∧ Below W.heap.size W w'))
 have hlfI : leafIn es sz r = decide (0 ≤ firstFrom (isTI r.topic r.index) (es.take sz) 0) := rfl
 have HAT := Lib.hid (fun W (rr : BrkK W 0 W.heap.size ⟨E, R, H, A1, A2, ce, cr, ch, c1, c2⟩ ⟨width, es, rs, hs⟩) => l12At_c R cr 0 W.heap.size nr rs r W rr.rR hnr (by omega) f2 hrf)
 have hpos2 := rcpPos_ge (r := r) rs 0
 have htake := fun (q1 : rcpOk r = true) (q2 : leafIn es sz r = true) (q3 : r ∉ rs) (q4 : rs.length < 512) => hk.ok.take q1 (by show leafIn es (lastHd hs).size.toNat r = true; rw [hh, hsz, Int.toNat_natCast]; exact q2) q3 q4
 have HCP := Lib.hid (fun W (r : BrkK W 0 W.heap.size ⟨E, R, H, A1, A2, ce, cr, ch, c1, c2⟩ ⟨width, es, rs, hs⟩) => l12CopyP_c width h.size h.taken E R H A1 A2 ne nr nh ce cr ch c1 c2 m1 m2 es rs hs l1 l2 h W r.rE r.rR r.rH (hl1 ▸ r.r1) (hl2 ▸ r.r2) hne hnr hnh hm1 hm2 (by omega) (by omega) (by omega) (by omega) (by omega) r.nE r.nR r.nH r.n1 r.n2)
 have HWR := Lib.hid (fun W (r : BrkK W 0 W.heap.size ⟨E, R, H, A1, A2, ce, cr, ch, c1, c2⟩ ⟨width, es, rs, hs⟩) s hs2 => l12WriteP_c width E R H A1 A2 ne nr nh ce cr ch c1 c2 m1 m2 es rs hs l1 l2 h 0 W.heap.size 2 s W r hne hnr hnh hl1 hl2 hm1 hm2 hh (by omega) hs2)
 have HTX := Lib.hid (fun W => specReceiptText_c r W hrf)
 have hts := rcpTextM_size r
 have hbl : (⟨es, rs, hs, l1, l2⟩ : Bl) = Bm.bl ⟨width, es, rs, hs⟩ := by show _ = Bl.mk es rs hs _ _; rw [hl1, hl2]
 have HBL := Lib.hid hbl
 have HTK := Lib.hid htake
 have HOK := Lib.hid hk.ok
 have HP2 := Lib.hid hpos2
 have HNR := Lib.hid hnr
 have HNH := Lib.hid hnh
 have HNE := Lib.hid hne
 have HHH := Lib.hid hh
 have HM1 : Hid ((pk1 width es hs).length = m1) := Lib.hid (by rw [hl1, hm1])
 have HM2 : Hid ((pk2 width (rs ++ [r]) hs).length = m2) := Lib.hid (by rw [pk2_more hk.ok, hl2, hm2])
 have HLI := Lib.hid hlfI
 have HQ3 : Hid (pk1 width es hs = l1) := Lib.hid hl1
 have HQ4 : Hid (pk2 width (rs ++ [r]) hs = l2) := Lib.hid (by rw [pk2_more hk.ok, hl2])
 rw [← hsz] at hsl
 have HB : Hid (Below w.heap.size w w) := Below.refl _ _
 have HOB : Hid (BrkK w (0) (w.heap.size) (⟨E, R, H, A1, A2, ce, cr, ch, c1, c2⟩) (⟨width, es, rs, hs⟩)) := Lib.hid hk.base
 clear hk hkk f1 f2 f3 f4 hlast hne hnr hnh hl1 hl2 hm1 hm2 hh hbl hsz htake hpos2 hlfI hkE hrf
 generalize rcpTextM r = tx at *
 generalize firstFrom (isTI r.topic r.index) (es.take sz) 0 = lf at *
 generalize rcpPos r rs 0 = rp at *
 have hfld := fun W => hdField1 h.num h.size h.taken h.root h.troot W
 go_enter Try.func78, Try.ntmps78
 go_wp2_with fail
 refine calls_named (fun w1 hw => ?_)
 have hz1 : w.heap.size + 3 ≤ w1.heap.size := by rw [hw]; first | omega | (simp [World.setCell]; done) | (simp [World.setCell]; omega)
 have hzz1 : w.heap.size ≤ w1.heap.size := by omega
 have hbn : Below w.heap.size w w1 := by rw [hw]; exact (by ((repeat (first | ((with_reducible refine Below.alloc ?_ ?_ _); rotate_left 1; (focus (first | omega | (simp; done) | (simp; omega)))) | (with_reducible refine Below.drew ?_) | ((with_reducible refine Below.setCell ?_ ?_ _); rotate_left 1; (focus (first | omega | (simp; done) | (simp; omega)))))); exact Below.refl _ _))
 replace HB := Lib.hid (below_then HB.out hbn HB.out.size)
 replace HOB := Lib.hid (HOB.out.below hbn)
 clear hbn
 have HXb : Hid (NewBox w1 (w.heap.size) [.int .i64 width, .slice E ne ce, .slice R nr cr, .slice H nh ch, .int .i64 h.size, .slice A1 m1 c1, .int .i64 h.taken, .slice A2 m2 c2, .int .i64 h.num, .int .i64 h.size, .string h.root, .int .i64 h.taken, .string h.troot]) := by rw [Hid, hw]; exact ⟨by first | omega | (simp [World.setCell]; done) | (simp [World.setCell]; omega), fun o => by rcases o with _ | _ | _ | _ | _ | _ | _ | _ | _ | _ | _ | _ | _ | o <;> go_simp, fun o => by go_simp⟩
 have hxb := HXb.out.2.1
 have hfb := HXb.out.2.2
 have hkb := HXb.out.1
 have HXr : Hid (NewBox w1 (w.heap.size + 1) [.string r.reader, .string r.topic, .int .i64 r.index]) := by rw [Hid, hw]; exact ⟨by first | omega | (simp [World.setCell]; done) | (simp [World.setCell]; omega), fun o => by rcases o with _ | _ | _ | o <;> go_simp, fun o => by go_simp⟩
 have hxr := HXr.out.2.1
 have hfr := HXr.out.2.2
 have hkr := HXr.out.1
 have HXq : Hid (NewBox w1 (w.heap.size + 2) [.int .i64 0, .slice none 0 0, .slice none 0 0, .slice none 0 0, .int .i64 0, .slice none 0 0, .int .i64 0, .slice none 0 0, .int .i64 0, .int .i64 0, .string ⟨#[]⟩, .int .i64 0, .string ⟨#[]⟩]) := by rw [Hid, hw]; exact ⟨by first | omega | (simp [World.setCell]; done) | (simp [World.setCell]; omega), fun o => by rcases o with _ | _ | _ | _ | _ | _ | _ | _ | _ | _ | _ | _ | _ | o <;> go_simp, fun o => by go_simp⟩
 have hxq := HXq.out.2.1
 have hfq := HXq.out.2.2
 have hkq := HXq.out.1
 clear hw
 refine (HRO.out _).mono ?_
 rintro e w2 ⟨rfl, hb⟩
 have hzw2 : w1.heap.size ≤ w2.heap.size := hb.size
 have hzzw2 : w.heap.size ≤ w2.heap.size := by omega
 replace HB := Lib.hid (below_then HB.out hb HB.out.size)
 replace HOB := Lib.hid (HOB.out.below hb)
 replace HXb := Lib.hid (HXb.out.below hb)
 clear hxb hfb hkb
 have hxb := HXb.out.2.1
 have hfb := HXb.out.2.2
 have hkb := HXb.out.1
 replace HXr := Lib.hid (HXr.out.below hb)
 clear hxr hfr hkr
 have hxr := HXr.out.2.1
 have hfr := HXr.out.2.2
 have hkr := HXr.out.1
 replace HXq := Lib.hid (HXq.out.below hb)
 clear hxq hfq hkq
 have hxq := HXq.out.2.1
 have hfq := HXq.out.2.2
 have hkq := HXq.out.1
 clear hb
 rcases hq : rcpOk r with _ | _
 ·clear hq
  go_wp2
  refine bodyPost_named (fun w3 hw => ?_)
  have hz3 : w2.heap.size + 0 ≤ w3.heap.size := by rw [hw]; first | omega | (simp [World.setCell]; done) | (simp [World.setCell]; omega)
  have hzz3 : w.heap.size ≤ w3.heap.size := by omega
  replace HB : Hid (Below w.heap.size w w3) := by rw [Hid, hw]; exact (by ((repeat (first | ((with_reducible refine Below.alloc ?_ ?_ _); rotate_left 1; (focus (first | omega | (simp; done) | (simp; omega)))) | (with_reducible refine Below.drew ?_) | ((with_reducible refine Below.setCell ?_ ?_ _); rotate_left 1; (focus (first | omega | (simp; done) | (simp; omega)))))); exact HB.out))
  replace HOB : Hid (BrkK w3 (0) (w.heap.size) (⟨E, R, H, A1, A2, ce, cr, ch, c1, c2⟩) (⟨width, es, rs, hs⟩)) := by rw [Hid, hw]; (repeat (first | (with_reducible refine BrkK.alloc ?_ _) | (with_reducible refine BrkK.drew ?_) | ((with_reducible refine BrkK.setCell ?_ ?_ _); rotate_left 1; (focus (first | omega | (simp; done) | (simp; omega)))))); exact HOB.out
  replace HXb : Hid (NewBox w3 (w.heap.size) [.int .i64 width, .slice E ne ce, .slice R nr cr, .slice H nh ch, .int .i64 h.size, .slice A1 m1 c1, .int .i64 h.taken, .slice A2 m2 c2, .int .i64 h.num, .int .i64 h.size, .string h.root, .int .i64 h.taken, .string h.troot]) := by rw [Hid, hw]; (repeat (first | (with_reducible refine NewBox.alloc ?_ _) | (with_reducible refine NewBox.drew ?_) | ((with_reducible refine NewBox.setCell ?_ ?_ _); rotate_left 1; (focus (first | omega | (simp; done) | (simp; omega)))))); exact HXb.out
  clear hxb hfb hkb
  have hxb := HXb.out.2.1
  have hfb := HXb.out.2.2
  have hkb := HXb.out.1
  replace HXr : Hid (NewBox w3 (w.heap.size + 1) [.string r.reader, .string r.topic, .int .i64 r.index]) := by rw [Hid, hw]; (repeat (first | (with_reducible refine NewBox.alloc ?_ _) | (with_reducible refine NewBox.drew ?_) | ((with_reducible refine NewBox.setCell ?_ ?_ _); rotate_left 1; (focus (first | omega | (simp; done) | (simp; omega)))))); exact HXr.out
  clear hxr hfr hkr
  have hxr := HXr.out.2.1
  have hfr := HXr.out.2.2
  have hkr := HXr.out.1
  replace HXq : Hid (NewBox w3 (w.heap.size + 2) [.int .i64 0, .slice none 0 0, .slice none 0 0, .slice none 0 0, .int .i64 0, .slice none 0 0, .int .i64 0, .slice none 0 0, .int .i64 0, .int .i64 0, .string ⟨#[]⟩, .int .i64 0, .string ⟨#[]⟩]) := by rw [Hid, hw]; apply NewBox.cast; (focus ((repeat (first | (with_reducible apply NewBox.alloc) | (with_reducible apply NewBox.drew) | (with_reducible apply NewBox.set1) | ((with_reducible apply NewBox.far); (focus (first | omega | (simp; done) | (simp; omega)))))); exact HXq.out)); rfl
  clear hxq hfq hkq
  have hxq := HXq.out.2.1
  have hfq := HXq.out.2.2
  have hkq := HXq.out.1
  clear hw
  refine bodyPost_ret (v := .tuple #[.agg #[.int .i64 0, .slice none 0 0, .slice none 0 0, .slice none 0 0, .int .i64 0, .slice none 0 0, .int .i64 0, .slice none 0 0, .int .i64 0, .int .i64 0, .string ⟨#[]⟩, .int .i64 0, .string ⟨#[]⟩], .slice (some ⟨w2.heap.size, 0, none⟩) 0 0, .int .i64 2]) (by simp [results, Try.results78, go_sem, hxq]) rfl ?_
  exact ⟨zeroBk, zeroBm, _, 0, 0, 2, rfl, NextOk.no (by decide) HB.out⟩
 ·have HQ1 := Lib.hid hq
  clear hq
  rcases hd : decide (lf < 0) with _ | _
  ·skip
   go_wp2_with fail
   refine wp_named (fun w3 hw => ?_)
   have hz3 : w2.heap.size + 0 ≤ w3.heap.size := by rw [hw]; first | omega | (simp [World.setCell]; done) | (simp [World.setCell]; omega)
   have hzz3 : w.heap.size ≤ w3.heap.size := by omega
   have hbn : Below w2.heap.size w2 w3 := by rw [hw]; exact (by ((repeat (first | ((with_reducible refine Below.alloc ?_ ?_ _); rotate_left 1; (focus (first | omega | (simp; done) | (simp; omega)))) | (with_reducible refine Below.drew ?_) | ((with_reducible refine Below.setCell ?_ ?_ _); rotate_left 1; (focus (first | omega | (simp; done) | (simp; omega)))))); exact Below.refl _ _))
   replace HB := Lib.hid (below_then HB.out hbn HB.out.size)
   replace HOB := Lib.hid (HOB.out.below hbn)
   replace HXb := Lib.hid (HXb.out.below hbn)
   clear hxb hfb hkb
   have hxb := HXb.out.2.1
   have hfb := HXb.out.2.2
   have hkb := HXb.out.1
   replace HXr := Lib.hid (HXr.out.below hbn)
   clear hxr hfr hkr
   have hxr := HXr.out.2.1
   have hfr := HXr.out.2.2
   have hkr := HXr.out.1
   replace HXq := Lib.hid (HXq.out.below hbn)
   clear hxq hfq hkq
   have hxq := HXq.out.2.1
   have hfq := HXq.out.2.2
   have hkq := HXq.out.1
   clear hbn
   clear hw
   obtain ⟨F, HF⟩ : ∃ F : Facts, Hid (F = fun iq xq tqs dsq uq => match iq with
    | 0 => xq.v = .pointer (some ⟨(w.heap.size), 1, none⟩)
    | 1 => xq.v = .pointer (some ⟨(w.heap.size), 1, none⟩)
    | 2 => xq.v = .slice E ne ce
    | 3 => xq.v = .agg #[.int .i64 width, .slice E ne ce, .slice R nr cr, .slice H nh ch, .int .i64 h.size, .slice A1 m1 c1, .int .i64 h.taken, .slice A2 m2 c2, .int .i64 h.num, .int .i64 h.size, .string h.root, .int .i64 h.taken, .string h.troot]
    | 4 => xq.v = .agg #[.int .i64 h.num, .int .i64 h.size, .string h.root, .int .i64 h.taken, .string h.troot]
    | 5 => xq.v = .int .i64 h.size
    | 6 => xq.v = .slice E sz ce
    | 7 => xq.v = .pointer (some ⟨(w.heap.size + 1), 1, none⟩)
    | 8 => xq.v = .string r.topic
    | 9 => xq.v = .pointer (some ⟨(w.heap.size + 1), 2, none⟩)
    | 10 => xq.v = .int .i64 r.index
    | 11 => xq.v = .int .i64 lf
    | 12 => xq.v = .bool false
    | _ => False) := ⟨_, rfl⟩
   refine wp_region_facts [[], [], [], [], [], [], [], [], [], [], [], [], []] [[], [], [], [], [], [], [], [], [], [], [], [], []] [some 14, some 15, some 16, some 17, some 18, some 19, some 20, some 21, some 22, some 23, some 24, some 25, some 26] none 0 0 (.inl rfl) F (by kernel_rfl) (by kernel_rfl) (by kernel_rfl) ?_ ⟨?_, ?_, ?_, ?_, ?_, ?_, ?_, ?_, ?_, ?_, ?_, ?_, ?_, trivial⟩ ?_
   ·rw [HF.out]; intro iq xq tqs dsq uq u' hi hf hs hW hx hbk
    have kx : ∀ b, xq.s ≤ b → b < xq.e → u'.heap[b]? = uq.heap[b]? := fun b h1 h2 => hbk b (.inr (.inl ⟨h1, h2⟩))
    have kt : ∀ t ∈ tqs, ∀ b, t.s ≤ b → b < t.e → u'.heap[b]? = uq.heap[b]? := fun t ht b h1 h2 => hbk b (.inr (.inr ⟨t, ht, h1, h2⟩))
    match iq with
    | 0 => exact hf
    | 1 => exact hf
    | 2 => exact hf
    | 3 => exact hf
    | 4 => exact hf
    | 5 => exact hf
    | 6 => exact hf
    | 7 => exact hf
    | 8 => exact hf
    | 9 => exact hf
    | 10 => exact hf
    | 11 => exact hf
    | 12 => exact hf
   ·intro gh ρ u hc hf1 hg1 hd h0 hb he ha hF
    have r2 : ρ (.tmp 2) = .pointer (some ⟨w.heap.size, 0, none⟩) := (h0 2 (by decide +kernel)).trans rfl
    clear  hd h0 he ha hF
    go_simp
    rw [HF.out]
    exact ⟨OnlyL.refl _ _, rfl⟩
   ·intro gh ρ u hc hf1 hg1 hd h0 hb he ha hF
    have r14 : ρ (.tmp 14) = .pointer (some ⟨(w.heap.size), 1, none⟩) := by have h := hF 0 (by decide +kernel) (by decide +kernel); rw [HF.out] at h; exact (hd 0 (by decide +kernel) 14 (by kernel_rfl)).trans h
    clear  hd h0 he ha hF
    go_simp
    rw [HF.out]
    exact ⟨OnlyL.refl _ _, rfl⟩
   ·intro gh ρ u hc hf1 hg1 hd h0 hb he ha hF
    replace hb : Below w3.heap.size w3 u := hb.drew.below (by decide +kernel)
    have hbz : w3.heap.size ≤ u.heap.size := hb.size
    have r15 : ρ (.tmp 15) = .pointer (some ⟨(w.heap.size), 1, none⟩) := by have h := hF 1 (by decide +kernel) (by decide +kernel); rw [HF.out] at h; exact (hd 1 (by decide +kernel) 15 (by kernel_rfl)).trans h
    have q_b := (HXb.out.below hb).2.1
    have k_b : w.heap.size < u.heap.size := by have := HXb.out.1; omega
    have q_r := (HXr.out.below hb).2.1
    have k_r : w.heap.size + 1 < u.heap.size := by have := HXr.out.1; omega
    clear  hd h0 he ha hF
    go_simp
    rw [HF.out]
    exact ⟨OnlyL.refl _ _, rfl⟩
   ·intro gh ρ u hc hf1 hg1 hd h0 hb he ha hF
    replace hb : Below w3.heap.size w3 u := hb.drew.below (by decide +kernel)
    have hbz : w3.heap.size ≤ u.heap.size := hb.size
    have r2 : ρ (.tmp 2) = .pointer (some ⟨w.heap.size, 0, none⟩) := (h0 2 (by decide +kernel)).trans rfl
    have q_b := (HXb.out.below hb).2.1
    have k_b : w.heap.size < u.heap.size := by have := HXb.out.1; omega
    have q_r := (HXr.out.below hb).2.1
    have k_r : w.heap.size + 1 < u.heap.size := by have := HXr.out.1; omega
    clear  hd h0 he ha hF
    go_simp
    rw [HF.out]
    exact ⟨OnlyL.refl _ _, rfl⟩
   ·intro gh ρ u hc hf1 hg1 hd h0 hb he ha hF
    replace hb : Below w3.heap.size w3 u := hb.drew.below (by decide +kernel)
    have hbz : w3.heap.size ≤ u.heap.size := hb.size
    have r17 : ρ (.tmp 17) = .agg #[.int .i64 width, .slice E ne ce, .slice R nr cr, .slice H nh ch, .int .i64 h.size, .slice A1 m1 c1, .int .i64 h.taken, .slice A2 m2 c2, .int .i64 h.num, .int .i64 h.size, .string h.root, .int .i64 h.taken, .string h.troot] := by have h := hF 3 (by decide +kernel) (by decide +kernel); rw [HF.out] at h; exact (hd 3 (by decide +kernel) 17 (by kernel_rfl)).trans h
    clear  hd h0 he ha hF
    go_simp
    have q_b := (HXb.out.below hb)
    have q_r := (HXr.out.below hb)
    refine (HLA.out _ (HOB.out.below hb).base).mono ?_
    rintro e u1 ⟨rfl, hb1⟩
    rw [HF.out]
    exact ⟨_, rfl, OnlyL.of_below hb1, rfl⟩
   ·intro gh ρ u hc hf1 hg1 hd h0 hb he ha hF
    have r18 : ρ (.tmp 18) = .agg #[.int .i64 h.num, .int .i64 h.size, .string h.root, .int .i64 h.taken, .string h.troot] := by have h := hF 4 (by decide +kernel) (by decide +kernel); rw [HF.out] at h; exact (hd 4 (by decide +kernel) 18 (by kernel_rfl)).trans h
    clear  hd h0 he ha hF
    go_simp
    rw [HF.out]
    exact ⟨OnlyL.refl _ _, rfl⟩
   ·intro gh ρ u hc hf1 hg1 hd h0 hb he ha hF
    have r16 : ρ (.tmp 16) = .slice E ne ce := by have h := hF 2 (by decide +kernel) (by decide +kernel); rw [HF.out] at h; exact (hd 2 (by decide +kernel) 16 (by kernel_rfl)).trans h
    have r19 : ρ (.tmp 19) = .int .i64 h.size := by have h := hF 5 (by decide +kernel) (by decide +kernel); rw [HF.out] at h; exact (hd 5 (by decide +kernel) 19 (by kernel_rfl)).trans h
    clear  hd h0 he ha hF
    go_simp
    rw [HF.out]
    exact ⟨OnlyL.refl _ _, rfl⟩
   ·intro gh ρ u hc hf1 hg1 hd h0 hb he ha hF
    have r3 : ρ (.tmp 3) = .pointer (some ⟨w.heap.size + 1, 0, none⟩) := (h0 3 (by decide +kernel)).trans rfl
    clear  hd h0 he ha hF
    go_simp
    rw [HF.out]
    exact ⟨OnlyL.refl _ _, rfl⟩
   ·intro gh ρ u hc hf1 hg1 hd h0 hb he ha hF
    replace hb : Below w3.heap.size w3 u := hb.drew.below (by decide +kernel)
    have hbz : w3.heap.size ≤ u.heap.size := hb.size
    have r21 : ρ (.tmp 21) = .pointer (some ⟨(w.heap.size + 1), 1, none⟩) := by have h := hF 7 (by decide +kernel) (by decide +kernel); rw [HF.out] at h; exact (hd 7 (by decide +kernel) 21 (by kernel_rfl)).trans h
    have q_b := (HXb.out.below hb).2.1
    have k_b : w.heap.size < u.heap.size := by have := HXb.out.1; omega
    have q_r := (HXr.out.below hb).2.1
    have k_r : w.heap.size + 1 < u.heap.size := by have := HXr.out.1; omega
    clear  hd h0 he ha hF
    go_simp
    rw [HF.out]
    exact ⟨OnlyL.refl _ _, rfl⟩
   ·intro gh ρ u hc hf1 hg1 hd h0 hb he ha hF
    have r3 : ρ (.tmp 3) = .pointer (some ⟨w.heap.size + 1, 0, none⟩) := (h0 3 (by decide +kernel)).trans rfl
    clear  hd h0 he ha hF
    go_simp
    rw [HF.out]
    exact ⟨OnlyL.refl _ _, rfl⟩
   ·intro gh ρ u hc hf1 hg1 hd h0 hb he ha hF
    replace hb : Below w3.heap.size w3 u := hb.drew.below (by decide +kernel)
    have hbz : w3.heap.size ≤ u.heap.size := hb.size
    have r23 : ρ (.tmp 23) = .pointer (some ⟨(w.heap.size + 1), 2, none⟩) := by have h := hF 9 (by decide +kernel) (by decide +kernel); rw [HF.out] at h; exact (hd 9 (by decide +kernel) 23 (by kernel_rfl)).trans h
    have q_b := (HXb.out.below hb).2.1
    have k_b : w.heap.size < u.heap.size := by have := HXb.out.1; omega
    have q_r := (HXr.out.below hb).2.1
    have k_r : w.heap.size + 1 < u.heap.size := by have := HXr.out.1; omega
    clear  hd h0 he ha hF
    go_simp
    rw [HF.out]
    exact ⟨OnlyL.refl _ _, rfl⟩
   ·intro gh ρ u hc hf1 hg1 hd h0 hb he ha hF
    replace hb : Below w3.heap.size w3 u := hb.drew.below (by decide +kernel)
    have hbz : w3.heap.size ≤ u.heap.size := hb.size
    have r20 : ρ (.tmp 20) = .slice E sz ce := by have h := hF 6 (by decide +kernel) (by decide +kernel); rw [HF.out] at h; exact (hd 6 (by decide +kernel) 20 (by kernel_rfl)).trans h
    have r22 : ρ (.tmp 22) = .string r.topic := by have h := hF 8 (by decide +kernel) (by decide +kernel); rw [HF.out] at h; exact (hd 8 (by decide +kernel) 22 (by kernel_rfl)).trans h
    have r24 : ρ (.tmp 24) = .int .i64 r.index := by have h := hF 10 (by decide +kernel) (by decide +kernel); rw [HF.out] at h; exact (hd 10 (by decide +kernel) 24 (by kernel_rfl)).trans h
    clear  hd h0 he ha hF
    go_simp
    have q_b := (HXb.out.below hb)
    have q_r := (HXr.out.below hb)
    refine (HLF.out _ (HOB.out.below hb).base).mono ?_
    rintro e u1 ⟨rfl, hb1⟩
    rw [HF.out]
    exact ⟨_, rfl, OnlyL.of_below hb1, rfl⟩
   ·intro gh ρ u hc hf1 hg1 hd h0 hb he ha hF
    have r25 : ρ (.tmp 25) = .int .i64 lf := by have h := hF 11 (by decide +kernel) (by decide +kernel); rw [HF.out] at h; exact (hd 11 (by decide +kernel) 25 (by kernel_rfl)).trans h
    clear  hd h0 he ha hF
    go_simp
    rw [HF.out]
    exact ⟨OnlyL.refl _ _, rfl⟩
   intro gh w4 hB hE hA hF
   replace hB : Below w3.heap.size w3 w4 := hB.below rfl
   have f0 : (gh 0).v = .pointer (some ⟨(w.heap.size), 1, none⟩) := by have h := hF 0 (by decide +kernel) (by decide +kernel); rw [HF.out] at h; exact h
   have f1 : (gh 1).v = .pointer (some ⟨(w.heap.size), 1, none⟩) := by have h := hF 1 (by decide +kernel) (by decide +kernel); rw [HF.out] at h; exact h
   have f2 : (gh 2).v = .slice E ne ce := by have h := hF 2 (by decide +kernel) (by decide +kernel); rw [HF.out] at h; exact h
   have f3 : (gh 3).v = .agg #[.int .i64 width, .slice E ne ce, .slice R nr cr, .slice H nh ch, .int .i64 h.size, .slice A1 m1 c1, .int .i64 h.taken, .slice A2 m2 c2, .int .i64 h.num, .int .i64 h.size, .string h.root, .int .i64 h.taken, .string h.troot] := by have h := hF 3 (by decide +kernel) (by decide +kernel); rw [HF.out] at h; exact h
   have f4 : (gh 4).v = .agg #[.int .i64 h.num, .int .i64 h.size, .string h.root, .int .i64 h.taken, .string h.troot] := by have h := hF 4 (by decide +kernel) (by decide +kernel); rw [HF.out] at h; exact h
   have f5 : (gh 5).v = .int .i64 h.size := by have h := hF 5 (by decide +kernel) (by decide +kernel); rw [HF.out] at h; exact h
   have f6 : (gh 6).v = .slice E sz ce := by have h := hF 6 (by decide +kernel) (by decide +kernel); rw [HF.out] at h; exact h
   have f7 : (gh 7).v = .pointer (some ⟨(w.heap.size + 1), 1, none⟩) := by have h := hF 7 (by decide +kernel) (by decide +kernel); rw [HF.out] at h; exact h
   have f8 : (gh 8).v = .string r.topic := by have h := hF 8 (by decide +kernel) (by decide +kernel); rw [HF.out] at h; exact h
   have f9 : (gh 9).v = .pointer (some ⟨(w.heap.size + 1), 2, none⟩) := by have h := hF 9 (by decide +kernel) (by decide +kernel); rw [HF.out] at h; exact h
   have f10 : (gh 10).v = .int .i64 r.index := by have h := hF 10 (by decide +kernel) (by decide +kernel); rw [HF.out] at h; exact h
   have f11 : (gh 11).v = .int .i64 lf := by have h := hF 11 (by decide +kernel) (by decide +kernel); rw [HF.out] at h; exact h
   have f12 : (gh 12).v = .bool false := by have h := hF 12 (by decide +kernel) (by decide +kernel); rw [HF.out] at h; exact h
   have hv4 := f4
   have hv11 := f11
   have hv0 := f0
   have hv1 := f1
   have hv2 := f2
   have hv3 := f3
   have hv5 := f5
   have hv6 := f6
   have hv7 := f7
   have hv8 := f8
   have hv9 := f9
   have hv10 := f10
   have hv12 := f12
   clear hE hA hF
   simp only [putDs, Nat.reduceAdd, hv0, hv1, hv2, hv3, hv4, hv5, hv6, hv7, hv8, hv9, hv10, hv11, hv12]
   clear hv0 hv1 hv2 hv3 hv4 hv5 hv6 hv7 hv8 hv9 hv10 hv11 hv12
   clear HF
   have hb := hB
   clear hB
   have hzw4 : w3.heap.size ≤ w4.heap.size := hb.size
   have hzzw4 : w.heap.size ≤ w4.heap.size := by omega
   replace HB := Lib.hid (below_then HB.out hb HB.out.size)
   replace HOB := Lib.hid (HOB.out.below hb)
   replace HXb := Lib.hid (HXb.out.below hb)
   clear hxb hfb hkb
   have hxb := HXb.out.2.1
   have hfb := HXb.out.2.2
   have hkb := HXb.out.1
   replace HXr := Lib.hid (HXr.out.below hb)
   clear hxr hfr hkr
   have hxr := HXr.out.2.1
   have hfr := HXr.out.2.2
   have hkr := HXr.out.1
   replace HXq := Lib.hid (HXq.out.below hb)
   clear hxq hfq hkq
   have hxq := HXq.out.2.1
   have hfq := HXq.out.2.2
   have hkq := HXq.out.1
   clear hb
   have hlf := of_decide_eq_false hd
   clear hd hsl hfld
   simp only [Act.put, List.setIfInBounds_toArray, List.set_cons_zero, List.set_cons_succ]
   go_wp2_with fail
   refine calls_named (fun w5 hw => ?_)
   have hz5 : w4.heap.size + 0 ≤ w5.heap.size := by rw [hw]; first | omega | (simp [World.setCell]; done) | (simp [World.setCell]; omega)
   have hzz5 : w.heap.size ≤ w5.heap.size := by omega
   have hbn : Below w4.heap.size w4 w5 := by rw [hw]; exact (by ((repeat (first | ((with_reducible refine Below.alloc ?_ ?_ _); rotate_left 1; (focus (first | omega | (simp; done) | (simp; omega)))) | (with_reducible refine Below.drew ?_) | ((with_reducible refine Below.setCell ?_ ?_ _); rotate_left 1; (focus (first | omega | (simp; done) | (simp; omega)))))); exact Below.refl _ _))
   replace HB := Lib.hid (below_then HB.out hbn HB.out.size)
   replace HOB := Lib.hid (HOB.out.below hbn)
   replace HXb := Lib.hid (HXb.out.below hbn)
   clear hxb hfb hkb
   have hxb := HXb.out.2.1
   have hfb := HXb.out.2.2
   have hkb := HXb.out.1
   replace HXr := Lib.hid (HXr.out.below hbn)
   clear hxr hfr hkr
   have hxr := HXr.out.2.1
   have hfr := HXr.out.2.2
   have hkr := HXr.out.1
   replace HXq := Lib.hid (HXq.out.below hbn)
   clear hxq hfq hkq
   have hxq := HXq.out.2.1
   have hfq := HXq.out.2.2
   have hkq := HXq.out.1
   clear hbn
   clear hw
   refine (HAT.out _ HOB.out.base).mono ?_
   rintro e w6 ⟨rfl, hb⟩
   have hzw6 : w5.heap.size ≤ w6.heap.size := hb.size
   have hzzw6 : w.heap.size ≤ w6.heap.size := by omega
   replace HB := Lib.hid (below_then HB.out hb HB.out.size)
   replace HOB := Lib.hid (HOB.out.below hb)
   replace HXb := Lib.hid (HXb.out.below hb)
   clear hxb hfb hkb
   have hxb := HXb.out.2.1
   have hfb := HXb.out.2.2
   have hkb := HXb.out.1
   replace HXr := Lib.hid (HXr.out.below hb)
   clear hxr hfr hkr
   have hxr := HXr.out.2.1
   have hfr := HXr.out.2.2
   have hkr := HXr.out.1
   replace HXq := Lib.hid (HXq.out.below hb)
   clear hxq hfq hkq
   have hxq := HXq.out.2.1
   have hfq := HXq.out.2.2
   have hkq := HXq.out.1
   clear hb
   clear HLA HLF HAT HRO
   rcases hd : decide (0 ≤ rp) with _ | _
   ·have hrp : ¬ 0 ≤ rp := of_decide_eq_false hd
    clear hd
    by_cases h5 : nr = 512
    ·have h6 : ((nr : Int) == 512) = true := beq_iff_eq.2 (by omega)
     clear h5
     go_wp2
     refine bodyPost_named (fun w7 hw => ?_)
     have hz7 : w6.heap.size + 0 ≤ w7.heap.size := by rw [hw]; first | omega | (simp [World.setCell]; done) | (simp [World.setCell]; omega)
     have hzz7 : w.heap.size ≤ w7.heap.size := by omega
     replace HB : Hid (Below w.heap.size w w7) := by rw [Hid, hw]; exact (by ((repeat (first | ((with_reducible refine Below.alloc ?_ ?_ _); rotate_left 1; (focus (first | omega | (simp; done) | (simp; omega)))) | (with_reducible refine Below.drew ?_) | ((with_reducible refine Below.setCell ?_ ?_ _); rotate_left 1; (focus (first | omega | (simp; done) | (simp; omega)))))); exact HB.out))
     replace HOB : Hid (BrkK w7 (0) (w.heap.size) (⟨E, R, H, A1, A2, ce, cr, ch, c1, c2⟩) (⟨width, es, rs, hs⟩)) := by rw [Hid, hw]; (repeat (first | (with_reducible refine BrkK.alloc ?_ _) | (with_reducible refine BrkK.drew ?_) | ((with_reducible refine BrkK.setCell ?_ ?_ _); rotate_left 1; (focus (first | omega | (simp; done) | (simp; omega)))))); exact HOB.out
     replace HXb : Hid (NewBox w7 (w.heap.size) [.int .i64 width, .slice E ne ce, .slice R nr cr, .slice H nh ch, .int .i64 h.size, .slice A1 m1 c1, .int .i64 h.taken, .slice A2 m2 c2, .int .i64 h.num, .int .i64 h.size, .string h.root, .int .i64 h.taken, .string h.troot]) := by rw [Hid, hw]; (repeat (first | (with_reducible refine NewBox.alloc ?_ _) | (with_reducible refine NewBox.drew ?_) | ((with_reducible refine NewBox.setCell ?_ ?_ _); rotate_left 1; (focus (first | omega | (simp; done) | (simp; omega)))))); exact HXb.out
     clear hxb hfb hkb
     have hxb := HXb.out.2.1
     have hfb := HXb.out.2.2
     have hkb := HXb.out.1
     replace HXr : Hid (NewBox w7 (w.heap.size + 1) [.string r.reader, .string r.topic, .int .i64 r.index]) := by rw [Hid, hw]; (repeat (first | (with_reducible refine NewBox.alloc ?_ _) | (with_reducible refine NewBox.drew ?_) | ((with_reducible refine NewBox.setCell ?_ ?_ _); rotate_left 1; (focus (first | omega | (simp; done) | (simp; omega)))))); exact HXr.out
     clear hxr hfr hkr
     have hxr := HXr.out.2.1
     have hfr := HXr.out.2.2
     have hkr := HXr.out.1
     replace HXq : Hid (NewBox w7 (w.heap.size + 2) [.int .i64 0, .slice none 0 0, .slice none 0 0, .slice none 0 0, .int .i64 0, .slice none 0 0, .int .i64 0, .slice none 0 0, .int .i64 0, .int .i64 0, .string ⟨#[]⟩, .int .i64 0, .string ⟨#[]⟩]) := by rw [Hid, hw]; apply NewBox.cast; (focus ((repeat (first | (with_reducible apply NewBox.alloc) | (with_reducible apply NewBox.drew) | (with_reducible apply NewBox.set1) | ((with_reducible apply NewBox.far); (focus (first | omega | (simp; done) | (simp; omega)))))); exact HXq.out)); rfl
     clear hxq hfq hkq
     have hxq := HXq.out.2.1
     have hfq := HXq.out.2.2
     have hkq := HXq.out.1
     clear hw
     refine bodyPost_ret (v := .tuple #[.agg #[.int .i64 0, .slice none 0 0, .slice none 0 0, .slice none 0 0, .int .i64 0, .slice none 0 0, .int .i64 0, .slice none 0 0, .int .i64 0, .int .i64 0, .string ⟨#[]⟩, .int .i64 0, .string ⟨#[]⟩], .slice (some ⟨w6.heap.size, 0, none⟩) 0 0, .int .i64 5]) (by simp [results, Try.results78, go_sem, hxq]) rfl ?_
     exact ⟨zeroBk, zeroBm, _, 0, 0, 5, rfl, NextOk.no (by decide) HB.out⟩
    ·have h6 : ((nr : Int) == 512) = false := beq_eq_false_iff_ne.2 (by omega)
     go_wp2_with fail
     refine calls_named (fun w7 hw => ?_)
     have hz7 : w6.heap.size + 0 ≤ w7.heap.size := by rw [hw]; first | omega | (simp [World.setCell]; done) | (simp [World.setCell]; omega)
     have hzz7 : w.heap.size ≤ w7.heap.size := by omega
     have hbn : Below w6.heap.size w6 w7 := by rw [hw]; exact (by ((repeat (first | ((with_reducible refine Below.alloc ?_ ?_ _); rotate_left 1; (focus (first | omega | (simp; done) | (simp; omega)))) | (with_reducible refine Below.drew ?_) | ((with_reducible refine Below.setCell ?_ ?_ _); rotate_left 1; (focus (first | omega | (simp; done) | (simp; omega)))))); exact Below.refl _ _))
     replace HB := Lib.hid (below_then HB.out hbn HB.out.size)
     replace HOB := Lib.hid (HOB.out.below hbn)
     replace HXb := Lib.hid (HXb.out.below hbn)
     clear hxb hfb hkb
     have hxb := HXb.out.2.1
     have hfb := HXb.out.2.2
     have hkb := HXb.out.1
     replace HXr := Lib.hid (HXr.out.below hbn)
     clear hxr hfr hkr
     have hxr := HXr.out.2.1
     have hfr := HXr.out.2.2
     have hkr := HXr.out.1
     replace HXq := Lib.hid (HXq.out.below hbn)
     clear hxq hfq hkq
     have hxq := HXq.out.2.1
     have hfq := HXq.out.2.2
     have hkq := HXq.out.1
     clear hbn
     clear hw
     refine (HTX.out _).mono ?_
     rintro e w8 ⟨rfl, hb⟩
     have hzw8 : w7.heap.size ≤ w8.heap.size := hb.size
     have hzzw8 : w.heap.size ≤ w8.heap.size := by omega
     replace HB := Lib.hid (below_then HB.out hb HB.out.size)
     replace HOB := Lib.hid (HOB.out.below hb)
     replace HXb := Lib.hid (HXb.out.below hb)
     clear hxb hfb hkb
     have hxb := HXb.out.2.1
     have hfb := HXb.out.2.2
     have hkb := HXb.out.1
     replace HXr := Lib.hid (HXr.out.below hb)
     clear hxr hfr hkr
     have hxr := HXr.out.2.1
     have hfr := HXr.out.2.2
     have hkr := HXr.out.1
     replace HXq := Lib.hid (HXq.out.below hb)
     clear hxq hfq hkq
     have hxq := HXq.out.2.1
     have hfq := HXq.out.2.2
     have hkq := HXq.out.1
     clear hb
     clear HTX h6
     have hpo := HTK.out HQ1.out (by rw [HLI.out]; exact decide_eq_true (by omega)) (by
      rcases HP2.out with ⟨_, h7⟩ | ⟨k, _, h7, _⟩
      ·exact h7
      ·omega) (by rw [HNR.out]; omega)
     have HPO := Lib.hid hpo
     clear hpo HTK HP2 HLI hlf h5
     go_wp2_with fail
     refine calls_named (fun w9 hw => ?_)
     have hz9 : w8.heap.size + 0 ≤ w9.heap.size := by rw [hw]; first | omega | (simp [World.setCell]; done) | (simp [World.setCell]; omega)
     have hzz9 : w.heap.size ≤ w9.heap.size := by omega
     have hbn : Below w8.heap.size w8 w9 := by rw [hw]; exact (by ((repeat (first | ((with_reducible refine Below.alloc ?_ ?_ _); rotate_left 1; (focus (first | omega | (simp; done) | (simp; omega)))) | (with_reducible refine Below.drew ?_) | ((with_reducible refine Below.setCell ?_ ?_ _); rotate_left 1; (focus (first | omega | (simp; done) | (simp; omega)))))); exact Below.refl _ _))
     replace HB := Lib.hid (below_then HB.out hbn HB.out.size)
     replace HOB := Lib.hid (HOB.out.below hbn)
     replace HXb := Lib.hid (HXb.out.below hbn)
     clear hxb hfb hkb
     have hxb := HXb.out.2.1
     have hfb := HXb.out.2.2
     have hkb := HXb.out.1
     replace HXr := Lib.hid (HXr.out.below hbn)
     clear hxr hfr hkr
     have hxr := HXr.out.2.1
     have hfr := HXr.out.2.2
     have hkr := HXr.out.1
     replace HXq := Lib.hid (HXq.out.below hbn)
     clear hxq hfq hkq
     have hxq := HXq.out.2.1
     have hfq := HXq.out.2.2
     have hkq := HXq.out.1
     clear hbn
     clear hw
     refine (HCP.out _ HOB.out.base).mono ?_
     rintro e w10 ⟨a3, rfl, hcp, hb⟩
     have hzw10 : w9.heap.size ≤ w10.heap.size := hb.size
     have hzzw10 : w.heap.size ≤ w10.heap.size := by omega
     replace HB := Lib.hid (below_then HB.out hb HB.out.size)
     replace HOB := Lib.hid (HOB.out.below hb)
     replace HXb := Lib.hid (HXb.out.below hb)
     clear hxb hfb hkb
     have hxb := HXb.out.2.1
     have hfb := HXb.out.2.2
     have hkb := HXb.out.1
     replace HXr := Lib.hid (HXr.out.below hb)
     clear hxr hfr hkr
     have hxr := HXr.out.2.1
     have hfr := HXr.out.2.2
     have hkr := HXr.out.1
     replace HXq := Lib.hid (HXq.out.below hb)
     clear hxq hfq hkq
     have hxq := HXq.out.2.1
     have hfq := HXq.out.2.2
     have hkq := HXq.out.1
     clear hb
     have HOC : Hid (CopyK w10 (w9.heap.size) (w10.heap.size) (a3) (⟨es, rs, hs, l1, l2⟩)) := Lib.hid hcp
     clear hcp HCP
     obtain ⟨lo5, hlo5, hlo5'⟩ : ∃ n, n ≤ w9.heap.size ∧ w9.heap.size ≤ n := ⟨_, Nat.le_refl _, Nat.le_refl _⟩
     obtain ⟨hi5, hhi5, hhi5'⟩ : ∃ n, n ≤ w10.heap.size ∧ w10.heap.size ≤ n := ⟨_, Nat.le_refl _, Nat.le_refl _⟩
     have HK5 := Lib.hid (HOC.out.mono hlo5 hhi5')
     clear HOC
     have HOC : Hid (CopyK w10 (lo5) (hi5) (a3) (⟨es, rs, hs, l1, l2⟩)) := Lib.hid HK5.out
     clear HK5
     go_upto_region 14 with fail
     refine wp_named (fun w11 hw => ?_)
     have hz11 : w10.heap.size + 1 ≤ w11.heap.size := by rw [hw]; first | omega | (simp [World.setCell]; done) | (simp [World.setCell]; omega)
     have hzz11 : w.heap.size ≤ w11.heap.size := by omega
     have hbn : Below w10.heap.size w10 w11 := by rw [hw]; exact (by ((repeat (first | ((with_reducible refine Below.alloc ?_ ?_ _); rotate_left 1; (focus (first | omega | (simp; done) | (simp; omega)))) | (with_reducible refine Below.drew ?_) | ((with_reducible refine Below.setCell ?_ ?_ _); rotate_left 1; (focus (first | omega | (simp; done) | (simp; omega)))))); exact Below.refl _ _))
     replace HB := Lib.hid (below_then HB.out hbn HB.out.size)
     replace HOB := Lib.hid (HOB.out.below hbn)
     replace HOC := Lib.hid (HOC.out.below hbn)
     replace HXb := Lib.hid (HXb.out.below hbn)
     clear hxb hfb hkb
     have hxb := HXb.out.2.1
     have hfb := HXb.out.2.2
     have hkb := HXb.out.1
     replace HXr := Lib.hid (HXr.out.below hbn)
     clear hxr hfr hkr
     have hxr := HXr.out.2.1
     have hfr := HXr.out.2.2
     have hkr := HXr.out.1
     replace HXq := Lib.hid (HXq.out.below hbn)
     clear hxq hfq hkq
     have hxq := HXq.out.2.1
     have hfq := HXq.out.2.2
     have hkq := HXq.out.1
     clear hbn
     have HXo : Hid (NewBox w11 (w10.heap.size) [.int .i64 width, .slice a3.E ne a3.ce, .slice a3.R nr a3.cr, .slice a3.H nh a3.ch, .int .i64 h.size, .slice a3.A1 m1 a3.c1, .int .i64 h.taken, .slice a3.A2 m2 a3.c2, .int .i64 h.num, .int .i64 h.size, .string h.root, .int .i64 h.taken, .string h.troot]) := by rw [Hid, hw]; exact ⟨by first | omega | (simp [World.setCell]; done) | (simp [World.setCell]; omega), fun o => by rcases o with _ | _ | _ | _ | _ | _ | _ | _ | _ | _ | _ | _ | _ | o <;> go_simp, fun o => by go_simp⟩
     have hxo := HXo.out.2.1
     have hfo := HXo.out.2.2
     have hko := HXo.out.1
     clear hw
     have HRR : Hid (RowT w11 lo5 hi5 ((57, 3), .slice a3.R nr a3.cr, nr) (rcps rs)) := Lib.hid (by have h7 := HOC.out.r; dsimp only at h7; rwa [HNR.out] at h7)
     go_wp2_with (at_builtin; refine app1LRcp rfl _ _ rfl lo5 hi5 w11.heap.size _ nr (rcps rs) r rfl (HRR.out.alloc _) rfl (NewBox.new w11 _ _) (by omega) (by simp; omega) (w11.heap.size + 1) (by simp) ?_)
     intro g4 c4 w2_ hg1 hg2 hg3 hrow hg
     have hon := (Only.of_below ((Below.refl _ _).alloc (Nat.le_refl _) _)).trans ((HRR.out.alloc _).onlyG hg)
     have hgr := hg
     rw [← HNR.out] at hgr
     have re := RowT.cast ((HOC.out.e.alloc _).grown hgr HOC.out.er) (show _ = ((55, 5), Value.slice a3.E ne a3.ce, ne) by dsimp only; rw [HNE.out])
     have rh := RowT.cast ((HOC.out.h.alloc _).grown hgr HOC.out.rh.symm) (show _ = ((48, 5), Value.slice a3.H nh a3.ch, nh) by dsimp only; rw [HNH.out])
     have ra := (HOC.out.a1.alloc _).grown hgr HOC.out.r1
     have rb := (HOC.out.a2.alloc _).grown hgr HOC.out.r2
     have hzw2_ : w11.heap.size ≤ w2_.heap.size := hon.size
     have hzzw2_ : w.heap.size ≤ w2_.heap.size := by omega
     replace HB := Lib.hid (below_only HB.out hon (by omega) HB.out.size)
     replace HOB := Lib.hid (HOB.out.only hon (by first | omega | (simp; omega)))
     replace HXb := Lib.hid (HXb.out.only hon (by first | omega | (simp; omega)))
     clear hxb hfb hkb
     have hxb := HXb.out.2.1
     have hfb := HXb.out.2.2
     have hkb := HXb.out.1
     replace HXr := Lib.hid (HXr.out.only hon (by first | omega | (simp; omega)))
     clear hxr hfr hkr
     have hxr := HXr.out.2.1
     have hfr := HXr.out.2.2
     have hkr := HXr.out.1
     replace HXq := Lib.hid (HXq.out.only hon (by first | omega | (simp; omega)))
     clear hxq hfq hkq
     have hxq := HXq.out.2.1
     have hfq := HXq.out.2.2
     have hkq := HXq.out.1
     replace HXo := Lib.hid (HXo.out.only hon (by first | omega | (simp; omega)))
     clear hxo hfo hko
     have hxo := HXo.out.2.1
     have hfo := HXo.out.2.2
     have hko := HXo.out.1
     clear HOC HRR
     have HOE5 : Hid (RowT w2_ (lo5) (hi5) (((55, 5), .slice a3.E ne a3.ce, ne)) (ents es)) := Lib.hid re
     have HOH5 : Hid (RowT w2_ (lo5) (hi5) (((48, 5), .slice a3.H nh a3.ch, nh)) (hds hs)) := Lib.hid rh
     have HOA5 : Hid (RowT w2_ (lo5) (hi5) (((9, 1), .slice a3.A1 l1.length a3.c1, l1.length)) (strs l1)) := Lib.hid ra
     have HOB5 : Hid (RowT w2_ (lo5) (hi5) (((9, 1), .slice a3.A2 l2.length a3.c2, l2.length)) (strs l2)) := Lib.hid rb
     have HOR5 : Hid (RowT w2_ (g4) (g4 + 1) (((57, 3), .slice (some ⟨g4, 0, none⟩) (nr + 1) c4, nr + 1)) (rcps rs ++ rcps [r])) := Lib.hid hrow
     clear hon re rh ra rb hrow hg hgr
     go_upto_region 15 with fail
     refine wp_named (fun w12 hw => ?_)
     have hz12 : w2_.heap.size + 0 ≤ w12.heap.size := by rw [hw]; first | omega | (simp [World.setCell]; done) | (simp [World.setCell]; omega)
     have hzz12 : w.heap.size ≤ w12.heap.size := by omega
     replace HB : Hid (Below w.heap.size w w12) := by rw [Hid, hw]; exact (by ((repeat (first | ((with_reducible refine Below.alloc ?_ ?_ _); rotate_left 1; (focus (first | omega | (simp; done) | (simp; omega)))) | (with_reducible refine Below.drew ?_) | ((with_reducible refine Below.setCell ?_ ?_ _); rotate_left 1; (focus (first | omega | (simp; done) | (simp; omega)))))); exact HB.out))
     replace HOB : Hid (BrkK w12 (0) (w.heap.size) (⟨E, R, H, A1, A2, ce, cr, ch, c1, c2⟩) (⟨width, es, rs, hs⟩)) := by rw [Hid, hw]; (repeat (first | (with_reducible refine BrkK.alloc ?_ _) | (with_reducible refine BrkK.drew ?_) | ((with_reducible refine BrkK.setCell ?_ ?_ _); rotate_left 1; (focus (first | omega | (simp; done) | (simp; omega)))))); exact HOB.out
     replace HOE5 : Hid (RowT w12 (lo5) (hi5) (((55, 5), .slice a3.E ne a3.ce, ne)) (ents es)) := by rw [Hid, hw]; (repeat (first | (with_reducible refine RowT.alloc ?_ _) | (with_reducible refine RowT.drew ?_) | ((with_reducible refine RowT.setCell ?_ ?_ _); rotate_left 1; (focus (first | omega | (simp; done) | (simp; omega)))))); exact HOE5.out
     replace HOH5 : Hid (RowT w12 (lo5) (hi5) (((48, 5), .slice a3.H nh a3.ch, nh)) (hds hs)) := by rw [Hid, hw]; (repeat (first | (with_reducible refine RowT.alloc ?_ _) | (with_reducible refine RowT.drew ?_) | ((with_reducible refine RowT.setCell ?_ ?_ _); rotate_left 1; (focus (first | omega | (simp; done) | (simp; omega)))))); exact HOH5.out
     replace HOA5 : Hid (RowT w12 (lo5) (hi5) (((9, 1), .slice a3.A1 l1.length a3.c1, l1.length)) (strs l1)) := by rw [Hid, hw]; (repeat (first | (with_reducible refine RowT.alloc ?_ _) | (with_reducible refine RowT.drew ?_) | ((with_reducible refine RowT.setCell ?_ ?_ _); rotate_left 1; (focus (first | omega | (simp; done) | (simp; omega)))))); exact HOA5.out
     replace HOB5 : Hid (RowT w12 (lo5) (hi5) (((9, 1), .slice a3.A2 l2.length a3.c2, l2.length)) (strs l2)) := by rw [Hid, hw]; (repeat (first | (with_reducible refine RowT.alloc ?_ _) | (with_reducible refine RowT.drew ?_) | ((with_reducible refine RowT.setCell ?_ ?_ _); rotate_left 1; (focus (first | omega | (simp; done) | (simp; omega)))))); exact HOB5.out
     replace HOR5 : Hid (RowT w12 (g4) (g4 + 1) (((57, 3), .slice (some ⟨g4, 0, none⟩) (nr + 1) c4, nr + 1)) (rcps rs ++ rcps [r])) := by rw [Hid, hw]; (repeat (first | (with_reducible refine RowT.alloc ?_ _) | (with_reducible refine RowT.drew ?_) | ((with_reducible refine RowT.setCell ?_ ?_ _); rotate_left 1; (focus (first | omega | (simp; done) | (simp; omega)))))); exact HOR5.out
     replace HXb : Hid (NewBox w12 (w.heap.size) [.int .i64 width, .slice E ne ce, .slice R nr cr, .slice H nh ch, .int .i64 h.size, .slice A1 m1 c1, .int .i64 h.taken, .slice A2 m2 c2, .int .i64 h.num, .int .i64 h.size, .string h.root, .int .i64 h.taken, .string h.troot]) := by rw [Hid, hw]; (repeat (first | (with_reducible refine NewBox.alloc ?_ _) | (with_reducible refine NewBox.drew ?_) | ((with_reducible refine NewBox.setCell ?_ ?_ _); rotate_left 1; (focus (first | omega | (simp; done) | (simp; omega)))))); exact HXb.out
     clear hxb hfb hkb
     have hxb := HXb.out.2.1
     have hfb := HXb.out.2.2
     have hkb := HXb.out.1
     replace HXr : Hid (NewBox w12 (w.heap.size + 1) [.string r.reader, .string r.topic, .int .i64 r.index]) := by rw [Hid, hw]; (repeat (first | (with_reducible refine NewBox.alloc ?_ _) | (with_reducible refine NewBox.drew ?_) | ((with_reducible refine NewBox.setCell ?_ ?_ _); rotate_left 1; (focus (first | omega | (simp; done) | (simp; omega)))))); exact HXr.out
     clear hxr hfr hkr
     have hxr := HXr.out.2.1
     have hfr := HXr.out.2.2
     have hkr := HXr.out.1
     replace HXq : Hid (NewBox w12 (w.heap.size + 2) [.int .i64 0, .slice none 0 0, .slice none 0 0, .slice none 0 0, .int .i64 0, .slice none 0 0, .int .i64 0, .slice none 0 0, .int .i64 0, .int .i64 0, .string ⟨#[]⟩, .int .i64 0, .string ⟨#[]⟩]) := by rw [Hid, hw]; (repeat (first | (with_reducible refine NewBox.alloc ?_ _) | (with_reducible refine NewBox.drew ?_) | ((with_reducible refine NewBox.setCell ?_ ?_ _); rotate_left 1; (focus (first | omega | (simp; done) | (simp; omega)))))); exact HXq.out
     clear hxq hfq hkq
     have hxq := HXq.out.2.1
     have hfq := HXq.out.2.2
     have hkq := HXq.out.1
     replace HXo : Hid (NewBox w12 (w10.heap.size) [.int .i64 width, .slice a3.E ne a3.ce, .slice (some ⟨g4, 0, none⟩) (nr + 1) c4, .slice a3.H nh a3.ch, .int .i64 h.size, .slice a3.A1 m1 a3.c1, .int .i64 h.taken, .slice a3.A2 m2 a3.c2, .int .i64 h.num, .int .i64 h.size, .string h.root, .int .i64 h.taken, .string h.troot]) := by rw [Hid, hw]; apply NewBox.cast; (focus ((repeat (first | (with_reducible apply NewBox.alloc) | (with_reducible apply NewBox.drew) | (with_reducible apply NewBox.set1) | ((with_reducible apply NewBox.far); (focus (first | omega | (simp; done) | (simp; omega)))))); exact HXo.out)); rfl
     clear hxo hfo hko
     have hxo := HXo.out.2.1
     have hfo := HXo.out.2.2
     have hko := HXo.out.1
     clear hw
     obtain ⟨F, HF⟩ : ∃ F : Facts, Hid (F = fun iq xq tqs dsq uq => match iq with
      | 0 => xq.v = .agg #[.int .i64 width, .slice a3.E ne a3.ce, .slice (some ⟨g4, 0, none⟩) (nr + 1) c4, .slice a3.H nh a3.ch, .int .i64 h.size, .slice a3.A1 m1 a3.c1, .int .i64 h.taken, .slice a3.A2 m2 a3.c2, .int .i64 h.num, .int .i64 h.size, .string h.root, .int .i64 h.taken, .string h.troot]
      | 1 => xq.v = .agg #[.int .i64 width, .slice E ne ce, .slice R nr cr, .slice H nh ch, .int .i64 h.size, .slice A1 m1 c1, .int .i64 h.taken, .slice A2 m2 c2, .int .i64 h.num, .int .i64 h.size, .string h.root, .int .i64 h.taken, .string h.troot]
      | 2 => xq.v = .string tx
      | 3 => ∃ (kw : Nat), xq.v = .slice (some ⟨kw, 0, none⟩) 1 1 ∧ (True)
      | 4 => NewBox uq (w.heap.size + 2) [.int .i64 width, .slice a3.E ne a3.ce, .slice (some ⟨g4, 0, none⟩) (nr + 1) c4, .slice a3.H nh a3.ch, .int .i64 h.size, .slice a3.A1 m1 a3.c1, .int .i64 h.taken, .slice a3.A2 m2 a3.c2, .int .i64 h.num, .int .i64 h.size, .string h.root, .int .i64 h.taken, .string h.troot]
      | 5 => (match tqs, dsq with | [], [yq0] => ∃ (kw : Nat), yq0.v = .slice (some ⟨kw, 0, none⟩) 1 1 ∧ xq.v = .slice (some ⟨kw, 0, none⟩) 1 1 | _, _ => False)
      | 6 => xq.v = .int .i64 0
      | _ => False) := ⟨_, rfl⟩
     refine wp_region_facts [[], [], [], [], [], [3], []] [[], [], [], [], [], [], []] [some 54, some 55, some 56, some 57, none, some 5, some 6] (some 4) (w.heap.size + 2) (w.heap.size + 2 + 1) (.inr (by omega)) F (by kernel_rfl) (by kernel_rfl) (by kernel_rfl) ?_ ⟨?_, ?_, ?_, ?_, ?_, ?_, ?_, trivial⟩ ?_
     ·rw [HF.out]; intro iq xq tqs dsq uq u' hi hf hs hW hx hbk
      have kx : ∀ b, xq.s ≤ b → b < xq.e → u'.heap[b]? = uq.heap[b]? := fun b h1 h2 => hbk b (.inr (.inl ⟨h1, h2⟩))
      have kt : ∀ t ∈ tqs, ∀ b, t.s ≤ b → b < t.e → u'.heap[b]? = uq.heap[b]? := fun t ht b h1 h2 => hbk b (.inr (.inr ⟨t, ht, h1, h2⟩))
      match iq with
      | 0 => exact hf
      | 1 => exact hf
      | 2 => exact hf
      | 3 => obtain ⟨kw, hv, p0⟩ := hf; exact ⟨kw, hv, trivial⟩
      | 4 => exact NewBox.keep hf hs (hbk _ (.inl ⟨hkq, .inr (.inr rfl)⟩))
      | 5 => exact hf
      | 6 => exact hf
     ·intro gh ρ u hc hf1 hg1 hd h0 hb he ha hF
      first | (replace hb : Below w12.heap.size w12 u := hb.drew.below (by decide +kernel)) | (replace hb : Only (w.heap.size + 2) (w.heap.size + 2 + 1) w12 u := hb.drew.only)
      have hbz : w12.heap.size ≤ u.heap.size := hb.size
      have r10 : ρ (.tmp 10) = .pointer (some ⟨w10.heap.size, 0, none⟩) := (h0 10 (by decide +kernel)).trans rfl
      have q_o : ∀ o, u.cell? ⟨w10.heap.size, o, none⟩ = [.int .i64 width, .slice a3.E ne a3.ce, .slice (some ⟨g4, 0, none⟩) (nr + 1) c4, .slice a3.H nh a3.ch, .int .i64 h.size, .slice a3.A1 m1 a3.c1, .int .i64 h.taken, .slice a3.A2 m2 a3.c2, .int .i64 h.num, .int .i64 h.size, .string h.root, .int .i64 h.taken, .string h.troot][o]? := by first | exact (HXo.out.below hb).2.1 | exact (HXo.out.only hb (by omega)).2.1
      have k_o : w10.heap.size < u.heap.size := by have := HXo.out.1; omega
      have q_b : ∀ o, u.cell? ⟨w.heap.size, o, none⟩ = [.int .i64 width, .slice E ne ce, .slice R nr cr, .slice H nh ch, .int .i64 h.size, .slice A1 m1 c1, .int .i64 h.taken, .slice A2 m2 c2, .int .i64 h.num, .int .i64 h.size, .string h.root, .int .i64 h.taken, .string h.troot][o]? := by first | exact (HXb.out.below hb).2.1 | exact (HXb.out.only hb (by omega)).2.1
      have k_b : w.heap.size < u.heap.size := by have := HXb.out.1; omega
      clear  hd h0 he ha hF
      go_simp
      rw [HF.out]
      exact ⟨OnlyL.refl _ _, rfl⟩
     ·intro gh ρ u hc hf1 hg1 hd h0 hb he ha hF
      first | (replace hb : Below w12.heap.size w12 u := hb.drew.below (by decide +kernel)) | (replace hb : Only (w.heap.size + 2) (w.heap.size + 2 + 1) w12 u := hb.drew.only)
      have hbz : w12.heap.size ≤ u.heap.size := hb.size
      have r2 : ρ (.tmp 2) = .pointer (some ⟨w.heap.size, 0, none⟩) := (h0 2 (by decide +kernel)).trans rfl
      have q_o : ∀ o, u.cell? ⟨w10.heap.size, o, none⟩ = [.int .i64 width, .slice a3.E ne a3.ce, .slice (some ⟨g4, 0, none⟩) (nr + 1) c4, .slice a3.H nh a3.ch, .int .i64 h.size, .slice a3.A1 m1 a3.c1, .int .i64 h.taken, .slice a3.A2 m2 a3.c2, .int .i64 h.num, .int .i64 h.size, .string h.root, .int .i64 h.taken, .string h.troot][o]? := by first | exact (HXo.out.below hb).2.1 | exact (HXo.out.only hb (by omega)).2.1
      have k_o : w10.heap.size < u.heap.size := by have := HXo.out.1; omega
      have q_b : ∀ o, u.cell? ⟨w.heap.size, o, none⟩ = [.int .i64 width, .slice E ne ce, .slice R nr cr, .slice H nh ch, .int .i64 h.size, .slice A1 m1 c1, .int .i64 h.taken, .slice A2 m2 c2, .int .i64 h.num, .int .i64 h.size, .string h.root, .int .i64 h.taken, .string h.troot][o]? := by first | exact (HXb.out.below hb).2.1 | exact (HXb.out.only hb (by omega)).2.1
      have k_b : w.heap.size < u.heap.size := by have := HXb.out.1; omega
      clear  hd h0 he ha hF
      go_simp
      rw [HF.out]
      exact ⟨OnlyL.refl _ _, rfl⟩
     ·intro gh ρ u hc hf1 hg1 hd h0 hb he ha hF
      have r8 : ρ (.tmp 8) = .string tx := (h0 8 (by decide +kernel)).trans rfl
      clear  hd h0 he ha hF
      go_simp
      rw [HF.out]
      exact ⟨OnlyL.refl _ _, rfl⟩
     ·intro gh ρ u hc hf1 hg1 hd h0 hb he ha hF
      first | (replace hb : Below w12.heap.size w12 u := hb.drew.below (by decide +kernel)) | (replace hb : Only (w.heap.size + 2) (w.heap.size + 2 + 1) w12 u := hb.drew.only)
      have hbz : w12.heap.size ≤ u.heap.size := hb.size
      have r55 : ρ (.tmp 55) = .agg #[.int .i64 width, .slice E ne ce, .slice R nr cr, .slice H nh ch, .int .i64 h.size, .slice A1 m1 c1, .int .i64 h.taken, .slice A2 m2 c2, .int .i64 h.num, .int .i64 h.size, .string h.root, .int .i64 h.taken, .string h.troot] := by have h := hF 1 (by decide +kernel) (by decide +kernel); rw [HF.out] at h; exact (hd 1 (by decide +kernel) 55 (by kernel_rfl)).trans h
      have r56 : ρ (.tmp 56) = .string tx := by have h := hF 2 (by decide +kernel) (by decide +kernel); rw [HF.out] at h; exact (hd 2 (by decide +kernel) 56 (by kernel_rfl)).trans h
      clear  hd h0 he ha hF
      go_simp
      have q_o := (HXo.out.below hb)
      have q_b := (HXb.out.below hb)
      refine (HWR.out _ (HOB.out.below hb).base tx (by omega)).mono ?_
      rintro e u1 ⟨kw, rfl, hb1⟩
      rw [HF.out]
      exact ⟨_, rfl, OnlyL.of_below hb1, kw, rfl, trivial⟩
     ·intro gh ρ u hc hf1 hg1 hd h0 hb he ha hF
      first | (replace hb : Below w12.heap.size w12 u := hb.drew.below (by decide +kernel)) | (replace hb : Only (w.heap.size + 2) (w.heap.size + 2 + 1) w12 u := hb.drew.only)
      have hbz : w12.heap.size ≤ u.heap.size := hb.size
      have r4 : ρ (.tmp 4) = .pointer (some ⟨w.heap.size + 2, 0, none⟩) := (h0 4 (by decide +kernel)).trans rfl
      have r54 : ρ (.tmp 54) = .agg #[.int .i64 width, .slice a3.E ne a3.ce, .slice (some ⟨g4, 0, none⟩) (nr + 1) c4, .slice a3.H nh a3.ch, .int .i64 h.size, .slice a3.A1 m1 a3.c1, .int .i64 h.taken, .slice a3.A2 m2 a3.c2, .int .i64 h.num, .int .i64 h.size, .string h.root, .int .i64 h.taken, .string h.troot] := by have h := hF 0 (by decide +kernel) (by decide +kernel); rw [HF.out] at h; exact (hd 0 (by decide +kernel) 54 (by kernel_rfl)).trans h
      obtain ⟨hzk, hzc, hzf⟩ := HXq.out.below hb
      clear  hd h0 he ha hF
      go_simp
      rw [HF.out]
      refine ⟨?_, ?_⟩
      ·refine OnlyL.of_z (lo := w.heap.size + 2) (hi := w.heap.size + 2 + 1) ?_ rfl; refine Only.setCell ?_ (by exact Nat.le_refl _) (by exact Nat.lt_succ_self _) _; refine Only.setCell ?_ (by exact Nat.le_refl _) (by exact Nat.lt_succ_self _) _; refine Only.setCell ?_ (by exact Nat.le_refl _) (by exact Nat.lt_succ_self _) _; refine Only.setCell ?_ (by exact Nat.le_refl _) (by exact Nat.lt_succ_self _) _; refine Only.setCell ?_ (by exact Nat.le_refl _) (by exact Nat.lt_succ_self _) _; refine Only.setCell ?_ (by exact Nat.le_refl _) (by exact Nat.lt_succ_self _) _; refine Only.setCell ?_ (by exact Nat.le_refl _) (by exact Nat.lt_succ_self _) _; refine Only.setCell ?_ (by exact Nat.le_refl _) (by exact Nat.lt_succ_self _) _; refine Only.setCell ?_ (by exact Nat.le_refl _) (by exact Nat.lt_succ_self _) _; refine Only.setCell ?_ (by exact Nat.le_refl _) (by exact Nat.lt_succ_self _) _; refine Only.setCell ?_ (by exact Nat.le_refl _) (by exact Nat.lt_succ_self _) _; refine Only.setCell ?_ (by exact Nat.le_refl _) (by exact Nat.lt_succ_self _) _; refine Only.setCell ?_ (by exact Nat.le_refl _) (by exact Nat.lt_succ_self _) _; exact Only.refl _ _ _
      ·show NewBox _ (w.heap.size + 2) _
       exact ⟨by simpa [World.setCell] using hzk, fun o => by rcases o with _ | _ | _ | _ | _ | _ | _ | _ | _ | _ | _ | _ | _ | o <;> go_simp, fun o => by go_simp⟩
     ·intro gh ρ u hc hf1 hg1 hd h0 hb he ha hF
      have f3 : ∃ (kw : Nat), (gh 3).v = .slice (some ⟨kw, 0, none⟩) 1 1 ∧ (True) := by have h := hF 3 (by decide +kernel) (by decide +kernel); rw [HF.out] at h; exact h
      obtain ⟨kw, hv3, g3_0⟩ := f3
      have hrt3 := hv3
      have r57 : ρ (.tmp 57) = .slice (some ⟨kw, 0, none⟩) 1 1 := (hd 3 (by decide +kernel) 57 (by kernel_rfl)).trans hv3
      have HRT3 := Lib.hid hrt3
      clear hv3 hrt3 hd h0 he ha hF
      go_simp
      rw [HF.out]
      exact ⟨OnlyL.refl _ _, kw, HRT3.out, rfl⟩
     ·intro gh ρ u hc hf1 hg1 hd h0 hb he ha hF
      clear  hd h0 he ha hF
      go_simp
      rw [HF.out]
      exact ⟨OnlyL.refl _ _, rfl⟩
     intro gh w13 hB hE hA hF
     replace hB : Only (w.heap.size + 2) (w.heap.size + 2 + 1) w12 w13 := hB.only
     have f0 : (gh 0).v = .agg #[.int .i64 width, .slice a3.E ne a3.ce, .slice (some ⟨g4, 0, none⟩) (nr + 1) c4, .slice a3.H nh a3.ch, .int .i64 h.size, .slice a3.A1 m1 a3.c1, .int .i64 h.taken, .slice a3.A2 m2 a3.c2, .int .i64 h.num, .int .i64 h.size, .string h.root, .int .i64 h.taken, .string h.troot] := by have h := hF 0 (by decide +kernel) (by decide +kernel); rw [HF.out] at h; exact h
     have f1 : (gh 1).v = .agg #[.int .i64 width, .slice E ne ce, .slice R nr cr, .slice H nh ch, .int .i64 h.size, .slice A1 m1 c1, .int .i64 h.taken, .slice A2 m2 c2, .int .i64 h.num, .int .i64 h.size, .string h.root, .int .i64 h.taken, .string h.troot] := by have h := hF 1 (by decide +kernel) (by decide +kernel); rw [HF.out] at h; exact h
     have f2 : (gh 2).v = .string tx := by have h := hF 2 (by decide +kernel) (by decide +kernel); rw [HF.out] at h; exact h
     have f3 : ∃ (kw : Nat), (gh 3).v = .slice (some ⟨kw, 0, none⟩) 1 1 ∧ (True) := by have h := hF 3 (by decide +kernel) (by decide +kernel); rw [HF.out] at h; exact h
     have f4 : NewBox w13 (w.heap.size + 2) [.int .i64 width, .slice a3.E ne a3.ce, .slice (some ⟨g4, 0, none⟩) (nr + 1) c4, .slice a3.H nh a3.ch, .int .i64 h.size, .slice a3.A1 m1 a3.c1, .int .i64 h.taken, .slice a3.A2 m2 a3.c2, .int .i64 h.num, .int .i64 h.size, .string h.root, .int .i64 h.taken, .string h.troot] := by have h := hF 4 (by decide +kernel) (by decide +kernel); rw [HF.out] at h; exact h
     have f5 : ∃ (kw : Nat), (gh 3).v = .slice (some ⟨kw, 0, none⟩) 1 1 ∧ (gh 5).v = .slice (some ⟨kw, 0, none⟩) 1 1 := by have h := hF 5 (by decide +kernel) (by decide +kernel); rw [HF.out] at h; exact h
     have f6 : (gh 6).v = .int .i64 0 := by have h := hF 6 (by decide +kernel) (by decide +kernel); rw [HF.out] at h; exact h
     obtain ⟨kw, hv3, _⟩ := f3
     have hv0 := f0
     have hv1 := f1
     have hv2 := f2
     have hx4 := f4
     obtain ⟨kw_5, hu3, hv5⟩ := f5
     replace hu3 := hv3.symm.trans hu3
     simp at hu3
     try simp only [and_assoc] at hu3
     obtain rfl := hu3
     have hv6 := f6
     clear hE hA hF
     simp only [putDs, Nat.reduceAdd, hv0, hv1, hv2, hv3, hv5, hv6]
     clear hv0 hv1 hv2 hv3 hv5 hv6
     clear HF
     have hb := hB
     clear hB
     have hzw13 : w12.heap.size ≤ w13.heap.size := hb.size
     have hzzw13 : w.heap.size ≤ w13.heap.size := by omega
     replace HB := Lib.hid (below_only HB.out hb (by omega) HB.out.size)
     replace HOB := Lib.hid (HOB.out.only hb (by first | omega | (simp; omega)))
     replace HOE5 := Lib.hid (HOE5.out.only hb (by first | omega | (simp; omega)))
     replace HOH5 := Lib.hid (HOH5.out.only hb (by first | omega | (simp; omega)))
     replace HOA5 := Lib.hid (HOA5.out.only hb (by first | omega | (simp; omega)))
     replace HOB5 := Lib.hid (HOB5.out.only hb (by first | omega | (simp; omega)))
     replace HOR5 := Lib.hid (HOR5.out.only hb (by first | omega | (simp; omega)))
     replace HXb := Lib.hid (HXb.out.only hb (by first | omega | (simp; omega)))
     clear hxb hfb hkb
     have hxb := HXb.out.2.1
     have hfb := HXb.out.2.2
     have hkb := HXb.out.1
     replace HXr := Lib.hid (HXr.out.only hb (by first | omega | (simp; omega)))
     clear hxr hfr hkr
     have hxr := HXr.out.2.1
     have hfr := HXr.out.2.2
     have hkr := HXr.out.1
     clear hxq hfq hkq HXq
     replace HXo := Lib.hid (HXo.out.only hb (by first | omega | (simp; omega)))
     clear hxo hfo hko
     have hxo := HXo.out.2.1
     have hfo := HXo.out.2.2
     have hko := HXo.out.1
     clear hb
     have HXq : Hid (NewBox w13 (w.heap.size + 2) [.int .i64 width, .slice a3.E ne a3.ce, .slice (some ⟨g4, 0, none⟩) (nr + 1) c4, .slice a3.H nh a3.ch, .int .i64 h.size, .slice a3.A1 m1 a3.c1, .int .i64 h.taken, .slice a3.A2 m2 a3.c2, .int .i64 h.num, .int .i64 h.size, .string h.root, .int .i64 h.taken, .string h.troot]) := hx4
     have hxq := HXq.out.2.1
     have hfq := HXq.out.2.2
     have hkq := HXq.out.1
     clear hx4
     have hbk := brk_rows (lo := w.heap.size) HPO.out HNE.out (by rw [List.length_append, HNR.out] <;> rfl) HNH.out HOE5.out (by rw [rcps_app]; exact HOR5.out) HOH5.out (by rw [HQ3.out]; exact (HOA5.out.rd (by omega)).mono (by omega) (by omega) (Nat.le_refl _)) (by rw [HQ4.out]; exact (HOB5.out.rd (by omega)).mono (by omega) (by omega) (Nat.le_refl _)) (HOA5.out.own (by omega)).2.1 (HOB5.out.own (by omega)).2.1 (by omega) (by omega) (by omega)
     have HBK := Lib.hid hbk
     clear hbk
     go_wp2
     refine bodyPost_ret (v := .tuple #[.agg #[.int .i64 width, .slice a3.E ne a3.ce, .slice (some ⟨g4, 0, none⟩) (nr + 1) c4, .slice a3.H nh a3.ch, .int .i64 h.size, .slice a3.A1 m1 a3.c1, .int .i64 h.taken, .slice a3.A2 m2 a3.c2, .int .i64 h.num, .int .i64 h.size, .string h.root, .int .i64 h.taken, .string h.troot], .slice (some ⟨kw, 0, none⟩) 1 1, .int .i64 0]) (by simp [results, Try.results78, go_sem, hxq]) rfl ?_
     exact ⟨⟨a3.E, some ⟨g4, 0, none⟩, a3.H, a3.A1, a3.A2, a3.ce, c4, a3.ch, a3.c1, a3.c2⟩, ⟨width, es, rs ++ [r], hs⟩, some ⟨kw, 0, none⟩, 1, 1, 0, by dsimp only; rw [List.length_append, HNE.out, HNR.out, HNH.out, HM1.out, HM2.out, HHH.out] <;> rfl, fun _ => ⟨HBK.out, rfl, Nat.le_succ _⟩, HB.out⟩
   ·have hrp : 0 ≤ rp := of_decide_eq_true hd
    go_wp2
    refine bodyPost_named (fun w7 hw => ?_)
    have hz7 : w6.heap.size + 0 ≤ w7.heap.size := by rw [hw]; first | omega | (simp [World.setCell]; done) | (simp [World.setCell]; omega)
    have hzz7 : w.heap.size ≤ w7.heap.size := by omega
    replace HB : Hid (Below w.heap.size w w7) := by rw [Hid, hw]; exact (by ((repeat (first | ((with_reducible refine Below.alloc ?_ ?_ _); rotate_left 1; (focus (first | omega | (simp; done) | (simp; omega)))) | (with_reducible refine Below.drew ?_) | ((with_reducible refine Below.setCell ?_ ?_ _); rotate_left 1; (focus (first | omega | (simp; done) | (simp; omega)))))); exact HB.out))
    replace HOB : Hid (BrkK w7 (0) (w.heap.size) (⟨E, R, H, A1, A2, ce, cr, ch, c1, c2⟩) (⟨width, es, rs, hs⟩)) := by rw [Hid, hw]; (repeat (first | (with_reducible refine BrkK.alloc ?_ _) | (with_reducible refine BrkK.drew ?_) | ((with_reducible refine BrkK.setCell ?_ ?_ _); rotate_left 1; (focus (first | omega | (simp; done) | (simp; omega)))))); exact HOB.out
    replace HXb : Hid (NewBox w7 (w.heap.size) [.int .i64 width, .slice E ne ce, .slice R nr cr, .slice H nh ch, .int .i64 h.size, .slice A1 m1 c1, .int .i64 h.taken, .slice A2 m2 c2, .int .i64 h.num, .int .i64 h.size, .string h.root, .int .i64 h.taken, .string h.troot]) := by rw [Hid, hw]; (repeat (first | (with_reducible refine NewBox.alloc ?_ _) | (with_reducible refine NewBox.drew ?_) | ((with_reducible refine NewBox.setCell ?_ ?_ _); rotate_left 1; (focus (first | omega | (simp; done) | (simp; omega)))))); exact HXb.out
    clear hxb hfb hkb
    have hxb := HXb.out.2.1
    have hfb := HXb.out.2.2
    have hkb := HXb.out.1
    replace HXr : Hid (NewBox w7 (w.heap.size + 1) [.string r.reader, .string r.topic, .int .i64 r.index]) := by rw [Hid, hw]; (repeat (first | (with_reducible refine NewBox.alloc ?_ _) | (with_reducible refine NewBox.drew ?_) | ((with_reducible refine NewBox.setCell ?_ ?_ _); rotate_left 1; (focus (first | omega | (simp; done) | (simp; omega)))))); exact HXr.out
    clear hxr hfr hkr
    have hxr := HXr.out.2.1
    have hfr := HXr.out.2.2
    have hkr := HXr.out.1
    replace HXq : Hid (NewBox w7 (w.heap.size + 2) [.int .i64 0, .slice none 0 0, .slice none 0 0, .slice none 0 0, .int .i64 0, .slice none 0 0, .int .i64 0, .slice none 0 0, .int .i64 0, .int .i64 0, .string ⟨#[]⟩, .int .i64 0, .string ⟨#[]⟩]) := by rw [Hid, hw]; apply NewBox.cast; (focus ((repeat (first | (with_reducible apply NewBox.alloc) | (with_reducible apply NewBox.drew) | (with_reducible apply NewBox.set1) | ((with_reducible apply NewBox.far); (focus (first | omega | (simp; done) | (simp; omega)))))); exact HXq.out)); rfl
    clear hxq hfq hkq
    have hxq := HXq.out.2.1
    have hfq := HXq.out.2.2
    have hkq := HXq.out.1
    clear hw
    refine bodyPost_ret (v := .tuple #[.agg #[.int .i64 0, .slice none 0 0, .slice none 0 0, .slice none 0 0, .int .i64 0, .slice none 0 0, .int .i64 0, .slice none 0 0, .int .i64 0, .int .i64 0, .string ⟨#[]⟩, .int .i64 0, .string ⟨#[]⟩], .slice (some ⟨w6.heap.size, 0, none⟩) 0 0, .int .i64 4]) (by simp [results, Try.results78, go_sem, hxq]) rfl ?_
    exact ⟨zeroBk, zeroBm, _, 0, 0, 4, rfl, NextOk.no (by decide) HB.out⟩
  ·skip
   go_wp2_with fail
   refine wp_named (fun w3 hw => ?_)
   have hz3 : w2.heap.size + 0 ≤ w3.heap.size := by rw [hw]; first | omega | (simp [World.setCell]; done) | (simp [World.setCell]; omega)
   have hzz3 : w.heap.size ≤ w3.heap.size := by omega
   have hbn : Below w2.heap.size w2 w3 := by rw [hw]; exact (by ((repeat (first | ((with_reducible refine Below.alloc ?_ ?_ _); rotate_left 1; (focus (first | omega | (simp; done) | (simp; omega)))) | (with_reducible refine Below.drew ?_) | ((with_reducible refine Below.setCell ?_ ?_ _); rotate_left 1; (focus (first | omega | (simp; done) | (simp; omega)))))); exact Below.refl _ _))
   replace HB := Lib.hid (below_then HB.out hbn HB.out.size)
   replace HOB := Lib.hid (HOB.out.below hbn)
   replace HXb := Lib.hid (HXb.out.below hbn)
   clear hxb hfb hkb
   have hxb := HXb.out.2.1
   have hfb := HXb.out.2.2
   have hkb := HXb.out.1
   replace HXr := Lib.hid (HXr.out.below hbn)
   clear hxr hfr hkr
   have hxr := HXr.out.2.1
   have hfr := HXr.out.2.2
   have hkr := HXr.out.1
   replace HXq := Lib.hid (HXq.out.below hbn)
   clear hxq hfq hkq
   have hxq := HXq.out.2.1
   have hfq := HXq.out.2.2
   have hkq := HXq.out.1
   clear hbn
   clear hw
   obtain ⟨F, HF⟩ : ∃ F : Facts, Hid (F = fun iq xq tqs dsq uq => match iq with
    | 0 => xq.v = .pointer (some ⟨(w.heap.size), 1, none⟩)
    | 1 => xq.v = .pointer (some ⟨(w.heap.size), 1, none⟩)
    | 2 => xq.v = .slice E ne ce
    | 3 => xq.v = .agg #[.int .i64 width, .slice E ne ce, .slice R nr cr, .slice H nh ch, .int .i64 h.size, .slice A1 m1 c1, .int .i64 h.taken, .slice A2 m2 c2, .int .i64 h.num, .int .i64 h.size, .string h.root, .int .i64 h.taken, .string h.troot]
    | 4 => xq.v = .agg #[.int .i64 h.num, .int .i64 h.size, .string h.root, .int .i64 h.taken, .string h.troot]
    | 5 => xq.v = .int .i64 h.size
    | 6 => xq.v = .slice E sz ce
    | 7 => xq.v = .pointer (some ⟨(w.heap.size + 1), 1, none⟩)
    | 8 => xq.v = .string r.topic
    | 9 => xq.v = .pointer (some ⟨(w.heap.size + 1), 2, none⟩)
    | 10 => xq.v = .int .i64 r.index
    | 11 => xq.v = .int .i64 lf
    | 12 => xq.v = .bool true
    | _ => False) := ⟨_, rfl⟩
   refine wp_region_facts [[], [], [], [], [], [], [], [], [], [], [], [], []] [[], [], [], [], [], [], [], [], [], [], [], [], []] [some 14, some 15, some 16, some 17, some 18, some 19, some 20, some 21, some 22, some 23, some 24, some 25, some 26] none 0 0 (.inl rfl) F (by kernel_rfl) (by kernel_rfl) (by kernel_rfl) ?_ ⟨?_, ?_, ?_, ?_, ?_, ?_, ?_, ?_, ?_, ?_, ?_, ?_, ?_, trivial⟩ ?_
   ·rw [HF.out]; intro iq xq tqs dsq uq u' hi hf hs hW hx hbk
    have kx : ∀ b, xq.s ≤ b → b < xq.e → u'.heap[b]? = uq.heap[b]? := fun b h1 h2 => hbk b (.inr (.inl ⟨h1, h2⟩))
    have kt : ∀ t ∈ tqs, ∀ b, t.s ≤ b → b < t.e → u'.heap[b]? = uq.heap[b]? := fun t ht b h1 h2 => hbk b (.inr (.inr ⟨t, ht, h1, h2⟩))
    match iq with
    | 0 => exact hf
    | 1 => exact hf
    | 2 => exact hf
    | 3 => exact hf
    | 4 => exact hf
    | 5 => exact hf
    | 6 => exact hf
    | 7 => exact hf
    | 8 => exact hf
    | 9 => exact hf
    | 10 => exact hf
    | 11 => exact hf
    | 12 => exact hf
   ·intro gh ρ u hc hf1 hg1 hd h0 hb he ha hF
    have r2 : ρ (.tmp 2) = .pointer (some ⟨w.heap.size, 0, none⟩) := (h0 2 (by decide +kernel)).trans rfl
    clear  hd h0 he ha hF
    go_simp
    rw [HF.out]
    exact ⟨OnlyL.refl _ _, rfl⟩
   ·intro gh ρ u hc hf1 hg1 hd h0 hb he ha hF
    have r14 : ρ (.tmp 14) = .pointer (some ⟨(w.heap.size), 1, none⟩) := by have h := hF 0 (by decide +kernel) (by decide +kernel); rw [HF.out] at h; exact (hd 0 (by decide +kernel) 14 (by kernel_rfl)).trans h
    clear  hd h0 he ha hF
    go_simp
    rw [HF.out]
    exact ⟨OnlyL.refl _ _, rfl⟩
   ·intro gh ρ u hc hf1 hg1 hd h0 hb he ha hF
    replace hb : Below w3.heap.size w3 u := hb.drew.below (by decide +kernel)
    have hbz : w3.heap.size ≤ u.heap.size := hb.size
    have r15 : ρ (.tmp 15) = .pointer (some ⟨(w.heap.size), 1, none⟩) := by have h := hF 1 (by decide +kernel) (by decide +kernel); rw [HF.out] at h; exact (hd 1 (by decide +kernel) 15 (by kernel_rfl)).trans h
    have q_b := (HXb.out.below hb).2.1
    have k_b : w.heap.size < u.heap.size := by have := HXb.out.1; omega
    have q_r := (HXr.out.below hb).2.1
    have k_r : w.heap.size + 1 < u.heap.size := by have := HXr.out.1; omega
    clear  hd h0 he ha hF
    go_simp
    rw [HF.out]
    exact ⟨OnlyL.refl _ _, rfl⟩
   ·intro gh ρ u hc hf1 hg1 hd h0 hb he ha hF
    replace hb : Below w3.heap.size w3 u := hb.drew.below (by decide +kernel)
    have hbz : w3.heap.size ≤ u.heap.size := hb.size
    have r2 : ρ (.tmp 2) = .pointer (some ⟨w.heap.size, 0, none⟩) := (h0 2 (by decide +kernel)).trans rfl
    have q_b := (HXb.out.below hb).2.1
    have k_b : w.heap.size < u.heap.size := by have := HXb.out.1; omega
    have q_r := (HXr.out.below hb).2.1
    have k_r : w.heap.size + 1 < u.heap.size := by have := HXr.out.1; omega
    clear  hd h0 he ha hF
    go_simp
    rw [HF.out]
    exact ⟨OnlyL.refl _ _, rfl⟩
   ·intro gh ρ u hc hf1 hg1 hd h0 hb he ha hF
    replace hb : Below w3.heap.size w3 u := hb.drew.below (by decide +kernel)
    have hbz : w3.heap.size ≤ u.heap.size := hb.size
    have r17 : ρ (.tmp 17) = .agg #[.int .i64 width, .slice E ne ce, .slice R nr cr, .slice H nh ch, .int .i64 h.size, .slice A1 m1 c1, .int .i64 h.taken, .slice A2 m2 c2, .int .i64 h.num, .int .i64 h.size, .string h.root, .int .i64 h.taken, .string h.troot] := by have h := hF 3 (by decide +kernel) (by decide +kernel); rw [HF.out] at h; exact (hd 3 (by decide +kernel) 17 (by kernel_rfl)).trans h
    clear  hd h0 he ha hF
    go_simp
    have q_b := (HXb.out.below hb)
    have q_r := (HXr.out.below hb)
    refine (HLA.out _ (HOB.out.below hb).base).mono ?_
    rintro e u1 ⟨rfl, hb1⟩
    rw [HF.out]
    exact ⟨_, rfl, OnlyL.of_below hb1, rfl⟩
   ·intro gh ρ u hc hf1 hg1 hd h0 hb he ha hF
    have r18 : ρ (.tmp 18) = .agg #[.int .i64 h.num, .int .i64 h.size, .string h.root, .int .i64 h.taken, .string h.troot] := by have h := hF 4 (by decide +kernel) (by decide +kernel); rw [HF.out] at h; exact (hd 4 (by decide +kernel) 18 (by kernel_rfl)).trans h
    clear  hd h0 he ha hF
    go_simp
    rw [HF.out]
    exact ⟨OnlyL.refl _ _, rfl⟩
   ·intro gh ρ u hc hf1 hg1 hd h0 hb he ha hF
    have r16 : ρ (.tmp 16) = .slice E ne ce := by have h := hF 2 (by decide +kernel) (by decide +kernel); rw [HF.out] at h; exact (hd 2 (by decide +kernel) 16 (by kernel_rfl)).trans h
    have r19 : ρ (.tmp 19) = .int .i64 h.size := by have h := hF 5 (by decide +kernel) (by decide +kernel); rw [HF.out] at h; exact (hd 5 (by decide +kernel) 19 (by kernel_rfl)).trans h
    clear  hd h0 he ha hF
    go_simp
    rw [HF.out]
    exact ⟨OnlyL.refl _ _, rfl⟩
   ·intro gh ρ u hc hf1 hg1 hd h0 hb he ha hF
    have r3 : ρ (.tmp 3) = .pointer (some ⟨w.heap.size + 1, 0, none⟩) := (h0 3 (by decide +kernel)).trans rfl
    clear  hd h0 he ha hF
    go_simp
    rw [HF.out]
    exact ⟨OnlyL.refl _ _, rfl⟩
   ·intro gh ρ u hc hf1 hg1 hd h0 hb he ha hF
    replace hb : Below w3.heap.size w3 u := hb.drew.below (by decide +kernel)
    have hbz : w3.heap.size ≤ u.heap.size := hb.size
    have r21 : ρ (.tmp 21) = .pointer (some ⟨(w.heap.size + 1), 1, none⟩) := by have h := hF 7 (by decide +kernel) (by decide +kernel); rw [HF.out] at h; exact (hd 7 (by decide +kernel) 21 (by kernel_rfl)).trans h
    have q_b := (HXb.out.below hb).2.1
    have k_b : w.heap.size < u.heap.size := by have := HXb.out.1; omega
    have q_r := (HXr.out.below hb).2.1
    have k_r : w.heap.size + 1 < u.heap.size := by have := HXr.out.1; omega
    clear  hd h0 he ha hF
    go_simp
    rw [HF.out]
    exact ⟨OnlyL.refl _ _, rfl⟩
   ·intro gh ρ u hc hf1 hg1 hd h0 hb he ha hF
    have r3 : ρ (.tmp 3) = .pointer (some ⟨w.heap.size + 1, 0, none⟩) := (h0 3 (by decide +kernel)).trans rfl
    clear  hd h0 he ha hF
    go_simp
    rw [HF.out]
    exact ⟨OnlyL.refl _ _, rfl⟩
   ·intro gh ρ u hc hf1 hg1 hd h0 hb he ha hF
    replace hb : Below w3.heap.size w3 u := hb.drew.below (by decide +kernel)
    have hbz : w3.heap.size ≤ u.heap.size := hb.size
    have r23 : ρ (.tmp 23) = .pointer (some ⟨(w.heap.size + 1), 2, none⟩) := by have h := hF 9 (by decide +kernel) (by decide +kernel); rw [HF.out] at h; exact (hd 9 (by decide +kernel) 23 (by kernel_rfl)).trans h
    have q_b := (HXb.out.below hb).2.1
    have k_b : w.heap.size < u.heap.size := by have := HXb.out.1; omega
    have q_r := (HXr.out.below hb).2.1
    have k_r : w.heap.size + 1 < u.heap.size := by have := HXr.out.1; omega
    clear  hd h0 he ha hF
    go_simp
    rw [HF.out]
    exact ⟨OnlyL.refl _ _, rfl⟩
   ·intro gh ρ u hc hf1 hg1 hd h0 hb he ha hF
    replace hb : Below w3.heap.size w3 u := hb.drew.below (by decide +kernel)
    have hbz : w3.heap.size ≤ u.heap.size := hb.size
    have r20 : ρ (.tmp 20) = .slice E sz ce := by have h := hF 6 (by decide +kernel) (by decide +kernel); rw [HF.out] at h; exact (hd 6 (by decide +kernel) 20 (by kernel_rfl)).trans h
    have r22 : ρ (.tmp 22) = .string r.topic := by have h := hF 8 (by decide +kernel) (by decide +kernel); rw [HF.out] at h; exact (hd 8 (by decide +kernel) 22 (by kernel_rfl)).trans h
    have r24 : ρ (.tmp 24) = .int .i64 r.index := by have h := hF 10 (by decide +kernel) (by decide +kernel); rw [HF.out] at h; exact (hd 10 (by decide +kernel) 24 (by kernel_rfl)).trans h
    clear  hd h0 he ha hF
    go_simp
    have q_b := (HXb.out.below hb)
    have q_r := (HXr.out.below hb)
    refine (HLF.out _ (HOB.out.below hb).base).mono ?_
    rintro e u1 ⟨rfl, hb1⟩
    rw [HF.out]
    exact ⟨_, rfl, OnlyL.of_below hb1, rfl⟩
   ·intro gh ρ u hc hf1 hg1 hd h0 hb he ha hF
    have r25 : ρ (.tmp 25) = .int .i64 lf := by have h := hF 11 (by decide +kernel) (by decide +kernel); rw [HF.out] at h; exact (hd 11 (by decide +kernel) 25 (by kernel_rfl)).trans h
    clear  hd h0 he ha hF
    go_simp
    rw [HF.out]
    exact ⟨OnlyL.refl _ _, rfl⟩
   intro gh w4 hB hE hA hF
   replace hB : Below w3.heap.size w3 w4 := hB.below rfl
   have f0 : (gh 0).v = .pointer (some ⟨(w.heap.size), 1, none⟩) := by have h := hF 0 (by decide +kernel) (by decide +kernel); rw [HF.out] at h; exact h
   have f1 : (gh 1).v = .pointer (some ⟨(w.heap.size), 1, none⟩) := by have h := hF 1 (by decide +kernel) (by decide +kernel); rw [HF.out] at h; exact h
   have f2 : (gh 2).v = .slice E ne ce := by have h := hF 2 (by decide +kernel) (by decide +kernel); rw [HF.out] at h; exact h
   have f3 : (gh 3).v = .agg #[.int .i64 width, .slice E ne ce, .slice R nr cr, .slice H nh ch, .int .i64 h.size, .slice A1 m1 c1, .int .i64 h.taken, .slice A2 m2 c2, .int .i64 h.num, .int .i64 h.size, .string h.root, .int .i64 h.taken, .string h.troot] := by have h := hF 3 (by decide +kernel) (by decide +kernel); rw [HF.out] at h; exact h
   have f4 : (gh 4).v = .agg #[.int .i64 h.num, .int .i64 h.size, .string h.root, .int .i64 h.taken, .string h.troot] := by have h := hF 4 (by decide +kernel) (by decide +kernel); rw [HF.out] at h; exact h
   have f5 : (gh 5).v = .int .i64 h.size := by have h := hF 5 (by decide +kernel) (by decide +kernel); rw [HF.out] at h; exact h
   have f6 : (gh 6).v = .slice E sz ce := by have h := hF 6 (by decide +kernel) (by decide +kernel); rw [HF.out] at h; exact h
   have f7 : (gh 7).v = .pointer (some ⟨(w.heap.size + 1), 1, none⟩) := by have h := hF 7 (by decide +kernel) (by decide +kernel); rw [HF.out] at h; exact h
   have f8 : (gh 8).v = .string r.topic := by have h := hF 8 (by decide +kernel) (by decide +kernel); rw [HF.out] at h; exact h
   have f9 : (gh 9).v = .pointer (some ⟨(w.heap.size + 1), 2, none⟩) := by have h := hF 9 (by decide +kernel) (by decide +kernel); rw [HF.out] at h; exact h
   have f10 : (gh 10).v = .int .i64 r.index := by have h := hF 10 (by decide +kernel) (by decide +kernel); rw [HF.out] at h; exact h
   have f11 : (gh 11).v = .int .i64 lf := by have h := hF 11 (by decide +kernel) (by decide +kernel); rw [HF.out] at h; exact h
   have f12 : (gh 12).v = .bool true := by have h := hF 12 (by decide +kernel) (by decide +kernel); rw [HF.out] at h; exact h
   have hv4 := f4
   have hv11 := f11
   have hv0 := f0
   have hv1 := f1
   have hv2 := f2
   have hv3 := f3
   have hv5 := f5
   have hv6 := f6
   have hv7 := f7
   have hv8 := f8
   have hv9 := f9
   have hv10 := f10
   have hv12 := f12
   clear hE hA hF
   simp only [putDs, Nat.reduceAdd, hv0, hv1, hv2, hv3, hv4, hv5, hv6, hv7, hv8, hv9, hv10, hv11, hv12]
   clear hv0 hv1 hv2 hv3 hv4 hv5 hv6 hv7 hv8 hv9 hv10 hv11 hv12
   clear HF
   have hb := hB
   clear hB
   have hzw4 : w3.heap.size ≤ w4.heap.size := hb.size
   have hzzw4 : w.heap.size ≤ w4.heap.size := by omega
   replace HB := Lib.hid (below_then HB.out hb HB.out.size)
   replace HOB := Lib.hid (HOB.out.below hb)
   replace HXb := Lib.hid (HXb.out.below hb)
   clear hxb hfb hkb
   have hxb := HXb.out.2.1
   have hfb := HXb.out.2.2
   have hkb := HXb.out.1
   replace HXr := Lib.hid (HXr.out.below hb)
   clear hxr hfr hkr
   have hxr := HXr.out.2.1
   have hfr := HXr.out.2.2
   have hkr := HXr.out.1
   replace HXq := Lib.hid (HXq.out.below hb)
   clear hxq hfq hkq
   have hxq := HXq.out.2.1
   have hfq := HXq.out.2.2
   have hkq := HXq.out.1
   clear hb
   clear hd hsl hfld
   simp only [Act.put, List.setIfInBounds_toArray, List.set_cons_zero, List.set_cons_succ]
   go_wp2
   refine bodyPost_named (fun w5 hw => ?_)
   have hz5 : w4.heap.size + 0 ≤ w5.heap.size := by rw [hw]; first | omega | (simp [World.setCell]; done) | (simp [World.setCell]; omega)
   have hzz5 : w.heap.size ≤ w5.heap.size := by omega
   replace HB : Hid (Below w.heap.size w w5) := by rw [Hid, hw]; exact (by ((repeat (first | ((with_reducible refine Below.alloc ?_ ?_ _); rotate_left 1; (focus (first | omega | (simp; done) | (simp; omega)))) | (with_reducible refine Below.drew ?_) | ((with_reducible refine Below.setCell ?_ ?_ _); rotate_left 1; (focus (first | omega | (simp; done) | (simp; omega)))))); exact HB.out))
   replace HOB : Hid (BrkK w5 (0) (w.heap.size) (⟨E, R, H, A1, A2, ce, cr, ch, c1, c2⟩) (⟨width, es, rs, hs⟩)) := by rw [Hid, hw]; (repeat (first | (with_reducible refine BrkK.alloc ?_ _) | (with_reducible refine BrkK.drew ?_) | ((with_reducible refine BrkK.setCell ?_ ?_ _); rotate_left 1; (focus (first | omega | (simp; done) | (simp; omega)))))); exact HOB.out
   replace HXb : Hid (NewBox w5 (w.heap.size) [.int .i64 width, .slice E ne ce, .slice R nr cr, .slice H nh ch, .int .i64 h.size, .slice A1 m1 c1, .int .i64 h.taken, .slice A2 m2 c2, .int .i64 h.num, .int .i64 h.size, .string h.root, .int .i64 h.taken, .string h.troot]) := by rw [Hid, hw]; (repeat (first | (with_reducible refine NewBox.alloc ?_ _) | (with_reducible refine NewBox.drew ?_) | ((with_reducible refine NewBox.setCell ?_ ?_ _); rotate_left 1; (focus (first | omega | (simp; done) | (simp; omega)))))); exact HXb.out
   clear hxb hfb hkb
   have hxb := HXb.out.2.1
   have hfb := HXb.out.2.2
   have hkb := HXb.out.1
   replace HXr : Hid (NewBox w5 (w.heap.size + 1) [.string r.reader, .string r.topic, .int .i64 r.index]) := by rw [Hid, hw]; (repeat (first | (with_reducible refine NewBox.alloc ?_ _) | (with_reducible refine NewBox.drew ?_) | ((with_reducible refine NewBox.setCell ?_ ?_ _); rotate_left 1; (focus (first | omega | (simp; done) | (simp; omega)))))); exact HXr.out
   clear hxr hfr hkr
   have hxr := HXr.out.2.1
   have hfr := HXr.out.2.2
   have hkr := HXr.out.1
   replace HXq : Hid (NewBox w5 (w.heap.size + 2) [.int .i64 0, .slice none 0 0, .slice none 0 0, .slice none 0 0, .int .i64 0, .slice none 0 0, .int .i64 0, .slice none 0 0, .int .i64 0, .int .i64 0, .string ⟨#[]⟩, .int .i64 0, .string ⟨#[]⟩]) := by rw [Hid, hw]; apply NewBox.cast; (focus ((repeat (first | (with_reducible apply NewBox.alloc) | (with_reducible apply NewBox.drew) | (with_reducible apply NewBox.set1) | ((with_reducible apply NewBox.far); (focus (first | omega | (simp; done) | (simp; omega)))))); exact HXq.out)); rfl
   clear hxq hfq hkq
   have hxq := HXq.out.2.1
   have hfq := HXq.out.2.2
   have hkq := HXq.out.1
   clear hw
   refine bodyPost_ret (v := .tuple #[.agg #[.int .i64 0, .slice none 0 0, .slice none 0 0, .slice none 0 0, .int .i64 0, .slice none 0 0, .int .i64 0, .slice none 0 0, .int .i64 0, .int .i64 0, .string ⟨#[]⟩, .int .i64 0, .string ⟨#[]⟩], .slice (some ⟨w4.heap.size, 0, none⟩) 0 0, .int .i64 3]) (by simp [results, Try.results78, go_sem, hxq]) rfl ?_
   exact ⟨zeroBk, zeroBm, _, 0, 0, 3, rfl, NextOk.no (by decide) HB.out⟩
end Go.Proofs.Ytoccjgcokffkbaa
namespace Go.Proofs.Ytoccjgcokffkbaa
set_option linter.unusedVariables false
set_option linter.unusedSimpArgs false
open Go.RowKit
/-- what SealMore hands back, where it is right -/
structure SmIs (width z1 : Int) (l1 : List ByteArray) (z2 : Int) (l2 : List ByteArray) (h : Hd) (L T : List ByteArray) (y1 : Int) (p1 : List ByteArray) (y2 : Int) (p2 : List ByteArray) (g : Hd) (most : Int) : Prop where
 a1 : smZ1 width z1 l1 z2 l2 h L T = y1
 a2 : smL1 width z1 l1 z2 l2 h L T = p1
 a3 : smZ2 width z1 l1 z2 l2 h L T = y2
 a4 : smL2 width z1 l1 z2 l2 h L T = p2
 a5 : smH width z1 l1 z2 l2 h L T = g
 a6 : smCode width z1 l1 z2 l2 h L T = 0
 a7 : 0 ≤ smN width z1 l1 z2 l2 h L T ∧ smN width z1 l1 z2 l2 h L T ≤ most
 a8 : sealOk width y1 p1 y2 p2 g = true
 a9 : p1.length ≤ 30 ∧ p2.length ≤ 30 ∧ I64 y1 ∧ I64 y2 ∧ g.bulk ≤ 100
theorem smIs {width z1 z2 : Int} {l1 l2 L T : List ByteArray} {h : Hd} (hq : smOk width z1 l1 z2 l2 h L T = true) :
  SmIs width z1 l1 z2 l2 h L T (z1 + L.length) (smP width z1 l1 L) (z2 + T.length) (smP width z2 l2 T) (nextHd width z1 l1 z2 l2 h L T) ((L.length : Int) + T.length + 36) := by
 obtain ⟨e1, e2, e3, e4, e5, e6⟩ := sm_good hq
 obtain ⟨h1, h2, h3, h4, h5, h6⟩ := smOk_all hq
 obtain ⟨r1, r2, n0, n1⟩ := sealOk_all h1
 obtain ⟨g1, k1, _⟩ := rng_grow r1 h2 h4
 obtain ⟨g2, k2, _⟩ := rng_grow r2 h3 h5
 have hm := made_le hq
 have a1 := rngOk_all r1
 have a2 := rngOk_all r2
 have b1 := rngRoot_size (rngOk_all g1).2.2.2.2 (rngOk_all g1).2.2.2.1
 have b2 := rngRoot_size (rngOk_all g2).2.2.2.2 (rngOk_all g2).2.2.2.1
 have hw := inR_true.1 a1.2.2.2.2
 refine ⟨e1, e2, e3, e4, e5, ?_, ⟨by rw [e6]; exact Int.natCast_nonneg _, by rw [e6]; omega⟩, seal_next hq, by omega, by omega, ⟨by omega, by omega⟩, ⟨by omega, by omega⟩, ?_⟩
 ·have hf : smFit z1 z2 h L.length T.length = true := by rw [smOk, Bool.and_eq_true] at hq; exact hq.2
  rw [smCode, h1, h2, h3, hf, if_neg (by decide), if_neg (by decide), if_neg (by decide), if_neg (by decide)]
 ·show (rngRoot _ _).size + (rngRoot _ _).size ≤ 100
  omega
end Go.Proofs.Ytoccjgcokffkbaa
namespace Go.Proofs.Ytoccjgcokffkbaa
set_option linter.unusedVariables false
set_option linter.unusedSimpArgs false
open Go.RowKit
/-- what SealMore hands back of a right broker -/
theorem BrkParts.smIs {width : Int} {es : List Ent} {rs : List Rcp} {hs : List Hd} (h : BrkParts width es rs hs) (hl : hs.length < 400) :
  smZ1 width (lastHd hs).size (pk1 width es hs) (lastHd hs).taken (pk2 width rs hs) (lastHd hs) (leavesM width (es.drop (lastHd hs).size.toNat)) (takenM width (rs.drop (lastHd hs).taken.toNat)) = (nxHd width es rs hs).size ∧
  smL1 width (lastHd hs).size (pk1 width es hs) (lastHd hs).taken (pk2 width rs hs) (lastHd hs) (leavesM width (es.drop (lastHd hs).size.toNat)) (takenM width (rs.drop (lastHd hs).taken.toNat)) = pk1 width es (hs ++ [nxHd width es rs hs]) ∧
  smZ2 width (lastHd hs).size (pk1 width es hs) (lastHd hs).taken (pk2 width rs hs) (lastHd hs) (leavesM width (es.drop (lastHd hs).size.toNat)) (takenM width (rs.drop (lastHd hs).taken.toNat)) = (nxHd width es rs hs).taken ∧
  smL2 width (lastHd hs).size (pk1 width es hs) (lastHd hs).taken (pk2 width rs hs) (lastHd hs) (leavesM width (es.drop (lastHd hs).size.toNat)) (takenM width (rs.drop (lastHd hs).taken.toNat)) = pk2 width rs (hs ++ [nxHd width es rs hs]) ∧
  smH width (lastHd hs).size (pk1 width es hs) (lastHd hs).taken (pk2 width rs hs) (lastHd hs) (leavesM width (es.drop (lastHd hs).size.toNat)) (takenM width (rs.drop (lastHd hs).taken.toNat)) = nxHd width es rs hs ∧
  smCode width (lastHd hs).size (pk1 width es hs) (lastHd hs).taken (pk2 width rs hs) (lastHd hs) (leavesM width (es.drop (lastHd hs).size.toNat)) (takenM width (rs.drop (lastHd hs).taken.toNat)) = 0 := by
 obtain ⟨s1, s2, s3, s4⟩ := h.sm hl
 have k := Go.Proofs.Ytoccjgcokffkbaa.smIs s1
 obtain ⟨b1, b2, b3, b4, b5, b6, b7⟩ := h.last
 obtain ⟨p1, p2⟩ := pk_next h
 refine ⟨?_, ?_, ?_, ?_, ?_, k.a6⟩
 ·rw [k.a1, leavesM_len, List.length_drop]; show _ = (es.length : Int); omega
 ·rw [k.a2, s2, p1]
 ·rw [k.a3, takenM_len, List.length_drop]; show _ = (rs.length : Int); omega
 ·rw [k.a4, s3, p2]
 ·rw [k.a5, s4]
set_option maxRecDepth 100000 in
set_option maxHeartbeats 20000000 in
theorem l12SealP_c (width : Int) (E R H A1 A2 : Option Addr) (ne nr nh ce cr ch c1 c2 m1 m2 : Nat) (es : List Ent) (rs : List Rcp) (hs : List Hd) (l1 l2 : List ByteArray) (h : Hd) (lo hi : Nat) (w : World) (hk : BrkK w lo hi ⟨E, R, H, A1, A2, ce, cr, ch, c1, c2⟩ ⟨width, es, rs, hs⟩) (hne : es.length = ne) (hnr : rs.length = nr) (hnh : hs.length = nh) (hl1 : pk1 width es hs = l1) (hl2 : pk2 width rs hs = l2) (hm1 : l1.length = m1) (hm2 : l2.length = m2) (hh : lastHd hs = h) :
  Calls Try.prog 77 #[.agg #[.int .i64 width, .slice E ne ce, .slice R nr cr, .slice H nh ch, .int .i64 h.size, .slice A1 m1 c1, .int .i64 h.taken, .slice A2 m2 c2, .int .i64 h.num, .int .i64 h.size, .string h.root, .int .i64 h.taken, .string h.troot]] w fun e w' => ∃ (a' : Bk) (m' : Bm) (L : Option Addr) (q g : Nat) (code : Int), e = .returned (.tuple #[.agg #[.int .i64 m'.width, .slice a'.E m'.es.length a'.ce, .slice a'.R m'.rs.length a'.cr, .slice a'.H m'.hs.length a'.ch, .int .i64 (lastHd m'.hs).size, .slice a'.A1 (pk1 m'.width m'.es m'.hs).length a'.c1, .int .i64 (lastHd m'.hs).taken, .slice a'.A2 (pk2 m'.width m'.rs m'.hs).length a'.c2, .int .i64 (lastHd m'.hs).num, .int .i64 (lastHd m'.hs).size, .string (lastHd m'.hs).root, .int .i64 (lastHd m'.hs).taken, .string (lastHd m'.hs).troot], .slice L q g, .int .i64 code]) ∧ NextOk w w' ⟨width, es, rs, hs⟩ a' m' code := by
 obtain ⟨f1, f2, f3, g1, g2, g3, g4, f4, g5, g6, g7⟩ := parts_fits hk.ok
 have hlast := hk.ok.last
 have hpos := hk.ok.pos
 dsimp only at f1 f2 f3 g1 g2 g3 g4 f4 g5 g6 g7 hlast hpos
 rw [hne] at g1 hlast
 rw [hnr] at g2 hlast
 rw [hnh] at g3 g4 hpos
 rw [hh] at f4 g5 hlast
 rw [hl1, hm1] at g6
 rw [hl2, hm2] at g7
 have HLA := Lib.hid (fun W (rr : BrkK W 0 W.heap.size ⟨E, R, H, A1, A2, ce, cr, ch, c1, c2⟩ ⟨width, es, rs, hs⟩) => l12Last_c width h.size h.taken E R H A1 A2 ne nr nh ce cr ch c1 c2 0 W.heap.size m1 m2 hs h W rr.rH hnh (by omega) (by omega))
 rw [hh] at HLA
 have kE := hk.kE
 have kR := hk.kR
 have hok : BrkParts width es rs hs := hk.ok
 have HOK := Lib.hid hok
 have HN1 := Lib.hid (show A1 = none → c1 = 0 from hk.n1)
 have HN2 := Lib.hid (show A2 = none → c2 = 0 from hk.n2)
 clear hok
 have HNR := Lib.hid hnr
 have HNH := Lib.hid hnh
 have HNE := Lib.hid hne
 have HHH := Lib.hid hh
 have HFE := Lib.hid f1
 have HFR := Lib.hid f2
 have HFH := Lib.hid f3
 have HQ1 := Lib.hid hl1
 have HQ2 := Lib.hid hl2
 have HM1 := Lib.hid hm1
 have HM2 := Lib.hid hm2
 have HF4 := Lib.hid f4
 have kE2 : ne ≤ ce := by have h7 := hk.kE; dsimp only at h7; omega
 have kR2 : nr ≤ cr := by have h7 := hk.kR; dsimp only at h7; omega
 clear kE kR
 have HB : Hid (Below w.heap.size w w) := Below.refl _ _
 have HOB : Hid (BrkK w (0) (w.heap.size) (⟨E, R, H, A1, A2, ce, cr, ch, c1, c2⟩) (⟨width, es, rs, hs⟩)) := Lib.hid hk.base
 clear hk f1 f2 f3 f4 hne hnr hnh hl1 hl2 hm1 hm2 hh
 go_enter Try.func77, Try.ntmps77
 go_wp2_with fail
 refine calls_named (fun w1 hw => ?_)
 have hz1 : w.heap.size + 2 ≤ w1.heap.size := by rw [hw]; first | omega | (simp [World.setCell]; done) | (simp [World.setCell]; omega)
 have hzz1 : w.heap.size ≤ w1.heap.size := by omega
 have hbn : Below w.heap.size w w1 := by rw [hw]; exact (by ((repeat (first | ((with_reducible refine Below.alloc ?_ ?_ _); rotate_left 1; (focus (first | omega | (simp; done) | (simp; omega)))) | (with_reducible refine Below.drew ?_) | ((with_reducible refine Below.setCell ?_ ?_ _); rotate_left 1; (focus (first | omega | (simp; done) | (simp; omega)))))); exact Below.refl _ _))
 replace HB := Lib.hid (below_then HB.out hbn HB.out.size)
 replace HOB := Lib.hid (HOB.out.below hbn)
 clear hbn
 have HXb : Hid (NewBox w1 (w.heap.size) [.int .i64 width, .slice E ne ce, .slice R nr cr, .slice H nh ch, .int .i64 h.size, .slice A1 m1 c1, .int .i64 h.taken, .slice A2 m2 c2, .int .i64 h.num, .int .i64 h.size, .string h.root, .int .i64 h.taken, .string h.troot]) := by rw [Hid, hw]; exact ⟨by first | omega | (simp [World.setCell]; done) | (simp [World.setCell]; omega), fun o => by rcases o with _ | _ | _ | _ | _ | _ | _ | _ | _ | _ | _ | _ | _ | o <;> go_simp, fun o => by go_simp⟩
 have hxb := HXb.out.2.1
 have hfb := HXb.out.2.2
 have hkb := HXb.out.1
 have HXq : Hid (NewBox w1 (w.heap.size + 1) [.int .i64 0, .slice none 0 0, .slice none 0 0, .slice none 0 0, .int .i64 0, .slice none 0 0, .int .i64 0, .slice none 0 0, .int .i64 0, .int .i64 0, .string ⟨#[]⟩, .int .i64 0, .string ⟨#[]⟩]) := by rw [Hid, hw]; exact ⟨by first | omega | (simp [World.setCell]; done) | (simp [World.setCell]; omega), fun o => by rcases o with _ | _ | _ | _ | _ | _ | _ | _ | _ | _ | _ | _ | _ | o <;> go_simp, fun o => by go_simp⟩
 have hxq := HXq.out.2.1
 have hfq := HXq.out.2.2
 have hkq := HXq.out.1
 clear hw
 refine (HLA.out _ HOB.out.base).mono ?_
 rintro e w2 ⟨rfl, hb⟩
 have hzw2 : w1.heap.size ≤ w2.heap.size := hb.size
 have hzzw2 : w.heap.size ≤ w2.heap.size := by omega
 replace HB := Lib.hid (below_then HB.out hb HB.out.size)
 replace HOB := Lib.hid (HOB.out.below hb)
 replace HXb := Lib.hid (HXb.out.below hb)
 clear hxb hfb hkb
 have hxb := HXb.out.2.1
 have hfb := HXb.out.2.2
 have hkb := HXb.out.1
 replace HXq := Lib.hid (HXq.out.below hb)
 clear hxq hfq hkq
 have hxq := HXq.out.2.1
 have hfq := HXq.out.2.2
 have hkq := HXq.out.1
 clear hb
 clear HLA
 by_cases hno : h.size = (ne : Int) ∧ h.taken = (nr : Int)
 ·have hd1 : (h.size == (ne : Int)) = true := beq_iff_eq.2 hno.1
  have hd2 : (h.taken == (nr : Int)) = true := beq_iff_eq.2 hno.2
  clear hno
  go_wp2
  refine bodyPost_named (fun w3 hw => ?_)
  have hz3 : w2.heap.size + 1 ≤ w3.heap.size := by rw [hw]; first | omega | (simp [World.setCell]; done) | (simp [World.setCell]; omega)
  have hzz3 : w.heap.size ≤ w3.heap.size := by omega
  replace HB : Hid (Below w.heap.size w w3) := by rw [Hid, hw]; exact (by ((repeat (first | ((with_reducible refine Below.alloc ?_ ?_ _); rotate_left 1; (focus (first | omega | (simp; done) | (simp; omega)))) | (with_reducible refine Below.drew ?_) | ((with_reducible refine Below.setCell ?_ ?_ _); rotate_left 1; (focus (first | omega | (simp; done) | (simp; omega)))))); exact HB.out))
  replace HOB : Hid (BrkK w3 (0) (w.heap.size) (⟨E, R, H, A1, A2, ce, cr, ch, c1, c2⟩) (⟨width, es, rs, hs⟩)) := by rw [Hid, hw]; (repeat (first | (with_reducible refine BrkK.alloc ?_ _) | (with_reducible refine BrkK.drew ?_) | ((with_reducible refine BrkK.setCell ?_ ?_ _); rotate_left 1; (focus (first | omega | (simp; done) | (simp; omega)))))); exact HOB.out
  replace HXb : Hid (NewBox w3 (w.heap.size) [.int .i64 width, .slice E ne ce, .slice R nr cr, .slice H nh ch, .int .i64 h.size, .slice A1 m1 c1, .int .i64 h.taken, .slice A2 m2 c2, .int .i64 h.num, .int .i64 h.size, .string h.root, .int .i64 h.taken, .string h.troot]) := by rw [Hid, hw]; (repeat (first | (with_reducible refine NewBox.alloc ?_ _) | (with_reducible refine NewBox.drew ?_) | ((with_reducible refine NewBox.setCell ?_ ?_ _); rotate_left 1; (focus (first | omega | (simp; done) | (simp; omega)))))); exact HXb.out
  clear hxb hfb hkb
  have hxb := HXb.out.2.1
  have hfb := HXb.out.2.2
  have hkb := HXb.out.1
  replace HXq : Hid (NewBox w3 (w.heap.size + 1) [.int .i64 0, .slice none 0 0, .slice none 0 0, .slice none 0 0, .int .i64 0, .slice none 0 0, .int .i64 0, .slice none 0 0, .int .i64 0, .int .i64 0, .string ⟨#[]⟩, .int .i64 0, .string ⟨#[]⟩]) := by rw [Hid, hw]; apply NewBox.cast; (focus ((repeat (first | (with_reducible apply NewBox.alloc) | (with_reducible apply NewBox.drew) | (with_reducible apply NewBox.set1) | ((with_reducible apply NewBox.far); (focus (first | omega | (simp; done) | (simp; omega)))))); exact HXq.out)); rfl
  clear hxq hfq hkq
  have hxq := HXq.out.2.1
  have hfq := HXq.out.2.2
  have hkq := HXq.out.1
  have HXx : Hid (NewBox w3 (w2.heap.size) [.int .i64 h.num, .int .i64 h.size, .string h.root, .int .i64 h.taken, .string h.troot]) := by rw [Hid, hw]; exact ⟨by first | omega | (simp [World.setCell]; done) | (simp [World.setCell]; omega), fun o => by rcases o with _ | _ | _ | _ | _ | o <;> go_simp, fun o => by go_simp⟩
  have hxx := HXx.out.2.1
  have hfx := HXx.out.2.2
  have hkx := HXx.out.1
  clear hw
  refine bodyPost_ret (v := .tuple #[.agg #[.int .i64 0, .slice none 0 0, .slice none 0 0, .slice none 0 0, .int .i64 0, .slice none 0 0, .int .i64 0, .slice none 0 0, .int .i64 0, .int .i64 0, .string ⟨#[]⟩, .int .i64 0, .string ⟨#[]⟩], .slice (some ⟨w2.heap.size + 1, 0, none⟩) 0 0, .int .i64 2]) (by simp [results, Try.results77, go_sem, hxq]) rfl ?_
  exact ⟨zeroBk, zeroBm, _, 0, 0, 2, rfl, NextOk.no (by decide) HB.out⟩
 ·go_upto_region 2 with fail
  refine wp_named (fun w3 hw => ?_)
  have hz3 : w2.heap.size + 1 ≤ w3.heap.size := by rw [hw]; first | omega | (simp [World.setCell]; done) | (simp [World.setCell]; omega)
  have hzz3 : w.heap.size ≤ w3.heap.size := by omega
  have hbn : Below w2.heap.size w2 w3 := by rw [hw]; exact (by ((repeat (first | ((with_reducible refine Below.alloc ?_ ?_ _); rotate_left 1; (focus (first | omega | (simp; done) | (simp; omega)))) | (with_reducible refine Below.drew ?_) | ((with_reducible refine Below.setCell ?_ ?_ _); rotate_left 1; (focus (first | omega | (simp; done) | (simp; omega)))))); exact Below.refl _ _))
  replace HB := Lib.hid (below_then HB.out hbn HB.out.size)
  replace HOB := Lib.hid (HOB.out.below hbn)
  replace HXb := Lib.hid (HXb.out.below hbn)
  clear hxb hfb hkb
  have hxb := HXb.out.2.1
  have hfb := HXb.out.2.2
  have hkb := HXb.out.1
  replace HXq := Lib.hid (HXq.out.below hbn)
  clear hxq hfq hkq
  have hxq := HXq.out.2.1
  have hfq := HXq.out.2.2
  have hkq := HXq.out.1
  clear hbn
  have HXx : Hid (NewBox w3 (w2.heap.size) [.int .i64 h.num, .int .i64 h.size, .string h.root, .int .i64 h.taken, .string h.troot]) := by rw [Hid, hw]; exact ⟨by first | omega | (simp [World.setCell]; done) | (simp [World.setCell]; omega), fun o => by rcases o with _ | _ | _ | _ | _ | o <;> go_simp, fun o => by go_simp⟩
  have hxx := HXx.out.2.1
  have hfx := HXx.out.2.2
  have hkx := HXx.out.1
  clear hw
  go_cut [28] (fun v wx => v = .bool false ∧ w3 = wx)
  case first =>
   by_cases h1 : h.size = (ne : Int)
   ·have hd1 : (h.size == (ne : Int)) = true := beq_iff_eq.2 h1
    have hd2 : (h.taken == (nr : Int)) = false := beq_eq_false_iff_ne.2 (fun e => hno ⟨h1, e⟩)
    clear hno h1
    go_wp2_with fail
    go_meet
    exact ⟨rfl, rfl⟩
   ·have hd1 : (h.size == (ne : Int)) = false := beq_eq_false_iff_ne.2 h1
    clear hno h1
    go_wp2_with fail
    go_meet
    exact ⟨rfl, rfl⟩
  case rest =>
   obtain ⟨rfl, hwc⟩ := hcut
   subst hwc
   clear hno
   by_cases h4 : nh = 400
   ·have hd1 : ((nh : Int) == 400) = true := beq_iff_eq.2 (by omega)
    clear h4
    go_wp2
    refine bodyPost_named (fun w4 hw => ?_)
    have hz4 : w3.heap.size + 0 ≤ w4.heap.size := by rw [hw]; first | omega | (simp [World.setCell]; done) | (simp [World.setCell]; omega)
    have hzz4 : w.heap.size ≤ w4.heap.size := by omega
    replace HB : Hid (Below w.heap.size w w4) := by rw [Hid, hw]; exact (by ((repeat (first | ((with_reducible refine Below.alloc ?_ ?_ _); rotate_left 1; (focus (first | omega | (simp; done) | (simp; omega)))) | (with_reducible refine Below.drew ?_) | ((with_reducible refine Below.setCell ?_ ?_ _); rotate_left 1; (focus (first | omega | (simp; done) | (simp; omega)))))); exact HB.out))
    replace HOB : Hid (BrkK w4 (0) (w.heap.size) (⟨E, R, H, A1, A2, ce, cr, ch, c1, c2⟩) (⟨width, es, rs, hs⟩)) := by rw [Hid, hw]; (repeat (first | (with_reducible refine BrkK.alloc ?_ _) | (with_reducible refine BrkK.drew ?_) | ((with_reducible refine BrkK.setCell ?_ ?_ _); rotate_left 1; (focus (first | omega | (simp; done) | (simp; omega)))))); exact HOB.out
    replace HXb : Hid (NewBox w4 (w.heap.size) [.int .i64 width, .slice E ne ce, .slice R nr cr, .slice H nh ch, .int .i64 h.size, .slice A1 m1 c1, .int .i64 h.taken, .slice A2 m2 c2, .int .i64 h.num, .int .i64 h.size, .string h.root, .int .i64 h.taken, .string h.troot]) := by rw [Hid, hw]; (repeat (first | (with_reducible refine NewBox.alloc ?_ _) | (with_reducible refine NewBox.drew ?_) | ((with_reducible refine NewBox.setCell ?_ ?_ _); rotate_left 1; (focus (first | omega | (simp; done) | (simp; omega)))))); exact HXb.out
    clear hxb hfb hkb
    have hxb := HXb.out.2.1
    have hfb := HXb.out.2.2
    have hkb := HXb.out.1
    replace HXq : Hid (NewBox w4 (w.heap.size + 1) [.int .i64 0, .slice none 0 0, .slice none 0 0, .slice none 0 0, .int .i64 0, .slice none 0 0, .int .i64 0, .slice none 0 0, .int .i64 0, .int .i64 0, .string ⟨#[]⟩, .int .i64 0, .string ⟨#[]⟩]) := by rw [Hid, hw]; apply NewBox.cast; (focus ((repeat (first | (with_reducible apply NewBox.alloc) | (with_reducible apply NewBox.drew) | (with_reducible apply NewBox.set1) | ((with_reducible apply NewBox.far); (focus (first | omega | (simp; done) | (simp; omega)))))); exact HXq.out)); rfl
    clear hxq hfq hkq
    have hxq := HXq.out.2.1
    have hfq := HXq.out.2.2
    have hkq := HXq.out.1
    replace HXx : Hid (NewBox w4 (w2.heap.size) [.int .i64 h.num, .int .i64 h.size, .string h.root, .int .i64 h.taken, .string h.troot]) := by rw [Hid, hw]; (repeat (first | (with_reducible refine NewBox.alloc ?_ _) | (with_reducible refine NewBox.drew ?_) | ((with_reducible refine NewBox.setCell ?_ ?_ _); rotate_left 1; (focus (first | omega | (simp; done) | (simp; omega)))))); exact HXx.out
    clear hxx hfx hkx
    have hxx := HXx.out.2.1
    have hfx := HXx.out.2.2
    have hkx := HXx.out.1
    clear hw
    refine bodyPost_ret (v := .tuple #[.agg #[.int .i64 0, .slice none 0 0, .slice none 0 0, .slice none 0 0, .int .i64 0, .slice none 0 0, .int .i64 0, .slice none 0 0, .int .i64 0, .int .i64 0, .string ⟨#[]⟩, .int .i64 0, .string ⟨#[]⟩], .slice (some ⟨w3.heap.size, 0, none⟩) 0 0, .int .i64 3]) (by simp [results, Try.results77, go_sem, hxq]) rfl ?_
    exact ⟨zeroBk, zeroBm, _, 0, 0, 3, rfl, NextOk.no (by decide) HB.out⟩
   ·have hd1 : ((nh : Int) == 400) = false := beq_eq_false_iff_ne.2 (by omega)
    have h4l : nh < 400 := by omega
    clear h4
    obtain ⟨lo6, hlo6, hlo6'⟩ : ∃ n, n ≤ w3.heap.size ∧ w3.heap.size ≤ n := ⟨_, Nat.le_refl _, Nat.le_refl _⟩
    obtain ⟨sz, hsz⟩ : ∃ n : Nat, h.size = n := ⟨h.size.toNat, by omega⟩
    obtain ⟨tk, htk⟩ : ∃ n : Nat, h.taken = n := ⟨h.taken.toNat, by omega⟩
    have hnx := HOK.out.seal_ (by rw [HNH.out]; omega)
    obtain ⟨s1, s2, s3, s4, s5, s6⟩ := HOK.out.smIs (by rw [HNH.out]; omega)
    rw [HHH.out, HQ1.out, HQ2.out] at s1 s2 s3 s4 s5 s6
    obtain ⟨_, _, _, _, _, _, _, hxf, hxb, hp1l, hp2l⟩ := parts_fits hnx
    rw [lastHd_snoc] at hxf hxb
    have t1 : h.size.toNat = sz := by omega
    have t2 : h.taken.toNat = tk := by omega
    rw [t1, t2] at s1 s2 s3 s4 s5 s6
    generalize nxHd width es rs hs = x at *
    have HP1 : Hid (pk1 width es (hs ++ [x]) = pk1 width es (hs ++ [x])) := Lib.hid rfl
    have HP2 : Hid (pk2 width rs (hs ++ [x]) = pk2 width rs (hs ++ [x])) := Lib.hid rfl
    generalize hp1 : pk1 width es (hs ++ [x]) = p1 at s1 s2 s3 s4 s5 s6 hp1l HP1
    generalize hp2 : pk2 width rs (hs ++ [x]) = p2 at s1 s2 s3 s4 s5 s6 hp2l HP2
    have HHS := Lib.hid (fun W (rr : BrkK W 0 W.heap.size ⟨E, R, H, A1, A2, ce, cr, ch, c1, c2⟩ ⟨width, es, rs, hs⟩) => l09Hashes_c width (cutX 5 E sz ce) (ce - sz) 0 W.heap.size (ne - sz) (es.drop sz) W (sufE_rd rr.rE sz ce (by rw [HNE.out]; omega)) (by rw [List.length_drop, HNE.out]) (by omega) (fun y hy => HFE.out y (List.mem_of_mem_drop hy)))
    have HHT := Lib.hid (fun W (rr : BrkK W 0 W.heap.size ⟨E, R, H, A1, A2, ce, cr, ch, c1, c2⟩ ⟨width, es, rs, hs⟩) => l12Taken_c width (cutX 3 R tk cr) (cr - tk) 0 W.heap.size (nr - tk) (rs.drop tk) W (sufR_rd rr.rR tk cr (by rw [HNR.out]; omega)) (by rw [List.length_drop, HNR.out]) (by omega) (fun y hy => HFR.out y (List.mem_of_mem_drop hy)))
    have HSM := fun W A5 c5 A6 c6 (rr : BrkK W 0 W.heap.size ⟨E, R, H, A1, A2, ce, cr, ch, c1, c2⟩ ⟨width, es, rs, hs⟩) r3 r4 => specSealMore_c width h.size h.taken A1 A2 c1 c2 0 W.heap.size 0 W.heap.size m1 m2 l1 l2 h A5 A6 c5 c6 0 W.heap.size 0 W.heap.size (ne - sz) (nr - tk) (leavesM width (es.drop sz)) (takenM width (rs.drop tk)) W (HQ1.out ▸ rr.r1) (HQ2.out ▸ rr.r2) r3 r4 HM1.out HM2.out (by rw [leavesM_len, List.length_drop, HNE.out]) (by rw [takenM_len, List.length_drop, HNR.out]) (by omega) (by omega) (by omega) (by omega) HN1.out HN2.out (by constructor <;> omega) (by constructor <;> omega) (by omega)
    rw [s1, s2, s3, s4, s5, s6] at HSM
    generalize smN width h.size l1 h.taken l2 h (leavesM width (es.drop sz)) (takenM width (rs.drop tk)) = nn at *
    have hs1 := fun W => sufXE E ne ce sz (by omega) kE2 W
    have hs2 := fun W => sufXR R nr cr tk (by omega) kR2 W
    rw [← hsz] at hs1
    rw [← htk] at hs2
    change Hid (∀ W (rr : BrkK W 0 W.heap.size ⟨E, R, H, A1, A2, ce, cr, ch, c1, c2⟩ ⟨width, es, rs, hs⟩), Calls _ _ _ W fun e w' => ∃ A' c', e = .returned (.slice A' (ne - sz) c') ∧ w'.ownsRow W.heap.size 9 1 (.slice A' (ne - sz) c') (ne - sz) (strs (leavesM width (es.drop sz))) ∧ Below W.heap.size W w') at HHS
    change Hid (∀ W (rr : BrkK W 0 W.heap.size ⟨E, R, H, A1, A2, ce, cr, ch, c1, c2⟩ ⟨width, es, rs, hs⟩), Calls _ _ _ W fun e w' => ∃ A' c', e = .returned (.slice A' (nr - tk) c') ∧ w'.ownsRow W.heap.size 9 1 (.slice A' (nr - tk) c') (nr - tk) (strs (takenM width (rs.drop tk))) ∧ Below W.heap.size W w') at HHT
    replace HSM := Lib.hid HSM
    have HCP := Lib.hid (fun W (r : BrkK W 0 W.heap.size ⟨E, R, H, A1, A2, ce, cr, ch, c1, c2⟩ ⟨width, es, rs, hs⟩) => l12CopyP_c width h.size h.taken E R H A1 A2 ne nr nh ce cr ch c1 c2 m1 m2 es rs hs l1 l2 h W r.rE r.rR r.rH (HQ1.out ▸ r.r1) (HQ2.out ▸ r.r2) HNE.out HNR.out HNH.out HM1.out HM2.out (by omega) (by omega) (by omega) (by omega) (by omega) r.nE r.nR r.nH r.n1 r.n2)
    have HWR := Lib.hid (fun W (r : BrkK W 0 W.heap.size ⟨E, R, H, A1, A2, ce, cr, ch, c1, c2⟩ ⟨width, es, rs, hs⟩) s hs2 => l12WriteP_c width E R H A1 A2 ne nr nh ce cr ch c1 c2 m1 m2 es rs hs l1 l2 h 0 W.heap.size 1 s W r HNE.out HNR.out HNH.out HQ1.out HQ2.out HM1.out HM2.out HHH.out (by omega) hs2)
    have HTX := Lib.hid (fun W => specHeadText_c width x W (by omega))
    have hts := headTextM_size width x
    have hbl : (⟨es, rs, hs, l1, l2⟩ : Bl) = Bm.bl ⟨width, es, rs, hs⟩ := by show _ = Bl.mk es rs hs _ _; rw [HQ1.out, HQ2.out]
    have HBL := Lib.hid hbl
    have HNX := Lib.hid hnx
    have HE1 := Lib.hid hp1
    have HE2 := Lib.hid hp2
    clear hbl hnx hp1 hp2 s1 s2 s3 s4 s5 s6 hsz htk t1 t2 hxf HP1 HP2 HFE HFR HFH HN1 HN2 HM1 HM2 HF4
    generalize headTextM width x = tx at *
    generalize headOk width x = ok at *
    generalize leavesM width (es.drop sz) = L at *
    generalize takenM width (rs.drop tk) = T at *
    generalize cutX 5 E sz ce = E5 at *
    generalize cutX 3 R tk cr = R5 at *
    generalize ne - sz = k5 at *
    generalize nr - tk = k6 at *
    generalize ce - sz = g5 at *
    generalize cr - tk = g6 at *
    go_wp2_with fail
    refine wp_named (fun w4 hw => ?_)
    have hz4 : w3.heap.size + 0 ≤ w4.heap.size := by rw [hw]; first | omega | (simp [World.setCell]; done) | (simp [World.setCell]; omega)
    have hzz4 : w.heap.size ≤ w4.heap.size := by omega
    have hbn : Below w3.heap.size w3 w4 := by rw [hw]; exact (by ((repeat (first | ((with_reducible refine Below.alloc ?_ ?_ _); rotate_left 1; (focus (first | omega | (simp; done) | (simp; omega)))) | (with_reducible refine Below.drew ?_) | ((with_reducible refine Below.setCell ?_ ?_ _); rotate_left 1; (focus (first | omega | (simp; done) | (simp; omega)))))); exact Below.refl _ _))
    replace HB := Lib.hid (below_then HB.out hbn HB.out.size)
    replace HOB := Lib.hid (HOB.out.below hbn)
    replace HXb := Lib.hid (HXb.out.below hbn)
    clear hxb hfb hkb
    have hxb := HXb.out.2.1
    have hfb := HXb.out.2.2
    have hkb := HXb.out.1
    replace HXq := Lib.hid (HXq.out.below hbn)
    clear hxq hfq hkq
    have hxq := HXq.out.2.1
    have hfq := HXq.out.2.2
    have hkq := HXq.out.1
    replace HXx := Lib.hid (HXx.out.below hbn)
    clear hxx hfx hkx
    have hxx := HXx.out.2.1
    have hfx := HXx.out.2.2
    have hkx := HXx.out.1
    clear hbn
    clear hw
    obtain ⟨F, HF⟩ : ∃ F : Facts, Hid (F = fun iq xq tqs dsq uq => match iq with
     | 0 => xq.v = .pointer (some ⟨(w.heap.size), 0, none⟩)
     | 1 => xq.v = .int .i64 width
     | 2 => xq.v = .pointer (some ⟨(w.heap.size), 4, none⟩)
     | 3 => xq.v = .agg #[.int .i64 h.size, .slice A1 m1 c1, .int .i64 h.taken, .slice A2 m2 c2, .int .i64 h.num, .int .i64 h.size, .string h.root, .int .i64 h.taken, .string h.troot]
     | 4 => xq.v = .pointer (some ⟨(w.heap.size), 0, none⟩)
     | 5 => xq.v = .int .i64 width
     | 6 => xq.v = .pointer (some ⟨(w.heap.size), 1, none⟩)
     | 7 => xq.v = .pointer (some ⟨(w.heap.size), 1, none⟩)
     | 8 => xq.v = .slice E ne ce
     | 9 => xq.v = .pointer (some ⟨(w2.heap.size), 1, none⟩)
     | 10 => xq.v = .int .i64 h.size
     | 11 => xq.v = .slice E5 k5 g5
     | 12 => ∃ (A5 : Option Addr) (c5 : Nat), xq.v = .slice A5 k5 c5 ∧ (Own uq xq.s xq.e A5 (strs L))
     | 13 => xq.v = .pointer (some ⟨(w.heap.size), 0, none⟩)
     | 14 => xq.v = .int .i64 width
     | 15 => xq.v = .pointer (some ⟨(w.heap.size), 2, none⟩)
     | 16 => xq.v = .slice R nr cr
     | 17 => xq.v = .pointer (some ⟨(w2.heap.size), 3, none⟩)
     | 18 => xq.v = .int .i64 h.taken
     | 19 => xq.v = .slice R5 k6 g6
     | 20 => ∃ (A6 : Option Addr) (c6 : Nat), xq.v = .slice A6 k6 c6 ∧ (Own uq xq.s xq.e A6 (strs T))
     | 21 => ∃ (B1 : Option Addr) (d1 : Nat) (B2 : Option Addr) (d2 : Nat), xq.v = .tuple #[.agg #[.int .i64 x.size, .slice B1 p1.length d1, .int .i64 x.taken, .slice B2 p2.length d2, .int .i64 x.num, .int .i64 x.size, .string x.root, .int .i64 x.taken, .string x.troot], .int .i64 nn, .int .i64 0] ∧ (Own uq xq.s xq.e B1 (strs p1)) ∧ (Own uq xq.s xq.e B2 (strs p2)) ∧ ((B1 = none → d1 = 0) ∧ (B2 = none → d2 = 0))
     | 22 => (match tqs, dsq with | [], [yq0] => ∃ (B1 : Option Addr) (d1 : Nat) (B2 : Option Addr) (d2 : Nat), yq0.v = .tuple #[.agg #[.int .i64 x.size, .slice B1 p1.length d1, .int .i64 x.taken, .slice B2 p2.length d2, .int .i64 x.num, .int .i64 x.size, .string x.root, .int .i64 x.taken, .string x.troot], .int .i64 nn, .int .i64 0] ∧ xq.v = .tuple #[.agg #[.int .i64 x.size, .slice B1 p1.length d1, .int .i64 x.taken, .slice B2 p2.length d2, .int .i64 x.num, .int .i64 x.size, .string x.root, .int .i64 x.taken, .string x.troot], .int .i64 nn, .int .i64 0] | _, _ => False)
     | 23 => (match tqs, dsq with | [], [yq0] => ∃ (B1 : Option Addr) (d1 : Nat) (B2 : Option Addr) (d2 : Nat), yq0.v = .tuple #[.agg #[.int .i64 x.size, .slice B1 p1.length d1, .int .i64 x.taken, .slice B2 p2.length d2, .int .i64 x.num, .int .i64 x.size, .string x.root, .int .i64 x.taken, .string x.troot], .int .i64 nn, .int .i64 0] ∧ xq.v = .agg #[.int .i64 x.size, .slice B1 p1.length d1, .int .i64 x.taken, .slice B2 p2.length d2, .int .i64 x.num, .int .i64 x.size, .string x.root, .int .i64 x.taken, .string x.troot] | _, _ => False)
     | 24 => (match tqs, dsq with | [], [yq0] => ∃ (B1 : Option Addr) (d1 : Nat) (B2 : Option Addr) (d2 : Nat), yq0.v = .tuple #[.agg #[.int .i64 x.size, .slice B1 p1.length d1, .int .i64 x.taken, .slice B2 p2.length d2, .int .i64 x.num, .int .i64 x.size, .string x.root, .int .i64 x.taken, .string x.troot], .int .i64 nn, .int .i64 0] ∧ xq.v = .int .i64 nn | _, _ => False)
     | 25 => (match tqs, dsq with | [], [yq0] => ∃ (B1 : Option Addr) (d1 : Nat) (B2 : Option Addr) (d2 : Nat), yq0.v = .tuple #[.agg #[.int .i64 x.size, .slice B1 p1.length d1, .int .i64 x.taken, .slice B2 p2.length d2, .int .i64 x.num, .int .i64 x.size, .string x.root, .int .i64 x.taken, .string x.troot], .int .i64 nn, .int .i64 0] ∧ xq.v = .int .i64 0 | _, _ => False)
     | 26 => xq.v = .pointer (some ⟨xq.s, 0, none⟩) ∧ xq.s < xq.e ∧ NewBox uq xq.s [.int .i64 0, .slice none 0 0, .int .i64 0, .slice none 0 0, .int .i64 0, .int .i64 0, .string ⟨#[]⟩, .int .i64 0, .string ⟨#[]⟩]
     | 27 => (match tqs, dsq with | [tq0], [yq0] => tq0.v = .pointer (some ⟨tq0.s, 0, none⟩) ∧ tq0.s < tq0.e ∧ ∃ (B1 : Option Addr) (d1 : Nat) (B2 : Option Addr) (d2 : Nat), yq0.v = .tuple #[.agg #[.int .i64 x.size, .slice B1 p1.length d1, .int .i64 x.taken, .slice B2 p2.length d2, .int .i64 x.num, .int .i64 x.size, .string x.root, .int .i64 x.taken, .string x.troot], .int .i64 nn, .int .i64 0] ∧ NewBox uq tq0.s [.int .i64 x.size, .slice B1 p1.length d1, .int .i64 x.taken, .slice B2 p2.length d2, .int .i64 x.num, .int .i64 x.size, .string x.root, .int .i64 x.taken, .string x.troot] | _, _ => False)
     | 28 => (match tqs, dsq with | [], [yq0] => ∃ (B1 : Option Addr) (d1 : Nat) (B2 : Option Addr) (d2 : Nat), yq0.v = .tuple #[.agg #[.int .i64 x.size, .slice B1 p1.length d1, .int .i64 x.taken, .slice B2 p2.length d2, .int .i64 x.num, .int .i64 x.size, .string x.root, .int .i64 x.taken, .string x.troot], .int .i64 nn, .int .i64 0] ∧ xq.v = .int .i64 nn | _, _ => False)
     | 29 => (match tqs, dsq with | [], [yq0] => ∃ (B1 : Option Addr) (d1 : Nat) (B2 : Option Addr) (d2 : Nat), yq0.v = .tuple #[.agg #[.int .i64 x.size, .slice B1 p1.length d1, .int .i64 x.taken, .slice B2 p2.length d2, .int .i64 x.num, .int .i64 x.size, .string x.root, .int .i64 x.taken, .string x.troot], .int .i64 nn, .int .i64 0] ∧ xq.v = .int .i64 0 | _, _ => False)
     | _ => False) := ⟨_, rfl⟩
    refine wp_region_facts [[], [], [], [], [], [], [], [], [], [], [], [], [], [], [], [], [], [], [], [], [], [], [21], [21], [21], [21], [], [21], [21], [21]] [[], [], [], [], [], [], [], [], [], [], [], [], [], [], [], [], [], [], [], [], [], [], [], [], [], [], [], [26], [], []] [some 38, some 39, some 40, some 41, some 42, some 43, some 44, some 45, some 46, some 47, some 48, some 49, some 50, some 51, some 52, some 53, some 54, some 55, some 56, some 57, some 58, some 59, some 37, some 60, some 61, some 62, some 6, none, some 7, some 8] none 0 0 (.inl rfl) F (by kernel_rfl) (by kernel_rfl) (by kernel_rfl) ?_ ⟨?_, ?_, ?_, ?_, ?_, ?_, ?_, ?_, ?_, ?_, ?_, ?_, ?_, ?_, ?_, ?_, ?_, ?_, ?_, ?_, ?_, ?_, ?_, ?_, ?_, ?_, ?_, ?_, ?_, ?_, trivial⟩ ?_
    ·rw [HF.out]; intro iq xq tqs dsq uq u' hi hf hs hW hx hbk
     have kx : ∀ b, xq.s ≤ b → b < xq.e → u'.heap[b]? = uq.heap[b]? := fun b h1 h2 => hbk b (.inr (.inl ⟨h1, h2⟩))
     have kt : ∀ t ∈ tqs, ∀ b, t.s ≤ b → b < t.e → u'.heap[b]? = uq.heap[b]? := fun t ht b h1 h2 => hbk b (.inr (.inr ⟨t, ht, h1, h2⟩))
     match iq with
     | 0 => exact hf
     | 1 => exact hf
     | 2 => exact hf
     | 3 => exact hf
     | 4 => exact hf
     | 5 => exact hf
     | 6 => exact hf
     | 7 => exact hf
     | 8 => exact hf
     | 9 => exact hf
     | 10 => exact hf
     | 11 => exact hf
     | 12 => obtain ⟨A5, c5, hv, p0⟩ := hf; exact ⟨A5, c5, hv, p0.keep hs kx⟩
     | 13 => exact hf
     | 14 => exact hf
     | 15 => exact hf
     | 16 => exact hf
     | 17 => exact hf
     | 18 => exact hf
     | 19 => exact hf
     | 20 => obtain ⟨A6, c6, hv, p0⟩ := hf; exact ⟨A6, c6, hv, p0.keep hs kx⟩
     | 21 => obtain ⟨B1, d1, B2, d2, hv, p0, p1, p2⟩ := hf; exact ⟨B1, d1, B2, d2, hv, p0.keep hs kx, p1.keep hs kx, p2⟩
     | 22 => exact hf
     | 23 => exact hf
     | 24 => exact hf
     | 25 => exact hf
     | 26 => exact ⟨hf.1, hf.2.1, hf.2.2.keep hs (kx _ (Nat.le_refl _) hf.2.1)⟩
     | 27 => match tqs, dsq, hf with | [tq0], [yq0], hf => obtain ⟨h1, h2, B1, d1, B2, d2, hvr21, hb⟩ := hf; exact ⟨h1, h2, B1, d1, B2, d2, hvr21, hb.keep hs (kt tq0 List.mem_cons_self _ (Nat.le_refl _) h2)⟩
     | 28 => exact hf
     | 29 => exact hf
    ·intro gh ρ u hc hf1 hg1 hd h0 hb he ha hF
     have r1 : ρ (.tmp 1) = .pointer (some ⟨w.heap.size, 0, none⟩) := (h0 1 (by decide +kernel)).trans rfl
     clear  hd h0 he ha hF
     go_simp
     rw [HF.out]
     exact ⟨OnlyL.refl _ _, rfl⟩
    ·intro gh ρ u hc hf1 hg1 hd h0 hb he ha hF
     replace hb : Below w4.heap.size w4 u := hb.drew.below (by decide +kernel)
     have hbz : w4.heap.size ≤ u.heap.size := hb.size
     have r38 : ρ (.tmp 38) = .pointer (some ⟨(w.heap.size), 0, none⟩) := by have h := hF 0 (by decide +kernel) (by decide +kernel); rw [HF.out] at h; exact (hd 0 (by decide +kernel) 38 (by kernel_rfl)).trans h
     have q_b := (HXb.out.below hb).2.1
     have k_b : w.heap.size < u.heap.size := by have := HXb.out.1; omega
     have q_x := (HXx.out.below hb).2.1
     have k_x : w2.heap.size < u.heap.size := by have := HXx.out.1; omega
     clear  hd h0 he ha hF
     go_simp
     rw [HF.out]
     exact ⟨OnlyL.refl _ _, rfl⟩
    ·intro gh ρ u hc hf1 hg1 hd h0 hb he ha hF
     have r1 : ρ (.tmp 1) = .pointer (some ⟨w.heap.size, 0, none⟩) := (h0 1 (by decide +kernel)).trans rfl
     clear  hd h0 he ha hF
     go_simp
     rw [HF.out]
     exact ⟨OnlyL.refl _ _, rfl⟩
    ·intro gh ρ u hc hf1 hg1 hd h0 hb he ha hF
     replace hb : Below w4.heap.size w4 u := hb.drew.below (by decide +kernel)
     have hbz : w4.heap.size ≤ u.heap.size := hb.size
     have r40 : ρ (.tmp 40) = .pointer (some ⟨(w.heap.size), 4, none⟩) := by have h := hF 2 (by decide +kernel) (by decide +kernel); rw [HF.out] at h; exact (hd 2 (by decide +kernel) 40 (by kernel_rfl)).trans h
     have q_b := (HXb.out.below hb).2.1
     have k_b : w.heap.size < u.heap.size := by have := HXb.out.1; omega
     have q_x := (HXx.out.below hb).2.1
     have k_x : w2.heap.size < u.heap.size := by have := HXx.out.1; omega
     clear  hd h0 he ha hF
     go_simp
     rw [HF.out]
     exact ⟨OnlyL.refl _ _, rfl⟩
    ·intro gh ρ u hc hf1 hg1 hd h0 hb he ha hF
     have r1 : ρ (.tmp 1) = .pointer (some ⟨w.heap.size, 0, none⟩) := (h0 1 (by decide +kernel)).trans rfl
     clear  hd h0 he ha hF
     go_simp
     rw [HF.out]
     exact ⟨OnlyL.refl _ _, rfl⟩
    ·intro gh ρ u hc hf1 hg1 hd h0 hb he ha hF
     replace hb : Below w4.heap.size w4 u := hb.drew.below (by decide +kernel)
     have hbz : w4.heap.size ≤ u.heap.size := hb.size
     have r42 : ρ (.tmp 42) = .pointer (some ⟨(w.heap.size), 0, none⟩) := by have h := hF 4 (by decide +kernel) (by decide +kernel); rw [HF.out] at h; exact (hd 4 (by decide +kernel) 42 (by kernel_rfl)).trans h
     have q_b := (HXb.out.below hb).2.1
     have k_b : w.heap.size < u.heap.size := by have := HXb.out.1; omega
     have q_x := (HXx.out.below hb).2.1
     have k_x : w2.heap.size < u.heap.size := by have := HXx.out.1; omega
     clear  hd h0 he ha hF
     go_simp
     rw [HF.out]
     exact ⟨OnlyL.refl _ _, rfl⟩
    ·intro gh ρ u hc hf1 hg1 hd h0 hb he ha hF
     have r1 : ρ (.tmp 1) = .pointer (some ⟨w.heap.size, 0, none⟩) := (h0 1 (by decide +kernel)).trans rfl
     clear  hd h0 he ha hF
     go_simp
     rw [HF.out]
     exact ⟨OnlyL.refl _ _, rfl⟩
    ·intro gh ρ u hc hf1 hg1 hd h0 hb he ha hF
     have r44 : ρ (.tmp 44) = .pointer (some ⟨(w.heap.size), 1, none⟩) := by have h := hF 6 (by decide +kernel) (by decide +kernel); rw [HF.out] at h; exact (hd 6 (by decide +kernel) 44 (by kernel_rfl)).trans h
     clear  hd h0 he ha hF
     go_simp
     rw [HF.out]
     exact ⟨OnlyL.refl _ _, rfl⟩
    ·intro gh ρ u hc hf1 hg1 hd h0 hb he ha hF
     replace hb : Below w4.heap.size w4 u := hb.drew.below (by decide +kernel)
     have hbz : w4.heap.size ≤ u.heap.size := hb.size
     have r45 : ρ (.tmp 45) = .pointer (some ⟨(w.heap.size), 1, none⟩) := by have h := hF 7 (by decide +kernel) (by decide +kernel); rw [HF.out] at h; exact (hd 7 (by decide +kernel) 45 (by kernel_rfl)).trans h
     have q_b := (HXb.out.below hb).2.1
     have k_b : w.heap.size < u.heap.size := by have := HXb.out.1; omega
     have q_x := (HXx.out.below hb).2.1
     have k_x : w2.heap.size < u.heap.size := by have := HXx.out.1; omega
     clear  hd h0 he ha hF
     go_simp
     rw [HF.out]
     exact ⟨OnlyL.refl _ _, rfl⟩
    ·intro gh ρ u hc hf1 hg1 hd h0 hb he ha hF
     have r5 : ρ (.tmp 5) = .pointer (some ⟨w2.heap.size, 0, none⟩) := (h0 5 (by decide +kernel)).trans rfl
     clear  hd h0 he ha hF
     go_simp
     rw [HF.out]
     exact ⟨OnlyL.refl _ _, rfl⟩
    ·intro gh ρ u hc hf1 hg1 hd h0 hb he ha hF
     replace hb : Below w4.heap.size w4 u := hb.drew.below (by decide +kernel)
     have hbz : w4.heap.size ≤ u.heap.size := hb.size
     have r47 : ρ (.tmp 47) = .pointer (some ⟨(w2.heap.size), 1, none⟩) := by have h := hF 9 (by decide +kernel) (by decide +kernel); rw [HF.out] at h; exact (hd 9 (by decide +kernel) 47 (by kernel_rfl)).trans h
     have q_b := (HXb.out.below hb).2.1
     have k_b : w.heap.size < u.heap.size := by have := HXb.out.1; omega
     have q_x := (HXx.out.below hb).2.1
     have k_x : w2.heap.size < u.heap.size := by have := HXx.out.1; omega
     clear  hd h0 he ha hF
     go_simp
     rw [HF.out]
     exact ⟨OnlyL.refl _ _, rfl⟩
    ·intro gh ρ u hc hf1 hg1 hd h0 hb he ha hF
     have r46 : ρ (.tmp 46) = .slice E ne ce := by have h := hF 8 (by decide +kernel) (by decide +kernel); rw [HF.out] at h; exact (hd 8 (by decide +kernel) 46 (by kernel_rfl)).trans h
     have r48 : ρ (.tmp 48) = .int .i64 h.size := by have h := hF 10 (by decide +kernel) (by decide +kernel); rw [HF.out] at h; exact (hd 10 (by decide +kernel) 48 (by kernel_rfl)).trans h
     clear  hd h0 he ha hF
     go_simp
     rw [HF.out]
     exact ⟨OnlyL.refl _ _, rfl⟩
    ·intro gh ρ u hc hf1 hg1 hd h0 hb he ha hF
     replace hb : Below w4.heap.size w4 u := hb.drew.below (by decide +kernel)
     have hbz : w4.heap.size ≤ u.heap.size := hb.size
     have r43 : ρ (.tmp 43) = .int .i64 width := by have h := hF 5 (by decide +kernel) (by decide +kernel); rw [HF.out] at h; exact (hd 5 (by decide +kernel) 43 (by kernel_rfl)).trans h
     have r49 : ρ (.tmp 49) = .slice E5 k5 g5 := by have h := hF 11 (by decide +kernel) (by decide +kernel); rw [HF.out] at h; exact (hd 11 (by decide +kernel) 49 (by kernel_rfl)).trans h
     clear  hd h0 he ha hF
     go_simp
     have q_b := (HXb.out.below hb)
     have q_x := (HXx.out.below hb)
     refine (HHS.out _ (HOB.out.below hb).base).mono ?_
     rintro e u1 ⟨A5, c5, rfl, ho, hb1⟩
     rw [HF.out]
     exact ⟨_, rfl, OnlyL.of_below hb1, A5, c5, rfl, Own.of_ownsRow ho⟩
    ·intro gh ρ u hc hf1 hg1 hd h0 hb he ha hF
     have r1 : ρ (.tmp 1) = .pointer (some ⟨w.heap.size, 0, none⟩) := (h0 1 (by decide +kernel)).trans rfl
     clear  hd h0 he ha hF
     go_simp
     rw [HF.out]
     exact ⟨OnlyL.refl _ _, rfl⟩
    ·intro gh ρ u hc hf1 hg1 hd h0 hb he ha hF
     replace hb : Below w4.heap.size w4 u := hb.drew.below (by decide +kernel)
     have hbz : w4.heap.size ≤ u.heap.size := hb.size
     have r51 : ρ (.tmp 51) = .pointer (some ⟨(w.heap.size), 0, none⟩) := by have h := hF 13 (by decide +kernel) (by decide +kernel); rw [HF.out] at h; exact (hd 13 (by decide +kernel) 51 (by kernel_rfl)).trans h
     have q_b := (HXb.out.below hb).2.1
     have k_b : w.heap.size < u.heap.size := by have := HXb.out.1; omega
     have q_x := (HXx.out.below hb).2.1
     have k_x : w2.heap.size < u.heap.size := by have := HXx.out.1; omega
     clear  hd h0 he ha hF
     go_simp
     rw [HF.out]
     exact ⟨OnlyL.refl _ _, rfl⟩
    ·intro gh ρ u hc hf1 hg1 hd h0 hb he ha hF
     have r1 : ρ (.tmp 1) = .pointer (some ⟨w.heap.size, 0, none⟩) := (h0 1 (by decide +kernel)).trans rfl
     clear  hd h0 he ha hF
     go_simp
     rw [HF.out]
     exact ⟨OnlyL.refl _ _, rfl⟩
    ·intro gh ρ u hc hf1 hg1 hd h0 hb he ha hF
     replace hb : Below w4.heap.size w4 u := hb.drew.below (by decide +kernel)
     have hbz : w4.heap.size ≤ u.heap.size := hb.size
     have r53 : ρ (.tmp 53) = .pointer (some ⟨(w.heap.size), 2, none⟩) := by have h := hF 15 (by decide +kernel) (by decide +kernel); rw [HF.out] at h; exact (hd 15 (by decide +kernel) 53 (by kernel_rfl)).trans h
     have q_b := (HXb.out.below hb).2.1
     have k_b : w.heap.size < u.heap.size := by have := HXb.out.1; omega
     have q_x := (HXx.out.below hb).2.1
     have k_x : w2.heap.size < u.heap.size := by have := HXx.out.1; omega
     clear  hd h0 he ha hF
     go_simp
     rw [HF.out]
     exact ⟨OnlyL.refl _ _, rfl⟩
    ·intro gh ρ u hc hf1 hg1 hd h0 hb he ha hF
     have r5 : ρ (.tmp 5) = .pointer (some ⟨w2.heap.size, 0, none⟩) := (h0 5 (by decide +kernel)).trans rfl
     clear  hd h0 he ha hF
     go_simp
     rw [HF.out]
     exact ⟨OnlyL.refl _ _, rfl⟩
    ·intro gh ρ u hc hf1 hg1 hd h0 hb he ha hF
     replace hb : Below w4.heap.size w4 u := hb.drew.below (by decide +kernel)
     have hbz : w4.heap.size ≤ u.heap.size := hb.size
     have r55 : ρ (.tmp 55) = .pointer (some ⟨(w2.heap.size), 3, none⟩) := by have h := hF 17 (by decide +kernel) (by decide +kernel); rw [HF.out] at h; exact (hd 17 (by decide +kernel) 55 (by kernel_rfl)).trans h
     have q_b := (HXb.out.below hb).2.1
     have k_b : w.heap.size < u.heap.size := by have := HXb.out.1; omega
     have q_x := (HXx.out.below hb).2.1
     have k_x : w2.heap.size < u.heap.size := by have := HXx.out.1; omega
     clear  hd h0 he ha hF
     go_simp
     rw [HF.out]
     exact ⟨OnlyL.refl _ _, rfl⟩
    ·intro gh ρ u hc hf1 hg1 hd h0 hb he ha hF
     have r54 : ρ (.tmp 54) = .slice R nr cr := by have h := hF 16 (by decide +kernel) (by decide +kernel); rw [HF.out] at h; exact (hd 16 (by decide +kernel) 54 (by kernel_rfl)).trans h
     have r56 : ρ (.tmp 56) = .int .i64 h.taken := by have h := hF 18 (by decide +kernel) (by decide +kernel); rw [HF.out] at h; exact (hd 18 (by decide +kernel) 56 (by kernel_rfl)).trans h
     clear  hd h0 he ha hF
     go_simp
     rw [HF.out]
     exact ⟨OnlyL.refl _ _, rfl⟩
    ·intro gh ρ u hc hf1 hg1 hd h0 hb he ha hF
     replace hb : Below w4.heap.size w4 u := hb.drew.below (by decide +kernel)
     have hbz : w4.heap.size ≤ u.heap.size := hb.size
     have r52 : ρ (.tmp 52) = .int .i64 width := by have h := hF 14 (by decide +kernel) (by decide +kernel); rw [HF.out] at h; exact (hd 14 (by decide +kernel) 52 (by kernel_rfl)).trans h
     have r57 : ρ (.tmp 57) = .slice R5 k6 g6 := by have h := hF 19 (by decide +kernel) (by decide +kernel); rw [HF.out] at h; exact (hd 19 (by decide +kernel) 57 (by kernel_rfl)).trans h
     clear  hd h0 he ha hF
     go_simp
     have q_b := (HXb.out.below hb)
     have q_x := (HXx.out.below hb)
     refine (HHT.out _ (HOB.out.below hb).base).mono ?_
     rintro e u1 ⟨A6, c6, rfl, ho, hb1⟩
     rw [HF.out]
     exact ⟨_, rfl, OnlyL.of_below hb1, A6, c6, rfl, Own.of_ownsRow ho⟩
    ·intro gh ρ u hc hf1 hg1 hd h0 hb he ha hF
     replace hb : Below w4.heap.size w4 u := hb.drew.below (by decide +kernel)
     have hbz : w4.heap.size ≤ u.heap.size := hb.size
     have r39 : ρ (.tmp 39) = .int .i64 width := by have h := hF 1 (by decide +kernel) (by decide +kernel); rw [HF.out] at h; exact (hd 1 (by decide +kernel) 39 (by kernel_rfl)).trans h
     have r41 : ρ (.tmp 41) = .agg #[.int .i64 h.size, .slice A1 m1 c1, .int .i64 h.taken, .slice A2 m2 c2, .int .i64 h.num, .int .i64 h.size, .string h.root, .int .i64 h.taken, .string h.troot] := by have h := hF 3 (by decide +kernel) (by decide +kernel); rw [HF.out] at h; exact (hd 3 (by decide +kernel) 41 (by kernel_rfl)).trans h
     have f12 : ∃ (A5 : Option Addr) (c5 : Nat), (gh 12).v = .slice A5 k5 c5 ∧ (Own u (gh 12).s (gh 12).e A5 (strs L)) := by have h := hF 12 (by decide +kernel) (by decide +kernel); rw [HF.out] at h; exact h
     obtain ⟨A5, c5, hv12, g12_0⟩ := f12
     have r50 : ρ (.tmp 50) = .slice A5 k5 c5 := (hd 12 (by decide +kernel) 50 (by kernel_rfl)).trans hv12
     have f20 : ∃ (A6 : Option Addr) (c6 : Nat), (gh 20).v = .slice A6 k6 c6 ∧ (Own u (gh 20).s (gh 20).e A6 (strs T)) := by have h := hF 20 (by decide +kernel) (by decide +kernel); rw [HF.out] at h; exact h
     obtain ⟨A6, c6, hv20, g20_0⟩ := f20
     have r58 : ρ (.tmp 58) = .slice A6 k6 c6 := (hd 20 (by decide +kernel) 58 (by kernel_rfl)).trans hv20
     clear hv12 hv20 hd h0 he ha hF
     go_simp
     have q_b := (HXb.out.below hb)
     have q_x := (HXx.out.below hb)
     refine (HSM.out _ A5 c5 A6 c6 (HOB.out.below hb).base g12_0.rd.base g20_0.rd.base).mono ?_
     rintro e u1 ⟨B1, d1, av, bv, B2, d2, aw, bw, rfl, ⟨hv1, hv2, hv3, hv4⟩, ⟨hw1, hw2, hw3, hw4⟩, hdv, hb1⟩
     rw [HF.out]
     exact ⟨_, rfl, OnlyL.of_below hb1, B1, d1, B2, d2, rfl, hv3.mono hv1 hv2 (Nat.le_refl _), hw3.mono hw1 hw2 (Nat.le_refl _), ⟨hv4, hw4⟩⟩
    ·intro gh ρ u hc hf1 hg1 hd h0 hb he ha hF
     have f21 : ∃ (B1 : Option Addr) (d1 : Nat) (B2 : Option Addr) (d2 : Nat), (gh 21).v = .tuple #[.agg #[.int .i64 x.size, .slice B1 p1.length d1, .int .i64 x.taken, .slice B2 p2.length d2, .int .i64 x.num, .int .i64 x.size, .string x.root, .int .i64 x.taken, .string x.troot], .int .i64 nn, .int .i64 0] ∧ (Own u (gh 21).s (gh 21).e B1 (strs p1)) ∧ (Own u (gh 21).s (gh 21).e B2 (strs p2)) ∧ ((B1 = none → d1 = 0) ∧ (B2 = none → d2 = 0)) := by have h := hF 21 (by decide +kernel) (by decide +kernel); rw [HF.out] at h; exact h
     obtain ⟨B1, d1, B2, d2, hv21, g21_0, g21_1, g21_2⟩ := f21
     have hrt21 := hv21
     have r59 : ρ (.tmp 59) = .tuple #[.agg #[.int .i64 x.size, .slice B1 p1.length d1, .int .i64 x.taken, .slice B2 p2.length d2, .int .i64 x.num, .int .i64 x.size, .string x.root, .int .i64 x.taken, .string x.troot], .int .i64 nn, .int .i64 0] := (hd 21 (by decide +kernel) 59 (by kernel_rfl)).trans hv21
     have HRT21 := Lib.hid hrt21
     clear hv21 hrt21 hd h0 he ha hF
     go_simp
     rw [HF.out]
     exact ⟨OnlyL.refl _ _, B1, d1, B2, d2, HRT21.out, rfl⟩
    ·intro gh ρ u hc hf1 hg1 hd h0 hb he ha hF
     have f22 : ∃ (B1 : Option Addr) (d1 : Nat) (B2 : Option Addr) (d2 : Nat), (gh 21).v = .tuple #[.agg #[.int .i64 x.size, .slice B1 p1.length d1, .int .i64 x.taken, .slice B2 p2.length d2, .int .i64 x.num, .int .i64 x.size, .string x.root, .int .i64 x.taken, .string x.troot], .int .i64 nn, .int .i64 0] ∧ (gh 22).v = .tuple #[.agg #[.int .i64 x.size, .slice B1 p1.length d1, .int .i64 x.taken, .slice B2 p2.length d2, .int .i64 x.num, .int .i64 x.size, .string x.root, .int .i64 x.taken, .string x.troot], .int .i64 nn, .int .i64 0] := by have h := hF 22 (by decide +kernel) (by decide +kernel); rw [HF.out] at h; exact h
     obtain ⟨B1, d1, B2, d2, hrt21, hv22⟩ := f22
     have r37 : ρ (.tmp 37) = .tuple #[.agg #[.int .i64 x.size, .slice B1 p1.length d1, .int .i64 x.taken, .slice B2 p2.length d2, .int .i64 x.num, .int .i64 x.size, .string x.root, .int .i64 x.taken, .string x.troot], .int .i64 nn, .int .i64 0] := (hd 22 (by decide +kernel) 37 (by kernel_rfl)).trans hv22
     have HRT21 := Lib.hid hrt21
     clear hv22 hrt21 hd h0 he ha hF
     go_simp
     rw [HF.out]
     exact ⟨OnlyL.refl _ _, B1, d1, B2, d2, HRT21.out, rfl⟩
    ·intro gh ρ u hc hf1 hg1 hd h0 hb he ha hF
     have f22 : ∃ (B1 : Option Addr) (d1 : Nat) (B2 : Option Addr) (d2 : Nat), (gh 21).v = .tuple #[.agg #[.int .i64 x.size, .slice B1 p1.length d1, .int .i64 x.taken, .slice B2 p2.length d2, .int .i64 x.num, .int .i64 x.size, .string x.root, .int .i64 x.taken, .string x.troot], .int .i64 nn, .int .i64 0] ∧ (gh 22).v = .tuple #[.agg #[.int .i64 x.size, .slice B1 p1.length d1, .int .i64 x.taken, .slice B2 p2.length d2, .int .i64 x.num, .int .i64 x.size, .string x.root, .int .i64 x.taken, .string x.troot], .int .i64 nn, .int .i64 0] := by have h := hF 22 (by decide +kernel) (by decide +kernel); rw [HF.out] at h; exact h
     obtain ⟨B1, d1, B2, d2, hrt21, hv22⟩ := f22
     have r37 : ρ (.tmp 37) = .tuple #[.agg #[.int .i64 x.size, .slice B1 p1.length d1, .int .i64 x.taken, .slice B2 p2.length d2, .int .i64 x.num, .int .i64 x.size, .string x.root, .int .i64 x.taken, .string x.troot], .int .i64 nn, .int .i64 0] := (hd 22 (by decide +kernel) 37 (by kernel_rfl)).trans hv22
     have HRT21 := Lib.hid hrt21
     clear hv22 hrt21 hd h0 he ha hF
     go_simp
     rw [HF.out]
     exact ⟨OnlyL.refl _ _, B1, d1, B2, d2, HRT21.out, rfl⟩
    ·intro gh ρ u hc hf1 hg1 hd h0 hb he ha hF
     have f22 : ∃ (B1 : Option Addr) (d1 : Nat) (B2 : Option Addr) (d2 : Nat), (gh 21).v = .tuple #[.agg #[.int .i64 x.size, .slice B1 p1.length d1, .int .i64 x.taken, .slice B2 p2.length d2, .int .i64 x.num, .int .i64 x.size, .string x.root, .int .i64 x.taken, .string x.troot], .int .i64 nn, .int .i64 0] ∧ (gh 22).v = .tuple #[.agg #[.int .i64 x.size, .slice B1 p1.length d1, .int .i64 x.taken, .slice B2 p2.length d2, .int .i64 x.num, .int .i64 x.size, .string x.root, .int .i64 x.taken, .string x.troot], .int .i64 nn, .int .i64 0] := by have h := hF 22 (by decide +kernel) (by decide +kernel); rw [HF.out] at h; exact h
     obtain ⟨B1, d1, B2, d2, hrt21, hv22⟩ := f22
     have r37 : ρ (.tmp 37) = .tuple #[.agg #[.int .i64 x.size, .slice B1 p1.length d1, .int .i64 x.taken, .slice B2 p2.length d2, .int .i64 x.num, .int .i64 x.size, .string x.root, .int .i64 x.taken, .string x.troot], .int .i64 nn, .int .i64 0] := (hd 22 (by decide +kernel) 37 (by kernel_rfl)).trans hv22
     have HRT21 := Lib.hid hrt21
     clear hv22 hrt21 hd h0 he ha hF
     go_simp
     rw [HF.out]
     exact ⟨OnlyL.refl _ _, B1, d1, B2, d2, HRT21.out, rfl⟩
    ·intro gh ρ u hc hf1 hg1 hd h0 hb he ha hF
     replace hb : Below w4.heap.size w4 u := hb.drew.below (by decide +kernel)
     have hbz : w4.heap.size ≤ u.heap.size := hb.size
     clear  hd h0 he ha hF
     go_simp
     rw [HF.out]
     exact ⟨OnlyL.of_below ((Below.refl _ _).alloc (Nat.le_refl _) _), rfl, by simp, NewBox.new _ _ _⟩
    ·intro gh ρ u hc hf1 hg1 hd h0 hb he ha hF
     replace hb : Below w4.heap.size w4 u := hb.drew.below (by decide +kernel)
     have hbz : w4.heap.size ≤ u.heap.size := hb.size
     have f26 : (gh 26).v = .pointer (some ⟨(gh 26).s, 0, none⟩) ∧ (gh 26).s < (gh 26).e ∧ NewBox u (gh 26).s [.int .i64 0, .slice none 0 0, .int .i64 0, .slice none 0 0, .int .i64 0, .int .i64 0, .string ⟨#[]⟩, .int .i64 0, .string ⟨#[]⟩] := by have h := hF 26 (by decide +kernel) (by decide +kernel); rw [HF.out] at h; exact h
     obtain ⟨hv26, hpl, hpz, hpc, hpf⟩ := f26
     have r6 : ρ (.tmp 6) = .pointer (some ⟨(gh 26).s, 0, none⟩) := (hd 26 (by decide +kernel) 6 (by kernel_rfl)).trans hv26
     have HP := Lib.hid hv26
     have f23 : ∃ (B1 : Option Addr) (d1 : Nat) (B2 : Option Addr) (d2 : Nat), (gh 21).v = .tuple #[.agg #[.int .i64 x.size, .slice B1 p1.length d1, .int .i64 x.taken, .slice B2 p2.length d2, .int .i64 x.num, .int .i64 x.size, .string x.root, .int .i64 x.taken, .string x.troot], .int .i64 nn, .int .i64 0] ∧ (gh 23).v = .agg #[.int .i64 x.size, .slice B1 p1.length d1, .int .i64 x.taken, .slice B2 p2.length d2, .int .i64 x.num, .int .i64 x.size, .string x.root, .int .i64 x.taken, .string x.troot] := by have h := hF 23 (by decide +kernel) (by decide +kernel); rw [HF.out] at h; exact h
     obtain ⟨B1, d1, B2, d2, hrt21, hv23⟩ := f23
     have r60 : ρ (.tmp 60) = .agg #[.int .i64 x.size, .slice B1 p1.length d1, .int .i64 x.taken, .slice B2 p2.length d2, .int .i64 x.num, .int .i64 x.size, .string x.root, .int .i64 x.taken, .string x.troot] := (hd 23 (by decide +kernel) 60 (by kernel_rfl)).trans hv23
     have HRT21 := Lib.hid hrt21
     obtain ⟨_, _, _⟩ := he 26 (by decide +kernel)
     clear hv26 hv23 hrt21 hd h0 he ha hF
     go_simp
     rw [HF.out]
     refine ⟨?_, HP.out, hpl, B1, d1, B2, d2, HRT21.out, ?_⟩
     ·refine OnlyL.of_only (t := gh 26) ?_; refine Only.setCell ?_ (by exact Nat.le_refl _) (by exact hpl) _; refine Only.setCell ?_ (by exact Nat.le_refl _) (by exact hpl) _; refine Only.setCell ?_ (by exact Nat.le_refl _) (by exact hpl) _; refine Only.setCell ?_ (by exact Nat.le_refl _) (by exact hpl) _; refine Only.setCell ?_ (by exact Nat.le_refl _) (by exact hpl) _; refine Only.setCell ?_ (by exact Nat.le_refl _) (by exact hpl) _; refine Only.setCell ?_ (by exact Nat.le_refl _) (by exact hpl) _; refine Only.setCell ?_ (by exact Nat.le_refl _) (by exact hpl) _; refine Only.setCell ?_ (by exact Nat.le_refl _) (by exact hpl) _; exact Only.refl _ _ _
     ·show NewBox _ (gh 26).s _
      exact ⟨by simpa [World.setCell] using hpz, fun o => by rcases o with _ | _ | _ | _ | _ | _ | _ | _ | _ | o <;> go_simp, fun o => by go_simp⟩
    ·intro gh ρ u hc hf1 hg1 hd h0 hb he ha hF
     have f24 : ∃ (B1 : Option Addr) (d1 : Nat) (B2 : Option Addr) (d2 : Nat), (gh 21).v = .tuple #[.agg #[.int .i64 x.size, .slice B1 p1.length d1, .int .i64 x.taken, .slice B2 p2.length d2, .int .i64 x.num, .int .i64 x.size, .string x.root, .int .i64 x.taken, .string x.troot], .int .i64 nn, .int .i64 0] ∧ (gh 24).v = .int .i64 nn := by have h := hF 24 (by decide +kernel) (by decide +kernel); rw [HF.out] at h; exact h
     obtain ⟨B1, d1, B2, d2, hrt21, hv24⟩ := f24
     have r61 : ρ (.tmp 61) = .int .i64 nn := (hd 24 (by decide +kernel) 61 (by kernel_rfl)).trans hv24
     have HRT21 := Lib.hid hrt21
     clear hv24 hrt21 hd h0 he ha hF
     go_simp
     rw [HF.out]
     exact ⟨OnlyL.refl _ _, B1, d1, B2, d2, HRT21.out, rfl⟩
    ·intro gh ρ u hc hf1 hg1 hd h0 hb he ha hF
     have f25 : ∃ (B1 : Option Addr) (d1 : Nat) (B2 : Option Addr) (d2 : Nat), (gh 21).v = .tuple #[.agg #[.int .i64 x.size, .slice B1 p1.length d1, .int .i64 x.taken, .slice B2 p2.length d2, .int .i64 x.num, .int .i64 x.size, .string x.root, .int .i64 x.taken, .string x.troot], .int .i64 nn, .int .i64 0] ∧ (gh 25).v = .int .i64 0 := by have h := hF 25 (by decide +kernel) (by decide +kernel); rw [HF.out] at h; exact h
     obtain ⟨B1, d1, B2, d2, hrt21, hv25⟩ := f25
     have r62 : ρ (.tmp 62) = .int .i64 0 := (hd 25 (by decide +kernel) 62 (by kernel_rfl)).trans hv25
     have HRT21 := Lib.hid hrt21
     clear hv25 hrt21 hd h0 he ha hF
     go_simp
     rw [HF.out]
     exact ⟨OnlyL.refl _ _, B1, d1, B2, d2, HRT21.out, rfl⟩
    intro gh w5 hB hE hA hF
    replace hB : Below w4.heap.size w4 w5 := hB.below rfl
    have f0 : (gh 0).v = .pointer (some ⟨(w.heap.size), 0, none⟩) := by have h := hF 0 (by decide +kernel) (by decide +kernel); rw [HF.out] at h; exact h
    have f1 : (gh 1).v = .int .i64 width := by have h := hF 1 (by decide +kernel) (by decide +kernel); rw [HF.out] at h; exact h
    have f2 : (gh 2).v = .pointer (some ⟨(w.heap.size), 4, none⟩) := by have h := hF 2 (by decide +kernel) (by decide +kernel); rw [HF.out] at h; exact h
    have f3 : (gh 3).v = .agg #[.int .i64 h.size, .slice A1 m1 c1, .int .i64 h.taken, .slice A2 m2 c2, .int .i64 h.num, .int .i64 h.size, .string h.root, .int .i64 h.taken, .string h.troot] := by have h := hF 3 (by decide +kernel) (by decide +kernel); rw [HF.out] at h; exact h
    have f4 : (gh 4).v = .pointer (some ⟨(w.heap.size), 0, none⟩) := by have h := hF 4 (by decide +kernel) (by decide +kernel); rw [HF.out] at h; exact h
    have f5 : (gh 5).v = .int .i64 width := by have h := hF 5 (by decide +kernel) (by decide +kernel); rw [HF.out] at h; exact h
    have f6 : (gh 6).v = .pointer (some ⟨(w.heap.size), 1, none⟩) := by have h := hF 6 (by decide +kernel) (by decide +kernel); rw [HF.out] at h; exact h
    have f7 : (gh 7).v = .pointer (some ⟨(w.heap.size), 1, none⟩) := by have h := hF 7 (by decide +kernel) (by decide +kernel); rw [HF.out] at h; exact h
    have f8 : (gh 8).v = .slice E ne ce := by have h := hF 8 (by decide +kernel) (by decide +kernel); rw [HF.out] at h; exact h
    have f9 : (gh 9).v = .pointer (some ⟨(w2.heap.size), 1, none⟩) := by have h := hF 9 (by decide +kernel) (by decide +kernel); rw [HF.out] at h; exact h
    have f10 : (gh 10).v = .int .i64 h.size := by have h := hF 10 (by decide +kernel) (by decide +kernel); rw [HF.out] at h; exact h
    have f11 : (gh 11).v = .slice E5 k5 g5 := by have h := hF 11 (by decide +kernel) (by decide +kernel); rw [HF.out] at h; exact h
    have f12 : ∃ (A5 : Option Addr) (c5 : Nat), (gh 12).v = .slice A5 k5 c5 ∧ (Own w5 (gh 12).s (gh 12).e A5 (strs L)) := by have h := hF 12 (by decide +kernel) (by decide +kernel); rw [HF.out] at h; exact h
    have f13 : (gh 13).v = .pointer (some ⟨(w.heap.size), 0, none⟩) := by have h := hF 13 (by decide +kernel) (by decide +kernel); rw [HF.out] at h; exact h
    have f14 : (gh 14).v = .int .i64 width := by have h := hF 14 (by decide +kernel) (by decide +kernel); rw [HF.out] at h; exact h
    have f15 : (gh 15).v = .pointer (some ⟨(w.heap.size), 2, none⟩) := by have h := hF 15 (by decide +kernel) (by decide +kernel); rw [HF.out] at h; exact h
    have f16 : (gh 16).v = .slice R nr cr := by have h := hF 16 (by decide +kernel) (by decide +kernel); rw [HF.out] at h; exact h
    have f17 : (gh 17).v = .pointer (some ⟨(w2.heap.size), 3, none⟩) := by have h := hF 17 (by decide +kernel) (by decide +kernel); rw [HF.out] at h; exact h
    have f18 : (gh 18).v = .int .i64 h.taken := by have h := hF 18 (by decide +kernel) (by decide +kernel); rw [HF.out] at h; exact h
    have f19 : (gh 19).v = .slice R5 k6 g6 := by have h := hF 19 (by decide +kernel) (by decide +kernel); rw [HF.out] at h; exact h
    have f20 : ∃ (A6 : Option Addr) (c6 : Nat), (gh 20).v = .slice A6 k6 c6 ∧ (Own w5 (gh 20).s (gh 20).e A6 (strs T)) := by have h := hF 20 (by decide +kernel) (by decide +kernel); rw [HF.out] at h; exact h
    have f21 : ∃ (B1 : Option Addr) (d1 : Nat) (B2 : Option Addr) (d2 : Nat), (gh 21).v = .tuple #[.agg #[.int .i64 x.size, .slice B1 p1.length d1, .int .i64 x.taken, .slice B2 p2.length d2, .int .i64 x.num, .int .i64 x.size, .string x.root, .int .i64 x.taken, .string x.troot], .int .i64 nn, .int .i64 0] ∧ (Own w5 (gh 21).s (gh 21).e B1 (strs p1)) ∧ (Own w5 (gh 21).s (gh 21).e B2 (strs p2)) ∧ ((B1 = none → d1 = 0) ∧ (B2 = none → d2 = 0)) := by have h := hF 21 (by decide +kernel) (by decide +kernel); rw [HF.out] at h; exact h
    have f22 : ∃ (B1 : Option Addr) (d1 : Nat) (B2 : Option Addr) (d2 : Nat), (gh 21).v = .tuple #[.agg #[.int .i64 x.size, .slice B1 p1.length d1, .int .i64 x.taken, .slice B2 p2.length d2, .int .i64 x.num, .int .i64 x.size, .string x.root, .int .i64 x.taken, .string x.troot], .int .i64 nn, .int .i64 0] ∧ (gh 22).v = .tuple #[.agg #[.int .i64 x.size, .slice B1 p1.length d1, .int .i64 x.taken, .slice B2 p2.length d2, .int .i64 x.num, .int .i64 x.size, .string x.root, .int .i64 x.taken, .string x.troot], .int .i64 nn, .int .i64 0] := by have h := hF 22 (by decide +kernel) (by decide +kernel); rw [HF.out] at h; exact h
    have f23 : ∃ (B1 : Option Addr) (d1 : Nat) (B2 : Option Addr) (d2 : Nat), (gh 21).v = .tuple #[.agg #[.int .i64 x.size, .slice B1 p1.length d1, .int .i64 x.taken, .slice B2 p2.length d2, .int .i64 x.num, .int .i64 x.size, .string x.root, .int .i64 x.taken, .string x.troot], .int .i64 nn, .int .i64 0] ∧ (gh 23).v = .agg #[.int .i64 x.size, .slice B1 p1.length d1, .int .i64 x.taken, .slice B2 p2.length d2, .int .i64 x.num, .int .i64 x.size, .string x.root, .int .i64 x.taken, .string x.troot] := by have h := hF 23 (by decide +kernel) (by decide +kernel); rw [HF.out] at h; exact h
    have f24 : ∃ (B1 : Option Addr) (d1 : Nat) (B2 : Option Addr) (d2 : Nat), (gh 21).v = .tuple #[.agg #[.int .i64 x.size, .slice B1 p1.length d1, .int .i64 x.taken, .slice B2 p2.length d2, .int .i64 x.num, .int .i64 x.size, .string x.root, .int .i64 x.taken, .string x.troot], .int .i64 nn, .int .i64 0] ∧ (gh 24).v = .int .i64 nn := by have h := hF 24 (by decide +kernel) (by decide +kernel); rw [HF.out] at h; exact h
    have f25 : ∃ (B1 : Option Addr) (d1 : Nat) (B2 : Option Addr) (d2 : Nat), (gh 21).v = .tuple #[.agg #[.int .i64 x.size, .slice B1 p1.length d1, .int .i64 x.taken, .slice B2 p2.length d2, .int .i64 x.num, .int .i64 x.size, .string x.root, .int .i64 x.taken, .string x.troot], .int .i64 nn, .int .i64 0] ∧ (gh 25).v = .int .i64 0 := by have h := hF 25 (by decide +kernel) (by decide +kernel); rw [HF.out] at h; exact h
    have f27 : (gh 26).v = .pointer (some ⟨(gh 26).s, 0, none⟩) ∧ (gh 26).s < (gh 26).e ∧ ∃ (B1 : Option Addr) (d1 : Nat) (B2 : Option Addr) (d2 : Nat), (gh 21).v = .tuple #[.agg #[.int .i64 x.size, .slice B1 p1.length d1, .int .i64 x.taken, .slice B2 p2.length d2, .int .i64 x.num, .int .i64 x.size, .string x.root, .int .i64 x.taken, .string x.troot], .int .i64 nn, .int .i64 0] ∧ NewBox w5 (gh 26).s [.int .i64 x.size, .slice B1 p1.length d1, .int .i64 x.taken, .slice B2 p2.length d2, .int .i64 x.num, .int .i64 x.size, .string x.root, .int .i64 x.taken, .string x.troot] := by have h := hF 27 (by decide +kernel) (by decide +kernel); rw [HF.out] at h; exact h
    have f28 : ∃ (B1 : Option Addr) (d1 : Nat) (B2 : Option Addr) (d2 : Nat), (gh 21).v = .tuple #[.agg #[.int .i64 x.size, .slice B1 p1.length d1, .int .i64 x.taken, .slice B2 p2.length d2, .int .i64 x.num, .int .i64 x.size, .string x.root, .int .i64 x.taken, .string x.troot], .int .i64 nn, .int .i64 0] ∧ (gh 28).v = .int .i64 nn := by have h := hF 28 (by decide +kernel) (by decide +kernel); rw [HF.out] at h; exact h
    have f29 : ∃ (B1 : Option Addr) (d1 : Nat) (B2 : Option Addr) (d2 : Nat), (gh 21).v = .tuple #[.agg #[.int .i64 x.size, .slice B1 p1.length d1, .int .i64 x.taken, .slice B2 p2.length d2, .int .i64 x.num, .int .i64 x.size, .string x.root, .int .i64 x.taken, .string x.troot], .int .i64 nn, .int .i64 0] ∧ (gh 29).v = .int .i64 0 := by have h := hF 29 (by decide +kernel) (by decide +kernel); rw [HF.out] at h; exact h
    obtain ⟨A5, c5, hv12, _⟩ := f12
    obtain ⟨A6, c6, hv20, _⟩ := f20
    obtain ⟨B1, d1, B2, d2, hv21, hoA, hoB, hnn⟩ := f21
    have hv0 := f0
    have hv1 := f1
    have hv2 := f2
    have hv3 := f3
    have hv4 := f4
    have hv5 := f5
    have hv6 := f6
    have hv7 := f7
    have hv8 := f8
    have hv9 := f9
    have hv10 := f10
    have hv11 := f11
    have hv13 := f13
    have hv14 := f14
    have hv15 := f15
    have hv16 := f16
    have hv17 := f17
    have hv18 := f18
    have hv19 := f19
    obtain ⟨B1_22, d1_22, B2_22, d2_22, hu21, hv22⟩ := f22
    replace hu21 := hv21.symm.trans hu21
    simp at hu21
    try simp only [and_assoc] at hu21
    obtain ⟨rfl, rfl, rfl, rfl⟩ := hu21
    obtain ⟨B1_23, d1_23, B2_23, d2_23, hu21, hv23⟩ := f23
    replace hu21 := hv21.symm.trans hu21
    simp at hu21
    try simp only [and_assoc] at hu21
    obtain ⟨rfl, rfl, rfl, rfl⟩ := hu21
    obtain ⟨B1_24, d1_24, B2_24, d2_24, hu21, hv24⟩ := f24
    replace hu21 := hv21.symm.trans hu21
    simp at hu21
    try simp only [and_assoc] at hu21
    obtain ⟨rfl, rfl, rfl, rfl⟩ := hu21
    obtain ⟨B1_25, d1_25, B2_25, d2_25, hu21, hv25⟩ := f25
    replace hu21 := hv21.symm.trans hu21
    simp at hu21
    try simp only [and_assoc] at hu21
    obtain ⟨rfl, rfl, rfl, rfl⟩ := hu21
    obtain ⟨hv26, hl26, f27⟩ := f27
    obtain ⟨B1_27, d1_27, B2_27, d2_27, hu21, hx27⟩ := f27
    replace hu21 := hv21.symm.trans hu21
    simp at hu21
    try simp only [and_assoc] at hu21
    obtain ⟨rfl, rfl, rfl, rfl⟩ := hu21
    obtain ⟨B1_28, d1_28, B2_28, d2_28, hu21, hv28⟩ := f28
    replace hu21 := hv21.symm.trans hu21
    simp at hu21
    try simp only [and_assoc] at hu21
    obtain ⟨rfl, rfl, rfl, rfl⟩ := hu21
    obtain ⟨B1_29, d1_29, B2_29, d2_29, hu21, hv29⟩ := f29
    replace hu21 := hv21.symm.trans hu21
    simp at hu21
    try simp only [and_assoc] at hu21
    obtain ⟨rfl, rfl, rfl, rfl⟩ := hu21
    obtain ⟨hs21, hse21, he21⟩ := hE 21 (by decide +kernel)
    obtain ⟨hs26, hse26, he26⟩ := hE 26 (by decide +kernel)
    have hdj5_21_26 := hA 21 (by decide +kernel) 26 (by decide +kernel) (by decide)
    change w4.heap.size ≤ _ at hs21 hs26
    clear hE hA hF
    simp only [putDs, Nat.reduceAdd, hv0, hv1, hv2, hv3, hv4, hv5, hv6, hv7, hv8, hv9, hv10, hv11, hv12, hv13, hv14, hv15, hv16, hv17, hv18, hv19, hv20, hv21, hv22, hv23, hv24, hv25, hv26, hv28, hv29]
    clear hv0 hv1 hv2 hv3 hv4 hv5 hv6 hv7 hv8 hv9 hv10 hv11 hv12 hv13 hv14 hv15 hv16 hv17 hv18 hv19 hv20 hv21 hv22 hv23 hv24 hv25 hv26 hv28 hv29
    generalize (gh 21).s = s5_21 at *
    generalize (gh 21).e = e5_21 at *
    generalize (gh 26).s = s5_26 at *
    generalize (gh 26).e = e5_26 at *
    clear HF
    have hb := hB
    clear hB
    have hzw5 : w4.heap.size ≤ w5.heap.size := hb.size
    have hzzw5 : w.heap.size ≤ w5.heap.size := by omega
    replace HB := Lib.hid (below_then HB.out hb HB.out.size)
    replace HOB := Lib.hid (HOB.out.below hb)
    replace HXb := Lib.hid (HXb.out.below hb)
    clear hxb hfb hkb
    have hxb := HXb.out.2.1
    have hfb := HXb.out.2.2
    have hkb := HXb.out.1
    replace HXq := Lib.hid (HXq.out.below hb)
    clear hxq hfq hkq
    have hxq := HXq.out.2.1
    have hfq := HXq.out.2.2
    have hkq := HXq.out.1
    replace HXx := Lib.hid (HXx.out.below hb)
    clear hxx hfx hkx
    have hxx := HXx.out.2.1
    have hfx := HXx.out.2.2
    have hkx := HXx.out.1
    clear hb
    have HXs : Hid (NewBox w5 (s5_26) [.int .i64 x.size, .slice B1 p1.length d1, .int .i64 x.taken, .slice B2 p2.length d2, .int .i64 x.num, .int .i64 x.size, .string x.root, .int .i64 x.taken, .string x.troot]) := hx27
    have hxs := HXs.out.2.1
    have hfs := HXs.out.2.2
    have hks := HXs.out.1
    clear hx27
    have HNN := Lib.hid hnn
    obtain ⟨a6, ha6, ha6'⟩ : ∃ n, n ≤ w5.heap.size ∧ w5.heap.size ≤ n := ⟨_, Nat.le_refl _, Nat.le_refl _⟩
    have HOP1 : Hid (Rd w5 (lo6) (a6) (B1) (strs p1)) := Lib.hid (hoA.rd.mono (by omega) (by omega) (by omega))
    have HOP2 : Hid (Rd w5 (lo6) (a6) (B2) (strs p2)) := Lib.hid (hoB.rd.mono (by omega) (by omega) (by omega))
    clear hoA hoB hnn hs1 hs2 HHS HHT HSM
    go_wp2_with fail
    refine calls_named (fun w6 hw => ?_)
    have hz6 : w5.heap.size + 0 ≤ w6.heap.size := by rw [hw]; first | omega | (simp [World.setCell]; done) | (simp [World.setCell]; omega)
    have hzz6 : w.heap.size ≤ w6.heap.size := by omega
    have hbn : Below w5.heap.size w5 w6 := by rw [hw]; exact (by ((repeat (first | ((with_reducible refine Below.alloc ?_ ?_ _); rotate_left 1; (focus (first | omega | (simp; done) | (simp; omega)))) | (with_reducible refine Below.drew ?_) | ((with_reducible refine Below.setCell ?_ ?_ _); rotate_left 1; (focus (first | omega | (simp; done) | (simp; omega)))))); exact Below.refl _ _))
    replace HB := Lib.hid (below_then HB.out hbn HB.out.size)
    replace HOB := Lib.hid (HOB.out.below hbn)
    replace HOP1 := Lib.hid (HOP1.out.below hbn)
    replace HOP2 := Lib.hid (HOP2.out.below hbn)
    replace HXb := Lib.hid (HXb.out.below hbn)
    clear hxb hfb hkb
    have hxb := HXb.out.2.1
    have hfb := HXb.out.2.2
    have hkb := HXb.out.1
    replace HXq := Lib.hid (HXq.out.below hbn)
    clear hxq hfq hkq
    have hxq := HXq.out.2.1
    have hfq := HXq.out.2.2
    have hkq := HXq.out.1
    replace HXx := Lib.hid (HXx.out.below hbn)
    clear hxx hfx hkx
    have hxx := HXx.out.2.1
    have hfx := HXx.out.2.2
    have hkx := HXx.out.1
    replace HXs := Lib.hid (HXs.out.below hbn)
    clear hxs hfs hks
    have hxs := HXs.out.2.1
    have hfs := HXs.out.2.2
    have hks := HXs.out.1
    clear hbn
    clear hw
    refine (HTX.out _).mono ?_
    rintro e w7 ⟨rfl, hb⟩
    have hzw7 : w6.heap.size ≤ w7.heap.size := hb.size
    have hzzw7 : w.heap.size ≤ w7.heap.size := by omega
    replace HB := Lib.hid (below_then HB.out hb HB.out.size)
    replace HOB := Lib.hid (HOB.out.below hb)
    replace HOP1 := Lib.hid (HOP1.out.below hb)
    replace HOP2 := Lib.hid (HOP2.out.below hb)
    replace HXb := Lib.hid (HXb.out.below hb)
    clear hxb hfb hkb
    have hxb := HXb.out.2.1
    have hfb := HXb.out.2.2
    have hkb := HXb.out.1
    replace HXq := Lib.hid (HXq.out.below hb)
    clear hxq hfq hkq
    have hxq := HXq.out.2.1
    have hfq := HXq.out.2.2
    have hkq := HXq.out.1
    replace HXx := Lib.hid (HXx.out.below hb)
    clear hxx hfx hkx
    have hxx := HXx.out.2.1
    have hfx := HXx.out.2.2
    have hkx := HXx.out.1
    replace HXs := Lib.hid (HXs.out.below hb)
    clear hxs hfs hks
    have hxs := HXs.out.2.1
    have hfs := HXs.out.2.2
    have hks := HXs.out.1
    clear hb
    clear HTX
    go_wp2_with fail
    refine calls_named (fun w8 hw => ?_)
    have hz8 : w7.heap.size + 0 ≤ w8.heap.size := by rw [hw]; first | omega | (simp [World.setCell]; done) | (simp [World.setCell]; omega)
    have hzz8 : w.heap.size ≤ w8.heap.size := by omega
    have hbn : Below w7.heap.size w7 w8 := by rw [hw]; exact (by ((repeat (first | ((with_reducible refine Below.alloc ?_ ?_ _); rotate_left 1; (focus (first | omega | (simp; done) | (simp; omega)))) | (with_reducible refine Below.drew ?_) | ((with_reducible refine Below.setCell ?_ ?_ _); rotate_left 1; (focus (first | omega | (simp; done) | (simp; omega)))))); exact Below.refl _ _))
    replace HB := Lib.hid (below_then HB.out hbn HB.out.size)
    replace HOB := Lib.hid (HOB.out.below hbn)
    replace HOP1 := Lib.hid (HOP1.out.below hbn)
    replace HOP2 := Lib.hid (HOP2.out.below hbn)
    replace HXb := Lib.hid (HXb.out.below hbn)
    clear hxb hfb hkb
    have hxb := HXb.out.2.1
    have hfb := HXb.out.2.2
    have hkb := HXb.out.1
    replace HXq := Lib.hid (HXq.out.below hbn)
    clear hxq hfq hkq
    have hxq := HXq.out.2.1
    have hfq := HXq.out.2.2
    have hkq := HXq.out.1
    replace HXx := Lib.hid (HXx.out.below hbn)
    clear hxx hfx hkx
    have hxx := HXx.out.2.1
    have hfx := HXx.out.2.2
    have hkx := HXx.out.1
    replace HXs := Lib.hid (HXs.out.below hbn)
    clear hxs hfs hks
    have hxs := HXs.out.2.1
    have hfs := HXs.out.2.2
    have hks := HXs.out.1
    clear hbn
    clear hw
    refine (HCP.out _ HOB.out.base).mono ?_
    rintro e w9 ⟨a3, rfl, hcp, hb⟩
    have hzw9 : w8.heap.size ≤ w9.heap.size := hb.size
    have hzzw9 : w.heap.size ≤ w9.heap.size := by omega
    replace HB := Lib.hid (below_then HB.out hb HB.out.size)
    replace HOB := Lib.hid (HOB.out.below hb)
    replace HOP1 := Lib.hid (HOP1.out.below hb)
    replace HOP2 := Lib.hid (HOP2.out.below hb)
    replace HXb := Lib.hid (HXb.out.below hb)
    clear hxb hfb hkb
    have hxb := HXb.out.2.1
    have hfb := HXb.out.2.2
    have hkb := HXb.out.1
    replace HXq := Lib.hid (HXq.out.below hb)
    clear hxq hfq hkq
    have hxq := HXq.out.2.1
    have hfq := HXq.out.2.2
    have hkq := HXq.out.1
    replace HXx := Lib.hid (HXx.out.below hb)
    clear hxx hfx hkx
    have hxx := HXx.out.2.1
    have hfx := HXx.out.2.2
    have hkx := HXx.out.1
    replace HXs := Lib.hid (HXs.out.below hb)
    clear hxs hfs hks
    have hxs := HXs.out.2.1
    have hfs := HXs.out.2.2
    have hks := HXs.out.1
    clear hb
    have HOC : Hid (CopyK w9 (w8.heap.size) (w9.heap.size) (a3) (⟨es, rs, hs, l1, l2⟩)) := Lib.hid hcp
    clear hcp HCP
    obtain ⟨lo5, hlo5, hlo5'⟩ : ∃ n, n ≤ w8.heap.size ∧ w8.heap.size ≤ n := ⟨_, Nat.le_refl _, Nat.le_refl _⟩
    obtain ⟨hi5, hhi5, hhi5'⟩ : ∃ n, n ≤ w9.heap.size ∧ w9.heap.size ≤ n := ⟨_, Nat.le_refl _, Nat.le_refl _⟩
    have HK5 := Lib.hid (HOC.out.mono hlo5 hhi5')
    clear HOC
    have HOC : Hid (CopyK w9 (lo5) (hi5) (a3) (⟨es, rs, hs, l1, l2⟩)) := Lib.hid HK5.out
    clear HK5
    go_upto_region 10 with fail
    refine wp_named (fun w10 hw => ?_)
    have hz10 : w9.heap.size + 1 ≤ w10.heap.size := by rw [hw]; first | omega | (simp [World.setCell]; done) | (simp [World.setCell]; omega)
    have hzz10 : w.heap.size ≤ w10.heap.size := by omega
    have hbn : Below w9.heap.size w9 w10 := by rw [hw]; exact (by ((repeat (first | ((with_reducible refine Below.alloc ?_ ?_ _); rotate_left 1; (focus (first | omega | (simp; done) | (simp; omega)))) | (with_reducible refine Below.drew ?_) | ((with_reducible refine Below.setCell ?_ ?_ _); rotate_left 1; (focus (first | omega | (simp; done) | (simp; omega)))))); exact Below.refl _ _))
    replace HB := Lib.hid (below_then HB.out hbn HB.out.size)
    replace HOB := Lib.hid (HOB.out.below hbn)
    replace HOP1 := Lib.hid (HOP1.out.below hbn)
    replace HOP2 := Lib.hid (HOP2.out.below hbn)
    replace HOC := Lib.hid (HOC.out.below hbn)
    replace HXb := Lib.hid (HXb.out.below hbn)
    clear hxb hfb hkb
    have hxb := HXb.out.2.1
    have hfb := HXb.out.2.2
    have hkb := HXb.out.1
    replace HXq := Lib.hid (HXq.out.below hbn)
    clear hxq hfq hkq
    have hxq := HXq.out.2.1
    have hfq := HXq.out.2.2
    have hkq := HXq.out.1
    replace HXx := Lib.hid (HXx.out.below hbn)
    clear hxx hfx hkx
    have hxx := HXx.out.2.1
    have hfx := HXx.out.2.2
    have hkx := HXx.out.1
    replace HXs := Lib.hid (HXs.out.below hbn)
    clear hxs hfs hks
    have hxs := HXs.out.2.1
    have hfs := HXs.out.2.2
    have hks := HXs.out.1
    clear hbn
    have HXo : Hid (NewBox w10 (w9.heap.size) [.int .i64 width, .slice a3.E ne a3.ce, .slice a3.R nr a3.cr, .slice a3.H nh a3.ch, .int .i64 x.size, .slice B1 p1.length d1, .int .i64 x.taken, .slice B2 p2.length d2, .int .i64 x.num, .int .i64 x.size, .string x.root, .int .i64 x.taken, .string x.troot]) := by rw [Hid, hw]; exact ⟨by first | omega | (simp [World.setCell]; done) | (simp [World.setCell]; omega), fun o => by rcases o with _ | _ | _ | _ | _ | _ | _ | _ | _ | _ | _ | _ | _ | o <;> go_simp, fun o => by go_simp⟩
    have hxo := HXo.out.2.1
    have hfo := HXo.out.2.2
    have hko := HXo.out.1
    clear hw
    have HRR : Hid (RowT w10 lo5 hi5 ((48, 5), .slice a3.H nh a3.ch, nh) (hds hs)) := Lib.hid (by have h7 := HOC.out.h; dsimp only at h7; rwa [HNH.out] at h7)
    go_wp2_with (at_builtin; refine app1LHd rfl _ _ rfl lo5 hi5 w10.heap.size _ nh (hds hs) x rfl (HRR.out.alloc _) rfl (NewBox.new w10 _ _) (by omega) (by simp; omega) (w10.heap.size + 1) (by simp) ?_)
    intro g4 c4 w2_ hg1 hg2 hg3 hrow hg
    have hon := (Only.of_below ((Below.refl _ _).alloc (Nat.le_refl _) _)).trans ((HRR.out.alloc _).onlyG hg)
    have hgr := hg
    rw [← HNH.out] at hgr
    have re := RowT.cast ((HOC.out.e.alloc _).grown hgr HOC.out.eh) (show _ = ((55, 5), Value.slice a3.E ne a3.ce, ne) by dsimp only; rw [HNE.out])
    have rr := RowT.cast ((HOC.out.r.alloc _).grown hgr HOC.out.rh) (show _ = ((57, 3), Value.slice a3.R nr a3.cr, nr) by dsimp only; rw [HNR.out])
    have hzw2_ : w10.heap.size ≤ w2_.heap.size := hon.size
    have hzzw2_ : w.heap.size ≤ w2_.heap.size := by omega
    replace HB := Lib.hid (below_only HB.out hon (by omega) HB.out.size)
    replace HOB := Lib.hid (HOB.out.only hon (by first | omega | (simp; omega)))
    replace HOP1 := Lib.hid (HOP1.out.only hon (by first | omega | (simp; omega)))
    replace HOP2 := Lib.hid (HOP2.out.only hon (by first | omega | (simp; omega)))
    replace HXb := Lib.hid (HXb.out.only hon (by first | omega | (simp; omega)))
    clear hxb hfb hkb
    have hxb := HXb.out.2.1
    have hfb := HXb.out.2.2
    have hkb := HXb.out.1
    replace HXq := Lib.hid (HXq.out.only hon (by first | omega | (simp; omega)))
    clear hxq hfq hkq
    have hxq := HXq.out.2.1
    have hfq := HXq.out.2.2
    have hkq := HXq.out.1
    replace HXx := Lib.hid (HXx.out.only hon (by first | omega | (simp; omega)))
    clear hxx hfx hkx
    have hxx := HXx.out.2.1
    have hfx := HXx.out.2.2
    have hkx := HXx.out.1
    replace HXs := Lib.hid (HXs.out.only hon (by first | omega | (simp; omega)))
    clear hxs hfs hks
    have hxs := HXs.out.2.1
    have hfs := HXs.out.2.2
    have hks := HXs.out.1
    replace HXo := Lib.hid (HXo.out.only hon (by first | omega | (simp; omega)))
    clear hxo hfo hko
    have hxo := HXo.out.2.1
    have hfo := HXo.out.2.2
    have hko := HXo.out.1
    clear HOC HRR
    have HOE5 : Hid (RowT w2_ (lo5) (hi5) (((55, 5), .slice a3.E ne a3.ce, ne)) (ents es)) := Lib.hid re
    have HOR5 : Hid (RowT w2_ (lo5) (hi5) (((57, 3), .slice a3.R nr a3.cr, nr)) (rcps rs)) := Lib.hid rr
    have HOH5 : Hid (RowT w2_ (g4) (g4 + 1) (((48, 5), .slice (some ⟨g4, 0, none⟩) (nh + 1) c4, nh + 1)) (hds hs ++ hds [x])) := Lib.hid hrow
    clear hon re rr hrow hg hgr
    go_upto_region 11 with fail
    refine wp_named (fun w11 hw => ?_)
    have hz11 : w2_.heap.size + 0 ≤ w11.heap.size := by rw [hw]; first | omega | (simp [World.setCell]; done) | (simp [World.setCell]; omega)
    have hzz11 : w.heap.size ≤ w11.heap.size := by omega
    replace HB : Hid (Below w.heap.size w w11) := by rw [Hid, hw]; exact (by ((repeat (first | ((with_reducible refine Below.alloc ?_ ?_ _); rotate_left 1; (focus (first | omega | (simp; done) | (simp; omega)))) | (with_reducible refine Below.drew ?_) | ((with_reducible refine Below.setCell ?_ ?_ _); rotate_left 1; (focus (first | omega | (simp; done) | (simp; omega)))))); exact HB.out))
    replace HOB : Hid (BrkK w11 (0) (w.heap.size) (⟨E, R, H, A1, A2, ce, cr, ch, c1, c2⟩) (⟨width, es, rs, hs⟩)) := by rw [Hid, hw]; (repeat (first | (with_reducible refine BrkK.alloc ?_ _) | (with_reducible refine BrkK.drew ?_) | ((with_reducible refine BrkK.setCell ?_ ?_ _); rotate_left 1; (focus (first | omega | (simp; done) | (simp; omega)))))); exact HOB.out
    replace HOP1 : Hid (Rd w11 (lo6) (a6) (B1) (strs p1)) := by rw [Hid, hw]; (repeat (first | (with_reducible refine Rd.alloc ?_ _) | (with_reducible refine Rd.drew ?_) | ((with_reducible refine Rd.setCell ?_ ?_ _); rotate_left 1; (focus (first | omega | (simp; done) | (simp; omega)))))); exact HOP1.out
    replace HOP2 : Hid (Rd w11 (lo6) (a6) (B2) (strs p2)) := by rw [Hid, hw]; (repeat (first | (with_reducible refine Rd.alloc ?_ _) | (with_reducible refine Rd.drew ?_) | ((with_reducible refine Rd.setCell ?_ ?_ _); rotate_left 1; (focus (first | omega | (simp; done) | (simp; omega)))))); exact HOP2.out
    replace HOE5 : Hid (RowT w11 (lo5) (hi5) (((55, 5), .slice a3.E ne a3.ce, ne)) (ents es)) := by rw [Hid, hw]; (repeat (first | (with_reducible refine RowT.alloc ?_ _) | (with_reducible refine RowT.drew ?_) | ((with_reducible refine RowT.setCell ?_ ?_ _); rotate_left 1; (focus (first | omega | (simp; done) | (simp; omega)))))); exact HOE5.out
    replace HOR5 : Hid (RowT w11 (lo5) (hi5) (((57, 3), .slice a3.R nr a3.cr, nr)) (rcps rs)) := by rw [Hid, hw]; (repeat (first | (with_reducible refine RowT.alloc ?_ _) | (with_reducible refine RowT.drew ?_) | ((with_reducible refine RowT.setCell ?_ ?_ _); rotate_left 1; (focus (first | omega | (simp; done) | (simp; omega)))))); exact HOR5.out
    replace HOH5 : Hid (RowT w11 (g4) (g4 + 1) (((48, 5), .slice (some ⟨g4, 0, none⟩) (nh + 1) c4, nh + 1)) (hds hs ++ hds [x])) := by rw [Hid, hw]; (repeat (first | (with_reducible refine RowT.alloc ?_ _) | (with_reducible refine RowT.drew ?_) | ((with_reducible refine RowT.setCell ?_ ?_ _); rotate_left 1; (focus (first | omega | (simp; done) | (simp; omega)))))); exact HOH5.out
    replace HXb : Hid (NewBox w11 (w.heap.size) [.int .i64 width, .slice E ne ce, .slice R nr cr, .slice H nh ch, .int .i64 h.size, .slice A1 m1 c1, .int .i64 h.taken, .slice A2 m2 c2, .int .i64 h.num, .int .i64 h.size, .string h.root, .int .i64 h.taken, .string h.troot]) := by rw [Hid, hw]; (repeat (first | (with_reducible refine NewBox.alloc ?_ _) | (with_reducible refine NewBox.drew ?_) | ((with_reducible refine NewBox.setCell ?_ ?_ _); rotate_left 1; (focus (first | omega | (simp; done) | (simp; omega)))))); exact HXb.out
    clear hxb hfb hkb
    have hxb := HXb.out.2.1
    have hfb := HXb.out.2.2
    have hkb := HXb.out.1
    replace HXq : Hid (NewBox w11 (w.heap.size + 1) [.int .i64 0, .slice none 0 0, .slice none 0 0, .slice none 0 0, .int .i64 0, .slice none 0 0, .int .i64 0, .slice none 0 0, .int .i64 0, .int .i64 0, .string ⟨#[]⟩, .int .i64 0, .string ⟨#[]⟩]) := by rw [Hid, hw]; (repeat (first | (with_reducible refine NewBox.alloc ?_ _) | (with_reducible refine NewBox.drew ?_) | ((with_reducible refine NewBox.setCell ?_ ?_ _); rotate_left 1; (focus (first | omega | (simp; done) | (simp; omega)))))); exact HXq.out
    clear hxq hfq hkq
    have hxq := HXq.out.2.1
    have hfq := HXq.out.2.2
    have hkq := HXq.out.1
    replace HXx : Hid (NewBox w11 (w2.heap.size) [.int .i64 h.num, .int .i64 h.size, .string h.root, .int .i64 h.taken, .string h.troot]) := by rw [Hid, hw]; (repeat (first | (with_reducible refine NewBox.alloc ?_ _) | (with_reducible refine NewBox.drew ?_) | ((with_reducible refine NewBox.setCell ?_ ?_ _); rotate_left 1; (focus (first | omega | (simp; done) | (simp; omega)))))); exact HXx.out
    clear hxx hfx hkx
    have hxx := HXx.out.2.1
    have hfx := HXx.out.2.2
    have hkx := HXx.out.1
    replace HXs : Hid (NewBox w11 (s5_26) [.int .i64 x.size, .slice B1 p1.length d1, .int .i64 x.taken, .slice B2 p2.length d2, .int .i64 x.num, .int .i64 x.size, .string x.root, .int .i64 x.taken, .string x.troot]) := by rw [Hid, hw]; (repeat (first | (with_reducible refine NewBox.alloc ?_ _) | (with_reducible refine NewBox.drew ?_) | ((with_reducible refine NewBox.setCell ?_ ?_ _); rotate_left 1; (focus (first | omega | (simp; done) | (simp; omega)))))); exact HXs.out
    clear hxs hfs hks
    have hxs := HXs.out.2.1
    have hfs := HXs.out.2.2
    have hks := HXs.out.1
    replace HXo : Hid (NewBox w11 (w9.heap.size) [.int .i64 width, .slice a3.E ne a3.ce, .slice a3.R nr a3.cr, .slice (some ⟨g4, 0, none⟩) (nh + 1) c4, .int .i64 x.size, .slice B1 p1.length d1, .int .i64 x.taken, .slice B2 p2.length d2, .int .i64 x.num, .int .i64 x.size, .string x.root, .int .i64 x.taken, .string x.troot]) := by rw [Hid, hw]; apply NewBox.cast; (focus ((repeat (first | (with_reducible apply NewBox.alloc) | (with_reducible apply NewBox.drew) | (with_reducible apply NewBox.set1) | ((with_reducible apply NewBox.far); (focus (first | omega | (simp; done) | (simp; omega)))))); exact HXo.out)); rfl
    clear hxo hfo hko
    have hxo := HXo.out.2.1
    have hfo := HXo.out.2.2
    have hko := HXo.out.1
    clear hw
    obtain ⟨F, HF⟩ : ∃ F : Facts, Hid (F = fun iq xq tqs dsq uq => match iq with
     | 0 => xq.v = .agg #[.int .i64 width, .slice a3.E ne a3.ce, .slice a3.R nr a3.cr, .slice (some ⟨g4, 0, none⟩) (nh + 1) c4, .int .i64 x.size, .slice B1 p1.length d1, .int .i64 x.taken, .slice B2 p2.length d2, .int .i64 x.num, .int .i64 x.size, .string x.root, .int .i64 x.taken, .string x.troot]
     | 1 => xq.v = .agg #[.int .i64 width, .slice E ne ce, .slice R nr cr, .slice H nh ch, .int .i64 h.size, .slice A1 m1 c1, .int .i64 h.taken, .slice A2 m2 c2, .int .i64 h.num, .int .i64 h.size, .string h.root, .int .i64 h.taken, .string h.troot]
     | 2 => xq.v = .string tx
     | 3 => ∃ (kw : Nat), xq.v = .slice (some ⟨kw, 0, none⟩) 1 1 ∧ (True)
     | 4 => NewBox uq (w.heap.size + 1) [.int .i64 width, .slice a3.E ne a3.ce, .slice a3.R nr a3.cr, .slice (some ⟨g4, 0, none⟩) (nh + 1) c4, .int .i64 x.size, .slice B1 p1.length d1, .int .i64 x.taken, .slice B2 p2.length d2, .int .i64 x.num, .int .i64 x.size, .string x.root, .int .i64 x.taken, .string x.troot]
     | 5 => (match tqs, dsq with | [], [yq0] => ∃ (kw : Nat), yq0.v = .slice (some ⟨kw, 0, none⟩) 1 1 ∧ xq.v = .slice (some ⟨kw, 0, none⟩) 1 1 | _, _ => False)
     | 6 => xq.v = .int .i64 0
     | _ => False) := ⟨_, rfl⟩
    refine wp_region_facts [[], [], [], [], [], [3], []] [[], [], [], [], [], [], []] [some 82, some 83, some 84, some 85, none, some 3, some 4] (some 4) (w.heap.size + 1) (w.heap.size + 1 + 1) (.inr (by omega)) F (by kernel_rfl) (by kernel_rfl) (by kernel_rfl) ?_ ⟨?_, ?_, ?_, ?_, ?_, ?_, ?_, trivial⟩ ?_
    ·rw [HF.out]; intro iq xq tqs dsq uq u' hi hf hs hW hx hbk
     have kx : ∀ b, xq.s ≤ b → b < xq.e → u'.heap[b]? = uq.heap[b]? := fun b h1 h2 => hbk b (.inr (.inl ⟨h1, h2⟩))
     have kt : ∀ t ∈ tqs, ∀ b, t.s ≤ b → b < t.e → u'.heap[b]? = uq.heap[b]? := fun t ht b h1 h2 => hbk b (.inr (.inr ⟨t, ht, h1, h2⟩))
     match iq with
     | 0 => exact hf
     | 1 => exact hf
     | 2 => exact hf
     | 3 => obtain ⟨kw, hv, p0⟩ := hf; exact ⟨kw, hv, trivial⟩
     | 4 => exact NewBox.keep hf hs (hbk _ (.inl ⟨hkq, .inr (.inr rfl)⟩))
     | 5 => exact hf
     | 6 => exact hf
    ·intro gh ρ u hc hf1 hg1 hd h0 hb he ha hF
     first | (replace hb : Below w11.heap.size w11 u := hb.drew.below (by decide +kernel)) | (replace hb : Only (w.heap.size + 1) (w.heap.size + 1 + 1) w11 u := hb.drew.only)
     have hbz : w11.heap.size ≤ u.heap.size := hb.size
     have r11 : ρ (.tmp 11) = .pointer (some ⟨w9.heap.size, 0, none⟩) := (h0 11 (by decide +kernel)).trans rfl
     have q_o : ∀ o, u.cell? ⟨w9.heap.size, o, none⟩ = [.int .i64 width, .slice a3.E ne a3.ce, .slice a3.R nr a3.cr, .slice (some ⟨g4, 0, none⟩) (nh + 1) c4, .int .i64 x.size, .slice B1 p1.length d1, .int .i64 x.taken, .slice B2 p2.length d2, .int .i64 x.num, .int .i64 x.size, .string x.root, .int .i64 x.taken, .string x.troot][o]? := by first | exact (HXo.out.below hb).2.1 | exact (HXo.out.only hb (by omega)).2.1
     have k_o : w9.heap.size < u.heap.size := by have := HXo.out.1; omega
     have q_b : ∀ o, u.cell? ⟨w.heap.size, o, none⟩ = [.int .i64 width, .slice E ne ce, .slice R nr cr, .slice H nh ch, .int .i64 h.size, .slice A1 m1 c1, .int .i64 h.taken, .slice A2 m2 c2, .int .i64 h.num, .int .i64 h.size, .string h.root, .int .i64 h.taken, .string h.troot][o]? := by first | exact (HXb.out.below hb).2.1 | exact (HXb.out.only hb (by omega)).2.1
     have k_b : w.heap.size < u.heap.size := by have := HXb.out.1; omega
     clear  hd h0 he ha hF
     go_simp
     rw [HF.out]
     exact ⟨OnlyL.refl _ _, rfl⟩
    ·intro gh ρ u hc hf1 hg1 hd h0 hb he ha hF
     first | (replace hb : Below w11.heap.size w11 u := hb.drew.below (by decide +kernel)) | (replace hb : Only (w.heap.size + 1) (w.heap.size + 1 + 1) w11 u := hb.drew.only)
     have hbz : w11.heap.size ≤ u.heap.size := hb.size
     have r1 : ρ (.tmp 1) = .pointer (some ⟨w.heap.size, 0, none⟩) := (h0 1 (by decide +kernel)).trans rfl
     have q_o : ∀ o, u.cell? ⟨w9.heap.size, o, none⟩ = [.int .i64 width, .slice a3.E ne a3.ce, .slice a3.R nr a3.cr, .slice (some ⟨g4, 0, none⟩) (nh + 1) c4, .int .i64 x.size, .slice B1 p1.length d1, .int .i64 x.taken, .slice B2 p2.length d2, .int .i64 x.num, .int .i64 x.size, .string x.root, .int .i64 x.taken, .string x.troot][o]? := by first | exact (HXo.out.below hb).2.1 | exact (HXo.out.only hb (by omega)).2.1
     have k_o : w9.heap.size < u.heap.size := by have := HXo.out.1; omega
     have q_b : ∀ o, u.cell? ⟨w.heap.size, o, none⟩ = [.int .i64 width, .slice E ne ce, .slice R nr cr, .slice H nh ch, .int .i64 h.size, .slice A1 m1 c1, .int .i64 h.taken, .slice A2 m2 c2, .int .i64 h.num, .int .i64 h.size, .string h.root, .int .i64 h.taken, .string h.troot][o]? := by first | exact (HXb.out.below hb).2.1 | exact (HXb.out.only hb (by omega)).2.1
     have k_b : w.heap.size < u.heap.size := by have := HXb.out.1; omega
     clear  hd h0 he ha hF
     go_simp
     rw [HF.out]
     exact ⟨OnlyL.refl _ _, rfl⟩
    ·intro gh ρ u hc hf1 hg1 hd h0 hb he ha hF
     have r9 : ρ (.tmp 9) = .string tx := (h0 9 (by decide +kernel)).trans rfl
     clear  hd h0 he ha hF
     go_simp
     rw [HF.out]
     exact ⟨OnlyL.refl _ _, rfl⟩
    ·intro gh ρ u hc hf1 hg1 hd h0 hb he ha hF
     first | (replace hb : Below w11.heap.size w11 u := hb.drew.below (by decide +kernel)) | (replace hb : Only (w.heap.size + 1) (w.heap.size + 1 + 1) w11 u := hb.drew.only)
     have hbz : w11.heap.size ≤ u.heap.size := hb.size
     have r83 : ρ (.tmp 83) = .agg #[.int .i64 width, .slice E ne ce, .slice R nr cr, .slice H nh ch, .int .i64 h.size, .slice A1 m1 c1, .int .i64 h.taken, .slice A2 m2 c2, .int .i64 h.num, .int .i64 h.size, .string h.root, .int .i64 h.taken, .string h.troot] := by have h := hF 1 (by decide +kernel) (by decide +kernel); rw [HF.out] at h; exact (hd 1 (by decide +kernel) 83 (by kernel_rfl)).trans h
     have r84 : ρ (.tmp 84) = .string tx := by have h := hF 2 (by decide +kernel) (by decide +kernel); rw [HF.out] at h; exact (hd 2 (by decide +kernel) 84 (by kernel_rfl)).trans h
     clear  hd h0 he ha hF
     go_simp
     have q_o := (HXo.out.below hb)
     have q_b := (HXb.out.below hb)
     refine (HWR.out _ (HOB.out.below hb).base tx (by omega)).mono ?_
     rintro e u1 ⟨kw, rfl, hb1⟩
     rw [HF.out]
     exact ⟨_, rfl, OnlyL.of_below hb1, kw, rfl, trivial⟩
    ·intro gh ρ u hc hf1 hg1 hd h0 hb he ha hF
     first | (replace hb : Below w11.heap.size w11 u := hb.drew.below (by decide +kernel)) | (replace hb : Only (w.heap.size + 1) (w.heap.size + 1 + 1) w11 u := hb.drew.only)
     have hbz : w11.heap.size ≤ u.heap.size := hb.size
     have r2 : ρ (.tmp 2) = .pointer (some ⟨w.heap.size + 1, 0, none⟩) := (h0 2 (by decide +kernel)).trans rfl
     have r82 : ρ (.tmp 82) = .agg #[.int .i64 width, .slice a3.E ne a3.ce, .slice a3.R nr a3.cr, .slice (some ⟨g4, 0, none⟩) (nh + 1) c4, .int .i64 x.size, .slice B1 p1.length d1, .int .i64 x.taken, .slice B2 p2.length d2, .int .i64 x.num, .int .i64 x.size, .string x.root, .int .i64 x.taken, .string x.troot] := by have h := hF 0 (by decide +kernel) (by decide +kernel); rw [HF.out] at h; exact (hd 0 (by decide +kernel) 82 (by kernel_rfl)).trans h
     obtain ⟨hzk, hzc, hzf⟩ := HXq.out.below hb
     clear  hd h0 he ha hF
     go_simp
     rw [HF.out]
     refine ⟨?_, ?_⟩
     ·refine OnlyL.of_z (lo := w.heap.size + 1) (hi := w.heap.size + 1 + 1) ?_ rfl; refine Only.setCell ?_ (by exact Nat.le_refl _) (by exact Nat.lt_succ_self _) _; refine Only.setCell ?_ (by exact Nat.le_refl _) (by exact Nat.lt_succ_self _) _; refine Only.setCell ?_ (by exact Nat.le_refl _) (by exact Nat.lt_succ_self _) _; refine Only.setCell ?_ (by exact Nat.le_refl _) (by exact Nat.lt_succ_self _) _; refine Only.setCell ?_ (by exact Nat.le_refl _) (by exact Nat.lt_succ_self _) _; refine Only.setCell ?_ (by exact Nat.le_refl _) (by exact Nat.lt_succ_self _) _; refine Only.setCell ?_ (by exact Nat.le_refl _) (by exact Nat.lt_succ_self _) _; refine Only.setCell ?_ (by exact Nat.le_refl _) (by exact Nat.lt_succ_self _) _; refine Only.setCell ?_ (by exact Nat.le_refl _) (by exact Nat.lt_succ_self _) _; refine Only.setCell ?_ (by exact Nat.le_refl _) (by exact Nat.lt_succ_self _) _; refine Only.setCell ?_ (by exact Nat.le_refl _) (by exact Nat.lt_succ_self _) _; refine Only.setCell ?_ (by exact Nat.le_refl _) (by exact Nat.lt_succ_self _) _; refine Only.setCell ?_ (by exact Nat.le_refl _) (by exact Nat.lt_succ_self _) _; exact Only.refl _ _ _
     ·show NewBox _ (w.heap.size + 1) _
      exact ⟨by simpa [World.setCell] using hzk, fun o => by rcases o with _ | _ | _ | _ | _ | _ | _ | _ | _ | _ | _ | _ | _ | o <;> go_simp, fun o => by go_simp⟩
    ·intro gh ρ u hc hf1 hg1 hd h0 hb he ha hF
     have f3 : ∃ (kw : Nat), (gh 3).v = .slice (some ⟨kw, 0, none⟩) 1 1 ∧ (True) := by have h := hF 3 (by decide +kernel) (by decide +kernel); rw [HF.out] at h; exact h
     obtain ⟨kw, hv3, g3_0⟩ := f3
     have hrt3 := hv3
     have r85 : ρ (.tmp 85) = .slice (some ⟨kw, 0, none⟩) 1 1 := (hd 3 (by decide +kernel) 85 (by kernel_rfl)).trans hv3
     have HRT3 := Lib.hid hrt3
     clear hv3 hrt3 hd h0 he ha hF
     go_simp
     rw [HF.out]
     exact ⟨OnlyL.refl _ _, kw, HRT3.out, rfl⟩
    ·intro gh ρ u hc hf1 hg1 hd h0 hb he ha hF
     clear  hd h0 he ha hF
     go_simp
     rw [HF.out]
     exact ⟨OnlyL.refl _ _, rfl⟩
    intro gh w12 hB hE hA hF
    replace hB : Only (w.heap.size + 1) (w.heap.size + 1 + 1) w11 w12 := hB.only
    have f0 : (gh 0).v = .agg #[.int .i64 width, .slice a3.E ne a3.ce, .slice a3.R nr a3.cr, .slice (some ⟨g4, 0, none⟩) (nh + 1) c4, .int .i64 x.size, .slice B1 p1.length d1, .int .i64 x.taken, .slice B2 p2.length d2, .int .i64 x.num, .int .i64 x.size, .string x.root, .int .i64 x.taken, .string x.troot] := by have h := hF 0 (by decide +kernel) (by decide +kernel); rw [HF.out] at h; exact h
    have f1 : (gh 1).v = .agg #[.int .i64 width, .slice E ne ce, .slice R nr cr, .slice H nh ch, .int .i64 h.size, .slice A1 m1 c1, .int .i64 h.taken, .slice A2 m2 c2, .int .i64 h.num, .int .i64 h.size, .string h.root, .int .i64 h.taken, .string h.troot] := by have h := hF 1 (by decide +kernel) (by decide +kernel); rw [HF.out] at h; exact h
    have f2 : (gh 2).v = .string tx := by have h := hF 2 (by decide +kernel) (by decide +kernel); rw [HF.out] at h; exact h
    have f3 : ∃ (kw : Nat), (gh 3).v = .slice (some ⟨kw, 0, none⟩) 1 1 ∧ (True) := by have h := hF 3 (by decide +kernel) (by decide +kernel); rw [HF.out] at h; exact h
    have f4 : NewBox w12 (w.heap.size + 1) [.int .i64 width, .slice a3.E ne a3.ce, .slice a3.R nr a3.cr, .slice (some ⟨g4, 0, none⟩) (nh + 1) c4, .int .i64 x.size, .slice B1 p1.length d1, .int .i64 x.taken, .slice B2 p2.length d2, .int .i64 x.num, .int .i64 x.size, .string x.root, .int .i64 x.taken, .string x.troot] := by have h := hF 4 (by decide +kernel) (by decide +kernel); rw [HF.out] at h; exact h
    have f5 : ∃ (kw : Nat), (gh 3).v = .slice (some ⟨kw, 0, none⟩) 1 1 ∧ (gh 5).v = .slice (some ⟨kw, 0, none⟩) 1 1 := by have h := hF 5 (by decide +kernel) (by decide +kernel); rw [HF.out] at h; exact h
    have f6 : (gh 6).v = .int .i64 0 := by have h := hF 6 (by decide +kernel) (by decide +kernel); rw [HF.out] at h; exact h
    obtain ⟨kw, hv3, _⟩ := f3
    have hv0 := f0
    have hv1 := f1
    have hv2 := f2
    have hx4 := f4
    obtain ⟨kw_5, hu3, hv5⟩ := f5
    replace hu3 := hv3.symm.trans hu3
    simp at hu3
    try simp only [and_assoc] at hu3
    obtain rfl := hu3
    have hv6 := f6
    clear hE hA hF
    simp only [putDs, Nat.reduceAdd, hv0, hv1, hv2, hv3, hv5, hv6]
    clear hv0 hv1 hv2 hv3 hv5 hv6
    clear HF
    have hb := hB
    clear hB
    have hzw12 : w11.heap.size ≤ w12.heap.size := hb.size
    have hzzw12 : w.heap.size ≤ w12.heap.size := by omega
    replace HB := Lib.hid (below_only HB.out hb (by omega) HB.out.size)
    replace HOB := Lib.hid (HOB.out.only hb (by first | omega | (simp; omega)))
    replace HOP1 := Lib.hid (HOP1.out.only hb (by first | omega | (simp; omega)))
    replace HOP2 := Lib.hid (HOP2.out.only hb (by first | omega | (simp; omega)))
    replace HOE5 := Lib.hid (HOE5.out.only hb (by first | omega | (simp; omega)))
    replace HOR5 := Lib.hid (HOR5.out.only hb (by first | omega | (simp; omega)))
    replace HOH5 := Lib.hid (HOH5.out.only hb (by first | omega | (simp; omega)))
    replace HXb := Lib.hid (HXb.out.only hb (by first | omega | (simp; omega)))
    clear hxb hfb hkb
    have hxb := HXb.out.2.1
    have hfb := HXb.out.2.2
    have hkb := HXb.out.1
    clear hxq hfq hkq HXq
    replace HXx := Lib.hid (HXx.out.only hb (by first | omega | (simp; omega)))
    clear hxx hfx hkx
    have hxx := HXx.out.2.1
    have hfx := HXx.out.2.2
    have hkx := HXx.out.1
    replace HXs := Lib.hid (HXs.out.only hb (by first | omega | (simp; omega)))
    clear hxs hfs hks
    have hxs := HXs.out.2.1
    have hfs := HXs.out.2.2
    have hks := HXs.out.1
    replace HXo := Lib.hid (HXo.out.only hb (by first | omega | (simp; omega)))
    clear hxo hfo hko
    have hxo := HXo.out.2.1
    have hfo := HXo.out.2.2
    have hko := HXo.out.1
    clear hb
    have HXq : Hid (NewBox w12 (w.heap.size + 1) [.int .i64 width, .slice a3.E ne a3.ce, .slice a3.R nr a3.cr, .slice (some ⟨g4, 0, none⟩) (nh + 1) c4, .int .i64 x.size, .slice B1 p1.length d1, .int .i64 x.taken, .slice B2 p2.length d2, .int .i64 x.num, .int .i64 x.size, .string x.root, .int .i64 x.taken, .string x.troot]) := hx4
    have hxq := HXq.out.2.1
    have hfq := HXq.out.2.2
    have hkq := HXq.out.1
    clear hx4
    have hbk := brk_rows (lo := w.heap.size) HNX.out HNE.out HNR.out (by rw [List.length_append, HNH.out] <;> rfl) HOE5.out HOR5.out (by rw [hds_app]; exact HOH5.out) (by rw [HE1.out]; exact HOP1.out.mono (by omega) (by omega) (Nat.le_refl _)) (by rw [HE2.out]; exact HOP2.out.mono (by omega) (by omega) (Nat.le_refl _)) HNN.out.1 HNN.out.2 (by omega) (by omega) (by omega)
    have HBK := Lib.hid hbk
    clear hbk
    go_wp2
    refine bodyPost_ret (v := .tuple #[.agg #[.int .i64 width, .slice a3.E ne a3.ce, .slice a3.R nr a3.cr, .slice (some ⟨g4, 0, none⟩) (nh + 1) c4, .int .i64 x.size, .slice B1 p1.length d1, .int .i64 x.taken, .slice B2 p2.length d2, .int .i64 x.num, .int .i64 x.size, .string x.root, .int .i64 x.taken, .string x.troot], .slice (some ⟨kw, 0, none⟩) 1 1, .int .i64 0]) (by simp [results, Try.results77, go_sem, hxq]) rfl ?_
    exact ⟨⟨a3.E, a3.R, some ⟨g4, 0, none⟩, B1, B2, a3.ce, a3.cr, c4, d1, d2⟩, ⟨width, es, rs, hs ++ [x]⟩, some ⟨kw, 0, none⟩, 1, 1, 0, by dsimp only; rw [List.length_append, HNE.out, HNR.out, HNH.out, HE1.out, HE2.out, lastHd_snoc] <;> rfl, fun _ => ⟨HBK.out, rfl, Nat.le_succ _⟩, HB.out⟩
end Go.Proofs.Ytoccjgcokffkbaa
namespace Go.Proofs.Ytoccjgcokffkbaa
set_option linter.unusedVariables false
set_option linter.unusedSimpArgs false
open Go.RowKit
/-- number k of a slice of ints -/
theorem Rd.int {w : World} {lo hi : Nat} {A : Option Addr} {l : List Int} (h : Rd w lo hi A (ints l)) {k : Nat} (hk : k < l.length) :
  ∃ b off s, A = some ⟨b, off, none⟩ ∧ b < w.heap.size ∧ l[k]? = some s ∧ w.cell? ⟨b, off + k, none⟩ = some (.int .i64 s) := by
 obtain ⟨b, off, h1, h2, h3⟩ := h.at_ (j := k) (by simpa [ints] using hk)
 exact ⟨b, off, l[k], h1, h2, List.getElem?_eq_getElem hk, h3 k _ (ints_get (List.getElem?_eq_getElem hk))⟩
end Go.Proofs.Ytoccjgcokffkbaa
namespace Go.Proofs.Ytoccjgcokffkbaa
set_option linter.unusedVariables false
set_option linter.unusedSimpArgs false
open Go.RowKit
/-- what stands in the way of nothing but itself: the cursor and the drawn bytes, as a kind of the walk -/
def CodeK (w : World) (lo hi : Nat) (a : Option Addr × Nat × Nat) (l : List Int) : Prop := lo = 0 ∧ ∃ p, hi = p + 1 ∧ Code w p a.1 a.2.1 a.2.2 0 p l
theorem CodeK.mk_ {w : World} {p n g : Nat} {B : Option Addr} {l : List Int} (h : Code w p B n g 0 p l) : CodeK w 0 (p + 1) (B, n, g) l := ⟨rfl, p, rfl, h⟩
theorem CodeK.get {w : World} {p n g : Nat} {B : Option Addr} {l : List Int} (h : CodeK w 0 (p + 1) (B, n, g) l) : Code w p B n g 0 p l := by
 obtain ⟨_, q, h1, h2⟩ := h
 obtain rfl : p = q := by omega
 exact h2
section
variable {w w' : World} {lo hi lo' hi' : Nat} {a : Option Addr × Nat × Nat} {l : List Int}
theorem CodeK.below (h : CodeK w lo hi a l) (hb : Below w.heap.size w w') : CodeK w' lo hi a l := by
 obtain ⟨h1, p, h2, h3⟩ := h; exact ⟨h1, p, h2, h3.below hb⟩
theorem CodeK.only (h : CodeK w lo hi a l) (ho : Only lo' hi' w w') (hd : hi ≤ lo' ∨ hi' ≤ lo) : CodeK w' lo hi a l := by
 obtain ⟨h1, p, h2, h3⟩ := h
 refine ⟨h1, p, h2, ?_⟩
 obtain ⟨i, k, hx, hi2⟩ := h3.cur
 exact ⟨⟨i, k, hx.only ho (by omega), hi2⟩, h3.rd.only ho (by omega), h3.len, h3.small, h3.byte, h3.far⟩
theorem CodeK.alloc (h : CodeK w lo hi a l) (o : Obj) : CodeK (w.alloc o) lo hi a l := h.below ((Below.refl _ _).alloc (Nat.le_refl _) o)
theorem CodeK.drew (h : CodeK w lo hi a l) : CodeK w.drew lo hi a l := h.below ((Below.refl _ _).drew)
theorem CodeK.setCell (h : CodeK w lo hi a l) {p : Addr} (hp : p.block < lo ∨ hi ≤ p.block) (u : Value) : CodeK (w.setCell p u) lo hi a l := by
 have ho : Only p.block (p.block + 1) w (w.setCell p u) := (Only.refl _ _ _).setCell (Nat.le_refl _) (Nat.lt_succ_self _) u
 exact h.only ho (by have := h.1; omega)
/-- a block, as a kind of the walk -/
def BoxK (w : World) (lo hi : Nat) (_ : Unit) (xs : List Value) : Prop := NewBox w lo xs ∧ hi = lo + 1
theorem BoxK.below {u : Unit} {xs : List Value} (h : BoxK w lo hi u xs) (hb : Below w.heap.size w w') : BoxK w' lo hi u xs := ⟨h.1.below hb, h.2⟩
theorem BoxK.only {u : Unit} {xs : List Value} (h : BoxK w lo hi u xs) (ho : Only lo' hi' w w') (hd : hi ≤ lo' ∨ hi' ≤ lo) : BoxK w' lo hi u xs := ⟨h.1.only ho (by have := h.2; omega), h.2⟩
theorem BoxK.alloc {u : Unit} {xs : List Value} (h : BoxK w lo hi u xs) (o : Obj) : BoxK (w.alloc o) lo hi u xs := ⟨h.1.alloc o, h.2⟩
theorem BoxK.drew {u : Unit} {xs : List Value} (h : BoxK w lo hi u xs) : BoxK w.drew lo hi u xs := ⟨h.1.drew, h.2⟩
theorem BoxK.setCell {u : Unit} {xs : List Value} (h : BoxK w lo hi u xs) {p : Addr} (hp : p.block < lo ∨ hi ≤ p.block) (v : Value) : BoxK (w.setCell p v) lo hi u xs := ⟨h.1.setCell (by have := h.2; omega) v, h.2⟩
theorem celoD {k o : Nat} {v : Value} (h : Only lo hi w w') (hc : w.cell? ⟨k, o, none⟩ = some v) (hk : k < lo ∨ hi ≤ k) : w'.cell? ⟨k, o, none⟩ = some v := by
 have hb := h.block k (World.block_lt_of_cell? w ⟨k, o, none⟩ hc) hk
 simpa [World.cell?, hb] using hc
def CellK (w : World) (b o : Nat) (v : Value) : Prop := w.cell? ⟨b, o, none⟩ = some v
theorem CellK.alloc {b o : Nat} {v : Value} (h : CellK w b o v) (x : Obj) : CellK (w.alloc x) b o v := celoD (Only.of_below (lo := w.heap.size) (hi := w.heap.size) ((Below.refl _ _).alloc (Nat.le_refl _) x)) h (by have := World.block_lt_of_cell? w ⟨b, o, none⟩ h; simp only at this; omega)
theorem CellK.drew {b o : Nat} {v : Value} (h : CellK w b o v) : CellK w.drew b o v := h
theorem CellK.setCell {b o : Nat} {v : Value} (h : CellK w b o v) {p : Addr} (hp : p.block ≠ b) (u : Value) : CellK (w.setCell p u) b o v := celoD ((Only.refl p.block (p.block + 1) w).setCell (Nat.le_refl _) (Nat.lt_succ_self _) u) h (by omega)
end
theorem only_new {w w' : World} {lo hi : Nat} {p : Addr} (h : Only lo hi w w') (hk : w.heap.size ≤ p.block) (u : Value) : Only lo hi w (w'.setCell p u) :=
 ⟨h.os, h.tape, h.output, by simpa [World.setCell] using h.size, fun k hk2 hd => (Below.heap_setCell _ _ _ _ (by omega)).trans (h.block k hk2 hd)⟩
theorem only_alloc {w w' : World} {lo hi : Nat} (h : Only lo hi w w') (o : Obj) : Only lo hi w (w'.alloc o) := h.trans ((Only.of_below ((Below.refl _ _).alloc (Nat.le_refl _) o)))
theorem only_drew {w w' : World} {lo hi : Nat} (h : Only lo hi w w') : Only lo hi w w'.drew := ⟨h.os, h.tape, h.output, h.size, h.block⟩
end Go.Proofs.Ytoccjgcokffkbaa
