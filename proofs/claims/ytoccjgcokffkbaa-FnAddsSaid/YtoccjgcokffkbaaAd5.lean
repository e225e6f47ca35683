/- What a deed makes of a right broker, by the reference: SealNow. What the laws' own helpers do to a slice of ints. The cursor of the draws as a kind of the walk. Drawn texts out of a list; drawn topics. A drawn right broker: what some deeds make of a new one. DrawRight and DrawDeed: a drawn right broker, a drawn deed. -/
import Derived.Test.YtoccjgcokffkbaaAd4
import Derived.Test.YtoccjgcokffkbaaAd2
import Derived.Test.YtoccjgcokffkbaaAd1
import Derived.Test.YtoccjgcokffkbaaAd3
namespace Go.Proofs.Ytoccjgcokffkbaa
set_option linter.unusedVariables false
set_option linter.unusedSimpArgs false
open Go.RowKit
/-- what SealMore hands back of a right broker -/
theorem BrkParts.smIs {width : Int} {es : List Ent} {rs : List Rcp} {hs : List Hd} (h : BrkParts width es rs hs) (hl : hs.length < 400) :
  smZ1 width (lastHd hs).size (pk1 width es hs) (lastHd hs).taken (pk2 width rs hs) (lastHd hs) (leavesM width (es.drop (lastHd hs).size.toNat)) (takenM width (rs.drop (lastHd hs).taken.toNat)) = (nxHd width es rs hs).size ∧
  smL1 width (lastHd hs).size (pk1 width es hs) (lastHd hs).taken (pk2 width rs hs) (lastHd hs) (leavesM width (es.drop (lastHd hs).size.toNat)) (takenM width (rs.drop (lastHd hs).taken.toNat)) = pk1 width es (hs ++ [nxHd width es rs hs]) ∧
  smZ2 width (lastHd hs).size (pk1 width es hs) (lastHd hs).taken (pk2 width rs hs) (lastHd hs) (leavesM width (es.drop (lastHd hs).size.toNat)) (takenM width (rs.drop (lastHd hs).taken.toNat)) = (nxHd width es rs hs).taken ∧
  smL2 width (lastHd hs).size (pk1 width es hs) (lastHd hs).taken (pk2 width rs hs) (lastHd hs) (leavesM width (es.drop (lastHd hs).size.toNat)) (takenM width (rs.drop (lastHd hs).taken.toNat)) = pk2 width rs (hs ++ [nxHd width es rs hs]) ∧
  smH width (lastHd hs).size (pk1 width es hs) (lastHd hs).taken (pk2 width rs hs) (lastHd hs) (leavesM width (es.drop (lastHd hs).size.toNat)) (takenM width (rs.drop (lastHd hs).taken.toNat)) = nxHd width es rs hs ∧
  smCode width (lastHd hs).size (pk1 width es hs) (lastHd hs).taken (pk2 width rs hs) (lastHd hs) (leavesM width (es.drop (lastHd hs).size.toNat)) (takenM width (rs.drop (lastHd hs).taken.toNat)) = 0 := by
 obtain ⟨s1, s2, s3, s4⟩ := h.sm hl
 have k := Go.Proofs.Ytoccjgcokffkbaa.smIs s1
 obtain ⟨b1, b2, b3, b4, b5, b6, b7⟩ := h.last
 obtain ⟨p1, p2⟩ := pk_next h
 refine ⟨?_, ?_, ?_, ?_, ?_, k.a6⟩
 ·rw [k.a1, leavesM_len, List.length_drop]; show _ = (es.length : Int); omega
 ·rw [k.a2, s2, p1]
 ·rw [k.a3, takenM_len, List.length_drop]; show _ = (rs.length : Int); omega
 ·rw [k.a4, s3, p2]
 ·rw [k.a5, s4]
set_option maxRecDepth 100000 in
set_option maxHeartbeats 20000000 in
theorem l12SealP_c (width : Int) (E R H A1 A2 : Option Addr) (ne nr nh ce cr ch c1 c2 m1 m2 : Nat) (es : List Ent) (rs : List Rcp) (hs : List Hd) (l1 l2 : List ByteArray) (h : Hd) (lo hi : Nat) (w : World) (hk : BrkK w lo hi ⟨E, R, H, A1, A2, ce, cr, ch, c1, c2⟩ ⟨width, es, rs, hs⟩) (hne : es.length = ne) (hnr : rs.length = nr) (hnh : hs.length = nh) (hl1 : pk1 width es hs = l1) (hl2 : pk2 width rs hs = l2) (hm1 : l1.length = m1) (hm2 : l2.length = m2) (hh : lastHd hs = h) :
  Calls Try.prog 77 #[.agg #[.int .i64 width, .slice E ne ce, .slice R nr cr, .slice H nh ch, .int .i64 h.size, .slice A1 m1 c1, .int .i64 h.taken, .slice A2 m2 c2, .int .i64 h.num, .int .i64 h.size, .string h.root, .int .i64 h.taken, .string h.troot]] w fun e w' => ∃ (a' : Bk) (m' : Bm) (L : Option Addr) (q g : Nat) (code : Int), e = .returned (.tuple #[.agg #[.int .i64 m'.width, .slice a'.E m'.es.length a'.ce, .slice a'.R m'.rs.length a'.cr, .slice a'.H m'.hs.length a'.ch, .int .i64 (lastHd m'.hs).size, .slice a'.A1 (pk1 m'.width m'.es m'.hs).length a'.c1, .int .i64 (lastHd m'.hs).taken, .slice a'.A2 (pk2 m'.width m'.rs m'.hs).length a'.c2, .int .i64 (lastHd m'.hs).num, .int .i64 (lastHd m'.hs).size, .string (lastHd m'.hs).root, .int .i64 (lastHd m'.hs).taken, .string (lastHd m'.hs).troot], .slice L q g, .int .i64 code]) ∧ NextOk w w' ⟨width, es, rs, hs⟩ a' m' code := by
 obtain ⟨f1, f2, f3, g1, g2, g3, g4, f4, g5, g6, g7⟩ := parts_fits hk.ok
 have hlast := hk.ok.last
 have hpos := hk.ok.pos
 dsimp only at f1 f2 f3 g1 g2 g3 g4 f4 g5 g6 g7 hlast hpos
 rw [hne] at g1 hlast
 rw [hnr] at g2 hlast
 rw [hnh] at g3 g4 hpos
 rw [hh] at f4 g5 hlast
 rw [hl1, hm1] at g6
 rw [hl2, hm2] at g7
 have HLA := Lib.hid (fun W (rr : BrkK W 0 W.heap.size ⟨E, R, H, A1, A2, ce, cr, ch, c1, c2⟩ ⟨width, es, rs, hs⟩) => l12Last_c width h.size h.taken E R H A1 A2 ne nr nh ce cr ch c1 c2 0 W.heap.size m1 m2 hs h W rr.rH hnh (by omega) (by omega))
 rw [hh] at HLA
 have kE := hk.kE
 have kR := hk.kR
 have hok : BrkParts width es rs hs := hk.ok
 have HOK := Lib.hid hok
 have HN1 := Lib.hid (show A1 = none → c1 = 0 from hk.n1)
 have HN2 := Lib.hid (show A2 = none → c2 = 0 from hk.n2)
 clear hok
 have HNR := Lib.hid hnr
 have HNH := Lib.hid hnh
 have HNE := Lib.hid hne
 have HHH := Lib.hid hh
 have HFE := Lib.hid f1
 have HFR := Lib.hid f2
 have HFH := Lib.hid f3
 have HQ1 := Lib.hid hl1
 have HQ2 := Lib.hid hl2
 have HM1 := Lib.hid hm1
 have HM2 := Lib.hid hm2
 have HF4 := Lib.hid f4
 have kE2 : ne ≤ ce := by have h7 := hk.kE; dsimp only at h7; omega
 have kR2 : nr ≤ cr := by have h7 := hk.kR; dsimp only at h7; omega
 clear kE kR
 have HB : Hid (Below w.heap.size w w) := Below.refl _ _
 have HOB : Hid (BrkK w (0) (w.heap.size) (⟨E, R, H, A1, A2, ce, cr, ch, c1, c2⟩) (⟨width, es, rs, hs⟩)) := Lib.hid hk.base
 clear hk f1 f2 f3 f4 hne hnr hnh hl1 hl2 hm1 hm2 hh
 go_enter Try.func77, Try.ntmps77
 go_wp2_with fail
 refine calls_named (fun w1 hw => ?_)
 have hz1 : w.heap.size + 2 ≤ w1.heap.size := by rw [hw]; first | omega | (simp [World.setCell]; done) | (simp [World.setCell]; omega)
 have hzz1 : w.heap.size ≤ w1.heap.size := by omega
 have hbn : Below w.heap.size w w1 := by rw [hw]; exact (by ((repeat (first | ((with_reducible refine Below.alloc ?_ ?_ _); rotate_left 1; (focus (first | omega | (simp; done) | (simp; omega)))) | (with_reducible refine Below.drew ?_) | ((with_reducible refine Below.setCell ?_ ?_ _); rotate_left 1; (focus (first | omega | (simp; done) | (simp; omega)))))); exact Below.refl _ _))
 replace HB := Lib.hid (below_then HB.out hbn HB.out.size)
 replace HOB := Lib.hid (HOB.out.below hbn)
 clear hbn
 have HXb : Hid (NewBox w1 (w.heap.size) [.int .i64 width, .slice E ne ce, .slice R nr cr, .slice H nh ch, .int .i64 h.size, .slice A1 m1 c1, .int .i64 h.taken, .slice A2 m2 c2, .int .i64 h.num, .int .i64 h.size, .string h.root, .int .i64 h.taken, .string h.troot]) := by rw [Hid, hw]; exact ⟨by first | omega | (simp [World.setCell]; done) | (simp [World.setCell]; omega), fun o => by rcases o with _ | _ | _ | _ | _ | _ | _ | _ | _ | _ | _ | _ | _ | o <;> go_simp, fun o => by go_simp⟩
 have hxb := HXb.out.2.1
 have hfb := HXb.out.2.2
 have hkb := HXb.out.1
 have HXq : Hid (NewBox w1 (w.heap.size + 1) [.int .i64 0, .slice none 0 0, .slice none 0 0, .slice none 0 0, .int .i64 0, .slice none 0 0, .int .i64 0, .slice none 0 0, .int .i64 0, .int .i64 0, .string ⟨#[]⟩, .int .i64 0, .string ⟨#[]⟩]) := by rw [Hid, hw]; exact ⟨by first | omega | (simp [World.setCell]; done) | (simp [World.setCell]; omega), fun o => by rcases o with _ | _ | _ | _ | _ | _ | _ | _ | _ | _ | _ | _ | _ | o <;> go_simp, fun o => by go_simp⟩
 have hxq := HXq.out.2.1
 have hfq := HXq.out.2.2
 have hkq := HXq.out.1
 clear hw
 refine (HLA.out _ HOB.out.base).mono ?_
 rintro e w2 ⟨rfl, hb⟩
 have hzw2 : w1.heap.size ≤ w2.heap.size := hb.size
 have hzzw2 : w.heap.size ≤ w2.heap.size := by omega
 replace HB := Lib.hid (below_then HB.out hb HB.out.size)
 replace HOB := Lib.hid (HOB.out.below hb)
 replace HXb := Lib.hid (HXb.out.below hb)
 clear hxb hfb hkb
 have hxb := HXb.out.2.1
 have hfb := HXb.out.2.2
 have hkb := HXb.out.1
 replace HXq := Lib.hid (HXq.out.below hb)
 clear hxq hfq hkq
 have hxq := HXq.out.2.1
 have hfq := HXq.out.2.2
 have hkq := HXq.out.1
 clear hb
 clear HLA
 by_cases hno : h.size = (ne : Int) ∧ h.taken = (nr : Int)
 ·have hd1 : (h.size == (ne : Int)) = true := beq_iff_eq.2 hno.1
  have hd2 : (h.taken == (nr : Int)) = true := beq_iff_eq.2 hno.2
  clear hno
  go_wp2
  refine bodyPost_named (fun w3 hw => ?_)
  have hz3 : w2.heap.size + 1 ≤ w3.heap.size := by rw [hw]; first | omega | (simp [World.setCell]; done) | (simp [World.setCell]; omega)
  have hzz3 : w.heap.size ≤ w3.heap.size := by omega
  replace HB : Hid (Below w.heap.size w w3) := by rw [Hid, hw]; exact (by ((repeat (first | ((with_reducible refine Below.alloc ?_ ?_ _); rotate_left 1; (focus (first | omega | (simp; done) | (simp; omega)))) | (with_reducible refine Below.drew ?_) | ((with_reducible refine Below.setCell ?_ ?_ _); rotate_left 1; (focus (first | omega | (simp; done) | (simp; omega)))))); exact HB.out))
  replace HOB : Hid (BrkK w3 (0) (w.heap.size) (⟨E, R, H, A1, A2, ce, cr, ch, c1, c2⟩) (⟨width, es, rs, hs⟩)) := by rw [Hid, hw]; (repeat (first | (with_reducible refine BrkK.alloc ?_ _) | (with_reducible refine BrkK.drew ?_) | ((with_reducible refine BrkK.setCell ?_ ?_ _); rotate_left 1; (focus (first | omega | (simp; done) | (simp; omega)))))); exact HOB.out
  replace HXb : Hid (NewBox w3 (w.heap.size) [.int .i64 width, .slice E ne ce, .slice R nr cr, .slice H nh ch, .int .i64 h.size, .slice A1 m1 c1, .int .i64 h.taken, .slice A2 m2 c2, .int .i64 h.num, .int .i64 h.size, .string h.root, .int .i64 h.taken, .string h.troot]) := by rw [Hid, hw]; (repeat (first | (with_reducible refine NewBox.alloc ?_ _) | (with_reducible refine NewBox.drew ?_) | ((with_reducible refine NewBox.setCell ?_ ?_ _); rotate_left 1; (focus (first | omega | (simp; done) | (simp; omega)))))); exact HXb.out
  clear hxb hfb hkb
  have hxb := HXb.out.2.1
  have hfb := HXb.out.2.2
  have hkb := HXb.out.1
  replace HXq : Hid (NewBox w3 (w.heap.size + 1) [.int .i64 0, .slice none 0 0, .slice none 0 0, .slice none 0 0, .int .i64 0, .slice none 0 0, .int .i64 0, .slice none 0 0, .int .i64 0, .int .i64 0, .string ⟨#[]⟩, .int .i64 0, .string ⟨#[]⟩]) := by rw [Hid, hw]; apply NewBox.cast; (focus ((repeat (first | (with_reducible apply NewBox.alloc) | (with_reducible apply NewBox.drew) | (with_reducible apply NewBox.set1) | ((with_reducible apply NewBox.far); (focus (first | omega | (simp; done) | (simp; omega)))))); exact HXq.out)); rfl
  clear hxq hfq hkq
  have hxq := HXq.out.2.1
  have hfq := HXq.out.2.2
  have hkq := HXq.out.1
  have HXx : Hid (NewBox w3 (w2.heap.size) [.int .i64 h.num, .int .i64 h.size, .string h.root, .int .i64 h.taken, .string h.troot]) := by rw [Hid, hw]; exact ⟨by first | omega | (simp [World.setCell]; done) | (simp [World.setCell]; omega), fun o => by rcases o with _ | _ | _ | _ | _ | o <;> go_simp, fun o => by go_simp⟩
  have hxx := HXx.out.2.1
  have hfx := HXx.out.2.2
  have hkx := HXx.out.1
  clear hw
  refine bodyPost_ret (v := .tuple #[.agg #[.int .i64 0, .slice none 0 0, .slice none 0 0, .slice none 0 0, .int .i64 0, .slice none 0 0, .int .i64 0, .slice none 0 0, .int .i64 0, .int .i64 0, .string ⟨#[]⟩, .int .i64 0, .string ⟨#[]⟩], .slice (some ⟨w2.heap.size + 1, 0, none⟩) 0 0, .int .i64 2]) (by simp [results, Try.results77, go_sem, hxq]) rfl ?_
  exact ⟨zeroBk, zeroBm, _, 0, 0, 2, rfl, NextOk.no (by decide) HB.out⟩
 ·go_upto_region 2 with fail
  refine wp_named (fun w3 hw => ?_)
  have hz3 : w2.heap.size + 1 ≤ w3.heap.size := by rw [hw]; first | omega | (simp [World.setCell]; done) | (simp [World.setCell]; omega)
  have hzz3 : w.heap.size ≤ w3.heap.size := by omega
  have hbn : Below w2.heap.size w2 w3 := by rw [hw]; exact (by ((repeat (first | ((with_reducible refine Below.alloc ?_ ?_ _); rotate_left 1; (focus (first | omega | (simp; done) | (simp; omega)))) | (with_reducible refine Below.drew ?_) | ((with_reducible refine Below.setCell ?_ ?_ _); rotate_left 1; (focus (first | omega | (simp; done) | (simp; omega)))))); exact Below.refl _ _))
  replace HB := Lib.hid (below_then HB.out hbn HB.out.size)
  replace HOB := Lib.hid (HOB.out.below hbn)
  replace HXb := Lib.hid (HXb.out.below hbn)
  clear hxb hfb hkb
  have hxb := HXb.out.2.1
  have hfb := HXb.out.2.2
  have hkb := HXb.out.1
  replace HXq := Lib.hid (HXq.out.below hbn)
  clear hxq hfq hkq
  have hxq := HXq.out.2.1
  have hfq := HXq.out.2.2
  have hkq := HXq.out.1
  clear hbn
  have HXx : Hid (NewBox w3 (w2.heap.size) [.int .i64 h.num, .int .i64 h.size, .string h.root, .int .i64 h.taken, .string h.troot]) := by rw [Hid, hw]; exact ⟨by first | omega | (simp [World.setCell]; done) | (simp [World.setCell]; omega), fun o => by rcases o with _ | _ | _ | _ | _ | o <;> go_simp, fun o => by go_simp⟩
  have hxx := HXx.out.2.1
  have hfx := HXx.out.2.2
  have hkx := HXx.out.1
  clear hw
  go_cut [28] (fun v wx => v = .bool false ∧ w3 = wx)
  case first =>
   by_cases h1 : h.size = (ne : Int)
   ·have hd1 : (h.size == (ne : Int)) = true := beq_iff_eq.2 h1
    have hd2 : (h.taken == (nr : Int)) = false := beq_eq_false_iff_ne.2 (fun e => hno ⟨h1, e⟩)
    clear hno h1
    go_wp2_with fail
    go_meet
    exact ⟨rfl, rfl⟩
   ·have hd1 : (h.size == (ne : Int)) = false := beq_eq_false_iff_ne.2 h1
    clear hno h1
    go_wp2_with fail
    go_meet
    exact ⟨rfl, rfl⟩
  case rest =>
   obtain ⟨rfl, hwc⟩ := hcut
   subst hwc
   clear hno
   by_cases h4 : nh = 400
   ·have hd1 : ((nh : Int) == 400) = true := beq_iff_eq.2 (by omega)
    clear h4
    go_wp2
    refine bodyPost_named (fun w4 hw => ?_)
    have hz4 : w3.heap.size + 0 ≤ w4.heap.size := by rw [hw]; first | omega | (simp [World.setCell]; done) | (simp [World.setCell]; omega)
    have hzz4 : w.heap.size ≤ w4.heap.size := by omega
    replace HB : Hid (Below w.heap.size w w4) := by rw [Hid, hw]; exact (by ((repeat (first | ((with_reducible refine Below.alloc ?_ ?_ _); rotate_left 1; (focus (first | omega | (simp; done) | (simp; omega)))) | (with_reducible refine Below.drew ?_) | ((with_reducible refine Below.setCell ?_ ?_ _); rotate_left 1; (focus (first | omega | (simp; done) | (simp; omega)))))); exact HB.out))
    replace HOB : Hid (BrkK w4 (0) (w.heap.size) (⟨E, R, H, A1, A2, ce, cr, ch, c1, c2⟩) (⟨width, es, rs, hs⟩)) := by rw [Hid, hw]; (repeat (first | (with_reducible refine BrkK.alloc ?_ _) | (with_reducible refine BrkK.drew ?_) | ((with_reducible refine BrkK.setCell ?_ ?_ _); rotate_left 1; (focus (first | omega | (simp; done) | (simp; omega)))))); exact HOB.out
    replace HXb : Hid (NewBox w4 (w.heap.size) [.int .i64 width, .slice E ne ce, .slice R nr cr, .slice H nh ch, .int .i64 h.size, .slice A1 m1 c1, .int .i64 h.taken, .slice A2 m2 c2, .int .i64 h.num, .int .i64 h.size, .string h.root, .int .i64 h.taken, .string h.troot]) := by rw [Hid, hw]; (repeat (first | (with_reducible refine NewBox.alloc ?_ _) | (with_reducible refine NewBox.drew ?_) | ((with_reducible refine NewBox.setCell ?_ ?_ _); rotate_left 1; (focus (first | omega | (simp; done) | (simp; omega)))))); exact HXb.out
    clear hxb hfb hkb
    have hxb := HXb.out.2.1
    have hfb := HXb.out.2.2
    have hkb := HXb.out.1
    replace HXq : Hid (NewBox w4 (w.heap.size + 1) [.int .i64 0, .slice none 0 0, .slice none 0 0, .slice none 0 0, .int .i64 0, .slice none 0 0, .int .i64 0, .slice none 0 0, .int .i64 0, .int .i64 0, .string ⟨#[]⟩, .int .i64 0, .string ⟨#[]⟩]) := by rw [Hid, hw]; apply NewBox.cast; (focus ((repeat (first | (with_reducible apply NewBox.alloc) | (with_reducible apply NewBox.drew) | (with_reducible apply NewBox.set1) | ((with_reducible apply NewBox.far); (focus (first | omega | (simp; done) | (simp; omega)))))); exact HXq.out)); rfl
    clear hxq hfq hkq
    have hxq := HXq.out.2.1
    have hfq := HXq.out.2.2
    have hkq := HXq.out.1
    replace HXx : Hid (NewBox w4 (w2.heap.size) [.int .i64 h.num, .int .i64 h.size, .string h.root, .int .i64 h.taken, .string h.troot]) := by rw [Hid, hw]; (repeat (first | (with_reducible refine NewBox.alloc ?_ _) | (with_reducible refine NewBox.drew ?_) | ((with_reducible refine NewBox.setCell ?_ ?_ _); rotate_left 1; (focus (first | omega | (simp; done) | (simp; omega)))))); exact HXx.out
    clear hxx hfx hkx
    have hxx := HXx.out.2.1
    have hfx := HXx.out.2.2
    have hkx := HXx.out.1
    clear hw
    refine bodyPost_ret (v := .tuple #[.agg #[.int .i64 0, .slice none 0 0, .slice none 0 0, .slice none 0 0, .int .i64 0, .slice none 0 0, .int .i64 0, .slice none 0 0, .int .i64 0, .int .i64 0, .string ⟨#[]⟩, .int .i64 0, .string ⟨#[]⟩], .slice (some ⟨w3.heap.size, 0, none⟩) 0 0, .int .i64 3]) (by simp [results, Try.results77, go_sem, hxq]) rfl ?_
    exact ⟨zeroBk, zeroBm, _, 0, 0, 3, rfl, NextOk.no (by decide) HB.out⟩
   ·have hd1 : ((nh : Int) == 400) = false := beq_eq_false_iff_ne.2 (by omega)
    have h4l : nh < 400 := by omega
    clear h4
    obtain ⟨lo6, hlo6, hlo6'⟩ : ∃ n, n ≤ w3.heap.size ∧ w3.heap.size ≤ n := ⟨_, Nat.le_refl _, Nat.le_refl _⟩
    obtain ⟨sz, hsz⟩ : ∃ n : Nat, h.size = n := ⟨h.size.toNat, by omega⟩
    obtain ⟨tk, htk⟩ : ∃ n : Nat, h.taken = n := ⟨h.taken.toNat, by omega⟩
    have hnx := HOK.out.seal_ (by rw [HNH.out]; omega)
    obtain ⟨s1, s2, s3, s4, s5, s6⟩ := HOK.out.smIs (by rw [HNH.out]; omega)
    rw [HHH.out, HQ1.out, HQ2.out] at s1 s2 s3 s4 s5 s6
    obtain ⟨_, _, _, _, _, _, _, hxf, hxb, hp1l, hp2l⟩ := parts_fits hnx
    rw [lastHd_snoc] at hxf hxb
    have t1 : h.size.toNat = sz := by omega
    have t2 : h.taken.toNat = tk := by omega
    rw [t1, t2] at s1 s2 s3 s4 s5 s6
    generalize nxHd width es rs hs = x at *
    have HP1 : Hid (pk1 width es (hs ++ [x]) = pk1 width es (hs ++ [x])) := Lib.hid rfl
    have HP2 : Hid (pk2 width rs (hs ++ [x]) = pk2 width rs (hs ++ [x])) := Lib.hid rfl
    generalize hp1 : pk1 width es (hs ++ [x]) = p1 at s1 s2 s3 s4 s5 s6 hp1l HP1
    generalize hp2 : pk2 width rs (hs ++ [x]) = p2 at s1 s2 s3 s4 s5 s6 hp2l HP2
    have HHS := Lib.hid (fun W (rr : BrkK W 0 W.heap.size ⟨E, R, H, A1, A2, ce, cr, ch, c1, c2⟩ ⟨width, es, rs, hs⟩) => l09Hashes_c width (cutX 5 E sz ce) (ce - sz) 0 W.heap.size (ne - sz) (es.drop sz) W (sufE_rd rr.rE sz ce (by rw [HNE.out]; omega)) (by rw [List.length_drop, HNE.out]) (by omega) (fun y hy => HFE.out y (List.mem_of_mem_drop hy)))
    have HHT := Lib.hid (fun W (rr : BrkK W 0 W.heap.size ⟨E, R, H, A1, A2, ce, cr, ch, c1, c2⟩ ⟨width, es, rs, hs⟩) => l12Taken_c width (cutX 3 R tk cr) (cr - tk) 0 W.heap.size (nr - tk) (rs.drop tk) W (sufR_rd rr.rR tk cr (by rw [HNR.out]; omega)) (by rw [List.length_drop, HNR.out]) (by omega) (fun y hy => HFR.out y (List.mem_of_mem_drop hy)))
    have HSM := fun W A5 c5 A6 c6 (rr : BrkK W 0 W.heap.size ⟨E, R, H, A1, A2, ce, cr, ch, c1, c2⟩ ⟨width, es, rs, hs⟩) r3 r4 => specSealMore_c width h.size h.taken A1 A2 c1 c2 0 W.heap.size 0 W.heap.size m1 m2 l1 l2 h A5 A6 c5 c6 0 W.heap.size 0 W.heap.size (ne - sz) (nr - tk) (leavesM width (es.drop sz)) (takenM width (rs.drop tk)) W (HQ1.out ▸ rr.r1) (HQ2.out ▸ rr.r2) r3 r4 HM1.out HM2.out (by rw [leavesM_len, List.length_drop, HNE.out]) (by rw [takenM_len, List.length_drop, HNR.out]) (by omega) (by omega) (by omega) (by omega) HN1.out HN2.out (by constructor <;> omega) (by constructor <;> omega) (by omega)
    rw [s1, s2, s3, s4, s5, s6] at HSM
    generalize smN width h.size l1 h.taken l2 h (leavesM width (es.drop sz)) (takenM width (rs.drop tk)) = nn at *
    have hs1 := fun W => sufXE E ne ce sz (by omega) kE2 W
    have hs2 := fun W => sufXR R nr cr tk (by omega) kR2 W
    rw [← hsz] at hs1
    rw [← htk] at hs2
    change Hid (∀ W (rr : BrkK W 0 W.heap.size ⟨E, R, H, A1, A2, ce, cr, ch, c1, c2⟩ ⟨width, es, rs, hs⟩), Calls _ _ _ W fun e w' => ∃ A' c', e = .returned (.slice A' (ne - sz) c') ∧ w'.ownsRow W.heap.size 9 1 (.slice A' (ne - sz) c') (ne - sz) (strs (leavesM width (es.drop sz))) ∧ Below W.heap.size W w') at HHS
    change Hid (∀ W (rr : BrkK W 0 W.heap.size ⟨E, R, H, A1, A2, ce, cr, ch, c1, c2⟩ ⟨width, es, rs, hs⟩), Calls _ _ _ W fun e w' => ∃ A' c', e = .returned (.slice A' (nr - tk) c') ∧ w'.ownsRow W.heap.size 9 1 (.slice A' (nr - tk) c') (nr - tk) (strs (takenM width (rs.drop tk))) ∧ Below W.heap.size W w') at HHT
    replace HSM := Lib.hid HSM
    have HCP := Lib.hid (fun W (r : BrkK W 0 W.heap.size ⟨E, R, H, A1, A2, ce, cr, ch, c1, c2⟩ ⟨width, es, rs, hs⟩) => l12CopyP_c width h.size h.taken E R H A1 A2 ne nr nh ce cr ch c1 c2 m1 m2 es rs hs l1 l2 h W r.rE r.rR r.rH (HQ1.out ▸ r.r1) (HQ2.out ▸ r.r2) HNE.out HNR.out HNH.out HM1.out HM2.out (by omega) (by omega) (by omega) (by omega) (by omega) r.nE r.nR r.nH r.n1 r.n2)
    have HWR := Lib.hid (fun W (r : BrkK W 0 W.heap.size ⟨E, R, H, A1, A2, ce, cr, ch, c1, c2⟩ ⟨width, es, rs, hs⟩) s hs2 => l12WriteP_c width E R H A1 A2 ne nr nh ce cr ch c1 c2 m1 m2 es rs hs l1 l2 h 0 W.heap.size 1 s W r HNE.out HNR.out HNH.out HQ1.out HQ2.out HM1.out HM2.out HHH.out (by omega) hs2)
    have HTX := Lib.hid (fun W => specHeadText_c width x W (by omega))
    have hts := headTextM_size width x
    have hbl : (⟨es, rs, hs, l1, l2⟩ : Bl) = Bm.bl ⟨width, es, rs, hs⟩ := by show _ = Bl.mk es rs hs _ _; rw [HQ1.out, HQ2.out]
    have HBL := Lib.hid hbl
    have HNX := Lib.hid hnx
    have HE1 := Lib.hid hp1
    have HE2 := Lib.hid hp2
    clear hbl hnx hp1 hp2 s1 s2 s3 s4 s5 s6 hsz htk t1 t2 hxf HP1 HP2 HFE HFR HFH HN1 HN2 HM1 HM2 HF4
    generalize headTextM width x = tx at *
    generalize headOk width x = ok at *
    generalize leavesM width (es.drop sz) = L at *
    generalize takenM width (rs.drop tk) = T at *
    generalize cutX 5 E sz ce = E5 at *
    generalize cutX 3 R tk cr = R5 at *
    generalize ne - sz = k5 at *
    generalize nr - tk = k6 at *
    generalize ce - sz = g5 at *
    generalize cr - tk = g6 at *
    go_wp2_with fail
    refine wp_named (fun w4 hw => ?_)
    have hz4 : w3.heap.size + 0 ≤ w4.heap.size := by rw [hw]; first | omega | (simp [World.setCell]; done) | (simp [World.setCell]; omega)
    have hzz4 : w.heap.size ≤ w4.heap.size := by omega
    have hbn : Below w3.heap.size w3 w4 := by rw [hw]; exact (by ((repeat (first | ((with_reducible refine Below.alloc ?_ ?_ _); rotate_left 1; (focus (first | omega | (simp; done) | (simp; omega)))) | (with_reducible refine Below.drew ?_) | ((with_reducible refine Below.setCell ?_ ?_ _); rotate_left 1; (focus (first | omega | (simp; done) | (simp; omega)))))); exact Below.refl _ _))
    replace HB := Lib.hid (below_then HB.out hbn HB.out.size)
    replace HOB := Lib.hid (HOB.out.below hbn)
    replace HXb := Lib.hid (HXb.out.below hbn)
    clear hxb hfb hkb
    have hxb := HXb.out.2.1
    have hfb := HXb.out.2.2
    have hkb := HXb.out.1
    replace HXq := Lib.hid (HXq.out.below hbn)
    clear hxq hfq hkq
    have hxq := HXq.out.2.1
    have hfq := HXq.out.2.2
    have hkq := HXq.out.1
    replace HXx := Lib.hid (HXx.out.below hbn)
    clear hxx hfx hkx
    have hxx := HXx.out.2.1
    have hfx := HXx.out.2.2
    have hkx := HXx.out.1
    clear hbn
    clear hw
    obtain ⟨F, HF⟩ : ∃ F : Facts, Hid (F = fun iq xq tqs dsq uq => match iq with
     | 0 => xq.v = .pointer (some ⟨(w.heap.size), 0, none⟩)
     | 1 => xq.v = .int .i64 width
     | 2 => xq.v = .pointer (some ⟨(w.heap.size), 4, none⟩)
     | 3 => xq.v = .agg #[.int .i64 h.size, .slice A1 m1 c1, .int .i64 h.taken, .slice A2 m2 c2, .int .i64 h.num, .int .i64 h.size, .string h.root, .int .i64 h.taken, .string h.troot]
     | 4 => xq.v = .pointer (some ⟨(w.heap.size), 0, none⟩)
     | 5 => xq.v = .int .i64 width
     | 6 => xq.v = .pointer (some ⟨(w.heap.size), 1, none⟩)
     | 7 => xq.v = .pointer (some ⟨(w.heap.size), 1, none⟩)
     | 8 => xq.v = .slice E ne ce
     | 9 => xq.v = .pointer (some ⟨(w2.heap.size), 1, none⟩)
     | 10 => xq.v = .int .i64 h.size
     | 11 => xq.v = .slice E5 k5 g5
     | 12 => ∃ (A5 : Option Addr) (c5 : Nat), xq.v = .slice A5 k5 c5 ∧ (Own uq xq.s xq.e A5 (strs L))
     | 13 => xq.v = .pointer (some ⟨(w.heap.size), 0, none⟩)
     | 14 => xq.v = .int .i64 width
     | 15 => xq.v = .pointer (some ⟨(w.heap.size), 2, none⟩)
     | 16 => xq.v = .slice R nr cr
     | 17 => xq.v = .pointer (some ⟨(w2.heap.size), 3, none⟩)
     | 18 => xq.v = .int .i64 h.taken
     | 19 => xq.v = .slice R5 k6 g6
     | 20 => ∃ (A6 : Option Addr) (c6 : Nat), xq.v = .slice A6 k6 c6 ∧ (Own uq xq.s xq.e A6 (strs T))
     | 21 => ∃ (B1 : Option Addr) (d1 : Nat) (B2 : Option Addr) (d2 : Nat), xq.v = .tuple #[.agg #[.int .i64 x.size, .slice B1 p1.length d1, .int .i64 x.taken, .slice B2 p2.length d2, .int .i64 x.num, .int .i64 x.size, .string x.root, .int .i64 x.taken, .string x.troot], .int .i64 nn, .int .i64 0] ∧ (Own uq xq.s xq.e B1 (strs p1)) ∧ (Own uq xq.s xq.e B2 (strs p2)) ∧ ((B1 = none → d1 = 0) ∧ (B2 = none → d2 = 0))
     | 22 => (match tqs, dsq with | [], [yq0] => ∃ (B1 : Option Addr) (d1 : Nat) (B2 : Option Addr) (d2 : Nat), yq0.v = .tuple #[.agg #[.int .i64 x.size, .slice B1 p1.length d1, .int .i64 x.taken, .slice B2 p2.length d2, .int .i64 x.num, .int .i64 x.size, .string x.root, .int .i64 x.taken, .string x.troot], .int .i64 nn, .int .i64 0] ∧ xq.v = .tuple #[.agg #[.int .i64 x.size, .slice B1 p1.length d1, .int .i64 x.taken, .slice B2 p2.length d2, .int .i64 x.num, .int .i64 x.size, .string x.root, .int .i64 x.taken, .string x.troot], .int .i64 nn, .int .i64 0] | _, _ => False)
     | 23 => (match tqs, dsq with | [], [yq0] => ∃ (B1 : Option Addr) (d1 : Nat) (B2 : Option Addr) (d2 : Nat), yq0.v = .tuple #[.agg #[.int .i64 x.size, .slice B1 p1.length d1, .int .i64 x.taken, .slice B2 p2.length d2, .int .i64 x.num, .int .i64 x.size, .string x.root, .int .i64 x.taken, .string x.troot], .int .i64 nn, .int .i64 0] ∧ xq.v = .agg #[.int .i64 x.size, .slice B1 p1.length d1, .int .i64 x.taken, .slice B2 p2.length d2, .int .i64 x.num, .int .i64 x.size, .string x.root, .int .i64 x.taken, .string x.troot] | _, _ => False)
     | 24 => (match tqs, dsq with | [], [yq0] => ∃ (B1 : Option Addr) (d1 : Nat) (B2 : Option Addr) (d2 : Nat), yq0.v = .tuple #[.agg #[.int .i64 x.size, .slice B1 p1.length d1, .int .i64 x.taken, .slice B2 p2.length d2, .int .i64 x.num, .int .i64 x.size, .string x.root, .int .i64 x.taken, .string x.troot], .int .i64 nn, .int .i64 0] ∧ xq.v = .int .i64 nn | _, _ => False)
     | 25 => (match tqs, dsq with | [], [yq0] => ∃ (B1 : Option Addr) (d1 : Nat) (B2 : Option Addr) (d2 : Nat), yq0.v = .tuple #[.agg #[.int .i64 x.size, .slice B1 p1.length d1, .int .i64 x.taken, .slice B2 p2.length d2, .int .i64 x.num, .int .i64 x.size, .string x.root, .int .i64 x.taken, .string x.troot], .int .i64 nn, .int .i64 0] ∧ xq.v = .int .i64 0 | _, _ => False)
     | 26 => xq.v = .pointer (some ⟨xq.s, 0, none⟩) ∧ xq.s < xq.e ∧ NewBox uq xq.s [.int .i64 0, .slice none 0 0, .int .i64 0, .slice none 0 0, .int .i64 0, .int .i64 0, .string ⟨#[]⟩, .int .i64 0, .string ⟨#[]⟩]
     | 27 => (match tqs, dsq with | [tq0], [yq0] => tq0.v = .pointer (some ⟨tq0.s, 0, none⟩) ∧ tq0.s < tq0.e ∧ ∃ (B1 : Option Addr) (d1 : Nat) (B2 : Option Addr) (d2 : Nat), yq0.v = .tuple #[.agg #[.int .i64 x.size, .slice B1 p1.length d1, .int .i64 x.taken, .slice B2 p2.length d2, .int .i64 x.num, .int .i64 x.size, .string x.root, .int .i64 x.taken, .string x.troot], .int .i64 nn, .int .i64 0] ∧ NewBox uq tq0.s [.int .i64 x.size, .slice B1 p1.length d1, .int .i64 x.taken, .slice B2 p2.length d2, .int .i64 x.num, .int .i64 x.size, .string x.root, .int .i64 x.taken, .string x.troot] | _, _ => False)
     | 28 => (match tqs, dsq with | [], [yq0] => ∃ (B1 : Option Addr) (d1 : Nat) (B2 : Option Addr) (d2 : Nat), yq0.v = .tuple #[.agg #[.int .i64 x.size, .slice B1 p1.length d1, .int .i64 x.taken, .slice B2 p2.length d2, .int .i64 x.num, .int .i64 x.size, .string x.root, .int .i64 x.taken, .string x.troot], .int .i64 nn, .int .i64 0] ∧ xq.v = .int .i64 nn | _, _ => False)
     | 29 => (match tqs, dsq with | [], [yq0] => ∃ (B1 : Option Addr) (d1 : Nat) (B2 : Option Addr) (d2 : Nat), yq0.v = .tuple #[.agg #[.int .i64 x.size, .slice B1 p1.length d1, .int .i64 x.taken, .slice B2 p2.length d2, .int .i64 x.num, .int .i64 x.size, .string x.root, .int .i64 x.taken, .string x.troot], .int .i64 nn, .int .i64 0] ∧ xq.v = .int .i64 0 | _, _ => False)
     | _ => False) := ⟨_, rfl⟩
    refine wp_region_facts [[], [], [], [], [], [], [], [], [], [], [], [], [], [], [], [], [], [], [], [], [], [], [21], [21], [21], [21], [], [21], [21], [21]] [[], [], [], [], [], [], [], [], [], [], [], [], [], [], [], [], [], [], [], [], [], [], [], [], [], [], [], [26], [], []] [some 38, some 39, some 40, some 41, some 42, some 43, some 44, some 45, some 46, some 47, some 48, some 49, some 50, some 51, some 52, some 53, some 54, some 55, some 56, some 57, some 58, some 59, some 37, some 60, some 61, some 62, some 6, none, some 7, some 8] none 0 0 (.inl rfl) F (by kernel_rfl) (by kernel_rfl) (by kernel_rfl) ?_ ⟨?_, ?_, ?_, ?_, ?_, ?_, ?_, ?_, ?_, ?_, ?_, ?_, ?_, ?_, ?_, ?_, ?_, ?_, ?_, ?_, ?_, ?_, ?_, ?_, ?_, ?_, ?_, ?_, ?_, ?_, trivial⟩ ?_
    ·rw [HF.out]; intro iq xq tqs dsq uq u' hi hf hs hW hx hbk
     have kx : ∀ b, xq.s ≤ b → b < xq.e → u'.heap[b]? = uq.heap[b]? := fun b h1 h2 => hbk b (.inr (.inl ⟨h1, h2⟩))
     have kt : ∀ t ∈ tqs, ∀ b, t.s ≤ b → b < t.e → u'.heap[b]? = uq.heap[b]? := fun t ht b h1 h2 => hbk b (.inr (.inr ⟨t, ht, h1, h2⟩))
     match iq with
     | 0 => exact hf
     | 1 => exact hf
     | 2 => exact hf
     | 3 => exact hf
     | 4 => exact hf
     | 5 => exact hf
     | 6 => exact hf
     | 7 => exact hf
     | 8 => exact hf
     | 9 => exact hf
     | 10 => exact hf
     | 11 => exact hf
     | 12 => obtain ⟨A5, c5, hv, p0⟩ := hf; exact ⟨A5, c5, hv, p0.keep hs kx⟩
     | 13 => exact hf
     | 14 => exact hf
     | 15 => exact hf
     | 16 => exact hf
     | 17 => exact hf
     | 18 => exact hf
     | 19 => exact hf
     | 20 => obtain ⟨A6, c6, hv, p0⟩ := hf; exact ⟨A6, c6, hv, p0.keep hs kx⟩
     | 21 => obtain ⟨B1, d1, B2, d2, hv, p0, p1, p2⟩ := hf; exact ⟨B1, d1, B2, d2, hv, p0.keep hs kx, p1.keep hs kx, p2⟩
     | 22 => exact hf
     | 23 => exact hf
     | 24 => exact hf
     | 25 => exact hf
     | 26 => exact ⟨hf.1, hf.2.1, hf.2.2.keep hs (kx _ (Nat.le_refl _) hf.2.1)⟩
     | 27 => match tqs, dsq, hf with | [tq0], [yq0], hf => obtain ⟨h1, h2, B1, d1, B2, d2, hvr21, hb⟩ := hf; exact ⟨h1, h2, B1, d1, B2, d2, hvr21, hb.keep hs (kt tq0 List.mem_cons_self _ (Nat.le_refl _) h2)⟩
     | 28 => exact hf
     | 29 => exact hf
    ·intro gh ρ u hc hf1 hg1 hd h0 hb he ha hF
     have r1 : ρ (.tmp 1) = .pointer (some ⟨w.heap.size, 0, none⟩) := (h0 1 (by decide +kernel)).trans rfl
     clear  hd h0 he ha hF
     go_simp
     rw [HF.out]
     exact ⟨OnlyL.refl _ _, rfl⟩
    ·intro gh ρ u hc hf1 hg1 hd h0 hb he ha hF
     replace hb : Below w4.heap.size w4 u := hb.drew.below (by decide +kernel)
     have hbz : w4.heap.size ≤ u.heap.size := hb.size
     have r38 : ρ (.tmp 38) = .pointer (some ⟨(w.heap.size), 0, none⟩) := by have h := hF 0 (by decide +kernel) (by decide +kernel); rw [HF.out] at h; exact (hd 0 (by decide +kernel) 38 (by kernel_rfl)).trans h
     have q_b := (HXb.out.below hb).2.1
     have k_b : w.heap.size < u.heap.size := by have := HXb.out.1; omega
     have q_x := (HXx.out.below hb).2.1
     have k_x : w2.heap.size < u.heap.size := by have := HXx.out.1; omega
     clear  hd h0 he ha hF
     go_simp
     rw [HF.out]
     exact ⟨OnlyL.refl _ _, rfl⟩
    ·intro gh ρ u hc hf1 hg1 hd h0 hb he ha hF
     have r1 : ρ (.tmp 1) = .pointer (some ⟨w.heap.size, 0, none⟩) := (h0 1 (by decide +kernel)).trans rfl
     clear  hd h0 he ha hF
     go_simp
     rw [HF.out]
     exact ⟨OnlyL.refl _ _, rfl⟩
    ·intro gh ρ u hc hf1 hg1 hd h0 hb he ha hF
     replace hb : Below w4.heap.size w4 u := hb.drew.below (by decide +kernel)
     have hbz : w4.heap.size ≤ u.heap.size := hb.size
     have r40 : ρ (.tmp 40) = .pointer (some ⟨(w.heap.size), 4, none⟩) := by have h := hF 2 (by decide +kernel) (by decide +kernel); rw [HF.out] at h; exact (hd 2 (by decide +kernel) 40 (by kernel_rfl)).trans h
     have q_b := (HXb.out.below hb).2.1
     have k_b : w.heap.size < u.heap.size := by have := HXb.out.1; omega
     have q_x := (HXx.out.below hb).2.1
     have k_x : w2.heap.size < u.heap.size := by have := HXx.out.1; omega
     clear  hd h0 he ha hF
     go_simp
     rw [HF.out]
     exact ⟨OnlyL.refl _ _, rfl⟩
    ·intro gh ρ u hc hf1 hg1 hd h0 hb he ha hF
     have r1 : ρ (.tmp 1) = .pointer (some ⟨w.heap.size, 0, none⟩) := (h0 1 (by decide +kernel)).trans rfl
     clear  hd h0 he ha hF
     go_simp
     rw [HF.out]
     exact ⟨OnlyL.refl _ _, rfl⟩
    ·intro gh ρ u hc hf1 hg1 hd h0 hb he ha hF
     replace hb : Below w4.heap.size w4 u := hb.drew.below (by decide +kernel)
     have hbz : w4.heap.size ≤ u.heap.size := hb.size
     have r42 : ρ (.tmp 42) = .pointer (some ⟨(w.heap.size), 0, none⟩) := by have h := hF 4 (by decide +kernel) (by decide +kernel); rw [HF.out] at h; exact (hd 4 (by decide +kernel) 42 (by kernel_rfl)).trans h
     have q_b := (HXb.out.below hb).2.1
     have k_b : w.heap.size < u.heap.size := by have := HXb.out.1; omega
     have q_x := (HXx.out.below hb).2.1
     have k_x : w2.heap.size < u.heap.size := by have := HXx.out.1; omega
     clear  hd h0 he ha hF
     go_simp
     rw [HF.out]
     exact ⟨OnlyL.refl _ _, rfl⟩
    ·intro gh ρ u hc hf1 hg1 hd h0 hb he ha hF
     have r1 : ρ (.tmp 1) = .pointer (some ⟨w.heap.size, 0, none⟩) := (h0 1 (by decide +kernel)).trans rfl
     clear  hd h0 he ha hF
     go_simp
     rw [HF.out]
     exact ⟨OnlyL.refl _ _, rfl⟩
    ·intro gh ρ u hc hf1 hg1 hd h0 hb he ha hF
     have r44 : ρ (.tmp 44) = .pointer (some ⟨(w.heap.size), 1, none⟩) := by have h := hF 6 (by decide +kernel) (by decide +kernel); rw [HF.out] at h; exact (hd 6 (by decide +kernel) 44 (by kernel_rfl)).trans h
     clear  hd h0 he ha hF
     go_simp
     rw [HF.out]
     exact ⟨OnlyL.refl _ _, rfl⟩
    ·intro gh ρ u hc hf1 hg1 hd h0 hb he ha hF
     replace hb : Below w4.heap.size w4 u := hb.drew.below (by decide +kernel)
     have hbz : w4.heap.size ≤ u.heap.size := hb.size
     have r45 : ρ (.tmp 45) = .pointer (some ⟨(w.heap.size), 1, none⟩) := by have h := hF 7 (by decide +kernel) (by decide +kernel); rw [HF.out] at h; exact (hd 7 (by decide +kernel) 45 (by kernel_rfl)).trans h
     have q_b := (HXb.out.below hb).2.1
     have k_b : w.heap.size < u.heap.size := by have := HXb.out.1; omega
     have q_x := (HXx.out.below hb).2.1
     have k_x : w2.heap.size < u.heap.size := by have := HXx.out.1; omega
     clear  hd h0 he ha hF
     go_simp
     rw [HF.out]
     exact ⟨OnlyL.refl _ _, rfl⟩
    ·intro gh ρ u hc hf1 hg1 hd h0 hb he ha hF
     have r5 : ρ (.tmp 5) = .pointer (some ⟨w2.heap.size, 0, none⟩) := (h0 5 (by decide +kernel)).trans rfl
     clear  hd h0 he ha hF
     go_simp
     rw [HF.out]
     exact ⟨OnlyL.refl _ _, rfl⟩
    ·intro gh ρ u hc hf1 hg1 hd h0 hb he ha hF
     replace hb : Below w4.heap.size w4 u := hb.drew.below (by decide +kernel)
     have hbz : w4.heap.size ≤ u.heap.size := hb.size
     have r47 : ρ (.tmp 47) = .pointer (some ⟨(w2.heap.size), 1, none⟩) := by have h := hF 9 (by decide +kernel) (by decide +kernel); rw [HF.out] at h; exact (hd 9 (by decide +kernel) 47 (by kernel_rfl)).trans h
     have q_b := (HXb.out.below hb).2.1
     have k_b : w.heap.size < u.heap.size := by have := HXb.out.1; omega
     have q_x := (HXx.out.below hb).2.1
     have k_x : w2.heap.size < u.heap.size := by have := HXx.out.1; omega
     clear  hd h0 he ha hF
     go_simp
     rw [HF.out]
     exact ⟨OnlyL.refl _ _, rfl⟩
    ·intro gh ρ u hc hf1 hg1 hd h0 hb he ha hF
     have r46 : ρ (.tmp 46) = .slice E ne ce := by have h := hF 8 (by decide +kernel) (by decide +kernel); rw [HF.out] at h; exact (hd 8 (by decide +kernel) 46 (by kernel_rfl)).trans h
     have r48 : ρ (.tmp 48) = .int .i64 h.size := by have h := hF 10 (by decide +kernel) (by decide +kernel); rw [HF.out] at h; exact (hd 10 (by decide +kernel) 48 (by kernel_rfl)).trans h
     clear  hd h0 he ha hF
     go_simp
     rw [HF.out]
     exact ⟨OnlyL.refl _ _, rfl⟩
    ·intro gh ρ u hc hf1 hg1 hd h0 hb he ha hF
     replace hb : Below w4.heap.size w4 u := hb.drew.below (by decide +kernel)
     have hbz : w4.heap.size ≤ u.heap.size := hb.size
     have r43 : ρ (.tmp 43) = .int .i64 width := by have h := hF 5 (by decide +kernel) (by decide +kernel); rw [HF.out] at h; exact (hd 5 (by decide +kernel) 43 (by kernel_rfl)).trans h
     have r49 : ρ (.tmp 49) = .slice E5 k5 g5 := by have h := hF 11 (by decide +kernel) (by decide +kernel); rw [HF.out] at h; exact (hd 11 (by decide +kernel) 49 (by kernel_rfl)).trans h
     clear  hd h0 he ha hF
     go_simp
     have q_b := (HXb.out.below hb)
     have q_x := (HXx.out.below hb)
     refine (HHS.out _ (HOB.out.below hb).base).mono ?_
     rintro e u1 ⟨A5, c5, rfl, ho, hb1⟩
     rw [HF.out]
     exact ⟨_, rfl, OnlyL.of_below hb1, A5, c5, rfl, Own.of_ownsRow ho⟩
    ·intro gh ρ u hc hf1 hg1 hd h0 hb he ha hF
     have r1 : ρ (.tmp 1) = .pointer (some ⟨w.heap.size, 0, none⟩) := (h0 1 (by decide +kernel)).trans rfl
     clear  hd h0 he ha hF
     go_simp
     rw [HF.out]
     exact ⟨OnlyL.refl _ _, rfl⟩
    ·intro gh ρ u hc hf1 hg1 hd h0 hb he ha hF
     replace hb : Below w4.heap.size w4 u := hb.drew.below (by decide +kernel)
     have hbz : w4.heap.size ≤ u.heap.size := hb.size
     have r51 : ρ (.tmp 51) = .pointer (some ⟨(w.heap.size), 0, none⟩) := by have h := hF 13 (by decide +kernel) (by decide +kernel); rw [HF.out] at h; exact (hd 13 (by decide +kernel) 51 (by kernel_rfl)).trans h
     have q_b := (HXb.out.below hb).2.1
     have k_b : w.heap.size < u.heap.size := by have := HXb.out.1; omega
     have q_x := (HXx.out.below hb).2.1
     have k_x : w2.heap.size < u.heap.size := by have := HXx.out.1; omega
     clear  hd h0 he ha hF
     go_simp
     rw [HF.out]
     exact ⟨OnlyL.refl _ _, rfl⟩
    ·intro gh ρ u hc hf1 hg1 hd h0 hb he ha hF
     have r1 : ρ (.tmp 1) = .pointer (some ⟨w.heap.size, 0, none⟩) := (h0 1 (by decide +kernel)).trans rfl
     clear  hd h0 he ha hF
     go_simp
     rw [HF.out]
     exact ⟨OnlyL.refl _ _, rfl⟩
    ·intro gh ρ u hc hf1 hg1 hd h0 hb he ha hF
     replace hb : Below w4.heap.size w4 u := hb.drew.below (by decide +kernel)
     have hbz : w4.heap.size ≤ u.heap.size := hb.size
     have r53 : ρ (.tmp 53) = .pointer (some ⟨(w.heap.size), 2, none⟩) := by have h := hF 15 (by decide +kernel) (by decide +kernel); rw [HF.out] at h; exact (hd 15 (by decide +kernel) 53 (by kernel_rfl)).trans h
     have q_b := (HXb.out.below hb).2.1
     have k_b : w.heap.size < u.heap.size := by have := HXb.out.1; omega
     have q_x := (HXx.out.below hb).2.1
     have k_x : w2.heap.size < u.heap.size := by have := HXx.out.1; omega
     clear  hd h0 he ha hF
     go_simp
     rw [HF.out]
     exact ⟨OnlyL.refl _ _, rfl⟩
    ·intro gh ρ u hc hf1 hg1 hd h0 hb he ha hF
     have r5 : ρ (.tmp 5) = .pointer (some ⟨w2.heap.size, 0, none⟩) := (h0 5 (by decide +kernel)).trans rfl
     clear  hd h0 he ha hF
     go_simp
     rw [HF.out]
     exact ⟨OnlyL.refl _ _, rfl⟩
    ·intro gh ρ u hc hf1 hg1 hd h0 hb he ha hF
     replace hb : Below w4.heap.size w4 u := hb.drew.below (by decide +kernel)
     have hbz : w4.heap.size ≤ u.heap.size := hb.size
     have r55 : ρ (.tmp 55) = .pointer (some ⟨(w2.heap.size), 3, none⟩) := by have h := hF 17 (by decide +kernel) (by decide +kernel); rw [HF.out] at h; exact (hd 17 (by decide +kernel) 55 (by kernel_rfl)).trans h
     have q_b := (HXb.out.below hb).2.1
     have k_b : w.heap.size < u.heap.size := by have := HXb.out.1; omega
     have q_x := (HXx.out.below hb).2.1
     have k_x : w2.heap.size < u.heap.size := by have := HXx.out.1; omega
     clear  hd h0 he ha hF
     go_simp
     rw [HF.out]
     exact ⟨OnlyL.refl _ _, rfl⟩
    ·intro gh ρ u hc hf1 hg1 hd h0 hb he ha hF
     have r54 : ρ (.tmp 54) = .slice R nr cr := by have h := hF 16 (by decide +kernel) (by decide +kernel); rw [HF.out] at h; exact (hd 16 (by decide +kernel) 54 (by kernel_rfl)).trans h
     have r56 : ρ (.tmp 56) = .int .i64 h.taken := by have h := hF 18 (by decide +kernel) (by decide +kernel); rw [HF.out] at h; exact (hd 18 (by decide +kernel) 56 (by kernel_rfl)).trans h
     clear  hd h0 he ha hF
     go_simp
     rw [HF.out]
     exact ⟨OnlyL.refl _ _, rfl⟩
    ·intro gh ρ u hc hf1 hg1 hd h0 hb he ha hF
     replace hb : Below w4.heap.size w4 u := hb.drew.below (by decide +kernel)
     have hbz : w4.heap.size ≤ u.heap.size := hb.size
     have r52 : ρ (.tmp 52) = .int .i64 width := by have h := hF 14 (by decide +kernel) (by decide +kernel); rw [HF.out] at h; exact (hd 14 (by decide +kernel) 52 (by kernel_rfl)).trans h
     have r57 : ρ (.tmp 57) = .slice R5 k6 g6 := by have h := hF 19 (by decide +kernel) (by decide +kernel); rw [HF.out] at h; exact (hd 19 (by decide +kernel) 57 (by kernel_rfl)).trans h
     clear  hd h0 he ha hF
     go_simp
     have q_b := (HXb.out.below hb)
     have q_x := (HXx.out.below hb)
     refine (HHT.out _ (HOB.out.below hb).base).mono ?_
     rintro e u1 ⟨A6, c6, rfl, ho, hb1⟩
     rw [HF.out]
     exact ⟨_, rfl, OnlyL.of_below hb1, A6, c6, rfl, Own.of_ownsRow ho⟩
    ·intro gh ρ u hc hf1 hg1 hd h0 hb he ha hF
     replace hb : Below w4.heap.size w4 u := hb.drew.below (by decide +kernel)
     have hbz : w4.heap.size ≤ u.heap.size := hb.size
     have r39 : ρ (.tmp 39) = .int .i64 width := by have h := hF 1 (by decide +kernel) (by decide +kernel); rw [HF.out] at h; exact (hd 1 (by decide +kernel) 39 (by kernel_rfl)).trans h
     have r41 : ρ (.tmp 41) = .agg #[.int .i64 h.size, .slice A1 m1 c1, .int .i64 h.taken, .slice A2 m2 c2, .int .i64 h.num, .int .i64 h.size, .string h.root, .int .i64 h.taken, .string h.troot] := by have h := hF 3 (by decide +kernel) (by decide +kernel); rw [HF.out] at h; exact (hd 3 (by decide +kernel) 41 (by kernel_rfl)).trans h
     have f12 : ∃ (A5 : Option Addr) (c5 : Nat), (gh 12).v = .slice A5 k5 c5 ∧ (Own u (gh 12).s (gh 12).e A5 (strs L)) := by have h := hF 12 (by decide +kernel) (by decide +kernel); rw [HF.out] at h; exact h
     obtain ⟨A5, c5, hv12, g12_0⟩ := f12
     have r50 : ρ (.tmp 50) = .slice A5 k5 c5 := (hd 12 (by decide +kernel) 50 (by kernel_rfl)).trans hv12
     have f20 : ∃ (A6 : Option Addr) (c6 : Nat), (gh 20).v = .slice A6 k6 c6 ∧ (Own u (gh 20).s (gh 20).e A6 (strs T)) := by have h := hF 20 (by decide +kernel) (by decide +kernel); rw [HF.out] at h; exact h
     obtain ⟨A6, c6, hv20, g20_0⟩ := f20
     have r58 : ρ (.tmp 58) = .slice A6 k6 c6 := (hd 20 (by decide +kernel) 58 (by kernel_rfl)).trans hv20
     clear hv12 hv20 hd h0 he ha hF
     go_simp
     have q_b := (HXb.out.below hb)
     have q_x := (HXx.out.below hb)
     refine (HSM.out _ A5 c5 A6 c6 (HOB.out.below hb).base g12_0.rd.base g20_0.rd.base).mono ?_
     rintro e u1 ⟨B1, d1, av, bv, B2, d2, aw, bw, rfl, ⟨hv1, hv2, hv3, hv4⟩, ⟨hw1, hw2, hw3, hw4⟩, hdv, hb1⟩
     rw [HF.out]
     exact ⟨_, rfl, OnlyL.of_below hb1, B1, d1, B2, d2, rfl, hv3.mono hv1 hv2 (Nat.le_refl _), hw3.mono hw1 hw2 (Nat.le_refl _), ⟨hv4, hw4⟩⟩
    ·intro gh ρ u hc hf1 hg1 hd h0 hb he ha hF
     have f21 : ∃ (B1 : Option Addr) (d1 : Nat) (B2 : Option Addr) (d2 : Nat), (gh 21).v = .tuple #[.agg #[.int .i64 x.size, .slice B1 p1.length d1, .int .i64 x.taken, .slice B2 p2.length d2, .int .i64 x.num, .int .i64 x.size, .string x.root, .int .i64 x.taken, .string x.troot], .int .i64 nn, .int .i64 0] ∧ (Own u (gh 21).s (gh 21).e B1 (strs p1)) ∧ (Own u (gh 21).s (gh 21).e B2 (strs p2)) ∧ ((B1 = none → d1 = 0) ∧ (B2 = none → d2 = 0)) := by have h := hF 21 (by decide +kernel) (by decide +kernel); rw [HF.out] at h; exact h
     obtain ⟨B1, d1, B2, d2, hv21, g21_0, g21_1, g21_2⟩ := f21
     have hrt21 := hv21
     have r59 : ρ (.tmp 59) = .tuple #[.agg #[.int .i64 x.size, .slice B1 p1.length d1, .int .i64 x.taken, .slice B2 p2.length d2, .int .i64 x.num, .int .i64 x.size, .string x.root, .int .i64 x.taken, .string x.troot], .int .i64 nn, .int .i64 0] := (hd 21 (by decide +kernel) 59 (by kernel_rfl)).trans hv21
     have HRT21 := Lib.hid hrt21
     clear hv21 hrt21 hd h0 he ha hF
     go_simp
     rw [HF.out]
     exact ⟨OnlyL.refl _ _, B1, d1, B2, d2, HRT21.out, rfl⟩
    ·intro gh ρ u hc hf1 hg1 hd h0 hb he ha hF
     have f22 : ∃ (B1 : Option Addr) (d1 : Nat) (B2 : Option Addr) (d2 : Nat), (gh 21).v = .tuple #[.agg #[.int .i64 x.size, .slice B1 p1.length d1, .int .i64 x.taken, .slice B2 p2.length d2, .int .i64 x.num, .int .i64 x.size, .string x.root, .int .i64 x.taken, .string x.troot], .int .i64 nn, .int .i64 0] ∧ (gh 22).v = .tuple #[.agg #[.int .i64 x.size, .slice B1 p1.length d1, .int .i64 x.taken, .slice B2 p2.length d2, .int .i64 x.num, .int .i64 x.size, .string x.root, .int .i64 x.taken, .string x.troot], .int .i64 nn, .int .i64 0] := by have h := hF 22 (by decide +kernel) (by decide +kernel); rw [HF.out] at h; exact h
     obtain ⟨B1, d1, B2, d2, hrt21, hv22⟩ := f22
     have r37 : ρ (.tmp 37) = .tuple #[.agg #[.int .i64 x.size, .slice B1 p1.length d1, .int .i64 x.taken, .slice B2 p2.length d2, .int .i64 x.num, .int .i64 x.size, .string x.root, .int .i64 x.taken, .string x.troot], .int .i64 nn, .int .i64 0] := (hd 22 (by decide +kernel) 37 (by kernel_rfl)).trans hv22
     have HRT21 := Lib.hid hrt21
     clear hv22 hrt21 hd h0 he ha hF
     go_simp
     rw [HF.out]
     exact ⟨OnlyL.refl _ _, B1, d1, B2, d2, HRT21.out, rfl⟩
    ·intro gh ρ u hc hf1 hg1 hd h0 hb he ha hF
     have f22 : ∃ (B1 : Option Addr) (d1 : Nat) (B2 : Option Addr) (d2 : Nat), (gh 21).v = .tuple #[.agg #[.int .i64 x.size, .slice B1 p1.length d1, .int .i64 x.taken, .slice B2 p2.length d2, .int .i64 x.num, .int .i64 x.size, .string x.root, .int .i64 x.taken, .string x.troot], .int .i64 nn, .int .i64 0] ∧ (gh 22).v = .tuple #[.agg #[.int .i64 x.size, .slice B1 p1.length d1, .int .i64 x.taken, .slice B2 p2.length d2, .int .i64 x.num, .int .i64 x.size, .string x.root, .int .i64 x.taken, .string x.troot], .int .i64 nn, .int .i64 0] := by have h := hF 22 (by decide +kernel) (by decide +kernel); rw [HF.out] at h; exact h
     obtain ⟨B1, d1, B2, d2, hrt21, hv22⟩ := f22
     have r37 : ρ (.tmp 37) = .tuple #[.agg #[.int .i64 x.size, .slice B1 p1.length d1, .int .i64 x.taken, .slice B2 p2.length d2, .int .i64 x.num, .int .i64 x.size, .string x.root, .int .i64 x.taken, .string x.troot], .int .i64 nn, .int .i64 0] := (hd 22 (by decide +kernel) 37 (by kernel_rfl)).trans hv22
     have HRT21 := Lib.hid hrt21
     clear hv22 hrt21 hd h0 he ha hF
     go_simp
     rw [HF.out]
     exact ⟨OnlyL.refl _ _, B1, d1, B2, d2, HRT21.out, rfl⟩
    ·intro gh ρ u hc hf1 hg1 hd h0 hb he ha hF
     have f22 : ∃ (B1 : Option Addr) (d1 : Nat) (B2 : Option Addr) (d2 : Nat), (gh 21).v = .tuple #[.agg #[.int .i64 x.size, .slice B1 p1.length d1, .int .i64 x.taken, .slice B2 p2.length d2, .int .i64 x.num, .int .i64 x.size, .string x.root, .int .i64 x.taken, .string x.troot], .int .i64 nn, .int .i64 0] ∧ (gh 22).v = .tuple #[.agg #[.int .i64 x.size, .slice B1 p1.length d1, .int .i64 x.taken, .slice B2 p2.length d2, .int .i64 x.num, .int .i64 x.size, .string x.root, .int .i64 x.taken, .string x.troot], .int .i64 nn, .int .i64 0] := by have h := hF 22 (by decide +kernel) (by decide +kernel); rw [HF.out] at h; exact h
     obtain ⟨B1, d1, B2, d2, hrt21, hv22⟩ := f22
     have r37 : ρ (.tmp 37) = .tuple #[.agg #[.int .i64 x.size, .slice B1 p1.length d1, .int .i64 x.taken, .slice B2 p2.length d2, .int .i64 x.num, .int .i64 x.size, .string x.root, .int .i64 x.taken, .string x.troot], .int .i64 nn, .int .i64 0] := (hd 22 (by decide +kernel) 37 (by kernel_rfl)).trans hv22
     have HRT21 := Lib.hid hrt21
     clear hv22 hrt21 hd h0 he ha hF
     go_simp
     rw [HF.out]
     exact ⟨OnlyL.refl _ _, B1, d1, B2, d2, HRT21.out, rfl⟩
    ·intro gh ρ u hc hf1 hg1 hd h0 hb he ha hF
     replace hb : Below w4.heap.size w4 u := hb.drew.below (by decide +kernel)
     have hbz : w4.heap.size ≤ u.heap.size := hb.size
     clear  hd h0 he ha hF
     go_simp
     rw [HF.out]
     exact ⟨OnlyL.of_below ((Below.refl _ _).alloc (Nat.le_refl _) _), rfl, by simp, NewBox.new _ _ _⟩
    ·intro gh ρ u hc hf1 hg1 hd h0 hb he ha hF
     replace hb : Below w4.heap.size w4 u := hb.drew.below (by decide +kernel)
     have hbz : w4.heap.size ≤ u.heap.size := hb.size
     have f26 : (gh 26).v = .pointer (some ⟨(gh 26).s, 0, none⟩) ∧ (gh 26).s < (gh 26).e ∧ NewBox u (gh 26).s [.int .i64 0, .slice none 0 0, .int .i64 0, .slice none 0 0, .int .i64 0, .int .i64 0, .string ⟨#[]⟩, .int .i64 0, .string ⟨#[]⟩] := by have h := hF 26 (by decide +kernel) (by decide +kernel); rw [HF.out] at h; exact h
     obtain ⟨hv26, hpl, hpz, hpc, hpf⟩ := f26
     have r6 : ρ (.tmp 6) = .pointer (some ⟨(gh 26).s, 0, none⟩) := (hd 26 (by decide +kernel) 6 (by kernel_rfl)).trans hv26
     have HP := Lib.hid hv26
     have f23 : ∃ (B1 : Option Addr) (d1 : Nat) (B2 : Option Addr) (d2 : Nat), (gh 21).v = .tuple #[.agg #[.int .i64 x.size, .slice B1 p1.length d1, .int .i64 x.taken, .slice B2 p2.length d2, .int .i64 x.num, .int .i64 x.size, .string x.root, .int .i64 x.taken, .string x.troot], .int .i64 nn, .int .i64 0] ∧ (gh 23).v = .agg #[.int .i64 x.size, .slice B1 p1.length d1, .int .i64 x.taken, .slice B2 p2.length d2, .int .i64 x.num, .int .i64 x.size, .string x.root, .int .i64 x.taken, .string x.troot] := by have h := hF 23 (by decide +kernel) (by decide +kernel); rw [HF.out] at h; exact h
     obtain ⟨B1, d1, B2, d2, hrt21, hv23⟩ := f23
     have r60 : ρ (.tmp 60) = .agg #[.int .i64 x.size, .slice B1 p1.length d1, .int .i64 x.taken, .slice B2 p2.length d2, .int .i64 x.num, .int .i64 x.size, .string x.root, .int .i64 x.taken, .string x.troot] := (hd 23 (by decide +kernel) 60 (by kernel_rfl)).trans hv23
     have HRT21 := Lib.hid hrt21
     obtain ⟨_, _, _⟩ := he 26 (by decide +kernel)
     clear hv26 hv23 hrt21 hd h0 he ha hF
     go_simp
     rw [HF.out]
     refine ⟨?_, HP.out, hpl, B1, d1, B2, d2, HRT21.out, ?_⟩
     ·refine OnlyL.of_only (t := gh 26) ?_; refine Only.setCell ?_ (by exact Nat.le_refl _) (by exact hpl) _; refine Only.setCell ?_ (by exact Nat.le_refl _) (by exact hpl) _; refine Only.setCell ?_ (by exact Nat.le_refl _) (by exact hpl) _; refine Only.setCell ?_ (by exact Nat.le_refl _) (by exact hpl) _; refine Only.setCell ?_ (by exact Nat.le_refl _) (by exact hpl) _; refine Only.setCell ?_ (by exact Nat.le_refl _) (by exact hpl) _; refine Only.setCell ?_ (by exact Nat.le_refl _) (by exact hpl) _; refine Only.setCell ?_ (by exact Nat.le_refl _) (by exact hpl) _; refine Only.setCell ?_ (by exact Nat.le_refl _) (by exact hpl) _; exact Only.refl _ _ _
     ·show NewBox _ (gh 26).s _
      exact ⟨by simpa [World.setCell] using hpz, fun o => by rcases o with _ | _ | _ | _ | _ | _ | _ | _ | _ | o <;> go_simp, fun o => by go_simp⟩
    ·intro gh ρ u hc hf1 hg1 hd h0 hb he ha hF
     have f24 : ∃ (B1 : Option Addr) (d1 : Nat) (B2 : Option Addr) (d2 : Nat), (gh 21).v = .tuple #[.agg #[.int .i64 x.size, .slice B1 p1.length d1, .int .i64 x.taken, .slice B2 p2.length d2, .int .i64 x.num, .int .i64 x.size, .string x.root, .int .i64 x.taken, .string x.troot], .int .i64 nn, .int .i64 0] ∧ (gh 24).v = .int .i64 nn := by have h := hF 24 (by decide +kernel) (by decide +kernel); rw [HF.out] at h; exact h
     obtain ⟨B1, d1, B2, d2, hrt21, hv24⟩ := f24
     have r61 : ρ (.tmp 61) = .int .i64 nn := (hd 24 (by decide +kernel) 61 (by kernel_rfl)).trans hv24
     have HRT21 := Lib.hid hrt21
     clear hv24 hrt21 hd h0 he ha hF
     go_simp
     rw [HF.out]
     exact ⟨OnlyL.refl _ _, B1, d1, B2, d2, HRT21.out, rfl⟩
    ·intro gh ρ u hc hf1 hg1 hd h0 hb he ha hF
     have f25 : ∃ (B1 : Option Addr) (d1 : Nat) (B2 : Option Addr) (d2 : Nat), (gh 21).v = .tuple #[.agg #[.int .i64 x.size, .slice B1 p1.length d1, .int .i64 x.taken, .slice B2 p2.length d2, .int .i64 x.num, .int .i64 x.size, .string x.root, .int .i64 x.taken, .string x.troot], .int .i64 nn, .int .i64 0] ∧ (gh 25).v = .int .i64 0 := by have h := hF 25 (by decide +kernel) (by decide +kernel); rw [HF.out] at h; exact h
     obtain ⟨B1, d1, B2, d2, hrt21, hv25⟩ := f25
     have r62 : ρ (.tmp 62) = .int .i64 0 := (hd 25 (by decide +kernel) 62 (by kernel_rfl)).trans hv25
     have HRT21 := Lib.hid hrt21
     clear hv25 hrt21 hd h0 he ha hF
     go_simp
     rw [HF.out]
     exact ⟨OnlyL.refl _ _, B1, d1, B2, d2, HRT21.out, rfl⟩
    intro gh w5 hB hE hA hF
    replace hB : Below w4.heap.size w4 w5 := hB.below rfl
    have f0 : (gh 0).v = .pointer (some ⟨(w.heap.size), 0, none⟩) := by have h := hF 0 (by decide +kernel) (by decide +kernel); rw [HF.out] at h; exact h
    have f1 : (gh 1).v = .int .i64 width := by have h := hF 1 (by decide +kernel) (by decide +kernel); rw [HF.out] at h; exact h
    have f2 : (gh 2).v = .pointer (some ⟨(w.heap.size), 4, none⟩) := by have h := hF 2 (by decide +kernel) (by decide +kernel); rw [HF.out] at h; exact h
    have f3 : (gh 3).v = .agg #[.int .i64 h.size, .slice A1 m1 c1, .int .i64 h.taken, .slice A2 m2 c2, .int .i64 h.num, .int .i64 h.size, .string h.root, .int .i64 h.taken, .string h.troot] := by have h := hF 3 (by decide +kernel) (by decide +kernel); rw [HF.out] at h; exact h
    have f4 : (gh 4).v = .pointer (some ⟨(w.heap.size), 0, none⟩) := by have h := hF 4 (by decide +kernel) (by decide +kernel); rw [HF.out] at h; exact h
    have f5 : (gh 5).v = .int .i64 width := by have h := hF 5 (by decide +kernel) (by decide +kernel); rw [HF.out] at h; exact h
    have f6 : (gh 6).v = .pointer (some ⟨(w.heap.size), 1, none⟩) := by have h := hF 6 (by decide +kernel) (by decide +kernel); rw [HF.out] at h; exact h
    have f7 : (gh 7).v = .pointer (some ⟨(w.heap.size), 1, none⟩) := by have h := hF 7 (by decide +kernel) (by decide +kernel); rw [HF.out] at h; exact h
    have f8 : (gh 8).v = .slice E ne ce := by have h := hF 8 (by decide +kernel) (by decide +kernel); rw [HF.out] at h; exact h
    have f9 : (gh 9).v = .pointer (some ⟨(w2.heap.size), 1, none⟩) := by have h := hF 9 (by decide +kernel) (by decide +kernel); rw [HF.out] at h; exact h
    have f10 : (gh 10).v = .int .i64 h.size := by have h := hF 10 (by decide +kernel) (by decide +kernel); rw [HF.out] at h; exact h
    have f11 : (gh 11).v = .slice E5 k5 g5 := by have h := hF 11 (by decide +kernel) (by decide +kernel); rw [HF.out] at h; exact h
    have f12 : ∃ (A5 : Option Addr) (c5 : Nat), (gh 12).v = .slice A5 k5 c5 ∧ (Own w5 (gh 12).s (gh 12).e A5 (strs L)) := by have h := hF 12 (by decide +kernel) (by decide +kernel); rw [HF.out] at h; exact h
    have f13 : (gh 13).v = .pointer (some ⟨(w.heap.size), 0, none⟩) := by have h := hF 13 (by decide +kernel) (by decide +kernel); rw [HF.out] at h; exact h
    have f14 : (gh 14).v = .int .i64 width := by have h := hF 14 (by decide +kernel) (by decide +kernel); rw [HF.out] at h; exact h
    have f15 : (gh 15).v = .pointer (some ⟨(w.heap.size), 2, none⟩) := by have h := hF 15 (by decide +kernel) (by decide +kernel); rw [HF.out] at h; exact h
    have f16 : (gh 16).v = .slice R nr cr := by have h := hF 16 (by decide +kernel) (by decide +kernel); rw [HF.out] at h; exact h
    have f17 : (gh 17).v = .pointer (some ⟨(w2.heap.size), 3, none⟩) := by have h := hF 17 (by decide +kernel) (by decide +kernel); rw [HF.out] at h; exact h
    have f18 : (gh 18).v = .int .i64 h.taken := by have h := hF 18 (by decide +kernel) (by decide +kernel); rw [HF.out] at h; exact h
    have f19 : (gh 19).v = .slice R5 k6 g6 := by have h := hF 19 (by decide +kernel) (by decide +kernel); rw [HF.out] at h; exact h
    have f20 : ∃ (A6 : Option Addr) (c6 : Nat), (gh 20).v = .slice A6 k6 c6 ∧ (Own w5 (gh 20).s (gh 20).e A6 (strs T)) := by have h := hF 20 (by decide +kernel) (by decide +kernel); rw [HF.out] at h; exact h
    have f21 : ∃ (B1 : Option Addr) (d1 : Nat) (B2 : Option Addr) (d2 : Nat), (gh 21).v = .tuple #[.agg #[.int .i64 x.size, .slice B1 p1.length d1, .int .i64 x.taken, .slice B2 p2.length d2, .int .i64 x.num, .int .i64 x.size, .string x.root, .int .i64 x.taken, .string x.troot], .int .i64 nn, .int .i64 0] ∧ (Own w5 (gh 21).s (gh 21).e B1 (strs p1)) ∧ (Own w5 (gh 21).s (gh 21).e B2 (strs p2)) ∧ ((B1 = none → d1 = 0) ∧ (B2 = none → d2 = 0)) := by have h := hF 21 (by decide +kernel) (by decide +kernel); rw [HF.out] at h; exact h
    have f22 : ∃ (B1 : Option Addr) (d1 : Nat) (B2 : Option Addr) (d2 : Nat), (gh 21).v = .tuple #[.agg #[.int .i64 x.size, .slice B1 p1.length d1, .int .i64 x.taken, .slice B2 p2.length d2, .int .i64 x.num, .int .i64 x.size, .string x.root, .int .i64 x.taken, .string x.troot], .int .i64 nn, .int .i64 0] ∧ (gh 22).v = .tuple #[.agg #[.int .i64 x.size, .slice B1 p1.length d1, .int .i64 x.taken, .slice B2 p2.length d2, .int .i64 x.num, .int .i64 x.size, .string x.root, .int .i64 x.taken, .string x.troot], .int .i64 nn, .int .i64 0] := by have h := hF 22 (by decide +kernel) (by decide +kernel); rw [HF.out] at h; exact h
    have f23 : ∃ (B1 : Option Addr) (d1 : Nat) (B2 : Option Addr) (d2 : Nat), (gh 21).v = .tuple #[.agg #[.int .i64 x.size, .slice B1 p1.length d1, .int .i64 x.taken, .slice B2 p2.length d2, .int .i64 x.num, .int .i64 x.size, .string x.root, .int .i64 x.taken, .string x.troot], .int .i64 nn, .int .i64 0] ∧ (gh 23).v = .agg #[.int .i64 x.size, .slice B1 p1.length d1, .int .i64 x.taken, .slice B2 p2.length d2, .int .i64 x.num, .int .i64 x.size, .string x.root, .int .i64 x.taken, .string x.troot] := by have h := hF 23 (by decide +kernel) (by decide +kernel); rw [HF.out] at h; exact h
    have f24 : ∃ (B1 : Option Addr) (d1 : Nat) (B2 : Option Addr) (d2 : Nat), (gh 21).v = .tuple #[.agg #[.int .i64 x.size, .slice B1 p1.length d1, .int .i64 x.taken, .slice B2 p2.length d2, .int .i64 x.num, .int .i64 x.size, .string x.root, .int .i64 x.taken, .string x.troot], .int .i64 nn, .int .i64 0] ∧ (gh 24).v = .int .i64 nn := by have h := hF 24 (by decide +kernel) (by decide +kernel); rw [HF.out] at h; exact h
    have f25 : ∃ (B1 : Option Addr) (d1 : Nat) (B2 : Option Addr) (d2 : Nat), (gh 21).v = .tuple #[.agg #[.int .i64 x.size, .slice B1 p1.length d1, .int .i64 x.taken, .slice B2 p2.length d2, .int .i64 x.num, .int .i64 x.size, .string x.root, .int .i64 x.taken, .string x.troot], .int .i64 nn, .int .i64 0] ∧ (gh 25).v = .int .i64 0 := by have h := hF 25 (by decide +kernel) (by decide +kernel); rw [HF.out] at h; exact h
    have f27 : (gh 26).v = .pointer (some ⟨(gh 26).s, 0, none⟩) ∧ (gh 26).s < (gh 26).e ∧ ∃ (B1 : Option Addr) (d1 : Nat) (B2 : Option Addr) (d2 : Nat), (gh 21).v = .tuple #[.agg #[.int .i64 x.size, .slice B1 p1.length d1, .int .i64 x.taken, .slice B2 p2.length d2, .int .i64 x.num, .int .i64 x.size, .string x.root, .int .i64 x.taken, .string x.troot], .int .i64 nn, .int .i64 0] ∧ NewBox w5 (gh 26).s [.int .i64 x.size, .slice B1 p1.length d1, .int .i64 x.taken, .slice B2 p2.length d2, .int .i64 x.num, .int .i64 x.size, .string x.root, .int .i64 x.taken, .string x.troot] := by have h := hF 27 (by decide +kernel) (by decide +kernel); rw [HF.out] at h; exact h
    have f28 : ∃ (B1 : Option Addr) (d1 : Nat) (B2 : Option Addr) (d2 : Nat), (gh 21).v = .tuple #[.agg #[.int .i64 x.size, .slice B1 p1.length d1, .int .i64 x.taken, .slice B2 p2.length d2, .int .i64 x.num, .int .i64 x.size, .string x.root, .int .i64 x.taken, .string x.troot], .int .i64 nn, .int .i64 0] ∧ (gh 28).v = .int .i64 nn := by have h := hF 28 (by decide +kernel) (by decide +kernel); rw [HF.out] at h; exact h
    have f29 : ∃ (B1 : Option Addr) (d1 : Nat) (B2 : Option Addr) (d2 : Nat), (gh 21).v = .tuple #[.agg #[.int .i64 x.size, .slice B1 p1.length d1, .int .i64 x.taken, .slice B2 p2.length d2, .int .i64 x.num, .int .i64 x.size, .string x.root, .int .i64 x.taken, .string x.troot], .int .i64 nn, .int .i64 0] ∧ (gh 29).v = .int .i64 0 := by have h := hF 29 (by decide +kernel) (by decide +kernel); rw [HF.out] at h; exact h
    obtain ⟨A5, c5, hv12, _⟩ := f12
    obtain ⟨A6, c6, hv20, _⟩ := f20
    obtain ⟨B1, d1, B2, d2, hv21, hoA, hoB, hnn⟩ := f21
    have hv0 := f0
    have hv1 := f1
    have hv2 := f2
    have hv3 := f3
    have hv4 := f4
    have hv5 := f5
    have hv6 := f6
    have hv7 := f7
    have hv8 := f8
    have hv9 := f9
    have hv10 := f10
    have hv11 := f11
    have hv13 := f13
    have hv14 := f14
    have hv15 := f15
    have hv16 := f16
    have hv17 := f17
    have hv18 := f18
    have hv19 := f19
    obtain ⟨B1_22, d1_22, B2_22, d2_22, hu21, hv22⟩ := f22
    replace hu21 := hv21.symm.trans hu21
    simp at hu21
    try simp only [and_assoc] at hu21
    obtain ⟨rfl, rfl, rfl, rfl⟩ := hu21
    obtain ⟨B1_23, d1_23, B2_23, d2_23, hu21, hv23⟩ := f23
    replace hu21 := hv21.symm.trans hu21
    simp at hu21
    try simp only [and_assoc] at hu21
    obtain ⟨rfl, rfl, rfl, rfl⟩ := hu21
    obtain ⟨B1_24, d1_24, B2_24, d2_24, hu21, hv24⟩ := f24
    replace hu21 := hv21.symm.trans hu21
    simp at hu21
    try simp only [and_assoc] at hu21
    obtain ⟨rfl, rfl, rfl, rfl⟩ := hu21
    obtain ⟨B1_25, d1_25, B2_25, d2_25, hu21, hv25⟩ := f25
    replace hu21 := hv21.symm.trans hu21
    simp at hu21
    try simp only [and_assoc] at hu21
    obtain ⟨rfl, rfl, rfl, rfl⟩ := hu21
    obtain ⟨hv26, hl26, f27⟩ := f27
    obtain ⟨B1_27, d1_27, B2_27, d2_27, hu21, hx27⟩ := f27
    replace hu21 := hv21.symm.trans hu21
    simp at hu21
    try simp only [and_assoc] at hu21
    obtain ⟨rfl, rfl, rfl, rfl⟩ := hu21
    obtain ⟨B1_28, d1_28, B2_28, d2_28, hu21, hv28⟩ := f28
    replace hu21 := hv21.symm.trans hu21
    simp at hu21
    try simp only [and_assoc] at hu21
    obtain ⟨rfl, rfl, rfl, rfl⟩ := hu21
    obtain ⟨B1_29, d1_29, B2_29, d2_29, hu21, hv29⟩ := f29
    replace hu21 := hv21.symm.trans hu21
    simp at hu21
    try simp only [and_assoc] at hu21
    obtain ⟨rfl, rfl, rfl, rfl⟩ := hu21
    obtain ⟨hs21, hse21, he21⟩ := hE 21 (by decide +kernel)
    obtain ⟨hs26, hse26, he26⟩ := hE 26 (by decide +kernel)
    have hdj5_21_26 := hA 21 (by decide +kernel) 26 (by decide +kernel) (by decide)
    change w4.heap.size ≤ _ at hs21 hs26
    clear hE hA hF
    simp only [putDs, Nat.reduceAdd, hv0, hv1, hv2, hv3, hv4, hv5, hv6, hv7, hv8, hv9, hv10, hv11, hv12, hv13, hv14, hv15, hv16, hv17, hv18, hv19, hv20, hv21, hv22, hv23, hv24, hv25, hv26, hv28, hv29]
    clear hv0 hv1 hv2 hv3 hv4 hv5 hv6 hv7 hv8 hv9 hv10 hv11 hv12 hv13 hv14 hv15 hv16 hv17 hv18 hv19 hv20 hv21 hv22 hv23 hv24 hv25 hv26 hv28 hv29
    generalize (gh 21).s = s5_21 at *
    generalize (gh 21).e = e5_21 at *
    generalize (gh 26).s = s5_26 at *
    generalize (gh 26).e = e5_26 at *
    clear HF
    have hb := hB
    clear hB
    have hzw5 : w4.heap.size ≤ w5.heap.size := hb.size
    have hzzw5 : w.heap.size ≤ w5.heap.size := by omega
    replace HB := Lib.hid (below_then HB.out hb HB.out.size)
    replace HOB := Lib.hid (HOB.out.below hb)
    replace HXb := Lib.hid (HXb.out.below hb)
    clear hxb hfb hkb
    have hxb := HXb.out.2.1
    have hfb := HXb.out.2.2
    have hkb := HXb.out.1
    replace HXq := Lib.hid (HXq.out.below hb)
    clear hxq hfq hkq
    have hxq := HXq.out.2.1
    have hfq := HXq.out.2.2
    have hkq := HXq.out.1
    replace HXx := Lib.hid (HXx.out.below hb)
    clear hxx hfx hkx
    have hxx := HXx.out.2.1
    have hfx := HXx.out.2.2
    have hkx := HXx.out.1
    clear hb
    have HXs : Hid (NewBox w5 (s5_26) [.int .i64 x.size, .slice B1 p1.length d1, .int .i64 x.taken, .slice B2 p2.length d2, .int .i64 x.num, .int .i64 x.size, .string x.root, .int .i64 x.taken, .string x.troot]) := hx27
    have hxs := HXs.out.2.1
    have hfs := HXs.out.2.2
    have hks := HXs.out.1
    clear hx27
    have HNN := Lib.hid hnn
    obtain ⟨a6, ha6, ha6'⟩ : ∃ n, n ≤ w5.heap.size ∧ w5.heap.size ≤ n := ⟨_, Nat.le_refl _, Nat.le_refl _⟩
    have HOP1 : Hid (Rd w5 (lo6) (a6) (B1) (strs p1)) := Lib.hid (hoA.rd.mono (by omega) (by omega) (by omega))
    have HOP2 : Hid (Rd w5 (lo6) (a6) (B2) (strs p2)) := Lib.hid (hoB.rd.mono (by omega) (by omega) (by omega))
    clear hoA hoB hnn hs1 hs2 HHS HHT HSM
    go_wp2_with fail
    refine calls_named (fun w6 hw => ?_)
    have hz6 : w5.heap.size + 0 ≤ w6.heap.size := by rw [hw]; first | omega | (simp [World.setCell]; done) | (simp [World.setCell]; omega)
    have hzz6 : w.heap.size ≤ w6.heap.size := by omega
    have hbn : Below w5.heap.size w5 w6 := by rw [hw]; exact (by ((repeat (first | ((with_reducible refine Below.alloc ?_ ?_ _); rotate_left 1; (focus (first | omega | (simp; done) | (simp; omega)))) | (with_reducible refine Below.drew ?_) | ((with_reducible refine Below.setCell ?_ ?_ _); rotate_left 1; (focus (first | omega | (simp; done) | (simp; omega)))))); exact Below.refl _ _))
    replace HB := Lib.hid (below_then HB.out hbn HB.out.size)
    replace HOB := Lib.hid (HOB.out.below hbn)
    replace HOP1 := Lib.hid (HOP1.out.below hbn)
    replace HOP2 := Lib.hid (HOP2.out.below hbn)
    replace HXb := Lib.hid (HXb.out.below hbn)
    clear hxb hfb hkb
    have hxb := HXb.out.2.1
    have hfb := HXb.out.2.2
    have hkb := HXb.out.1
    replace HXq := Lib.hid (HXq.out.below hbn)
    clear hxq hfq hkq
    have hxq := HXq.out.2.1
    have hfq := HXq.out.2.2
    have hkq := HXq.out.1
    replace HXx := Lib.hid (HXx.out.below hbn)
    clear hxx hfx hkx
    have hxx := HXx.out.2.1
    have hfx := HXx.out.2.2
    have hkx := HXx.out.1
    replace HXs := Lib.hid (HXs.out.below hbn)
    clear hxs hfs hks
    have hxs := HXs.out.2.1
    have hfs := HXs.out.2.2
    have hks := HXs.out.1
    clear hbn
    clear hw
    refine (HTX.out _).mono ?_
    rintro e w7 ⟨rfl, hb⟩
    have hzw7 : w6.heap.size ≤ w7.heap.size := hb.size
    have hzzw7 : w.heap.size ≤ w7.heap.size := by omega
    replace HB := Lib.hid (below_then HB.out hb HB.out.size)
    replace HOB := Lib.hid (HOB.out.below hb)
    replace HOP1 := Lib.hid (HOP1.out.below hb)
    replace HOP2 := Lib.hid (HOP2.out.below hb)
    replace HXb := Lib.hid (HXb.out.below hb)
    clear hxb hfb hkb
    have hxb := HXb.out.2.1
    have hfb := HXb.out.2.2
    have hkb := HXb.out.1
    replace HXq := Lib.hid (HXq.out.below hb)
    clear hxq hfq hkq
    have hxq := HXq.out.2.1
    have hfq := HXq.out.2.2
    have hkq := HXq.out.1
    replace HXx := Lib.hid (HXx.out.below hb)
    clear hxx hfx hkx
    have hxx := HXx.out.2.1
    have hfx := HXx.out.2.2
    have hkx := HXx.out.1
    replace HXs := Lib.hid (HXs.out.below hb)
    clear hxs hfs hks
    have hxs := HXs.out.2.1
    have hfs := HXs.out.2.2
    have hks := HXs.out.1
    clear hb
    clear HTX
    go_wp2_with fail
    refine calls_named (fun w8 hw => ?_)
    have hz8 : w7.heap.size + 0 ≤ w8.heap.size := by rw [hw]; first | omega | (simp [World.setCell]; done) | (simp [World.setCell]; omega)
    have hzz8 : w.heap.size ≤ w8.heap.size := by omega
    have hbn : Below w7.heap.size w7 w8 := by rw [hw]; exact (by ((repeat (first | ((with_reducible refine Below.alloc ?_ ?_ _); rotate_left 1; (focus (first | omega | (simp; done) | (simp; omega)))) | (with_reducible refine Below.drew ?_) | ((with_reducible refine Below.setCell ?_ ?_ _); rotate_left 1; (focus (first | omega | (simp; done) | (simp; omega)))))); exact Below.refl _ _))
    replace HB := Lib.hid (below_then HB.out hbn HB.out.size)
    replace HOB := Lib.hid (HOB.out.below hbn)
    replace HOP1 := Lib.hid (HOP1.out.below hbn)
    replace HOP2 := Lib.hid (HOP2.out.below hbn)
    replace HXb := Lib.hid (HXb.out.below hbn)
    clear hxb hfb hkb
    have hxb := HXb.out.2.1
    have hfb := HXb.out.2.2
    have hkb := HXb.out.1
    replace HXq := Lib.hid (HXq.out.below hbn)
    clear hxq hfq hkq
    have hxq := HXq.out.2.1
    have hfq := HXq.out.2.2
    have hkq := HXq.out.1
    replace HXx := Lib.hid (HXx.out.below hbn)
    clear hxx hfx hkx
    have hxx := HXx.out.2.1
    have hfx := HXx.out.2.2
    have hkx := HXx.out.1
    replace HXs := Lib.hid (HXs.out.below hbn)
    clear hxs hfs hks
    have hxs := HXs.out.2.1
    have hfs := HXs.out.2.2
    have hks := HXs.out.1
    clear hbn
    clear hw
    refine (HCP.out _ HOB.out.base).mono ?_
    rintro e w9 ⟨a3, rfl, hcp, hb⟩
    have hzw9 : w8.heap.size ≤ w9.heap.size := hb.size
    have hzzw9 : w.heap.size ≤ w9.heap.size := by omega
    replace HB := Lib.hid (below_then HB.out hb HB.out.size)
    replace HOB := Lib.hid (HOB.out.below hb)
    replace HOP1 := Lib.hid (HOP1.out.below hb)
    replace HOP2 := Lib.hid (HOP2.out.below hb)
    replace HXb := Lib.hid (HXb.out.below hb)
    clear hxb hfb hkb
    have hxb := HXb.out.2.1
    have hfb := HXb.out.2.2
    have hkb := HXb.out.1
    replace HXq := Lib.hid (HXq.out.below hb)
    clear hxq hfq hkq
    have hxq := HXq.out.2.1
    have hfq := HXq.out.2.2
    have hkq := HXq.out.1
    replace HXx := Lib.hid (HXx.out.below hb)
    clear hxx hfx hkx
    have hxx := HXx.out.2.1
    have hfx := HXx.out.2.2
    have hkx := HXx.out.1
    replace HXs := Lib.hid (HXs.out.below hb)
    clear hxs hfs hks
    have hxs := HXs.out.2.1
    have hfs := HXs.out.2.2
    have hks := HXs.out.1
    clear hb
    have HOC : Hid (CopyK w9 (w8.heap.size) (w9.heap.size) (a3) (⟨es, rs, hs, l1, l2⟩)) := Lib.hid hcp
    clear hcp HCP
    obtain ⟨lo5, hlo5, hlo5'⟩ : ∃ n, n ≤ w8.heap.size ∧ w8.heap.size ≤ n := ⟨_, Nat.le_refl _, Nat.le_refl _⟩
    obtain ⟨hi5, hhi5, hhi5'⟩ : ∃ n, n ≤ w9.heap.size ∧ w9.heap.size ≤ n := ⟨_, Nat.le_refl _, Nat.le_refl _⟩
    have HK5 := Lib.hid (HOC.out.mono hlo5 hhi5')
    clear HOC
    have HOC : Hid (CopyK w9 (lo5) (hi5) (a3) (⟨es, rs, hs, l1, l2⟩)) := Lib.hid HK5.out
    clear HK5
    go_upto_region 10 with fail
    refine wp_named (fun w10 hw => ?_)
    have hz10 : w9.heap.size + 1 ≤ w10.heap.size := by rw [hw]; first | omega | (simp [World.setCell]; done) | (simp [World.setCell]; omega)
    have hzz10 : w.heap.size ≤ w10.heap.size := by omega
    have hbn : Below w9.heap.size w9 w10 := by rw [hw]; exact (by ((repeat (first | ((with_reducible refine Below.alloc ?_ ?_ _); rotate_left 1; (focus (first | omega | (simp; done) | (simp; omega)))) | (with_reducible refine Below.drew ?_) | ((with_reducible refine Below.setCell ?_ ?_ _); rotate_left 1; (focus (first | omega | (simp; done) | (simp; omega)))))); exact Below.refl _ _))
    replace HB := Lib.hid (below_then HB.out hbn HB.out.size)
    replace HOB := Lib.hid (HOB.out.below hbn)
    replace HOP1 := Lib.hid (HOP1.out.below hbn)
    replace HOP2 := Lib.hid (HOP2.out.below hbn)
    replace HOC := Lib.hid (HOC.out.below hbn)
    replace HXb := Lib.hid (HXb.out.below hbn)
    clear hxb hfb hkb
    have hxb := HXb.out.2.1
    have hfb := HXb.out.2.2
    have hkb := HXb.out.1
    replace HXq := Lib.hid (HXq.out.below hbn)
    clear hxq hfq hkq
    have hxq := HXq.out.2.1
    have hfq := HXq.out.2.2
    have hkq := HXq.out.1
    replace HXx := Lib.hid (HXx.out.below hbn)
    clear hxx hfx hkx
    have hxx := HXx.out.2.1
    have hfx := HXx.out.2.2
    have hkx := HXx.out.1
    replace HXs := Lib.hid (HXs.out.below hbn)
    clear hxs hfs hks
    have hxs := HXs.out.2.1
    have hfs := HXs.out.2.2
    have hks := HXs.out.1
    clear hbn
    have HXo : Hid (NewBox w10 (w9.heap.size) [.int .i64 width, .slice a3.E ne a3.ce, .slice a3.R nr a3.cr, .slice a3.H nh a3.ch, .int .i64 x.size, .slice B1 p1.length d1, .int .i64 x.taken, .slice B2 p2.length d2, .int .i64 x.num, .int .i64 x.size, .string x.root, .int .i64 x.taken, .string x.troot]) := by rw [Hid, hw]; exact ⟨by first | omega | (simp [World.setCell]; done) | (simp [World.setCell]; omega), fun o => by rcases o with _ | _ | _ | _ | _ | _ | _ | _ | _ | _ | _ | _ | _ | o <;> go_simp, fun o => by go_simp⟩
    have hxo := HXo.out.2.1
    have hfo := HXo.out.2.2
    have hko := HXo.out.1
    clear hw
    have HRR : Hid (RowT w10 lo5 hi5 ((48, 5), .slice a3.H nh a3.ch, nh) (hds hs)) := Lib.hid (by have h7 := HOC.out.h; dsimp only at h7; rwa [HNH.out] at h7)
    go_wp2_with (at_builtin; refine app1LHd rfl _ _ rfl lo5 hi5 w10.heap.size _ nh (hds hs) x rfl (HRR.out.alloc _) rfl (NewBox.new w10 _ _) (by omega) (by simp; omega) (w10.heap.size + 1) (by simp) ?_)
    intro g4 c4 w2_ hg1 hg2 hg3 hrow hg
    have hon := (Only.of_below ((Below.refl _ _).alloc (Nat.le_refl _) _)).trans ((HRR.out.alloc _).onlyG hg)
    have hgr := hg
    rw [← HNH.out] at hgr
    have re := RowT.cast ((HOC.out.e.alloc _).grown hgr HOC.out.eh) (show _ = ((55, 5), Value.slice a3.E ne a3.ce, ne) by dsimp only; rw [HNE.out])
    have rr := RowT.cast ((HOC.out.r.alloc _).grown hgr HOC.out.rh) (show _ = ((57, 3), Value.slice a3.R nr a3.cr, nr) by dsimp only; rw [HNR.out])
    have hzw2_ : w10.heap.size ≤ w2_.heap.size := hon.size
    have hzzw2_ : w.heap.size ≤ w2_.heap.size := by omega
    replace HB := Lib.hid (below_only HB.out hon (by omega) HB.out.size)
    replace HOB := Lib.hid (HOB.out.only hon (by first | omega | (simp; omega)))
    replace HOP1 := Lib.hid (HOP1.out.only hon (by first | omega | (simp; omega)))
    replace HOP2 := Lib.hid (HOP2.out.only hon (by first | omega | (simp; omega)))
    replace HXb := Lib.hid (HXb.out.only hon (by first | omega | (simp; omega)))
    clear hxb hfb hkb
    have hxb := HXb.out.2.1
    have hfb := HXb.out.2.2
    have hkb := HXb.out.1
    replace HXq := Lib.hid (HXq.out.only hon (by first | omega | (simp; omega)))
    clear hxq hfq hkq
    have hxq := HXq.out.2.1
    have hfq := HXq.out.2.2
    have hkq := HXq.out.1
    replace HXx := Lib.hid (HXx.out.only hon (by first | omega | (simp; omega)))
    clear hxx hfx hkx
    have hxx := HXx.out.2.1
    have hfx := HXx.out.2.2
    have hkx := HXx.out.1
    replace HXs := Lib.hid (HXs.out.only hon (by first | omega | (simp; omega)))
    clear hxs hfs hks
    have hxs := HXs.out.2.1
    have hfs := HXs.out.2.2
    have hks := HXs.out.1
    replace HXo := Lib.hid (HXo.out.only hon (by first | omega | (simp; omega)))
    clear hxo hfo hko
    have hxo := HXo.out.2.1
    have hfo := HXo.out.2.2
    have hko := HXo.out.1
    clear HOC HRR
    have HOE5 : Hid (RowT w2_ (lo5) (hi5) (((55, 5), .slice a3.E ne a3.ce, ne)) (ents es)) := Lib.hid re
    have HOR5 : Hid (RowT w2_ (lo5) (hi5) (((57, 3), .slice a3.R nr a3.cr, nr)) (rcps rs)) := Lib.hid rr
    have HOH5 : Hid (RowT w2_ (g4) (g4 + 1) (((48, 5), .slice (some ⟨g4, 0, none⟩) (nh + 1) c4, nh + 1)) (hds hs ++ hds [x])) := Lib.hid hrow
    clear hon re rr hrow hg hgr
    go_upto_region 11 with fail
    refine wp_named (fun w11 hw => ?_)
    have hz11 : w2_.heap.size + 0 ≤ w11.heap.size := by rw [hw]; first | omega | (simp [World.setCell]; done) | (simp [World.setCell]; omega)
    have hzz11 : w.heap.size ≤ w11.heap.size := by omega
    replace HB : Hid (Below w.heap.size w w11) := by rw [Hid, hw]; exact (by ((repeat (first | ((with_reducible refine Below.alloc ?_ ?_ _); rotate_left 1; (focus (first | omega | (simp; done) | (simp; omega)))) | (with_reducible refine Below.drew ?_) | ((with_reducible refine Below.setCell ?_ ?_ _); rotate_left 1; (focus (first | omega | (simp; done) | (simp; omega)))))); exact HB.out))
    replace HOB : Hid (BrkK w11 (0) (w.heap.size) (⟨E, R, H, A1, A2, ce, cr, ch, c1, c2⟩) (⟨width, es, rs, hs⟩)) := by rw [Hid, hw]; (repeat (first | (with_reducible refine BrkK.alloc ?_ _) | (with_reducible refine BrkK.drew ?_) | ((with_reducible refine BrkK.setCell ?_ ?_ _); rotate_left 1; (focus (first | omega | (simp; done) | (simp; omega)))))); exact HOB.out
    replace HOP1 : Hid (Rd w11 (lo6) (a6) (B1) (strs p1)) := by rw [Hid, hw]; (repeat (first | (with_reducible refine Rd.alloc ?_ _) | (with_reducible refine Rd.drew ?_) | ((with_reducible refine Rd.setCell ?_ ?_ _); rotate_left 1; (focus (first | omega | (simp; done) | (simp; omega)))))); exact HOP1.out
    replace HOP2 : Hid (Rd w11 (lo6) (a6) (B2) (strs p2)) := by rw [Hid, hw]; (repeat (first | (with_reducible refine Rd.alloc ?_ _) | (with_reducible refine Rd.drew ?_) | ((with_reducible refine Rd.setCell ?_ ?_ _); rotate_left 1; (focus (first | omega | (simp; done) | (simp; omega)))))); exact HOP2.out
    replace HOE5 : Hid (RowT w11 (lo5) (hi5) (((55, 5), .slice a3.E ne a3.ce, ne)) (ents es)) := by rw [Hid, hw]; (repeat (first | (with_reducible refine RowT.alloc ?_ _) | (with_reducible refine RowT.drew ?_) | ((with_reducible refine RowT.setCell ?_ ?_ _); rotate_left 1; (focus (first | omega | (simp; done) | (simp; omega)))))); exact HOE5.out
    replace HOR5 : Hid (RowT w11 (lo5) (hi5) (((57, 3), .slice a3.R nr a3.cr, nr)) (rcps rs)) := by rw [Hid, hw]; (repeat (first | (with_reducible refine RowT.alloc ?_ _) | (with_reducible refine RowT.drew ?_) | ((with_reducible refine RowT.setCell ?_ ?_ _); rotate_left 1; (focus (first | omega | (simp; done) | (simp; omega)))))); exact HOR5.out
    replace HOH5 : Hid (RowT w11 (g4) (g4 + 1) (((48, 5), .slice (some ⟨g4, 0, none⟩) (nh + 1) c4, nh + 1)) (hds hs ++ hds [x])) := by rw [Hid, hw]; (repeat (first | (with_reducible refine RowT.alloc ?_ _) | (with_reducible refine RowT.drew ?_) | ((with_reducible refine RowT.setCell ?_ ?_ _); rotate_left 1; (focus (first | omega | (simp; done) | (simp; omega)))))); exact HOH5.out
    replace HXb : Hid (NewBox w11 (w.heap.size) [.int .i64 width, .slice E ne ce, .slice R nr cr, .slice H nh ch, .int .i64 h.size, .slice A1 m1 c1, .int .i64 h.taken, .slice A2 m2 c2, .int .i64 h.num, .int .i64 h.size, .string h.root, .int .i64 h.taken, .string h.troot]) := by rw [Hid, hw]; (repeat (first | (with_reducible refine NewBox.alloc ?_ _) | (with_reducible refine NewBox.drew ?_) | ((with_reducible refine NewBox.setCell ?_ ?_ _); rotate_left 1; (focus (first | omega | (simp; done) | (simp; omega)))))); exact HXb.out
    clear hxb hfb hkb
    have hxb := HXb.out.2.1
    have hfb := HXb.out.2.2
    have hkb := HXb.out.1
    replace HXq : Hid (NewBox w11 (w.heap.size + 1) [.int .i64 0, .slice none 0 0, .slice none 0 0, .slice none 0 0, .int .i64 0, .slice none 0 0, .int .i64 0, .slice none 0 0, .int .i64 0, .int .i64 0, .string ⟨#[]⟩, .int .i64 0, .string ⟨#[]⟩]) := by rw [Hid, hw]; (repeat (first | (with_reducible refine NewBox.alloc ?_ _) | (with_reducible refine NewBox.drew ?_) | ((with_reducible refine NewBox.setCell ?_ ?_ _); rotate_left 1; (focus (first | omega | (simp; done) | (simp; omega)))))); exact HXq.out
    clear hxq hfq hkq
    have hxq := HXq.out.2.1
    have hfq := HXq.out.2.2
    have hkq := HXq.out.1
    replace HXx : Hid (NewBox w11 (w2.heap.size) [.int .i64 h.num, .int .i64 h.size, .string h.root, .int .i64 h.taken, .string h.troot]) := by rw [Hid, hw]; (repeat (first | (with_reducible refine NewBox.alloc ?_ _) | (with_reducible refine NewBox.drew ?_) | ((with_reducible refine NewBox.setCell ?_ ?_ _); rotate_left 1; (focus (first | omega | (simp; done) | (simp; omega)))))); exact HXx.out
    clear hxx hfx hkx
    have hxx := HXx.out.2.1
    have hfx := HXx.out.2.2
    have hkx := HXx.out.1
    replace HXs : Hid (NewBox w11 (s5_26) [.int .i64 x.size, .slice B1 p1.length d1, .int .i64 x.taken, .slice B2 p2.length d2, .int .i64 x.num, .int .i64 x.size, .string x.root, .int .i64 x.taken, .string x.troot]) := by rw [Hid, hw]; (repeat (first | (with_reducible refine NewBox.alloc ?_ _) | (with_reducible refine NewBox.drew ?_) | ((with_reducible refine NewBox.setCell ?_ ?_ _); rotate_left 1; (focus (first | omega | (simp; done) | (simp; omega)))))); exact HXs.out
    clear hxs hfs hks
    have hxs := HXs.out.2.1
    have hfs := HXs.out.2.2
    have hks := HXs.out.1
    replace HXo : Hid (NewBox w11 (w9.heap.size) [.int .i64 width, .slice a3.E ne a3.ce, .slice a3.R nr a3.cr, .slice (some ⟨g4, 0, none⟩) (nh + 1) c4, .int .i64 x.size, .slice B1 p1.length d1, .int .i64 x.taken, .slice B2 p2.length d2, .int .i64 x.num, .int .i64 x.size, .string x.root, .int .i64 x.taken, .string x.troot]) := by rw [Hid, hw]; apply NewBox.cast; (focus ((repeat (first | (with_reducible apply NewBox.alloc) | (with_reducible apply NewBox.drew) | (with_reducible apply NewBox.set1) | ((with_reducible apply NewBox.far); (focus (first | omega | (simp; done) | (simp; omega)))))); exact HXo.out)); rfl
    clear hxo hfo hko
    have hxo := HXo.out.2.1
    have hfo := HXo.out.2.2
    have hko := HXo.out.1
    clear hw
    obtain ⟨F, HF⟩ : ∃ F : Facts, Hid (F = fun iq xq tqs dsq uq => match iq with
     | 0 => xq.v = .agg #[.int .i64 width, .slice a3.E ne a3.ce, .slice a3.R nr a3.cr, .slice (some ⟨g4, 0, none⟩) (nh + 1) c4, .int .i64 x.size, .slice B1 p1.length d1, .int .i64 x.taken, .slice B2 p2.length d2, .int .i64 x.num, .int .i64 x.size, .string x.root, .int .i64 x.taken, .string x.troot]
     | 1 => xq.v = .agg #[.int .i64 width, .slice E ne ce, .slice R nr cr, .slice H nh ch, .int .i64 h.size, .slice A1 m1 c1, .int .i64 h.taken, .slice A2 m2 c2, .int .i64 h.num, .int .i64 h.size, .string h.root, .int .i64 h.taken, .string h.troot]
     | 2 => xq.v = .string tx
     | 3 => ∃ (kw : Nat), xq.v = .slice (some ⟨kw, 0, none⟩) 1 1 ∧ (True)
     | 4 => NewBox uq (w.heap.size + 1) [.int .i64 width, .slice a3.E ne a3.ce, .slice a3.R nr a3.cr, .slice (some ⟨g4, 0, none⟩) (nh + 1) c4, .int .i64 x.size, .slice B1 p1.length d1, .int .i64 x.taken, .slice B2 p2.length d2, .int .i64 x.num, .int .i64 x.size, .string x.root, .int .i64 x.taken, .string x.troot]
     | 5 => (match tqs, dsq with | [], [yq0] => ∃ (kw : Nat), yq0.v = .slice (some ⟨kw, 0, none⟩) 1 1 ∧ xq.v = .slice (some ⟨kw, 0, none⟩) 1 1 | _, _ => False)
     | 6 => xq.v = .int .i64 0
     | _ => False) := ⟨_, rfl⟩
    refine wp_region_facts [[], [], [], [], [], [3], []] [[], [], [], [], [], [], []] [some 82, some 83, some 84, some 85, none, some 3, some 4] (some 4) (w.heap.size + 1) (w.heap.size + 1 + 1) (.inr (by omega)) F (by kernel_rfl) (by kernel_rfl) (by kernel_rfl) ?_ ⟨?_, ?_, ?_, ?_, ?_, ?_, ?_, trivial⟩ ?_
    ·rw [HF.out]; intro iq xq tqs dsq uq u' hi hf hs hW hx hbk
     have kx : ∀ b, xq.s ≤ b → b < xq.e → u'.heap[b]? = uq.heap[b]? := fun b h1 h2 => hbk b (.inr (.inl ⟨h1, h2⟩))
     have kt : ∀ t ∈ tqs, ∀ b, t.s ≤ b → b < t.e → u'.heap[b]? = uq.heap[b]? := fun t ht b h1 h2 => hbk b (.inr (.inr ⟨t, ht, h1, h2⟩))
     match iq with
     | 0 => exact hf
     | 1 => exact hf
     | 2 => exact hf
     | 3 => obtain ⟨kw, hv, p0⟩ := hf; exact ⟨kw, hv, trivial⟩
     | 4 => exact NewBox.keep hf hs (hbk _ (.inl ⟨hkq, .inr (.inr rfl)⟩))
     | 5 => exact hf
     | 6 => exact hf
    ·intro gh ρ u hc hf1 hg1 hd h0 hb he ha hF
     first | (replace hb : Below w11.heap.size w11 u := hb.drew.below (by decide +kernel)) | (replace hb : Only (w.heap.size + 1) (w.heap.size + 1 + 1) w11 u := hb.drew.only)
     have hbz : w11.heap.size ≤ u.heap.size := hb.size
     have r11 : ρ (.tmp 11) = .pointer (some ⟨w9.heap.size, 0, none⟩) := (h0 11 (by decide +kernel)).trans rfl
     have q_o : ∀ o, u.cell? ⟨w9.heap.size, o, none⟩ = [.int .i64 width, .slice a3.E ne a3.ce, .slice a3.R nr a3.cr, .slice (some ⟨g4, 0, none⟩) (nh + 1) c4, .int .i64 x.size, .slice B1 p1.length d1, .int .i64 x.taken, .slice B2 p2.length d2, .int .i64 x.num, .int .i64 x.size, .string x.root, .int .i64 x.taken, .string x.troot][o]? := by first | exact (HXo.out.below hb).2.1 | exact (HXo.out.only hb (by omega)).2.1
     have k_o : w9.heap.size < u.heap.size := by have := HXo.out.1; omega
     have q_b : ∀ o, u.cell? ⟨w.heap.size, o, none⟩ = [.int .i64 width, .slice E ne ce, .slice R nr cr, .slice H nh ch, .int .i64 h.size, .slice A1 m1 c1, .int .i64 h.taken, .slice A2 m2 c2, .int .i64 h.num, .int .i64 h.size, .string h.root, .int .i64 h.taken, .string h.troot][o]? := by first | exact (HXb.out.below hb).2.1 | exact (HXb.out.only hb (by omega)).2.1
     have k_b : w.heap.size < u.heap.size := by have := HXb.out.1; omega
     clear  hd h0 he ha hF
     go_simp
     rw [HF.out]
     exact ⟨OnlyL.refl _ _, rfl⟩
    ·intro gh ρ u hc hf1 hg1 hd h0 hb he ha hF
     first | (replace hb : Below w11.heap.size w11 u := hb.drew.below (by decide +kernel)) | (replace hb : Only (w.heap.size + 1) (w.heap.size + 1 + 1) w11 u := hb.drew.only)
     have hbz : w11.heap.size ≤ u.heap.size := hb.size
     have r1 : ρ (.tmp 1) = .pointer (some ⟨w.heap.size, 0, none⟩) := (h0 1 (by decide +kernel)).trans rfl
     have q_o : ∀ o, u.cell? ⟨w9.heap.size, o, none⟩ = [.int .i64 width, .slice a3.E ne a3.ce, .slice a3.R nr a3.cr, .slice (some ⟨g4, 0, none⟩) (nh + 1) c4, .int .i64 x.size, .slice B1 p1.length d1, .int .i64 x.taken, .slice B2 p2.length d2, .int .i64 x.num, .int .i64 x.size, .string x.root, .int .i64 x.taken, .string x.troot][o]? := by first | exact (HXo.out.below hb).2.1 | exact (HXo.out.only hb (by omega)).2.1
     have k_o : w9.heap.size < u.heap.size := by have := HXo.out.1; omega
     have q_b : ∀ o, u.cell? ⟨w.heap.size, o, none⟩ = [.int .i64 width, .slice E ne ce, .slice R nr cr, .slice H nh ch, .int .i64 h.size, .slice A1 m1 c1, .int .i64 h.taken, .slice A2 m2 c2, .int .i64 h.num, .int .i64 h.size, .string h.root, .int .i64 h.taken, .string h.troot][o]? := by first | exact (HXb.out.below hb).2.1 | exact (HXb.out.only hb (by omega)).2.1
     have k_b : w.heap.size < u.heap.size := by have := HXb.out.1; omega
     clear  hd h0 he ha hF
     go_simp
     rw [HF.out]
     exact ⟨OnlyL.refl _ _, rfl⟩
    ·intro gh ρ u hc hf1 hg1 hd h0 hb he ha hF
     have r9 : ρ (.tmp 9) = .string tx := (h0 9 (by decide +kernel)).trans rfl
     clear  hd h0 he ha hF
     go_simp
     rw [HF.out]
     exact ⟨OnlyL.refl _ _, rfl⟩
    ·intro gh ρ u hc hf1 hg1 hd h0 hb he ha hF
     first | (replace hb : Below w11.heap.size w11 u := hb.drew.below (by decide +kernel)) | (replace hb : Only (w.heap.size + 1) (w.heap.size + 1 + 1) w11 u := hb.drew.only)
     have hbz : w11.heap.size ≤ u.heap.size := hb.size
     have r83 : ρ (.tmp 83) = .agg #[.int .i64 width, .slice E ne ce, .slice R nr cr, .slice H nh ch, .int .i64 h.size, .slice A1 m1 c1, .int .i64 h.taken, .slice A2 m2 c2, .int .i64 h.num, .int .i64 h.size, .string h.root, .int .i64 h.taken, .string h.troot] := by have h := hF 1 (by decide +kernel) (by decide +kernel); rw [HF.out] at h; exact (hd 1 (by decide +kernel) 83 (by kernel_rfl)).trans h
     have r84 : ρ (.tmp 84) = .string tx := by have h := hF 2 (by decide +kernel) (by decide +kernel); rw [HF.out] at h; exact (hd 2 (by decide +kernel) 84 (by kernel_rfl)).trans h
     clear  hd h0 he ha hF
     go_simp
     have q_o := (HXo.out.below hb)
     have q_b := (HXb.out.below hb)
     refine (HWR.out _ (HOB.out.below hb).base tx (by omega)).mono ?_
     rintro e u1 ⟨kw, rfl, hb1⟩
     rw [HF.out]
     exact ⟨_, rfl, OnlyL.of_below hb1, kw, rfl, trivial⟩
    ·intro gh ρ u hc hf1 hg1 hd h0 hb he ha hF
     first | (replace hb : Below w11.heap.size w11 u := hb.drew.below (by decide +kernel)) | (replace hb : Only (w.heap.size + 1) (w.heap.size + 1 + 1) w11 u := hb.drew.only)
     have hbz : w11.heap.size ≤ u.heap.size := hb.size
     have r2 : ρ (.tmp 2) = .pointer (some ⟨w.heap.size + 1, 0, none⟩) := (h0 2 (by decide +kernel)).trans rfl
     have r82 : ρ (.tmp 82) = .agg #[.int .i64 width, .slice a3.E ne a3.ce, .slice a3.R nr a3.cr, .slice (some ⟨g4, 0, none⟩) (nh + 1) c4, .int .i64 x.size, .slice B1 p1.length d1, .int .i64 x.taken, .slice B2 p2.length d2, .int .i64 x.num, .int .i64 x.size, .string x.root, .int .i64 x.taken, .string x.troot] := by have h := hF 0 (by decide +kernel) (by decide +kernel); rw [HF.out] at h; exact (hd 0 (by decide +kernel) 82 (by kernel_rfl)).trans h
     obtain ⟨hzk, hzc, hzf⟩ := HXq.out.below hb
     clear  hd h0 he ha hF
     go_simp
     rw [HF.out]
     refine ⟨?_, ?_⟩
     ·refine OnlyL.of_z (lo := w.heap.size + 1) (hi := w.heap.size + 1 + 1) ?_ rfl; refine Only.setCell ?_ (by exact Nat.le_refl _) (by exact Nat.lt_succ_self _) _; refine Only.setCell ?_ (by exact Nat.le_refl _) (by exact Nat.lt_succ_self _) _; refine Only.setCell ?_ (by exact Nat.le_refl _) (by exact Nat.lt_succ_self _) _; refine Only.setCell ?_ (by exact Nat.le_refl _) (by exact Nat.lt_succ_self _) _; refine Only.setCell ?_ (by exact Nat.le_refl _) (by exact Nat.lt_succ_self _) _; refine Only.setCell ?_ (by exact Nat.le_refl _) (by exact Nat.lt_succ_self _) _; refine Only.setCell ?_ (by exact Nat.le_refl _) (by exact Nat.lt_succ_self _) _; refine Only.setCell ?_ (by exact Nat.le_refl _) (by exact Nat.lt_succ_self _) _; refine Only.setCell ?_ (by exact Nat.le_refl _) (by exact Nat.lt_succ_self _) _; refine Only.setCell ?_ (by exact Nat.le_refl _) (by exact Nat.lt_succ_self _) _; refine Only.setCell ?_ (by exact Nat.le_refl _) (by exact Nat.lt_succ_self _) _; refine Only.setCell ?_ (by exact Nat.le_refl _) (by exact Nat.lt_succ_self _) _; refine Only.setCell ?_ (by exact Nat.le_refl _) (by exact Nat.lt_succ_self _) _; exact Only.refl _ _ _
     ·show NewBox _ (w.heap.size + 1) _
      exact ⟨by simpa [World.setCell] using hzk, fun o => by rcases o with _ | _ | _ | _ | _ | _ | _ | _ | _ | _ | _ | _ | _ | o <;> go_simp, fun o => by go_simp⟩
    ·intro gh ρ u hc hf1 hg1 hd h0 hb he ha hF
     have f3 : ∃ (kw : Nat), (gh 3).v = .slice (some ⟨kw, 0, none⟩) 1 1 ∧ (True) := by have h := hF 3 (by decide +kernel) (by decide +kernel); rw [HF.out] at h; exact h
     obtain ⟨kw, hv3, g3_0⟩ := f3
     have hrt3 := hv3
     have r85 : ρ (.tmp 85) = .slice (some ⟨kw, 0, none⟩) 1 1 := (hd 3 (by decide +kernel) 85 (by kernel_rfl)).trans hv3
     have HRT3 := Lib.hid hrt3
     clear hv3 hrt3 hd h0 he ha hF
     go_simp
     rw [HF.out]
     exact ⟨OnlyL.refl _ _, kw, HRT3.out, rfl⟩
    ·intro gh ρ u hc hf1 hg1 hd h0 hb he ha hF
     clear  hd h0 he ha hF
     go_simp
     rw [HF.out]
     exact ⟨OnlyL.refl _ _, rfl⟩
    intro gh w12 hB hE hA hF
    replace hB : Only (w.heap.size + 1) (w.heap.size + 1 + 1) w11 w12 := hB.only
    have f0 : (gh 0).v = .agg #[.int .i64 width, .slice a3.E ne a3.ce, .slice a3.R nr a3.cr, .slice (some ⟨g4, 0, none⟩) (nh + 1) c4, .int .i64 x.size, .slice B1 p1.length d1, .int .i64 x.taken, .slice B2 p2.length d2, .int .i64 x.num, .int .i64 x.size, .string x.root, .int .i64 x.taken, .string x.troot] := by have h := hF 0 (by decide +kernel) (by decide +kernel); rw [HF.out] at h; exact h
    have f1 : (gh 1).v = .agg #[.int .i64 width, .slice E ne ce, .slice R nr cr, .slice H nh ch, .int .i64 h.size, .slice A1 m1 c1, .int .i64 h.taken, .slice A2 m2 c2, .int .i64 h.num, .int .i64 h.size, .string h.root, .int .i64 h.taken, .string h.troot] := by have h := hF 1 (by decide +kernel) (by decide +kernel); rw [HF.out] at h; exact h
    have f2 : (gh 2).v = .string tx := by have h := hF 2 (by decide +kernel) (by decide +kernel); rw [HF.out] at h; exact h
    have f3 : ∃ (kw : Nat), (gh 3).v = .slice (some ⟨kw, 0, none⟩) 1 1 ∧ (True) := by have h := hF 3 (by decide +kernel) (by decide +kernel); rw [HF.out] at h; exact h
    have f4 : NewBox w12 (w.heap.size + 1) [.int .i64 width, .slice a3.E ne a3.ce, .slice a3.R nr a3.cr, .slice (some ⟨g4, 0, none⟩) (nh + 1) c4, .int .i64 x.size, .slice B1 p1.length d1, .int .i64 x.taken, .slice B2 p2.length d2, .int .i64 x.num, .int .i64 x.size, .string x.root, .int .i64 x.taken, .string x.troot] := by have h := hF 4 (by decide +kernel) (by decide +kernel); rw [HF.out] at h; exact h
    have f5 : ∃ (kw : Nat), (gh 3).v = .slice (some ⟨kw, 0, none⟩) 1 1 ∧ (gh 5).v = .slice (some ⟨kw, 0, none⟩) 1 1 := by have h := hF 5 (by decide +kernel) (by decide +kernel); rw [HF.out] at h; exact h
    have f6 : (gh 6).v = .int .i64 0 := by have h := hF 6 (by decide +kernel) (by decide +kernel); rw [HF.out] at h; exact h
    obtain ⟨kw, hv3, _⟩ := f3
    have hv0 := f0
    have hv1 := f1
    have hv2 := f2
    have hx4 := f4
    obtain ⟨kw_5, hu3, hv5⟩ := f5
    replace hu3 := hv3.symm.trans hu3
    simp at hu3
    try simp only [and_assoc] at hu3
    obtain rfl := hu3
    have hv6 := f6
    clear hE hA hF
    simp only [putDs, Nat.reduceAdd, hv0, hv1, hv2, hv3, hv5, hv6]
    clear hv0 hv1 hv2 hv3 hv5 hv6
    clear HF
    have hb := hB
    clear hB
    have hzw12 : w11.heap.size ≤ w12.heap.size := hb.size
    have hzzw12 : w.heap.size ≤ w12.heap.size := by omega
    replace HB := Lib.hid (below_only HB.out hb (by omega) HB.out.size)
    replace HOB := Lib.hid (HOB.out.only hb (by first | omega | (simp; omega)))
    replace HOP1 := Lib.hid (HOP1.out.only hb (by first | omega | (simp; omega)))
    replace HOP2 := Lib.hid (HOP2.out.only hb (by first | omega | (simp; omega)))
    replace HOE5 := Lib.hid (HOE5.out.only hb (by first | omega | (simp; omega)))
    replace HOR5 := Lib.hid (HOR5.out.only hb (by first | omega | (simp; omega)))
    replace HOH5 := Lib.hid (HOH5.out.only hb (by first | omega | (simp; omega)))
    replace HXb := Lib.hid (HXb.out.only hb (by first | omega | (simp; omega)))
    clear hxb hfb hkb
    have hxb := HXb.out.2.1
    have hfb := HXb.out.2.2
    have hkb := HXb.out.1
    clear hxq hfq hkq HXq
    replace HXx := Lib.hid (HXx.out.only hb (by first | omega | (simp; omega)))
    clear hxx hfx hkx
    have hxx := HXx.out.2.1
    have hfx := HXx.out.2.2
    have hkx := HXx.out.1
    replace HXs := Lib.hid (HXs.out.only hb (by first | omega | (simp; omega)))
    clear hxs hfs hks
    have hxs := HXs.out.2.1
    have hfs := HXs.out.2.2
    have hks := HXs.out.1
    replace HXo := Lib.hid (HXo.out.only hb (by first | omega | (simp; omega)))
    clear hxo hfo hko
    have hxo := HXo.out.2.1
    have hfo := HXo.out.2.2
    have hko := HXo.out.1
    clear hb
    have HXq : Hid (NewBox w12 (w.heap.size + 1) [.int .i64 width, .slice a3.E ne a3.ce, .slice a3.R nr a3.cr, .slice (some ⟨g4, 0, none⟩) (nh + 1) c4, .int .i64 x.size, .slice B1 p1.length d1, .int .i64 x.taken, .slice B2 p2.length d2, .int .i64 x.num, .int .i64 x.size, .string x.root, .int .i64 x.taken, .string x.troot]) := hx4
    have hxq := HXq.out.2.1
    have hfq := HXq.out.2.2
    have hkq := HXq.out.1
    clear hx4
    have hbk := brk_rows (lo := w.heap.size) HNX.out HNE.out HNR.out (by rw [List.length_append, HNH.out] <;> rfl) HOE5.out HOR5.out (by rw [hds_app]; exact HOH5.out) (by rw [HE1.out]; exact HOP1.out.mono (by omega) (by omega) (Nat.le_refl _)) (by rw [HE2.out]; exact HOP2.out.mono (by omega) (by omega) (Nat.le_refl _)) HNN.out.1 HNN.out.2 (by omega) (by omega) (by omega)
    have HBK := Lib.hid hbk
    clear hbk
    go_wp2
    refine bodyPost_ret (v := .tuple #[.agg #[.int .i64 width, .slice a3.E ne a3.ce, .slice a3.R nr a3.cr, .slice (some ⟨g4, 0, none⟩) (nh + 1) c4, .int .i64 x.size, .slice B1 p1.length d1, .int .i64 x.taken, .slice B2 p2.length d2, .int .i64 x.num, .int .i64 x.size, .string x.root, .int .i64 x.taken, .string x.troot], .slice (some ⟨kw, 0, none⟩) 1 1, .int .i64 0]) (by simp [results, Try.results77, go_sem, hxq]) rfl ?_
    exact ⟨⟨a3.E, a3.R, some ⟨g4, 0, none⟩, B1, B2, a3.ce, a3.cr, c4, d1, d2⟩, ⟨width, es, rs, hs ++ [x]⟩, some ⟨kw, 0, none⟩, 1, 1, 0, by dsimp only; rw [List.length_append, HNE.out, HNR.out, HNH.out, HE1.out, HE2.out, lastHd_snoc] <;> rfl, fun _ => ⟨HBK.out, rfl, Nat.le_succ _⟩, HB.out⟩
end Go.Proofs.Ytoccjgcokffkbaa
namespace Go.Proofs.Ytoccjgcokffkbaa
set_option linter.unusedVariables false
set_option linter.unusedSimpArgs false
open Go.RowKit
/-- number k of a slice of ints -/
theorem Rd.int {w : World} {lo hi : Nat} {A : Option Addr} {l : List Int} (h : Rd w lo hi A (ints l)) {k : Nat} (hk : k < l.length) :
  ∃ b off s, A = some ⟨b, off, none⟩ ∧ b < w.heap.size ∧ l[k]? = some s ∧ w.cell? ⟨b, off + k, none⟩ = some (.int .i64 s) := by
 obtain ⟨b, off, h1, h2, h3⟩ := h.at_ (j := k) (by simpa [ints] using hk)
 exact ⟨b, off, l[k], h1, h2, List.getElem?_eq_getElem hk, h3 k _ (ints_get (List.getElem?_eq_getElem hk))⟩
end Go.Proofs.Ytoccjgcokffkbaa
namespace Go.Proofs.Ytoccjgcokffkbaa
set_option linter.unusedVariables false
set_option linter.unusedSimpArgs false
open Go.RowKit
/-- what stands in the way of nothing but itself: the cursor and the drawn bytes, as a kind of the walk -/
def CodeK (w : World) (lo hi : Nat) (a : Option Addr × Nat × Nat) (l : List Int) : Prop := lo = 0 ∧ ∃ p, hi = p + 1 ∧ Code w p a.1 a.2.1 a.2.2 0 p l
theorem CodeK.mk_ {w : World} {p n g : Nat} {B : Option Addr} {l : List Int} (h : Code w p B n g 0 p l) : CodeK w 0 (p + 1) (B, n, g) l := ⟨rfl, p, rfl, h⟩
theorem CodeK.get {w : World} {p n g : Nat} {B : Option Addr} {l : List Int} (h : CodeK w 0 (p + 1) (B, n, g) l) : Code w p B n g 0 p l := by
 obtain ⟨_, q, h1, h2⟩ := h
 obtain rfl : p = q := by omega
 exact h2
section
variable {w w' : World} {lo hi lo' hi' : Nat} {a : Option Addr × Nat × Nat} {l : List Int}
theorem CodeK.below (h : CodeK w lo hi a l) (hb : Below w.heap.size w w') : CodeK w' lo hi a l := by
 obtain ⟨h1, p, h2, h3⟩ := h; exact ⟨h1, p, h2, h3.below hb⟩
theorem CodeK.only (h : CodeK w lo hi a l) (ho : Only lo' hi' w w') (hd : hi ≤ lo' ∨ hi' ≤ lo) : CodeK w' lo hi a l := by
 obtain ⟨h1, p, h2, h3⟩ := h
 refine ⟨h1, p, h2, ?_⟩
 obtain ⟨i, k, hx, hi2⟩ := h3.cur
 exact ⟨⟨i, k, hx.only ho (by omega), hi2⟩, h3.rd.only ho (by omega), h3.len, h3.small, h3.byte, h3.far⟩
theorem CodeK.alloc (h : CodeK w lo hi a l) (o : Obj) : CodeK (w.alloc o) lo hi a l := h.below ((Below.refl _ _).alloc (Nat.le_refl _) o)
theorem CodeK.drew (h : CodeK w lo hi a l) : CodeK w.drew lo hi a l := h.below ((Below.refl _ _).drew)
theorem CodeK.setCell (h : CodeK w lo hi a l) {p : Addr} (hp : p.block < lo ∨ hi ≤ p.block) (u : Value) : CodeK (w.setCell p u) lo hi a l := by
 have ho : Only p.block (p.block + 1) w (w.setCell p u) := (Only.refl _ _ _).setCell (Nat.le_refl _) (Nat.lt_succ_self _) u
 exact h.only ho (by have := h.1; omega)
/-- a block, as a kind of the walk -/
def BoxK (w : World) (lo hi : Nat) (_ : Unit) (xs : List Value) : Prop := NewBox w lo xs ∧ hi = lo + 1
theorem BoxK.below {u : Unit} {xs : List Value} (h : BoxK w lo hi u xs) (hb : Below w.heap.size w w') : BoxK w' lo hi u xs := ⟨h.1.below hb, h.2⟩
theorem BoxK.only {u : Unit} {xs : List Value} (h : BoxK w lo hi u xs) (ho : Only lo' hi' w w') (hd : hi ≤ lo' ∨ hi' ≤ lo) : BoxK w' lo hi u xs := ⟨h.1.only ho (by have := h.2; omega), h.2⟩
theorem BoxK.alloc {u : Unit} {xs : List Value} (h : BoxK w lo hi u xs) (o : Obj) : BoxK (w.alloc o) lo hi u xs := ⟨h.1.alloc o, h.2⟩
theorem BoxK.drew {u : Unit} {xs : List Value} (h : BoxK w lo hi u xs) : BoxK w.drew lo hi u xs := ⟨h.1.drew, h.2⟩
theorem BoxK.setCell {u : Unit} {xs : List Value} (h : BoxK w lo hi u xs) {p : Addr} (hp : p.block < lo ∨ hi ≤ p.block) (v : Value) : BoxK (w.setCell p v) lo hi u xs := ⟨h.1.setCell (by have := h.2; omega) v, h.2⟩
theorem celoD {k o : Nat} {v : Value} (h : Only lo hi w w') (hc : w.cell? ⟨k, o, none⟩ = some v) (hk : k < lo ∨ hi ≤ k) : w'.cell? ⟨k, o, none⟩ = some v := by
 have hb := h.block k (World.block_lt_of_cell? w ⟨k, o, none⟩ hc) hk
 simpa [World.cell?, hb] using hc
def CellK (w : World) (b o : Nat) (v : Value) : Prop := w.cell? ⟨b, o, none⟩ = some v
theorem CellK.alloc {b o : Nat} {v : Value} (h : CellK w b o v) (x : Obj) : CellK (w.alloc x) b o v := celoD (Only.of_below (lo := w.heap.size) (hi := w.heap.size) ((Below.refl _ _).alloc (Nat.le_refl _) x)) h (by have := World.block_lt_of_cell? w ⟨b, o, none⟩ h; simp only at this; omega)
theorem CellK.drew {b o : Nat} {v : Value} (h : CellK w b o v) : CellK w.drew b o v := h
theorem CellK.setCell {b o : Nat} {v : Value} (h : CellK w b o v) {p : Addr} (hp : p.block ≠ b) (u : Value) : CellK (w.setCell p u) b o v := celoD ((Only.refl p.block (p.block + 1) w).setCell (Nat.le_refl _) (Nat.lt_succ_self _) u) h (by omega)
end
theorem only_new {w w' : World} {lo hi : Nat} {p : Addr} (h : Only lo hi w w') (hk : w.heap.size ≤ p.block) (u : Value) : Only lo hi w (w'.setCell p u) :=
 ⟨h.os, h.tape, h.output, by simpa [World.setCell] using h.size, fun k hk2 hd => (Below.heap_setCell _ _ _ _ (by omega)).trans (h.block k hk2 hd)⟩
theorem only_alloc {w w' : World} {lo hi : Nat} (h : Only lo hi w w') (o : Obj) : Only lo hi w (w'.alloc o) := h.trans ((Only.of_below ((Below.refl _ _).alloc (Nat.le_refl _) o)))
theorem only_drew {w w' : World} {lo hi : Nat} (h : Only lo hi w w') : Only lo hi w w'.drew := ⟨h.os, h.tape, h.output, h.size, h.block⟩
end Go.Proofs.Ytoccjgcokffkbaa
namespace Go.Proofs.Ytoccjgcokffkbaa
set_option linter.unusedVariables false
set_option linter.unusedSimpArgs false
open Go.RowKit
theorem rd_strs {w : World} {k : Nat} {cs : List Value} {xs : List ByteArray} (h : NewBox w k cs) (e : cs = strs xs) : Rd w k (k + 1) (some ⟨k, 0, none⟩) (strs xs) := fun _ =>
 ⟨k, 0, rfl, Nat.le_refl _, Nat.lt_succ_self _, h.1, fun j u hj => by rw [Nat.zero_add, ← e] at *; exact (h.2.1 j).trans hj⟩
set_option maxRecDepth 100000 in
set_option maxHeartbeats 400000 in
theorem l01Pick_c {w : World} {p n g : Nat} {B : Option Addr} {l : List Int} (h : Code w p B n g 0 p l) (A : Option Addr) (c m lo hi : Nat) (xs : List ByteArray) (hr : Rd w lo hi A (strs xs)) (hx : xs.length = m) (hm : 0 < m) (hm2 : m ≤ 1000) (hlo : p + 1 ≤ lo) :
  Calls Try.prog 46 #[.pointer (some ⟨p, 0, none⟩), .slice A m c] w fun e w' => ∃ x : ByteArray, e = .returned (.string x) ∧ x ∈ xs ∧ Code w' p B n g 0 p l ∧ Only p (p + 1) w w' := by
 have HC := Lib.hid h
 have HR := Lib.hid hr
 have HX := Lib.hid hx
 clear h hr hx
 go_enter Try.func46, Try.ntmps46
 go_wp2_with fail
 refine (l01Below_c p n g 0 p B l (m : Nat) _ HC.out (by omega) (by omega)).mono ?_
 rintro e w1 ⟨x, rfl, x0, x1, hc, ho⟩
 have HC1 := Lib.hid hc
 have HO1 := Lib.hid ho
 obtain ⟨k, rfl⟩ : ∃ k : Nat, x = k := ⟨x.toNat, by omega⟩
 obtain ⟨b, off, y, rfl, hb, hy, hcell⟩ := (HR.out.only HO1.out (by omega)).str (k := k) (by rw [HX.out]; omega)
 have HY := Lib.hid (List.mem_of_getElem? hy)
 have hI : (k : Int) < m := by omega
 clear hc ho HC hy
 go_wp2
 go_ret
 exact ⟨y, rfl, HY.out, HC1.out, HO1.out⟩
/-- the drawn topics are names -/
def topN : List ByteArray := [⟨#[110, 101, 119, 115]⟩, ⟨#[112, 97, 121, 45, 55]⟩, ⟨#[97]⟩]
theorem topN_ok : ∀ t ∈ topN, nameOk t = true := by
 intro t ht
 simp only [topN, List.mem_cons, List.not_mem_nil, or_false] at ht
 rcases ht with rfl | rfl | rfl <;> decide +kernel
set_option maxRecDepth 100000 in
set_option maxHeartbeats 400000 in
theorem l09Topic_c {w : World} {p n g : Nat} {B : Option Addr} {l : List Int} (h : Code w p B n g 0 p l) (hp : p < w.heap.size) :
  Calls Try.prog 45 #[.pointer (some ⟨p, 0, none⟩)] w fun e w' => ∃ x : ByteArray, e = .returned (.string x) ∧ nameOk x = true ∧ Code w' p B n g 0 p l ∧ Only p (p + 1) w w' := by
 have HB : Hid (Only (p) (p + 1) w w) := Only.refl _ _ _
 have HOC : Hid (CodeK w (0) (p + 1) ((B, n, g)) (l)) := Lib.hid (CodeK.mk_ h)
 clear h
 go_enter Try.func45, Try.ntmps45
 go_wp2_with fail
 refine calls_named (fun w1 hw => ?_)
 have hz1 : w.heap.size + 1 ≤ w1.heap.size := by rw [hw]; first | omega | (simp [World.setCell]; done) | (simp [World.setCell]; omega)
 have hzz1 : w.heap.size ≤ w1.heap.size := by omega
 have hbn : Below w.heap.size w w1 := by rw [hw]; exact (by ((repeat (first | ((with_reducible refine Below.alloc ?_ ?_ _); rotate_left 1; (focus (first | omega | (simp; done) | (simp; omega)))) | (with_reducible refine Below.drew ?_) | ((with_reducible refine Below.setCell ?_ ?_ _); rotate_left 1; (focus (first | omega | (simp; done) | (simp; omega)))))); exact Below.refl _ _))
 replace HB := Lib.hid (HB.out.trans (Only.of_below hbn))
 replace HOC := Lib.hid (HOC.out.below hbn)
 clear hbn
 have HXz : Hid (NewBox w1 (w.heap.size) [.string ⟨#[110, 101, 119, 115]⟩, .string ⟨#[112, 97, 121, 45, 55]⟩, .string ⟨#[97]⟩]) := by rw [Hid, hw]; exact ⟨by first | omega | (simp [World.setCell]; done) | (simp [World.setCell]; omega), fun o => by rcases o with _ | _ | _ | o <;> go_simp, fun o => by go_simp⟩
 have hxz := HXz.out.2.1
 have hfz := HXz.out.2.2
 have hkz := HXz.out.1
 clear hw
 refine (l01Pick_c (CodeK.get HOC.out) _ 3 3 _ _ topN (rd_strs HXz.out rfl) rfl (by omega) (by omega) (by omega)).mono ?_
 rintro e w2 ⟨y, rfl, hy, hc, hb⟩
 have hzw2 : w1.heap.size ≤ w2.heap.size := hb.size
 have hzzw2 : w.heap.size ≤ w2.heap.size := by omega
 replace HB : Hid (Only (p) (p + 1) w w2) := Lib.hid (by first | exact HB.out.trans hb | exact only_two HB.out hb (by omega))
 replace HXz := Lib.hid (HXz.out.only hb (by first | omega | (simp; omega)))
 clear hxz hfz hkz
 have hxz := HXz.out.2.1
 have hfz := HXz.out.2.2
 have hkz := HXz.out.1
 clear hb
 have HY := Lib.hid (topN_ok y hy)
 have HC := Lib.hid hc
 clear hy hc
 go_wp2
 go_ret
 exact ⟨y, rfl, HY.out, HC.out, HB.out⟩
end Go.Proofs.Ytoccjgcokffkbaa
namespace Go.Proofs.Ytoccjgcokffkbaa
set_option linter.unusedVariables false
set_option linter.unusedSimpArgs false
open Go.RowKit
theorem l12Seal_c (a : Bk) (m : Bm) (lo hi : Nat) (w : World) (hk : BrkK w lo hi a m) :
  Calls Try.prog 77 #[.agg #[.int .i64 m.width, .slice a.E m.es.length a.ce, .slice a.R m.rs.length a.cr, .slice a.H m.hs.length a.ch, .int .i64 (lastHd m.hs).size, .slice a.A1 (pk1 m.width m.es m.hs).length a.c1, .int .i64 (lastHd m.hs).taken, .slice a.A2 (pk2 m.width m.rs m.hs).length a.c2, .int .i64 (lastHd m.hs).num, .int .i64 (lastHd m.hs).size, .string (lastHd m.hs).root, .int .i64 (lastHd m.hs).taken, .string (lastHd m.hs).troot]] w fun e w' => ∃ (a' : Bk) (m' : Bm) (L : Option Addr) (q g : Nat) (code : Int), e = .returned (.tuple #[.agg #[.int .i64 m'.width, .slice a'.E m'.es.length a'.ce, .slice a'.R m'.rs.length a'.cr, .slice a'.H m'.hs.length a'.ch, .int .i64 (lastHd m'.hs).size, .slice a'.A1 (pk1 m'.width m'.es m'.hs).length a'.c1, .int .i64 (lastHd m'.hs).taken, .slice a'.A2 (pk2 m'.width m'.rs m'.hs).length a'.c2, .int .i64 (lastHd m'.hs).num, .int .i64 (lastHd m'.hs).size, .string (lastHd m'.hs).root, .int .i64 (lastHd m'.hs).taken, .string (lastHd m'.hs).troot], .slice L q g, .int .i64 code]) ∧ NextOk w w' m a' m' code :=
 l12SealP_c m.width a.E a.R a.H a.A1 a.A2 _ _ _ a.ce a.cr a.ch a.c1 a.c2 _ _ m.es m.rs m.hs _ _ _ lo hi w hk rfl rfl rfl rfl rfl rfl rfl rfl
theorem l12Receipt_c (a : Bk) (m : Bm) (lo hi : Nat) (r : Rcp) (w : World) (hk : BrkK w lo hi a m) (hrf : r.fits) :
  Calls Try.prog 78 #[.agg #[.int .i64 m.width, .slice a.E m.es.length a.ce, .slice a.R m.rs.length a.cr, .slice a.H m.hs.length a.ch, .int .i64 (lastHd m.hs).size, .slice a.A1 (pk1 m.width m.es m.hs).length a.c1, .int .i64 (lastHd m.hs).taken, .slice a.A2 (pk2 m.width m.rs m.hs).length a.c2, .int .i64 (lastHd m.hs).num, .int .i64 (lastHd m.hs).size, .string (lastHd m.hs).root, .int .i64 (lastHd m.hs).taken, .string (lastHd m.hs).troot], .agg #[.string r.reader, .string r.topic, .int .i64 r.index]] w fun e w' => ∃ (a' : Bk) (m' : Bm) (L : Option Addr) (q g : Nat) (code : Int), e = .returned (.tuple #[.agg #[.int .i64 m'.width, .slice a'.E m'.es.length a'.ce, .slice a'.R m'.rs.length a'.cr, .slice a'.H m'.hs.length a'.ch, .int .i64 (lastHd m'.hs).size, .slice a'.A1 (pk1 m'.width m'.es m'.hs).length a'.c1, .int .i64 (lastHd m'.hs).taken, .slice a'.A2 (pk2 m'.width m'.rs m'.hs).length a'.c2, .int .i64 (lastHd m'.hs).num, .int .i64 (lastHd m'.hs).size, .string (lastHd m'.hs).root, .int .i64 (lastHd m'.hs).taken, .string (lastHd m'.hs).troot], .slice L q g, .int .i64 code]) ∧ NextOk w w' m a' m' code :=
 l12ReceiptP_c m.width a.E a.R a.H a.A1 a.A2 _ _ _ a.ce a.cr a.ch a.c1 a.c2 _ _ m.es m.rs m.hs _ _ _ lo hi r w hk rfl rfl rfl rfl rfl rfl rfl rfl hrf
theorem l12Publish_c (a : Bk) (m : Bm) (lo hi : Nat) (t : ByteArray) (ti : Int) (k b : ByteArray) (w : World) (hk : BrkK w lo hi a m) (ht : t.size ≤ 1048576) (hti : I64 ti) (hks : k.size ≤ 1048576) (hbs : b.size ≤ 1048576) :
  Calls Try.prog 79 #[.agg #[.int .i64 m.width, .slice a.E m.es.length a.ce, .slice a.R m.rs.length a.cr, .slice a.H m.hs.length a.ch, .int .i64 (lastHd m.hs).size, .slice a.A1 (pk1 m.width m.es m.hs).length a.c1, .int .i64 (lastHd m.hs).taken, .slice a.A2 (pk2 m.width m.rs m.hs).length a.c2, .int .i64 (lastHd m.hs).num, .int .i64 (lastHd m.hs).size, .string (lastHd m.hs).root, .int .i64 (lastHd m.hs).taken, .string (lastHd m.hs).troot], .string t, .int .i64 ti, .string k, .string b] w fun e w' => ∃ (a' : Bk) (m' : Bm) (L : Option Addr) (q g : Nat) (leaf code : Int), e = .returned (.tuple #[.agg #[.int .i64 m'.width, .slice a'.E m'.es.length a'.ce, .slice a'.R m'.rs.length a'.cr, .slice a'.H m'.hs.length a'.ch, .int .i64 (lastHd m'.hs).size, .slice a'.A1 (pk1 m'.width m'.es m'.hs).length a'.c1, .int .i64 (lastHd m'.hs).taken, .slice a'.A2 (pk2 m'.width m'.rs m'.hs).length a'.c2, .int .i64 (lastHd m'.hs).num, .int .i64 (lastHd m'.hs).size, .string (lastHd m'.hs).root, .int .i64 (lastHd m'.hs).taken, .string (lastHd m'.hs).troot], .slice L q g, .int .i64 leaf, .int .i64 code]) ∧ NextOk w w' m a' m' code :=
 l12PublishP_c m.width a.E a.R a.H a.A1 a.A2 _ _ _ a.ce a.cr a.ch a.c1 a.c2 _ _ m.es m.rs m.hs _ _ _ lo hi t ti k b w hk rfl rfl rfl rfl rfl rfl rfl rfl ht hti hks hbs
theorem BrkK.setBlk {w : World} {lo hi : Nat} {a : Bk} {m : Bm} (h : BrkK w lo hi a m) {k : Nat} (hk : k < lo ∨ hi ≤ k) (o : Nat) (u : Value) : BrkK (w.setCell ⟨k, o, none⟩ u) lo hi a m := h.setCell hk u
theorem CodeK.setBlkR {w : World} {lo hi : Nat} {a : Option Addr × Nat × Nat} {l : List Int} (h : CodeK w lo hi a l) {k : Nat} (hk : k < lo ∨ hi ≤ k) (o : Nat) (u : Value) : CodeK (w.setCell ⟨k, o, none⟩ u) lo hi a l := h.setCell hk u
/-- where the drawing of a broker stands: its variables, the broker, the code -/
structure RtS (w wx : World) (p kb kr lo hi : Nat) (a : Bk) (m : Bm) (c : Option Addr × Nat × Nat) (l : List Int) : Prop where
 b : NewBox wx kb [.int .i64 m.width, .slice a.E m.es.length a.ce, .slice a.R m.rs.length a.cr, .slice a.H m.hs.length a.ch, .int .i64 (lastHd m.hs).size, .slice a.A1 (pk1 m.width m.es m.hs).length a.c1, .int .i64 (lastHd m.hs).taken, .slice a.A2 (pk2 m.width m.rs m.hs).length a.c2, .int .i64 (lastHd m.hs).num, .int .i64 (lastHd m.hs).size, .string (lastHd m.hs).root, .int .i64 (lastHd m.hs).taken, .string (lastHd m.hs).troot]
 r : NewBox wx kr [.int .i64 0, .slice none 0 0, .slice none 0 0, .slice none 0 0, .int .i64 0, .slice none 0 0, .int .i64 0, .slice none 0 0, .int .i64 0, .int .i64 0, .string ⟨#[]⟩, .int .i64 0, .string ⟨#[]⟩]
 k : BrkK wx lo hi a m
 c : CodeK wx 0 (p + 1) c l
 on : Only p (p + 1) w wx
 far : p < lo ∧ p < kb ∧ p < kr ∧ kb ≠ kr ∧ w.heap.size ≤ kb ∧ w.heap.size ≤ kr ∧ (hi ≤ kb ∨ kb < lo) ∧ kr < lo ∧ w.heap.size ≤ lo ∧ hi ≤ wx.heap.size
section
variable {w wx wy : World} {p kb kr lo hi n g : Nat} {a : Bk} {m : Bm} {c : Option Addr × Nat × Nat} {l : List Int} {B : Option Addr}
theorem RtS.below (h : RtS w wx p kb kr lo hi a m c l) (hb : Below wx.heap.size wx wy) : RtS w wy p kb kr lo hi a m c l :=
 ⟨h.b.below hb, h.r.below hb, h.k.below hb, h.c.below hb, h.on.trans (Only.of_below hb), by have := h.far; have := hb.size; omega⟩
theorem RtS.alloc (h : RtS w wx p kb kr lo hi a m c l) (o : Obj) : RtS w (wx.alloc o) p kb kr lo hi a m c l := h.below ((Below.refl _ _).alloc (Nat.le_refl _) o)
theorem RtS.drew (h : RtS w wx p kb kr lo hi a m c l) : RtS w wx.drew p kb kr lo hi a m c l := h.below (Below.refl _ _).drew
theorem RtS.next (h : RtS w wx p kb kr lo hi a m (B, n, g) l) (hc : Code wy p B n g 0 p l) (ho : Only p (p + 1) wx wy) : RtS w wy p kb kr lo hi a m (B, n, g) l :=
 ⟨h.b.only ho (by have := h.far; omega), h.r.only ho (by have := h.far; omega), h.k.only ho (by have := h.far; omega), CodeK.mk_ hc, h.on.trans ho, by have := h.far; have := ho.size; omega⟩
theorem RtS.setN (h : RtS w wx p kb kr lo hi a m c l) {kn : Nat} (hn : kn ≠ kb ∧ kn ≠ kr ∧ (kn < lo ∨ hi ≤ kn) ∧ p < kn ∧ w.heap.size ≤ kn) (o : Nat) (u : Value) : RtS w (wx.setCell ⟨kn, o, none⟩ u) p kb kr lo hi a m c l :=
 ⟨h.b.setCell hn.1 u, h.r.setCell hn.2.1 u, h.k.setCell hn.2.2.1 u, h.c.setCell (.inr (Nat.succ_le_of_lt hn.2.2.2.1)) u, only_new h.on hn.2.2.2.2 u, by simpa [World.setCell] using h.far⟩
end
theorem brk_new {w : World} {width : Int} {k : Nat} (hw : inR width 1 32 = true) (h : NewBox w k (hds [headZero width])) : BrkK w k (k + 1) ⟨none, none, some ⟨k, 0, none⟩, none, none, 0, 0, 1, 0, 0⟩ ⟨width, [], [], [headZero width]⟩ :=
 ⟨BrkParts.new hw, Rd.nil, Rd.nil, fun _ => ⟨k, 0, rfl, Nat.le_refl _, Nat.lt_succ_self _, h.1, fun j u hj => by rw [Nat.zero_add]; exact (h.2.1 j).trans hj⟩, Rd.nil, Rd.nil, Nat.le_refl _, Nat.le_refl _, Nat.le_refl _, fun _ => rfl, fun _ => rfl, (fun e => by cases e), fun _ => rfl, fun _ => rfl⟩
set_option maxRecDepth 100000 in
set_option maxHeartbeats 4000000 in
theorem brokerNewT_c (width : Int) (w : World) (hw : inR width 1 32 = true) : Calls Try.prog 76 #[.int .i64 width] w fun e w' => ∃ k9, e = .returned (.tuple #[.agg #[.int .i64 width, .slice none 0 0, .slice none 0 0, .slice (some ⟨k9, 0, none⟩) 1 1, .int .i64 0, .slice none 0 0, .int .i64 0, .slice none 0 0, .int .i64 0, .int .i64 0, .string (emptyT width), .int .i64 0, .string (emptyT width)], .bool true]) ∧ (w.heap.size ≤ k9 ∧ NewBox w' k9 (hds [headZero width])) ∧ Below w.heap.size w w' := by
 have HE := Lib.hid (fun W => specSealNew_c width W)
 rw [hw] at HE
 have HH : Hid (hds [headZero width] = [.int .i64 0, .int .i64 0, .string (emptyT width), .int .i64 0, .string (emptyT width)]) := Lib.hid rfl
 clear hw
 generalize headZero width = hz at *
 generalize emptyT width = em at *
 have HB : Hid (Below w.heap.size w w) := Below.refl _ _
 go_enter Try.func76, Try.ntmps76
 go_wp2_with fail
 refine calls_named (fun w1 hw => ?_)
 have hz1 : w.heap.size + 1 ≤ w1.heap.size := by rw [hw]; first | omega | (simp [World.setCell]; done) | (simp [World.setCell]; omega)
 have hzz1 : w.heap.size ≤ w1.heap.size := by omega
 have hbn : Below w.heap.size w w1 := by rw [hw]; exact (by ((repeat (first | ((with_reducible refine Below.alloc ?_ ?_ _); rotate_left 1; (focus (first | omega | (simp; done) | (simp; omega)))) | (with_reducible refine Below.drew ?_) | ((with_reducible refine Below.setCell ?_ ?_ _); rotate_left 1; (focus (first | omega | (simp; done) | (simp; omega)))))); exact Below.refl _ _))
 replace HB := Lib.hid (below_then HB.out hbn HB.out.size)
 clear hbn
 have HXr : Hid (NewBox w1 (w.heap.size) [.int .i64 0, .slice none 0 0, .slice none 0 0, .slice none 0 0, .int .i64 0, .slice none 0 0, .int .i64 0, .slice none 0 0, .int .i64 0, .int .i64 0, .string ⟨#[]⟩, .int .i64 0, .string ⟨#[]⟩]) := by rw [Hid, hw]; exact ⟨by first | omega | (simp [World.setCell]; done) | (simp [World.setCell]; omega), fun o => by rcases o with _ | _ | _ | _ | _ | _ | _ | _ | _ | _ | _ | _ | _ | o <;> go_simp, fun o => by go_simp⟩
 have hxr := HXr.out.2.1
 have hfr := HXr.out.2.2
 have hkr := HXr.out.1
 clear hw
 refine (HE.out _).mono ?_
 rintro e w2 ⟨rfl, hb⟩
 have hzw2 : w1.heap.size ≤ w2.heap.size := hb.size
 have hzzw2 : w.heap.size ≤ w2.heap.size := by omega
 replace HB := Lib.hid (below_then HB.out hb HB.out.size)
 replace HXr := Lib.hid (HXr.out.below hb)
 clear hxr hfr hkr
 have hxr := HXr.out.2.1
 have hfr := HXr.out.2.2
 have hkr := HXr.out.1
 clear hb
 go_wp2
 refine bodyPost_named (fun w3 hw => ?_)
 have hz3 : w2.heap.size + 2 ≤ w3.heap.size := by rw [hw]; first | omega | (simp [World.setCell]; done) | (simp [World.setCell]; omega)
 have hzz3 : w.heap.size ≤ w3.heap.size := by omega
 replace HB : Hid (Below w.heap.size w w3) := by rw [Hid, hw]; exact (by ((repeat (first | ((with_reducible refine Below.alloc ?_ ?_ _); rotate_left 1; (focus (first | omega | (simp; done) | (simp; omega)))) | (with_reducible refine Below.drew ?_) | ((with_reducible refine Below.setCell ?_ ?_ _); rotate_left 1; (focus (first | omega | (simp; done) | (simp; omega)))))); exact HB.out))
 replace HXr : Hid (NewBox w3 (w.heap.size) [.int .i64 width, .slice none 0 0, .slice none 0 0, .slice (some ⟨w2.heap.size + 1, 0, none⟩) 1 1, .int .i64 0, .slice none 0 0, .int .i64 0, .slice none 0 0, .int .i64 0, .int .i64 0, .string em, .int .i64 0, .string em]) := by rw [Hid, hw]; apply NewBox.cast; (focus ((repeat (first | (with_reducible apply NewBox.alloc) | (with_reducible apply NewBox.drew) | (with_reducible apply NewBox.set1) | ((with_reducible apply NewBox.far); (focus (first | omega | (simp; done) | (simp; omega)))))); exact HXr.out)); rfl
 clear hxr hfr hkr
 have hxr := HXr.out.2.1
 have hfr := HXr.out.2.2
 have hkr := HXr.out.1
 have HXs : Hid (NewBox w3 (w2.heap.size) [.int .i64 0, .slice none 0 0, .int .i64 0, .slice none 0 0, .int .i64 0, .int .i64 0, .string em, .int .i64 0, .string em]) := by rw [Hid, hw]; exact ⟨by first | omega | (simp [World.setCell]; done) | (simp [World.setCell]; omega), fun o => by rcases o with _ | _ | _ | _ | _ | _ | _ | _ | _ | o <;> go_simp, fun o => by go_simp⟩
 have hxs := HXs.out.2.1
 have hfs := HXs.out.2.2
 have hks := HXs.out.1
 have HXg : Hid (NewBox w3 (w2.heap.size + 1) [.int .i64 0, .int .i64 0, .string em, .int .i64 0, .string em]) := by rw [Hid, hw]; exact ⟨by first | omega | (simp [World.setCell]; done) | (simp [World.setCell]; omega), fun o => by rcases o with _ | _ | _ | _ | _ | o <;> go_simp, fun o => by go_simp⟩
 have hxg := HXg.out.2.1
 have hfg := HXg.out.2.2
 have hkg := HXg.out.1
 clear hw
 refine bodyPost_ret (v := .tuple #[.agg #[.int .i64 width, .slice none 0 0, .slice none 0 0, .slice (some ⟨w2.heap.size + 1, 0, none⟩) 1 1, .int .i64 0, .slice none 0 0, .int .i64 0, .slice none 0 0, .int .i64 0, .int .i64 0, .string em, .int .i64 0, .string em], .bool true]) (by simp [results, Try.results76, go_sem, hxr]) rfl ?_
 exact ⟨(w2.heap.size + 1), rfl, ⟨by omega, by rw [HH.out]; exact HXg.out⟩, HB.out⟩
theorem pick_size {y : ByteArray} (h : y ∈ ([⟨#[97, 110, 110]⟩, ⟨#[98, 111, 98]⟩] : List ByteArray)) : y.size ≤ 20 := by
 simp only [List.mem_cons, List.not_mem_nil, or_false] at h
 rcases h with rfl | rfl <;> decide
theorem rcp_fits {s t : ByteArray} {i : Int} (h1 : s.size ≤ 20) (h2 : t.size ≤ 20) (h3 : 0 ≤ i) (h4 : i < 1000) : Rcp.fits ⟨s, t, i⟩ := ⟨⟨by show -9223372036854775808 ≤ i; omega, by show i ≤ 9223372036854775807; omega⟩, by show s.size ≤ maxLen; unfold maxLen; omega, by show t.size ≤ maxLen; unfold maxLen; omega⟩
set_option maxRecDepth 100000 in
set_option maxHeartbeats 4000000 in
theorem l12Right_c {w : World} {p n g : Nat} {B : Option Addr} {l : List Int} (h : Code w p B n g 0 p l) (hp : p < w.heap.size) (width : Int) (hw : inR width 1 32 = true) (d : Nat) (hd : d ≤ 24) :
  Calls Try.prog 44 #[.pointer (some ⟨p, 0, none⟩), .int .i64 width, .int .i64 d] w fun e w' => ∃ (a : Bk) (m : Bm), e = .returned (.agg #[.int .i64 m.width, .slice a.E m.es.length a.ce, .slice a.R m.rs.length a.cr, .slice a.H m.hs.length a.ch, .int .i64 (lastHd m.hs).size, .slice a.A1 (pk1 m.width m.es m.hs).length a.c1, .int .i64 (lastHd m.hs).taken, .slice a.A2 (pk2 m.width m.rs m.hs).length a.c2, .int .i64 (lastHd m.hs).num, .int .i64 (lastHd m.hs).size, .string (lastHd m.hs).root, .int .i64 (lastHd m.hs).taken, .string (lastHd m.hs).troot]) ∧ (BrkK w' w.heap.size w'.heap.size a m ∧ m.width = width ∧ m.es.length ≤ d) ∧ Code w' p B n g 0 p l ∧ Only p (p + 1) w w' := by
 have HBN := Lib.hid (fun W => brokerNewT_c width W hw)
 have HWD := Lib.hid hw
 have HB : Hid (Only (p) (p + 1) w w) := Only.refl _ _ _
 have HOC : Hid (CodeK w (0) (p + 1) ((B, n, g)) (l)) := Lib.hid (CodeK.mk_ h)
 clear h hw
 go_enter Try.func44, Try.ntmps44
 go_wp2_with fail
 refine calls_named (fun w1 hw => ?_)
 have hz1 : w.heap.size + 1 ≤ w1.heap.size := by rw [hw]; first | omega | (simp [World.setCell]; done) | (simp [World.setCell]; omega)
 have hzz1 : w.heap.size ≤ w1.heap.size := by omega
 have hbn : Below w.heap.size w w1 := by rw [hw]; exact (by ((repeat (first | ((with_reducible refine Below.alloc ?_ ?_ _); rotate_left 1; (focus (first | omega | (simp; done) | (simp; omega)))) | (with_reducible refine Below.drew ?_) | ((with_reducible refine Below.setCell ?_ ?_ _); rotate_left 1; (focus (first | omega | (simp; done) | (simp; omega)))))); exact Below.refl _ _))
 replace HB := Lib.hid (HB.out.trans (Only.of_below hbn))
 replace HOC := Lib.hid (HOC.out.below hbn)
 clear hbn
 have HXr : Hid (NewBox w1 (w.heap.size) [.int .i64 0, .slice none 0 0, .slice none 0 0, .slice none 0 0, .int .i64 0, .slice none 0 0, .int .i64 0, .slice none 0 0, .int .i64 0, .int .i64 0, .string ⟨#[]⟩, .int .i64 0, .string ⟨#[]⟩]) := by rw [Hid, hw]; exact ⟨by first | omega | (simp [World.setCell]; done) | (simp [World.setCell]; omega), fun o => by rcases o with _ | _ | _ | _ | _ | _ | _ | _ | _ | _ | _ | _ | _ | o <;> go_simp, fun o => by go_simp⟩
 have hxr := HXr.out.2.1
 have hfr := HXr.out.2.2
 have hkr := HXr.out.1
 clear hw
 refine (HBN.out _).mono ?_
 rintro e w2 ⟨k9, rfl, ⟨hk9, hz9⟩, hb⟩
 have hzw2 : w1.heap.size ≤ w2.heap.size := hb.size
 have hzzw2 : w.heap.size ≤ w2.heap.size := by omega
 replace HB := Lib.hid (HB.out.trans (Only.of_below hb))
 replace HOC := Lib.hid (HOC.out.below hb)
 replace HXr := Lib.hid (HXr.out.below hb)
 clear hxr hfr hkr
 have hxr := HXr.out.2.1
 have hfr := HXr.out.2.2
 have hkr := HXr.out.1
 clear hb
 have hk9b := hz9.1
 have HZ9 := Lib.hid hz9
 clear hz9 HBN
 go_wp2
 refine wp_named (fun wl hw => ?_)
 have H0 : Hid (RtS w wl p w2.heap.size (w.heap.size) k9 (k9 + 1) ⟨none, none, some ⟨k9, 0, none⟩, none, none, 0, 0, 1, 0, 0⟩ ⟨width, [], [], [headZero width]⟩ (B, n, g) l) := by
  rw [Hid, hw]
  exact ⟨NewBox.cast (NewBox.new _ _ _) rfl, HXr.out.alloc _, (brk_new HWD.out HZ9.out).alloc _, HOC.out.alloc _, HB.out.alloc _, by omega, by omega, by omega, by omega, by omega, Nat.le_refl _, .inl (by omega), by omega, by omega, by simp; omega⟩
 clear hw HXr hxr hfr hkr HB HOC HZ9 hk9b
 go_loopw [9, 10, 11] (fun i _ _ wx => ∃ (k : Nat) (a : Bk) (m : Bm) (lo hi : Nat), k ≤ d ∧ i = .int .i64 k ∧ RtS w wx p (w2.heap.size) (w.heap.size) lo hi a m (B, n, g) l ∧ (m.width = width ∧ m.es.length ≤ k)) (fun i _ _ _ => d - (intOf i).toNat)
 case atStart => exact ⟨0, _, _, _, _, Nat.zero_le _, rfl, H0.out, rfl, Nat.zero_le _⟩
 case round =>
  clear H0 hk9 HWD
  obtain ⟨k, a, m, lo, hi, hk, rfl, hrt, hmm⟩ := hrel
  have hf0 := hrt.far
  have hz0 := hrt.on.size
  have hkB := hrt.b.1
  have H0 := Lib.hid hrt
  have HMW := Lib.hid hmm
  clear hrt hmm
  by_cases hlt : k < d
  ·have hI : (k : Int) < d := by omega
   have hxb := H0.out.b.2.1
   have hfb := H0.out.b.2.2
   have hkb := H0.out.b.1
   go_wp2_with fail
   refine calls_named (fun wa hw => ?_)
   have hza : wr.heap.size < wa.heap.size := by rw [hw]; first | omega | (simp; done) | (simp; omega)
   have N1 : Hid (NewBox wa wr.heap.size [.int .i64 m.width, .slice a.E m.es.length a.ce, .slice a.R m.rs.length a.cr, .slice a.H m.hs.length a.ch, .int .i64 (lastHd m.hs).size, .slice a.A1 (pk1 m.width m.es m.hs).length a.c1, .int .i64 (lastHd m.hs).taken, .slice a.A2 (pk2 m.width m.rs m.hs).length a.c2, .int .i64 (lastHd m.hs).num, .int .i64 (lastHd m.hs).size, .string (lastHd m.hs).root, .int .i64 (lastHd m.hs).taken, .string (lastHd m.hs).troot]) := by rw [Hid, hw]; exact ⟨by first | omega | (simp; done) | (simp; omega), fun o => by rcases o with _ | _ | _ | _ | _ | _ | _ | _ | _ | _ | _ | _ | _ | o <;> go_simp, fun o => by go_simp⟩
   have H1 : Hid (RtS w wa p (w2.heap.size) (w.heap.size) lo hi a m (B, n, g) l) := by rw [Hid, hw]; (repeat (first | (with_reducible refine RtS.alloc ?_ _) | (with_reducible refine RtS.drew ?_))); exact H0.out
   clear hw H0 hxb hfb hkb
   refine (l01Below_c p n g 0 p B l 8 _ (CodeK.get H1.out.c) (by omega) (by omega)).mono ?_
   rintro e v2 ⟨x, rfl, x0, x1, hc2, ho2⟩
   have H2 := Lib.hid (H1.out.next hc2 ho2)
   have N2 := Lib.hid (N1.out.only ho2 (by omega))
   have hs2 : wa.heap.size ≤ v2.heap.size := ho2.size
   clear hc2 ho2 H1 N1
   rcases (show x = 0 ∨ x = 1 ∨ x = 2 ∨ x = 3 ∨ 4 ≤ x by omega) with rfl | rfl | rfl | rfl | h4
   ·skip
    have hxb := H2.out.b.2.1
    have hfb := H2.out.b.2.2
    have hkb := H2.out.b.1
    have hxn := N2.out.2.1
    have hfn := N2.out.2.2
    have hkn := N2.out.1
    go_wp2_with fail
    refine (l12Seal_c a m lo hi _ H2.out.k).mono ?_
    rintro e v3 ⟨a', m', L, q9, g9, code, rfl, hnx, hb⟩
    have H3 := Lib.hid (H2.out.below hb)
    have N3 := Lib.hid (N2.out.below hb)
    have HK := Lib.hid hnx
    have hs3 := hb.size
    clear hnx hb H2 N2
    clear hxb hfb hkb
    clear hxn hfn hkn
    have hxb := H3.out.b.2.1
    have hfb := H3.out.b.2.2
    have hkb := H3.out.b.1
    have hxn := N3.out.2.1
    have hfn := N3.out.2.2
    have hkn := N3.out.1
    have hkf : wr.heap.size ≠ w2.heap.size ∧ wr.heap.size ≠ w.heap.size ∧ (wr.heap.size < lo ∨ hi ≤ wr.heap.size) ∧ p < wr.heap.size ∧ w.heap.size ≤ wr.heap.size := by have := H3.out.far; omega
    have hkl : wr.heap.size < v2.heap.size ∨ v3.heap.size ≤ wr.heap.size := by omega
    go_upto_region 17 with fail
    refine wp_named (fun wb hw => ?_)
    have hzb : v3.heap.size ≤ wb.heap.size := by rw [hw]; first | omega | (simp [World.setCell]; done) | (simp [World.setCell]; omega)
    have H90 : Hid (RtS w wb p (w2.heap.size) (w.heap.size) lo hi a m (B, n, g) l) := by rw [Hid, hw]; (repeat (first | (with_reducible refine RtS.alloc ?_ _) | (with_reducible refine RtS.drew ?_) | (with_reducible refine RtS.setN ?_ hkf _ _))); exact H3.out
    have N90 : Hid (NewBox wb wr.heap.size [.int .i64 m'.width, .slice a'.E m'.es.length a'.ce, .slice a'.R m'.rs.length a'.cr, .slice a'.H m'.hs.length a'.ch, .int .i64 (lastHd m'.hs).size, .slice a'.A1 (pk1 m'.width m'.es m'.hs).length a'.c1, .int .i64 (lastHd m'.hs).taken, .slice a'.A2 (pk2 m'.width m'.rs m'.hs).length a'.c2, .int .i64 (lastHd m'.hs).num, .int .i64 (lastHd m'.hs).size, .string (lastHd m'.hs).root, .int .i64 (lastHd m'.hs).taken, .string (lastHd m'.hs).troot]) := by rw [Hid, hw]; apply NewBox.cast; (focus ((repeat (first | (with_reducible apply NewBox.alloc) | (with_reducible apply NewBox.drew) | (with_reducible apply NewBox.set1))); exact N3.out)); rfl
    have K90 : Hid (code = 0 → BrkK wb v2.heap.size v3.heap.size a' m' ∧ m'.width = m.width ∧ m'.es.length ≤ m.es.length + 1) := by
     rw [Hid, hw]; intro hc0; obtain ⟨q1, q2, q3⟩ := HK.out hc0; refine ⟨?_, q2, q3⟩
     (repeat (first | (with_reducible refine BrkK.alloc ?_ _) | (with_reducible refine BrkK.drew ?_) | (with_reducible refine BrkK.setBlk ?_ hkl _ _))); exact q1
    clear hw HK H3 N3
    clear hxb hfb hkb
    clear hxn hfn hkn
    by_cases hc : code = 0
    ·subst hc
     obtain ⟨hbk, hmw2, hml2⟩ := K90.out rfl
     have HBK := Lib.hid hbk
     have HMW2 := Lib.hid hmw2
     clear hbk K90 hmw2
     have hxb := H90.out.b.2.1
     have hfb := H90.out.b.2.2
     have hkb := H90.out.b.1
     have hxn := N90.out.2.1
     have hfn := N90.out.2.2
     have hkn := N90.out.1
     have hf9 := H90.out.far
     have hz9 : v3.heap.size ≤ wb.heap.size := by omega
     go_wp2
     go_roundw
     case rel =>
      refine ⟨k + 1, a', m', v2.heap.size, v3.heap.size, by omega, by go_num, ⟨?_, ?_, ?_, ?_, ?_, by first | omega | (simp [World.setCell]; omega)⟩, by rw [HMW2.out]; exact HMW.out.1, by have := HMW.out.2; omega⟩
      ·apply NewBox.cast; (focus ((repeat (first | (with_reducible apply NewBox.alloc) | (with_reducible apply NewBox.drew) | (with_reducible apply NewBox.set1))); exact H90.out.b)); rfl
      ·have hne : w2.heap.size ≠ w.heap.size := by omega
       (repeat (first | (with_reducible refine NewBox.drew ?_) | (with_reducible refine NewBox.far hne _ ?_))); exact H90.out.r
      ·have hkb9 : w2.heap.size < v2.heap.size ∨ v3.heap.size ≤ w2.heap.size := by omega
       (repeat (first | (with_reducible refine BrkK.drew ?_) | (with_reducible refine BrkK.setBlk ?_ hkb9 _ _))); exact HBK.out
      ·have hkc9 : w2.heap.size < 0 ∨ p + 1 ≤ w2.heap.size := by omega
       (repeat (first | (with_reducible refine CodeK.drew ?_) | (with_reducible refine CodeK.setBlkR ?_ hkc9 _ _))); exact H90.out.c
      ·have hko9 : w.heap.size ≤ w2.heap.size := by omega
       (repeat (first | (with_reducible refine only_drew ?_) | (with_reducible refine only_new ?_ hko9 _))); exact H90.out.on
     case measure => simp [intOf]; omega
    ·have hc2 : (code == 0) = false := beq_eq_false_iff_ne.2 hc
     clear hc K90
     go_wp2
     go_roundw
     case rel => exact ⟨k + 1, a, m, lo, hi, by omega, by go_num, H90.out, HMW.out.1, by have := HMW.out.2; omega⟩
     case measure => simp [intOf]; omega
   ·skip
    have hxb := H2.out.b.2.1
    have hfb := H2.out.b.2.2
    have hkb := H2.out.b.1
    have hxn := N2.out.2.1
    have hfn := N2.out.2.2
    have hkn := N2.out.1
    go_wp2_with fail
    refine (l12Seal_c a m lo hi _ H2.out.k).mono ?_
    rintro e v3 ⟨a', m', L, q9, g9, code, rfl, hnx, hb⟩
    have H3 := Lib.hid (H2.out.below hb)
    have N3 := Lib.hid (N2.out.below hb)
    have HK := Lib.hid hnx
    have hs3 := hb.size
    clear hnx hb H2 N2
    clear hxb hfb hkb
    clear hxn hfn hkn
    have hxb := H3.out.b.2.1
    have hfb := H3.out.b.2.2
    have hkb := H3.out.b.1
    have hxn := N3.out.2.1
    have hfn := N3.out.2.2
    have hkn := N3.out.1
    have hkf : wr.heap.size ≠ w2.heap.size ∧ wr.heap.size ≠ w.heap.size ∧ (wr.heap.size < lo ∨ hi ≤ wr.heap.size) ∧ p < wr.heap.size ∧ w.heap.size ≤ wr.heap.size := by have := H3.out.far; omega
    have hkl : wr.heap.size < v2.heap.size ∨ v3.heap.size ≤ wr.heap.size := by omega
    go_upto_region 17 with fail
    refine wp_named (fun wb hw => ?_)
    have hzb : v3.heap.size ≤ wb.heap.size := by rw [hw]; first | omega | (simp [World.setCell]; done) | (simp [World.setCell]; omega)
    have H90 : Hid (RtS w wb p (w2.heap.size) (w.heap.size) lo hi a m (B, n, g) l) := by rw [Hid, hw]; (repeat (first | (with_reducible refine RtS.alloc ?_ _) | (with_reducible refine RtS.drew ?_) | (with_reducible refine RtS.setN ?_ hkf _ _))); exact H3.out
    have N90 : Hid (NewBox wb wr.heap.size [.int .i64 m'.width, .slice a'.E m'.es.length a'.ce, .slice a'.R m'.rs.length a'.cr, .slice a'.H m'.hs.length a'.ch, .int .i64 (lastHd m'.hs).size, .slice a'.A1 (pk1 m'.width m'.es m'.hs).length a'.c1, .int .i64 (lastHd m'.hs).taken, .slice a'.A2 (pk2 m'.width m'.rs m'.hs).length a'.c2, .int .i64 (lastHd m'.hs).num, .int .i64 (lastHd m'.hs).size, .string (lastHd m'.hs).root, .int .i64 (lastHd m'.hs).taken, .string (lastHd m'.hs).troot]) := by rw [Hid, hw]; apply NewBox.cast; (focus ((repeat (first | (with_reducible apply NewBox.alloc) | (with_reducible apply NewBox.drew) | (with_reducible apply NewBox.set1))); exact N3.out)); rfl
    have K90 : Hid (code = 0 → BrkK wb v2.heap.size v3.heap.size a' m' ∧ m'.width = m.width ∧ m'.es.length ≤ m.es.length + 1) := by
     rw [Hid, hw]; intro hc0; obtain ⟨q1, q2, q3⟩ := HK.out hc0; refine ⟨?_, q2, q3⟩
     (repeat (first | (with_reducible refine BrkK.alloc ?_ _) | (with_reducible refine BrkK.drew ?_) | (with_reducible refine BrkK.setBlk ?_ hkl _ _))); exact q1
    clear hw HK H3 N3
    clear hxb hfb hkb
    clear hxn hfn hkn
    by_cases hc : code = 0
    ·subst hc
     obtain ⟨hbk, hmw2, hml2⟩ := K90.out rfl
     have HBK := Lib.hid hbk
     have HMW2 := Lib.hid hmw2
     clear hbk K90 hmw2
     have hxb := H90.out.b.2.1
     have hfb := H90.out.b.2.2
     have hkb := H90.out.b.1
     have hxn := N90.out.2.1
     have hfn := N90.out.2.2
     have hkn := N90.out.1
     have hf9 := H90.out.far
     have hz9 : v3.heap.size ≤ wb.heap.size := by omega
     go_wp2
     go_roundw
     case rel =>
      refine ⟨k + 1, a', m', v2.heap.size, v3.heap.size, by omega, by go_num, ⟨?_, ?_, ?_, ?_, ?_, by first | omega | (simp [World.setCell]; omega)⟩, by rw [HMW2.out]; exact HMW.out.1, by have := HMW.out.2; omega⟩
      ·apply NewBox.cast; (focus ((repeat (first | (with_reducible apply NewBox.alloc) | (with_reducible apply NewBox.drew) | (with_reducible apply NewBox.set1))); exact H90.out.b)); rfl
      ·have hne : w2.heap.size ≠ w.heap.size := by omega
       (repeat (first | (with_reducible refine NewBox.drew ?_) | (with_reducible refine NewBox.far hne _ ?_))); exact H90.out.r
      ·have hkb9 : w2.heap.size < v2.heap.size ∨ v3.heap.size ≤ w2.heap.size := by omega
       (repeat (first | (with_reducible refine BrkK.drew ?_) | (with_reducible refine BrkK.setBlk ?_ hkb9 _ _))); exact HBK.out
      ·have hkc9 : w2.heap.size < 0 ∨ p + 1 ≤ w2.heap.size := by omega
       (repeat (first | (with_reducible refine CodeK.drew ?_) | (with_reducible refine CodeK.setBlkR ?_ hkc9 _ _))); exact H90.out.c
      ·have hko9 : w.heap.size ≤ w2.heap.size := by omega
       (repeat (first | (with_reducible refine only_drew ?_) | (with_reducible refine only_new ?_ hko9 _))); exact H90.out.on
     case measure => simp [intOf]; omega
    ·have hc2 : (code == 0) = false := beq_eq_false_iff_ne.2 hc
     clear hc K90
     go_wp2
     go_roundw
     case rel => exact ⟨k + 1, a, m, lo, hi, by omega, by go_num, H90.out, HMW.out.1, by have := HMW.out.2; omega⟩
     case measure => simp [intOf]; omega
   ·skip
    have hf2 := H2.out.far
    have hkf : wr.heap.size ≠ w2.heap.size ∧ wr.heap.size ≠ w.heap.size ∧ (wr.heap.size < lo ∨ hi ≤ wr.heap.size) ∧ p < wr.heap.size ∧ w.heap.size ≤ wr.heap.size := by omega
    have hxb := H2.out.b.2.1
    have hfb := H2.out.b.2.2
    have hkb := H2.out.b.1
    have hxn := N2.out.2.1
    have hfn := N2.out.2.2
    have hkn := N2.out.1
    go_wp2_with fail
    go_region_held3 (fun w' => ∀ o, w'.cell? ⟨w2.heap.size, o, none⟩ = [.int .i64 m.width, .slice a.E m.es.length a.ce, .slice a.R m.rs.length a.cr, .slice a.H m.hs.length a.ch, .int .i64 (lastHd m.hs).size, .slice a.A1 (pk1 m.width m.es m.hs).length a.c1, .int .i64 (lastHd m.hs).taken, .slice a.A2 (pk2 m.width m.rs m.hs).length a.c2, .int .i64 (lastHd m.hs).num, .int .i64 (lastHd m.hs).size, .string (lastHd m.hs).root, .int .i64 (lastHd m.hs).taken, .string (lastHd m.hs).troot][o]?) (first | exact (by (repeat (first | (with_reducible refine RtS.alloc ?_ _) | (with_reducible refine RtS.drew ?_) | (with_reducible refine RtS.setN ?_ hkf _ _))); exact H6.out : RtS w _ p (w2.heap.size) (w.heap.size) lo hi a m (B, n, g) l).b.2.1 | exact (by (repeat (first | (with_reducible refine RtS.alloc ?_ _) | (with_reducible refine RtS.drew ?_) | (with_reducible refine RtS.setN ?_ hkf _ _))); exact H5.out : RtS w _ p (w2.heap.size) (w.heap.size) lo hi a m (B, n, g) l).b.2.1 | exact (by (repeat (first | (with_reducible refine RtS.alloc ?_ _) | (with_reducible refine RtS.drew ?_) | (with_reducible refine RtS.setN ?_ hkf _ _))); exact H4.out : RtS w _ p (w2.heap.size) (w.heap.size) lo hi a m (B, n, g) l).b.2.1 | exact (by (repeat (first | (with_reducible refine RtS.alloc ?_ _) | (with_reducible refine RtS.drew ?_) | (with_reducible refine RtS.setN ?_ hkf _ _))); exact H3.out : RtS w _ p (w2.heap.size) (w.heap.size) lo hi a m (B, n, g) l).b.2.1 | exact (by (repeat (first | (with_reducible refine RtS.alloc ?_ _) | (with_reducible refine RtS.drew ?_) | (with_reducible refine RtS.setN ?_ hkf _ _))); exact H2.out : RtS w _ p (w2.heap.size) (w.heap.size) lo hi a m (B, n, g) l).b.2.1) (first | ((go_at_call 46; refine (l01Pick_c (CodeK.get (RtS.c (by (repeat (first | (with_reducible refine RtS.alloc ?_ _) | (with_reducible refine RtS.drew ?_))); exact H2.out : RtS w _ p (w2.heap.size) (w.heap.size) lo hi a m (B, n, g) l))) _ 2 2 _ _ [⟨#[97, 110, 110]⟩, ⟨#[98, 111, 98]⟩] (rd_strs (by first | exact NewBox.new _ #[.string ⟨#[97, 110, 110]⟩, .string ⟨#[98, 111, 98]⟩] _ | (refine NewBox.drew ?_; exact NewBox.new _ #[.string ⟨#[97, 110, 110]⟩, .string ⟨#[98, 111, 98]⟩] _)) rfl) rfl (by omega) (by omega) (by first | omega | (simp; omega))).mono ?_; rintro e v3 ⟨y3, rfl, hy3, hc3, ho3⟩; have H3 := Lib.hid (RtS.next (by (repeat (first | (with_reducible refine RtS.alloc ?_ _) | (with_reducible refine RtS.drew ?_))); exact H2.out : RtS w _ p (w2.heap.size) (w.heap.size) lo hi a m (B, n, g) l) hc3 ho3); have N3 := Lib.hid (NewBox.only (by (repeat (first | (with_reducible refine NewBox.alloc ?_ _) | (with_reducible refine NewBox.drew ?_))); exact N2.out : NewBox _ wr.heap.size [.int .i64 m.width, .slice a.E m.es.length a.ce, .slice a.R m.rs.length a.cr, .slice a.H m.hs.length a.ch, .int .i64 (lastHd m.hs).size, .slice a.A1 (pk1 m.width m.es m.hs).length a.c1, .int .i64 (lastHd m.hs).taken, .slice a.A2 (pk2 m.width m.rs m.hs).length a.c2, .int .i64 (lastHd m.hs).num, .int .i64 (lastHd m.hs).size, .string (lastHd m.hs).root, .int .i64 (lastHd m.hs).taken, .string (lastHd m.hs).troot]) ho3 (by first | omega | (simp; omega))); have hs3 : v2.heap.size ≤ v3.heap.size := Nat.le_trans (by first | exact Nat.le_refl _ | (simp; done) | (simp; omega)) ho3.size; have HY3 : Hid (y3.size ≤ 20) := Lib.hid (pick_size hy3); clear hy3; clear hc3 ho3)) | ((go_at_call 45; refine (l09Topic_c (CodeK.get (RtS.c (by (repeat (first | (with_reducible refine RtS.alloc ?_ _) | (with_reducible refine RtS.drew ?_))); exact H3.out : RtS w _ p (w2.heap.size) (w.heap.size) lo hi a m (B, n, g) l))) (by first | omega | (simp; omega))).mono ?_; rintro e v4 ⟨y4, rfl, hy4, hc4, ho4⟩; have H4 := Lib.hid (RtS.next (by (repeat (first | (with_reducible refine RtS.alloc ?_ _) | (with_reducible refine RtS.drew ?_))); exact H3.out : RtS w _ p (w2.heap.size) (w.heap.size) lo hi a m (B, n, g) l) hc4 ho4); have N4 := Lib.hid (NewBox.only (by (repeat (first | (with_reducible refine NewBox.alloc ?_ _) | (with_reducible refine NewBox.drew ?_))); exact N3.out : NewBox _ wr.heap.size [.int .i64 m.width, .slice a.E m.es.length a.ce, .slice a.R m.rs.length a.cr, .slice a.H m.hs.length a.ch, .int .i64 (lastHd m.hs).size, .slice a.A1 (pk1 m.width m.es m.hs).length a.c1, .int .i64 (lastHd m.hs).taken, .slice a.A2 (pk2 m.width m.rs m.hs).length a.c2, .int .i64 (lastHd m.hs).num, .int .i64 (lastHd m.hs).size, .string (lastHd m.hs).root, .int .i64 (lastHd m.hs).taken, .string (lastHd m.hs).troot]) ho4 (by first | omega | (simp; omega))); have hs4 : v3.heap.size ≤ v4.heap.size := Nat.le_trans (by first | exact Nat.le_refl _ | (simp; done) | (simp; omega)) ho4.size; have HY4 : Hid (y4.size ≤ 20) := Lib.hid (nameOk_size hy4); clear hy4; clear hc4 ho4)) | ((go_at_call 34; refine (l01Below_c p n g 0 p B l 3 _ (CodeK.get (RtS.c (by (repeat (first | (with_reducible refine RtS.alloc ?_ _) | (with_reducible refine RtS.drew ?_))); exact H4.out : RtS w _ p (w2.heap.size) (w.heap.size) lo hi a m (B, n, g) l))) (by omega) (by omega)).mono ?_; rintro e v5 ⟨y5, rfl, y50, y51, hc5, ho5⟩; have H5 := Lib.hid (RtS.next (by (repeat (first | (with_reducible refine RtS.alloc ?_ _) | (with_reducible refine RtS.drew ?_))); exact H4.out : RtS w _ p (w2.heap.size) (w.heap.size) lo hi a m (B, n, g) l) hc5 ho5); have N5 := Lib.hid (NewBox.only (by (repeat (first | (with_reducible refine NewBox.alloc ?_ _) | (with_reducible refine NewBox.drew ?_))); exact N4.out : NewBox _ wr.heap.size [.int .i64 m.width, .slice a.E m.es.length a.ce, .slice a.R m.rs.length a.cr, .slice a.H m.hs.length a.ch, .int .i64 (lastHd m.hs).size, .slice a.A1 (pk1 m.width m.es m.hs).length a.c1, .int .i64 (lastHd m.hs).taken, .slice a.A2 (pk2 m.width m.rs m.hs).length a.c2, .int .i64 (lastHd m.hs).num, .int .i64 (lastHd m.hs).size, .string (lastHd m.hs).root, .int .i64 (lastHd m.hs).taken, .string (lastHd m.hs).troot]) ho5 (by first | omega | (simp; omega))); have hs5 : v4.heap.size ≤ v5.heap.size := Nat.le_trans (by first | exact Nat.le_refl _ | (simp; done) | (simp; omega)) ho5.size; clear hc5 ho5)) | ((go_at_call 78; refine (l12Receipt_c a m lo hi ⟨y3, y4, y5⟩ _ (RtS.k (by (repeat (first | (with_reducible refine RtS.alloc ?_ _) | (with_reducible refine RtS.drew ?_))); exact H5.out : RtS w _ p (w2.heap.size) (w.heap.size) lo hi a m (B, n, g) l)) (rcp_fits HY3.out HY4.out (by omega) (by omega))).mono ?_; rintro e v6 ⟨a', m', L, q9, g9, code, rfl, hnx, hb⟩; have H6 := Lib.hid (RtS.below (by (repeat (first | (with_reducible refine RtS.alloc ?_ _) | (with_reducible refine RtS.drew ?_))); exact H5.out : RtS w _ p (w2.heap.size) (w.heap.size) lo hi a m (B, n, g) l) hb); have N6 := Lib.hid (NewBox.below (by (repeat (first | (with_reducible refine NewBox.alloc ?_ _) | (with_reducible refine NewBox.drew ?_))); exact N5.out : NewBox _ wr.heap.size [.int .i64 m.width, .slice a.E m.es.length a.ce, .slice a.R m.rs.length a.cr, .slice a.H m.hs.length a.ch, .int .i64 (lastHd m.hs).size, .slice a.A1 (pk1 m.width m.es m.hs).length a.c1, .int .i64 (lastHd m.hs).taken, .slice a.A2 (pk2 m.width m.rs m.hs).length a.c2, .int .i64 (lastHd m.hs).num, .int .i64 (lastHd m.hs).size, .string (lastHd m.hs).root, .int .i64 (lastHd m.hs).taken, .string (lastHd m.hs).troot]) hb); have HK := Lib.hid hnx; have hs6 := hb.size; have hyx := N6.out.2.1; have hyf := N6.out.2.2; have hyk := N6.out.1; clear hnx hb)))
    clear hyx hyf hyk hkf hf2
    have hkf : wr.heap.size ≠ w2.heap.size ∧ wr.heap.size ≠ w.heap.size ∧ (wr.heap.size < lo ∨ hi ≤ wr.heap.size) ∧ p < wr.heap.size ∧ w.heap.size ≤ wr.heap.size := by have := H6.out.far; omega
    have hkl : wr.heap.size < v5.heap.size ∨ v6.heap.size ≤ wr.heap.size := by omega
    go_upto_region 17 with fail
    refine wp_named (fun wb hw => ?_)
    have hzb : v6.heap.size ≤ wb.heap.size := by rw [hw]; first | omega | (simp [World.setCell]; done) | (simp [World.setCell]; omega)
    have H90 : Hid (RtS w wb p (w2.heap.size) (w.heap.size) lo hi a m (B, n, g) l) := by rw [Hid, hw]; (repeat (first | (with_reducible refine RtS.alloc ?_ _) | (with_reducible refine RtS.drew ?_) | (with_reducible refine RtS.setN ?_ hkf _ _))); exact H6.out
    have N90 : Hid (NewBox wb wr.heap.size [.int .i64 m'.width, .slice a'.E m'.es.length a'.ce, .slice a'.R m'.rs.length a'.cr, .slice a'.H m'.hs.length a'.ch, .int .i64 (lastHd m'.hs).size, .slice a'.A1 (pk1 m'.width m'.es m'.hs).length a'.c1, .int .i64 (lastHd m'.hs).taken, .slice a'.A2 (pk2 m'.width m'.rs m'.hs).length a'.c2, .int .i64 (lastHd m'.hs).num, .int .i64 (lastHd m'.hs).size, .string (lastHd m'.hs).root, .int .i64 (lastHd m'.hs).taken, .string (lastHd m'.hs).troot]) := by rw [Hid, hw]; apply NewBox.cast; (focus ((repeat (first | (with_reducible apply NewBox.alloc) | (with_reducible apply NewBox.drew) | (with_reducible apply NewBox.set1))); exact N6.out)); rfl
    have K90 : Hid (code = 0 → BrkK wb v5.heap.size v6.heap.size a' m' ∧ m'.width = m.width ∧ m'.es.length ≤ m.es.length + 1) := by
     rw [Hid, hw]; intro hc0; obtain ⟨q1, q2, q3⟩ := HK.out hc0; refine ⟨?_, q2, q3⟩
     (repeat (first | (with_reducible refine BrkK.alloc ?_ _) | (with_reducible refine BrkK.drew ?_) | (with_reducible refine BrkK.setBlk ?_ hkl _ _))); exact q1
    clear hw HK H6 N6
    clear hxb hfb hkb
    clear hxn hfn hkn
    by_cases hc : code = 0
    ·subst hc
     obtain ⟨hbk, hmw2, hml2⟩ := K90.out rfl
     have HBK := Lib.hid hbk
     have HMW2 := Lib.hid hmw2
     clear hbk K90 hmw2
     have hxb := H90.out.b.2.1
     have hfb := H90.out.b.2.2
     have hkb := H90.out.b.1
     have hxn := N90.out.2.1
     have hfn := N90.out.2.2
     have hkn := N90.out.1
     have hf9 := H90.out.far
     have hz9 : v6.heap.size ≤ wb.heap.size := by omega
     go_wp2
     go_roundw
     case rel =>
      refine ⟨k + 1, a', m', v5.heap.size, v6.heap.size, by omega, by go_num, ⟨?_, ?_, ?_, ?_, ?_, by first | omega | (simp [World.setCell]; omega)⟩, by rw [HMW2.out]; exact HMW.out.1, by have := HMW.out.2; omega⟩
      ·apply NewBox.cast; (focus ((repeat (first | (with_reducible apply NewBox.alloc) | (with_reducible apply NewBox.drew) | (with_reducible apply NewBox.set1))); exact H90.out.b)); rfl
      ·have hne : w2.heap.size ≠ w.heap.size := by omega
       (repeat (first | (with_reducible refine NewBox.drew ?_) | (with_reducible refine NewBox.far hne _ ?_))); exact H90.out.r
      ·have hkb9 : w2.heap.size < v5.heap.size ∨ v6.heap.size ≤ w2.heap.size := by omega
       (repeat (first | (with_reducible refine BrkK.drew ?_) | (with_reducible refine BrkK.setBlk ?_ hkb9 _ _))); exact HBK.out
      ·have hkc9 : w2.heap.size < 0 ∨ p + 1 ≤ w2.heap.size := by omega
       (repeat (first | (with_reducible refine CodeK.drew ?_) | (with_reducible refine CodeK.setBlkR ?_ hkc9 _ _))); exact H90.out.c
      ·have hko9 : w.heap.size ≤ w2.heap.size := by omega
       (repeat (first | (with_reducible refine only_drew ?_) | (with_reducible refine only_new ?_ hko9 _))); exact H90.out.on
     case measure => simp [intOf]; omega
    ·have hc2 : (code == 0) = false := beq_eq_false_iff_ne.2 hc
     clear hc K90
     go_wp2
     go_roundw
     case rel => exact ⟨k + 1, a, m, lo, hi, by omega, by go_num, H90.out, HMW.out.1, by have := HMW.out.2; omega⟩
     case measure => simp [intOf]; omega
   ·skip
    have hf2 := H2.out.far
    have hkf : wr.heap.size ≠ w2.heap.size ∧ wr.heap.size ≠ w.heap.size ∧ (wr.heap.size < lo ∨ hi ≤ wr.heap.size) ∧ p < wr.heap.size ∧ w.heap.size ≤ wr.heap.size := by omega
    have hxb := H2.out.b.2.1
    have hfb := H2.out.b.2.2
    have hkb := H2.out.b.1
    have hxn := N2.out.2.1
    have hfn := N2.out.2.2
    have hkn := N2.out.1
    go_wp2_with fail
    go_region_held3 (fun w' => ∀ o, w'.cell? ⟨w2.heap.size, o, none⟩ = [.int .i64 m.width, .slice a.E m.es.length a.ce, .slice a.R m.rs.length a.cr, .slice a.H m.hs.length a.ch, .int .i64 (lastHd m.hs).size, .slice a.A1 (pk1 m.width m.es m.hs).length a.c1, .int .i64 (lastHd m.hs).taken, .slice a.A2 (pk2 m.width m.rs m.hs).length a.c2, .int .i64 (lastHd m.hs).num, .int .i64 (lastHd m.hs).size, .string (lastHd m.hs).root, .int .i64 (lastHd m.hs).taken, .string (lastHd m.hs).troot][o]?) (first | exact (by (repeat (first | (with_reducible refine RtS.alloc ?_ _) | (with_reducible refine RtS.drew ?_) | (with_reducible refine RtS.setN ?_ hkf _ _))); exact H6.out : RtS w _ p (w2.heap.size) (w.heap.size) lo hi a m (B, n, g) l).b.2.1 | exact (by (repeat (first | (with_reducible refine RtS.alloc ?_ _) | (with_reducible refine RtS.drew ?_) | (with_reducible refine RtS.setN ?_ hkf _ _))); exact H5.out : RtS w _ p (w2.heap.size) (w.heap.size) lo hi a m (B, n, g) l).b.2.1 | exact (by (repeat (first | (with_reducible refine RtS.alloc ?_ _) | (with_reducible refine RtS.drew ?_) | (with_reducible refine RtS.setN ?_ hkf _ _))); exact H4.out : RtS w _ p (w2.heap.size) (w.heap.size) lo hi a m (B, n, g) l).b.2.1 | exact (by (repeat (first | (with_reducible refine RtS.alloc ?_ _) | (with_reducible refine RtS.drew ?_) | (with_reducible refine RtS.setN ?_ hkf _ _))); exact H3.out : RtS w _ p (w2.heap.size) (w.heap.size) lo hi a m (B, n, g) l).b.2.1 | exact (by (repeat (first | (with_reducible refine RtS.alloc ?_ _) | (with_reducible refine RtS.drew ?_) | (with_reducible refine RtS.setN ?_ hkf _ _))); exact H2.out : RtS w _ p (w2.heap.size) (w.heap.size) lo hi a m (B, n, g) l).b.2.1) (first | ((go_at_call 46; refine (l01Pick_c (CodeK.get (RtS.c (by (repeat (first | (with_reducible refine RtS.alloc ?_ _) | (with_reducible refine RtS.drew ?_))); exact H2.out : RtS w _ p (w2.heap.size) (w.heap.size) lo hi a m (B, n, g) l))) _ 2 2 _ _ [⟨#[97, 110, 110]⟩, ⟨#[98, 111, 98]⟩] (rd_strs (by first | exact NewBox.new _ #[.string ⟨#[97, 110, 110]⟩, .string ⟨#[98, 111, 98]⟩] _ | (refine NewBox.drew ?_; exact NewBox.new _ #[.string ⟨#[97, 110, 110]⟩, .string ⟨#[98, 111, 98]⟩] _)) rfl) rfl (by omega) (by omega) (by first | omega | (simp; omega))).mono ?_; rintro e v3 ⟨y3, rfl, hy3, hc3, ho3⟩; have H3 := Lib.hid (RtS.next (by (repeat (first | (with_reducible refine RtS.alloc ?_ _) | (with_reducible refine RtS.drew ?_))); exact H2.out : RtS w _ p (w2.heap.size) (w.heap.size) lo hi a m (B, n, g) l) hc3 ho3); have N3 := Lib.hid (NewBox.only (by (repeat (first | (with_reducible refine NewBox.alloc ?_ _) | (with_reducible refine NewBox.drew ?_))); exact N2.out : NewBox _ wr.heap.size [.int .i64 m.width, .slice a.E m.es.length a.ce, .slice a.R m.rs.length a.cr, .slice a.H m.hs.length a.ch, .int .i64 (lastHd m.hs).size, .slice a.A1 (pk1 m.width m.es m.hs).length a.c1, .int .i64 (lastHd m.hs).taken, .slice a.A2 (pk2 m.width m.rs m.hs).length a.c2, .int .i64 (lastHd m.hs).num, .int .i64 (lastHd m.hs).size, .string (lastHd m.hs).root, .int .i64 (lastHd m.hs).taken, .string (lastHd m.hs).troot]) ho3 (by first | omega | (simp; omega))); have hs3 : v2.heap.size ≤ v3.heap.size := Nat.le_trans (by first | exact Nat.le_refl _ | (simp; done) | (simp; omega)) ho3.size; have HY3 : Hid (y3.size ≤ 20) := Lib.hid (pick_size hy3); clear hy3; clear hc3 ho3)) | ((go_at_call 45; refine (l09Topic_c (CodeK.get (RtS.c (by (repeat (first | (with_reducible refine RtS.alloc ?_ _) | (with_reducible refine RtS.drew ?_))); exact H3.out : RtS w _ p (w2.heap.size) (w.heap.size) lo hi a m (B, n, g) l))) (by first | omega | (simp; omega))).mono ?_; rintro e v4 ⟨y4, rfl, hy4, hc4, ho4⟩; have H4 := Lib.hid (RtS.next (by (repeat (first | (with_reducible refine RtS.alloc ?_ _) | (with_reducible refine RtS.drew ?_))); exact H3.out : RtS w _ p (w2.heap.size) (w.heap.size) lo hi a m (B, n, g) l) hc4 ho4); have N4 := Lib.hid (NewBox.only (by (repeat (first | (with_reducible refine NewBox.alloc ?_ _) | (with_reducible refine NewBox.drew ?_))); exact N3.out : NewBox _ wr.heap.size [.int .i64 m.width, .slice a.E m.es.length a.ce, .slice a.R m.rs.length a.cr, .slice a.H m.hs.length a.ch, .int .i64 (lastHd m.hs).size, .slice a.A1 (pk1 m.width m.es m.hs).length a.c1, .int .i64 (lastHd m.hs).taken, .slice a.A2 (pk2 m.width m.rs m.hs).length a.c2, .int .i64 (lastHd m.hs).num, .int .i64 (lastHd m.hs).size, .string (lastHd m.hs).root, .int .i64 (lastHd m.hs).taken, .string (lastHd m.hs).troot]) ho4 (by first | omega | (simp; omega))); have hs4 : v3.heap.size ≤ v4.heap.size := Nat.le_trans (by first | exact Nat.le_refl _ | (simp; done) | (simp; omega)) ho4.size; have HY4 : Hid (y4.size ≤ 20) := Lib.hid (nameOk_size hy4); clear hy4; clear hc4 ho4)) | ((go_at_call 34; refine (l01Below_c p n g 0 p B l 3 _ (CodeK.get (RtS.c (by (repeat (first | (with_reducible refine RtS.alloc ?_ _) | (with_reducible refine RtS.drew ?_))); exact H4.out : RtS w _ p (w2.heap.size) (w.heap.size) lo hi a m (B, n, g) l))) (by omega) (by omega)).mono ?_; rintro e v5 ⟨y5, rfl, y50, y51, hc5, ho5⟩; have H5 := Lib.hid (RtS.next (by (repeat (first | (with_reducible refine RtS.alloc ?_ _) | (with_reducible refine RtS.drew ?_))); exact H4.out : RtS w _ p (w2.heap.size) (w.heap.size) lo hi a m (B, n, g) l) hc5 ho5); have N5 := Lib.hid (NewBox.only (by (repeat (first | (with_reducible refine NewBox.alloc ?_ _) | (with_reducible refine NewBox.drew ?_))); exact N4.out : NewBox _ wr.heap.size [.int .i64 m.width, .slice a.E m.es.length a.ce, .slice a.R m.rs.length a.cr, .slice a.H m.hs.length a.ch, .int .i64 (lastHd m.hs).size, .slice a.A1 (pk1 m.width m.es m.hs).length a.c1, .int .i64 (lastHd m.hs).taken, .slice a.A2 (pk2 m.width m.rs m.hs).length a.c2, .int .i64 (lastHd m.hs).num, .int .i64 (lastHd m.hs).size, .string (lastHd m.hs).root, .int .i64 (lastHd m.hs).taken, .string (lastHd m.hs).troot]) ho5 (by first | omega | (simp; omega))); have hs5 : v4.heap.size ≤ v5.heap.size := Nat.le_trans (by first | exact Nat.le_refl _ | (simp; done) | (simp; omega)) ho5.size; clear hc5 ho5)) | ((go_at_call 78; refine (l12Receipt_c a m lo hi ⟨y3, y4, y5⟩ _ (RtS.k (by (repeat (first | (with_reducible refine RtS.alloc ?_ _) | (with_reducible refine RtS.drew ?_))); exact H5.out : RtS w _ p (w2.heap.size) (w.heap.size) lo hi a m (B, n, g) l)) (rcp_fits HY3.out HY4.out (by omega) (by omega))).mono ?_; rintro e v6 ⟨a', m', L, q9, g9, code, rfl, hnx, hb⟩; have H6 := Lib.hid (RtS.below (by (repeat (first | (with_reducible refine RtS.alloc ?_ _) | (with_reducible refine RtS.drew ?_))); exact H5.out : RtS w _ p (w2.heap.size) (w.heap.size) lo hi a m (B, n, g) l) hb); have N6 := Lib.hid (NewBox.below (by (repeat (first | (with_reducible refine NewBox.alloc ?_ _) | (with_reducible refine NewBox.drew ?_))); exact N5.out : NewBox _ wr.heap.size [.int .i64 m.width, .slice a.E m.es.length a.ce, .slice a.R m.rs.length a.cr, .slice a.H m.hs.length a.ch, .int .i64 (lastHd m.hs).size, .slice a.A1 (pk1 m.width m.es m.hs).length a.c1, .int .i64 (lastHd m.hs).taken, .slice a.A2 (pk2 m.width m.rs m.hs).length a.c2, .int .i64 (lastHd m.hs).num, .int .i64 (lastHd m.hs).size, .string (lastHd m.hs).root, .int .i64 (lastHd m.hs).taken, .string (lastHd m.hs).troot]) hb); have HK := Lib.hid hnx; have hs6 := hb.size; have hyx := N6.out.2.1; have hyf := N6.out.2.2; have hyk := N6.out.1; clear hnx hb)))
    clear hyx hyf hyk hkf hf2
    have hkf : wr.heap.size ≠ w2.heap.size ∧ wr.heap.size ≠ w.heap.size ∧ (wr.heap.size < lo ∨ hi ≤ wr.heap.size) ∧ p < wr.heap.size ∧ w.heap.size ≤ wr.heap.size := by have := H6.out.far; omega
    have hkl : wr.heap.size < v5.heap.size ∨ v6.heap.size ≤ wr.heap.size := by omega
    go_upto_region 17 with fail
    refine wp_named (fun wb hw => ?_)
    have hzb : v6.heap.size ≤ wb.heap.size := by rw [hw]; first | omega | (simp [World.setCell]; done) | (simp [World.setCell]; omega)
    have H90 : Hid (RtS w wb p (w2.heap.size) (w.heap.size) lo hi a m (B, n, g) l) := by rw [Hid, hw]; (repeat (first | (with_reducible refine RtS.alloc ?_ _) | (with_reducible refine RtS.drew ?_) | (with_reducible refine RtS.setN ?_ hkf _ _))); exact H6.out
    have N90 : Hid (NewBox wb wr.heap.size [.int .i64 m'.width, .slice a'.E m'.es.length a'.ce, .slice a'.R m'.rs.length a'.cr, .slice a'.H m'.hs.length a'.ch, .int .i64 (lastHd m'.hs).size, .slice a'.A1 (pk1 m'.width m'.es m'.hs).length a'.c1, .int .i64 (lastHd m'.hs).taken, .slice a'.A2 (pk2 m'.width m'.rs m'.hs).length a'.c2, .int .i64 (lastHd m'.hs).num, .int .i64 (lastHd m'.hs).size, .string (lastHd m'.hs).root, .int .i64 (lastHd m'.hs).taken, .string (lastHd m'.hs).troot]) := by rw [Hid, hw]; apply NewBox.cast; (focus ((repeat (first | (with_reducible apply NewBox.alloc) | (with_reducible apply NewBox.drew) | (with_reducible apply NewBox.set1))); exact N6.out)); rfl
    have K90 : Hid (code = 0 → BrkK wb v5.heap.size v6.heap.size a' m' ∧ m'.width = m.width ∧ m'.es.length ≤ m.es.length + 1) := by
     rw [Hid, hw]; intro hc0; obtain ⟨q1, q2, q3⟩ := HK.out hc0; refine ⟨?_, q2, q3⟩
     (repeat (first | (with_reducible refine BrkK.alloc ?_ _) | (with_reducible refine BrkK.drew ?_) | (with_reducible refine BrkK.setBlk ?_ hkl _ _))); exact q1
    clear hw HK H6 N6
    clear hxb hfb hkb
    clear hxn hfn hkn
    by_cases hc : code = 0
    ·subst hc
     obtain ⟨hbk, hmw2, hml2⟩ := K90.out rfl
     have HBK := Lib.hid hbk
     have HMW2 := Lib.hid hmw2
     clear hbk K90 hmw2
     have hxb := H90.out.b.2.1
     have hfb := H90.out.b.2.2
     have hkb := H90.out.b.1
     have hxn := N90.out.2.1
     have hfn := N90.out.2.2
     have hkn := N90.out.1
     have hf9 := H90.out.far
     have hz9 : v6.heap.size ≤ wb.heap.size := by omega
     go_wp2
     go_roundw
     case rel =>
      refine ⟨k + 1, a', m', v5.heap.size, v6.heap.size, by omega, by go_num, ⟨?_, ?_, ?_, ?_, ?_, by first | omega | (simp [World.setCell]; omega)⟩, by rw [HMW2.out]; exact HMW.out.1, by have := HMW.out.2; omega⟩
      ·apply NewBox.cast; (focus ((repeat (first | (with_reducible apply NewBox.alloc) | (with_reducible apply NewBox.drew) | (with_reducible apply NewBox.set1))); exact H90.out.b)); rfl
      ·have hne : w2.heap.size ≠ w.heap.size := by omega
       (repeat (first | (with_reducible refine NewBox.drew ?_) | (with_reducible refine NewBox.far hne _ ?_))); exact H90.out.r
      ·have hkb9 : w2.heap.size < v5.heap.size ∨ v6.heap.size ≤ w2.heap.size := by omega
       (repeat (first | (with_reducible refine BrkK.drew ?_) | (with_reducible refine BrkK.setBlk ?_ hkb9 _ _))); exact HBK.out
      ·have hkc9 : w2.heap.size < 0 ∨ p + 1 ≤ w2.heap.size := by omega
       (repeat (first | (with_reducible refine CodeK.drew ?_) | (with_reducible refine CodeK.setBlkR ?_ hkc9 _ _))); exact H90.out.c
      ·have hko9 : w.heap.size ≤ w2.heap.size := by omega
       (repeat (first | (with_reducible refine only_drew ?_) | (with_reducible refine only_new ?_ hko9 _))); exact H90.out.on
     case measure => simp [intOf]; omega
    ·have hc2 : (code == 0) = false := beq_eq_false_iff_ne.2 hc
     clear hc K90
     go_wp2
     go_roundw
     case rel => exact ⟨k + 1, a, m, lo, hi, by omega, by go_num, H90.out, HMW.out.1, by have := HMW.out.2; omega⟩
     case measure => simp [intOf]; omega
   ·have g0 : (x == 0) = false := beq_eq_false_iff_ne.2 (by omega)
    have g1 : (x == 1) = false := beq_eq_false_iff_ne.2 (by omega)
    have g2 : (x == 2) = false := beq_eq_false_iff_ne.2 (by omega)
    have g3 : (x == 3) = false := beq_eq_false_iff_ne.2 (by omega)
    have hf2 := H2.out.far
    have hkf : wr.heap.size ≠ w2.heap.size ∧ wr.heap.size ≠ w.heap.size ∧ (wr.heap.size < lo ∨ hi ≤ wr.heap.size) ∧ p < wr.heap.size ∧ w.heap.size ≤ wr.heap.size := by omega
    have hxb := H2.out.b.2.1
    have hfb := H2.out.b.2.2
    have hkb := H2.out.b.1
    have hxn := N2.out.2.1
    have hfn := N2.out.2.2
    have hkn := N2.out.1
    go_wp2_with fail
    go_region_held3 (fun w' => ∀ o, w'.cell? ⟨w2.heap.size, o, none⟩ = [.int .i64 m.width, .slice a.E m.es.length a.ce, .slice a.R m.rs.length a.cr, .slice a.H m.hs.length a.ch, .int .i64 (lastHd m.hs).size, .slice a.A1 (pk1 m.width m.es m.hs).length a.c1, .int .i64 (lastHd m.hs).taken, .slice a.A2 (pk2 m.width m.rs m.hs).length a.c2, .int .i64 (lastHd m.hs).num, .int .i64 (lastHd m.hs).size, .string (lastHd m.hs).root, .int .i64 (lastHd m.hs).taken, .string (lastHd m.hs).troot][o]?) (first | exact (by (repeat (first | (with_reducible refine RtS.alloc ?_ _) | (with_reducible refine RtS.drew ?_) | (with_reducible refine RtS.setN ?_ hkf _ _))); exact H9.out : RtS w _ p (w2.heap.size) (w.heap.size) lo hi a m (B, n, g) l).b.2.1 | exact (by (repeat (first | (with_reducible refine RtS.alloc ?_ _) | (with_reducible refine RtS.drew ?_) | (with_reducible refine RtS.setN ?_ hkf _ _))); exact H8.out : RtS w _ p (w2.heap.size) (w.heap.size) lo hi a m (B, n, g) l).b.2.1 | exact (by (repeat (first | (with_reducible refine RtS.alloc ?_ _) | (with_reducible refine RtS.drew ?_) | (with_reducible refine RtS.setN ?_ hkf _ _))); exact H7.out : RtS w _ p (w2.heap.size) (w.heap.size) lo hi a m (B, n, g) l).b.2.1 | exact (by (repeat (first | (with_reducible refine RtS.alloc ?_ _) | (with_reducible refine RtS.drew ?_) | (with_reducible refine RtS.setN ?_ hkf _ _))); exact H6.out : RtS w _ p (w2.heap.size) (w.heap.size) lo hi a m (B, n, g) l).b.2.1 | exact (by (repeat (first | (with_reducible refine RtS.alloc ?_ _) | (with_reducible refine RtS.drew ?_) | (with_reducible refine RtS.setN ?_ hkf _ _))); exact H5.out : RtS w _ p (w2.heap.size) (w.heap.size) lo hi a m (B, n, g) l).b.2.1 | exact (by (repeat (first | (with_reducible refine RtS.alloc ?_ _) | (with_reducible refine RtS.drew ?_) | (with_reducible refine RtS.setN ?_ hkf _ _))); exact H4.out : RtS w _ p (w2.heap.size) (w.heap.size) lo hi a m (B, n, g) l).b.2.1 | exact (by (repeat (first | (with_reducible refine RtS.alloc ?_ _) | (with_reducible refine RtS.drew ?_) | (with_reducible refine RtS.setN ?_ hkf _ _))); exact H3.out : RtS w _ p (w2.heap.size) (w.heap.size) lo hi a m (B, n, g) l).b.2.1 | exact (by (repeat (first | (with_reducible refine RtS.alloc ?_ _) | (with_reducible refine RtS.drew ?_) | (with_reducible refine RtS.setN ?_ hkf _ _))); exact H2.out : RtS w _ p (w2.heap.size) (w.heap.size) lo hi a m (B, n, g) l).b.2.1) (first | ((go_at_call 45; refine (l09Topic_c (CodeK.get (RtS.c (by (repeat (first | (with_reducible refine RtS.alloc ?_ _) | (with_reducible refine RtS.drew ?_))); exact H2.out : RtS w _ p (w2.heap.size) (w.heap.size) lo hi a m (B, n, g) l))) (by first | omega | (simp; omega))).mono ?_; rintro e v3 ⟨y3, rfl, hy3, hc3, ho3⟩; have H3 := Lib.hid (RtS.next (by (repeat (first | (with_reducible refine RtS.alloc ?_ _) | (with_reducible refine RtS.drew ?_))); exact H2.out : RtS w _ p (w2.heap.size) (w.heap.size) lo hi a m (B, n, g) l) hc3 ho3); have N3 := Lib.hid (NewBox.only (by (repeat (first | (with_reducible refine NewBox.alloc ?_ _) | (with_reducible refine NewBox.drew ?_))); exact N2.out : NewBox _ wr.heap.size [.int .i64 m.width, .slice a.E m.es.length a.ce, .slice a.R m.rs.length a.cr, .slice a.H m.hs.length a.ch, .int .i64 (lastHd m.hs).size, .slice a.A1 (pk1 m.width m.es m.hs).length a.c1, .int .i64 (lastHd m.hs).taken, .slice a.A2 (pk2 m.width m.rs m.hs).length a.c2, .int .i64 (lastHd m.hs).num, .int .i64 (lastHd m.hs).size, .string (lastHd m.hs).root, .int .i64 (lastHd m.hs).taken, .string (lastHd m.hs).troot]) ho3 (by first | omega | (simp; omega))); have hs3 : v2.heap.size ≤ v3.heap.size := Nat.le_trans (by first | exact Nat.le_refl _ | (simp; done) | (simp; omega)) ho3.size; have HY3 : Hid (y3.size ≤ 20) := Lib.hid (nameOk_size hy3); clear hy3; clear hc3 ho3)) | ((go_at_call_of 34 (Value.int .i64 1000); refine (l01Below_c p n g 0 p B l 1000 _ (CodeK.get (RtS.c (by (repeat (first | (with_reducible refine RtS.alloc ?_ _) | (with_reducible refine RtS.drew ?_))); exact H3.out : RtS w _ p (w2.heap.size) (w.heap.size) lo hi a m (B, n, g) l))) (by omega) (by omega)).mono ?_; rintro e v4 ⟨y4, rfl, y40, y41, hc4, ho4⟩; have H4 := Lib.hid (RtS.next (by (repeat (first | (with_reducible refine RtS.alloc ?_ _) | (with_reducible refine RtS.drew ?_))); exact H3.out : RtS w _ p (w2.heap.size) (w.heap.size) lo hi a m (B, n, g) l) hc4 ho4); have N4 := Lib.hid (NewBox.only (by (repeat (first | (with_reducible refine NewBox.alloc ?_ _) | (with_reducible refine NewBox.drew ?_))); exact N3.out : NewBox _ wr.heap.size [.int .i64 m.width, .slice a.E m.es.length a.ce, .slice a.R m.rs.length a.cr, .slice a.H m.hs.length a.ch, .int .i64 (lastHd m.hs).size, .slice a.A1 (pk1 m.width m.es m.hs).length a.c1, .int .i64 (lastHd m.hs).taken, .slice a.A2 (pk2 m.width m.rs m.hs).length a.c2, .int .i64 (lastHd m.hs).num, .int .i64 (lastHd m.hs).size, .string (lastHd m.hs).root, .int .i64 (lastHd m.hs).taken, .string (lastHd m.hs).troot]) ho4 (by first | omega | (simp; omega))); have hs4 : v3.heap.size ≤ v4.heap.size := Nat.le_trans (by first | exact Nat.le_refl _ | (simp; done) | (simp; omega)) ho4.size; clear hc4 ho4)) | ((go_at_call_of 34 (Value.int .i64 2); refine (l01Below_c p n g 0 p B l 2 _ (CodeK.get (RtS.c (by (repeat (first | (with_reducible refine RtS.alloc ?_ _) | (with_reducible refine RtS.drew ?_))); exact H4.out : RtS w _ p (w2.heap.size) (w.heap.size) lo hi a m (B, n, g) l))) (by omega) (by omega)).mono ?_; rintro e v5 ⟨z5, rfl, z50, z51, hc5, ho5⟩; have H5 := Lib.hid (RtS.next (by (repeat (first | (with_reducible refine RtS.alloc ?_ _) | (with_reducible refine RtS.drew ?_))); exact H4.out : RtS w _ p (w2.heap.size) (w.heap.size) lo hi a m (B, n, g) l) hc5 ho5); have N5 := Lib.hid (NewBox.only (by (repeat (first | (with_reducible refine NewBox.alloc ?_ _) | (with_reducible refine NewBox.drew ?_))); exact N4.out : NewBox _ wr.heap.size [.int .i64 m.width, .slice a.E m.es.length a.ce, .slice a.R m.rs.length a.cr, .slice a.H m.hs.length a.ch, .int .i64 (lastHd m.hs).size, .slice a.A1 (pk1 m.width m.es m.hs).length a.c1, .int .i64 (lastHd m.hs).taken, .slice a.A2 (pk2 m.width m.rs m.hs).length a.c2, .int .i64 (lastHd m.hs).num, .int .i64 (lastHd m.hs).size, .string (lastHd m.hs).root, .int .i64 (lastHd m.hs).taken, .string (lastHd m.hs).troot]) ho5 (by first | omega | (simp; omega))); have hs5 : v4.heap.size ≤ v5.heap.size := Nat.le_trans (by first | exact Nat.le_refl _ | (simp; done) | (simp; omega)) ho5.size; obtain ⟨y5, rfl⟩ : ∃ y5 : Nat, z5 = y5 := ⟨z5.toNat, (by omega)⟩; clear hc5 ho5)) | ((go_at_call_of 33 (Value.int .i64 (y5 : Int)); refine (l01Text_c p n g 0 p B l y5 _ (CodeK.get (RtS.c (by (repeat (first | (with_reducible refine RtS.alloc ?_ _) | (with_reducible refine RtS.drew ?_))); exact H5.out : RtS w _ p (w2.heap.size) (w.heap.size) lo hi a m (B, n, g) l))) (by omega) (by omega)).mono ?_; rintro e v6 ⟨y6, rfl, hy6, hc6, ho6⟩; have H6 := Lib.hid (RtS.next (by (repeat (first | (with_reducible refine RtS.alloc ?_ _) | (with_reducible refine RtS.drew ?_))); exact H5.out : RtS w _ p (w2.heap.size) (w.heap.size) lo hi a m (B, n, g) l) hc6 ho6); have N6 := Lib.hid (NewBox.only (by (repeat (first | (with_reducible refine NewBox.alloc ?_ _) | (with_reducible refine NewBox.drew ?_))); exact N5.out : NewBox _ wr.heap.size [.int .i64 m.width, .slice a.E m.es.length a.ce, .slice a.R m.rs.length a.cr, .slice a.H m.hs.length a.ch, .int .i64 (lastHd m.hs).size, .slice a.A1 (pk1 m.width m.es m.hs).length a.c1, .int .i64 (lastHd m.hs).taken, .slice a.A2 (pk2 m.width m.rs m.hs).length a.c2, .int .i64 (lastHd m.hs).num, .int .i64 (lastHd m.hs).size, .string (lastHd m.hs).root, .int .i64 (lastHd m.hs).taken, .string (lastHd m.hs).troot]) ho6 (by first | omega | (simp; omega))); have hs6 : v5.heap.size ≤ v6.heap.size := Nat.le_trans (by first | exact Nat.le_refl _ | (simp; done) | (simp; omega)) ho6.size; have HY6 := Lib.hid hy6; clear hy6; clear hc6 ho6)) | ((go_at_call_of 34 (Value.int .i64 4); refine (l01Below_c p n g 0 p B l 4 _ (CodeK.get (RtS.c (by (repeat (first | (with_reducible refine RtS.alloc ?_ _) | (with_reducible refine RtS.drew ?_))); exact H6.out : RtS w _ p (w2.heap.size) (w.heap.size) lo hi a m (B, n, g) l))) (by omega) (by omega)).mono ?_; rintro e v7 ⟨z7, rfl, z70, z71, hc7, ho7⟩; have H7 := Lib.hid (RtS.next (by (repeat (first | (with_reducible refine RtS.alloc ?_ _) | (with_reducible refine RtS.drew ?_))); exact H6.out : RtS w _ p (w2.heap.size) (w.heap.size) lo hi a m (B, n, g) l) hc7 ho7); have N7 := Lib.hid (NewBox.only (by (repeat (first | (with_reducible refine NewBox.alloc ?_ _) | (with_reducible refine NewBox.drew ?_))); exact N6.out : NewBox _ wr.heap.size [.int .i64 m.width, .slice a.E m.es.length a.ce, .slice a.R m.rs.length a.cr, .slice a.H m.hs.length a.ch, .int .i64 (lastHd m.hs).size, .slice a.A1 (pk1 m.width m.es m.hs).length a.c1, .int .i64 (lastHd m.hs).taken, .slice a.A2 (pk2 m.width m.rs m.hs).length a.c2, .int .i64 (lastHd m.hs).num, .int .i64 (lastHd m.hs).size, .string (lastHd m.hs).root, .int .i64 (lastHd m.hs).taken, .string (lastHd m.hs).troot]) ho7 (by first | omega | (simp; omega))); have hs7 : v6.heap.size ≤ v7.heap.size := Nat.le_trans (by first | exact Nat.le_refl _ | (simp; done) | (simp; omega)) ho7.size; obtain ⟨y7, rfl⟩ : ∃ y7 : Nat, z7 = y7 := ⟨z7.toNat, (by omega)⟩; clear hc7 ho7)) | ((go_at_call_of 33 (Value.int .i64 (y7 : Int)); refine (l01Text_c p n g 0 p B l y7 _ (CodeK.get (RtS.c (by (repeat (first | (with_reducible refine RtS.alloc ?_ _) | (with_reducible refine RtS.drew ?_))); exact H7.out : RtS w _ p (w2.heap.size) (w.heap.size) lo hi a m (B, n, g) l))) (by omega) (by omega)).mono ?_; rintro e v8 ⟨y8, rfl, hy8, hc8, ho8⟩; have H8 := Lib.hid (RtS.next (by (repeat (first | (with_reducible refine RtS.alloc ?_ _) | (with_reducible refine RtS.drew ?_))); exact H7.out : RtS w _ p (w2.heap.size) (w.heap.size) lo hi a m (B, n, g) l) hc8 ho8); have N8 := Lib.hid (NewBox.only (by (repeat (first | (with_reducible refine NewBox.alloc ?_ _) | (with_reducible refine NewBox.drew ?_))); exact N7.out : NewBox _ wr.heap.size [.int .i64 m.width, .slice a.E m.es.length a.ce, .slice a.R m.rs.length a.cr, .slice a.H m.hs.length a.ch, .int .i64 (lastHd m.hs).size, .slice a.A1 (pk1 m.width m.es m.hs).length a.c1, .int .i64 (lastHd m.hs).taken, .slice a.A2 (pk2 m.width m.rs m.hs).length a.c2, .int .i64 (lastHd m.hs).num, .int .i64 (lastHd m.hs).size, .string (lastHd m.hs).root, .int .i64 (lastHd m.hs).taken, .string (lastHd m.hs).troot]) ho8 (by first | omega | (simp; omega))); have hs8 : v7.heap.size ≤ v8.heap.size := Nat.le_trans (by first | exact Nat.le_refl _ | (simp; done) | (simp; omega)) ho8.size; have HY8 := Lib.hid hy8; clear hy8; clear hc8 ho8)) | ((go_at_call 79; refine (l12Publish_c a m lo hi y3 y4 y6 y8 _ (RtS.k (by (repeat (first | (with_reducible refine RtS.alloc ?_ _) | (with_reducible refine RtS.drew ?_))); exact H8.out : RtS w _ p (w2.heap.size) (w.heap.size) lo hi a m (B, n, g) l)) (Nat.le_trans HY3.out (by omega)) (by constructor <;> omega) (by rw [HY6.out]; omega) (by rw [HY8.out]; omega)).mono ?_; rintro e v9 ⟨a', m', L, q9, g9, leaf, code, rfl, hnx, hb⟩; have H9 := Lib.hid (RtS.below (by (repeat (first | (with_reducible refine RtS.alloc ?_ _) | (with_reducible refine RtS.drew ?_))); exact H8.out : RtS w _ p (w2.heap.size) (w.heap.size) lo hi a m (B, n, g) l) hb); have N9 := Lib.hid (NewBox.below (by (repeat (first | (with_reducible refine NewBox.alloc ?_ _) | (with_reducible refine NewBox.drew ?_))); exact N8.out : NewBox _ wr.heap.size [.int .i64 m.width, .slice a.E m.es.length a.ce, .slice a.R m.rs.length a.cr, .slice a.H m.hs.length a.ch, .int .i64 (lastHd m.hs).size, .slice a.A1 (pk1 m.width m.es m.hs).length a.c1, .int .i64 (lastHd m.hs).taken, .slice a.A2 (pk2 m.width m.rs m.hs).length a.c2, .int .i64 (lastHd m.hs).num, .int .i64 (lastHd m.hs).size, .string (lastHd m.hs).root, .int .i64 (lastHd m.hs).taken, .string (lastHd m.hs).troot]) hb); have HK := Lib.hid hnx; have hs9 := hb.size; have hyx := N9.out.2.1; have hyf := N9.out.2.2; have hyk := N9.out.1; clear hnx hb)))
    clear hyx hyf hyk hkf hf2
    have hkf : wr.heap.size ≠ w2.heap.size ∧ wr.heap.size ≠ w.heap.size ∧ (wr.heap.size < lo ∨ hi ≤ wr.heap.size) ∧ p < wr.heap.size ∧ w.heap.size ≤ wr.heap.size := by have := H9.out.far; omega
    have hkl : wr.heap.size < v8.heap.size ∨ v9.heap.size ≤ wr.heap.size := by omega
    go_upto_region 17 with fail
    refine wp_named (fun wb hw => ?_)
    have hzb : v9.heap.size ≤ wb.heap.size := by rw [hw]; first | omega | (simp [World.setCell]; done) | (simp [World.setCell]; omega)
    have H90 : Hid (RtS w wb p (w2.heap.size) (w.heap.size) lo hi a m (B, n, g) l) := by rw [Hid, hw]; (repeat (first | (with_reducible refine RtS.alloc ?_ _) | (with_reducible refine RtS.drew ?_) | (with_reducible refine RtS.setN ?_ hkf _ _))); exact H9.out
    have N90 : Hid (NewBox wb wr.heap.size [.int .i64 m'.width, .slice a'.E m'.es.length a'.ce, .slice a'.R m'.rs.length a'.cr, .slice a'.H m'.hs.length a'.ch, .int .i64 (lastHd m'.hs).size, .slice a'.A1 (pk1 m'.width m'.es m'.hs).length a'.c1, .int .i64 (lastHd m'.hs).taken, .slice a'.A2 (pk2 m'.width m'.rs m'.hs).length a'.c2, .int .i64 (lastHd m'.hs).num, .int .i64 (lastHd m'.hs).size, .string (lastHd m'.hs).root, .int .i64 (lastHd m'.hs).taken, .string (lastHd m'.hs).troot]) := by rw [Hid, hw]; apply NewBox.cast; (focus ((repeat (first | (with_reducible apply NewBox.alloc) | (with_reducible apply NewBox.drew) | (with_reducible apply NewBox.set1))); exact N9.out)); rfl
    have K90 : Hid (code = 0 → BrkK wb v8.heap.size v9.heap.size a' m' ∧ m'.width = m.width ∧ m'.es.length ≤ m.es.length + 1) := by
     rw [Hid, hw]; intro hc0; obtain ⟨q1, q2, q3⟩ := HK.out hc0; refine ⟨?_, q2, q3⟩
     (repeat (first | (with_reducible refine BrkK.alloc ?_ _) | (with_reducible refine BrkK.drew ?_) | (with_reducible refine BrkK.setBlk ?_ hkl _ _))); exact q1
    clear hw HK H9 N9
    clear hxb hfb hkb
    clear hxn hfn hkn
    by_cases hc : code = 0
    ·subst hc
     obtain ⟨hbk, hmw2, hml2⟩ := K90.out rfl
     have HBK := Lib.hid hbk
     have HMW2 := Lib.hid hmw2
     clear hbk K90 hmw2
     have hxb := H90.out.b.2.1
     have hfb := H90.out.b.2.2
     have hkb := H90.out.b.1
     have hxn := N90.out.2.1
     have hfn := N90.out.2.2
     have hkn := N90.out.1
     have hf9 := H90.out.far
     have hz9 : v9.heap.size ≤ wb.heap.size := by omega
     go_wp2
     go_roundw
     case rel =>
      refine ⟨k + 1, a', m', v8.heap.size, v9.heap.size, by omega, by go_num, ⟨?_, ?_, ?_, ?_, ?_, by first | omega | (simp [World.setCell]; omega)⟩, by rw [HMW2.out]; exact HMW.out.1, by have := HMW.out.2; omega⟩
      ·apply NewBox.cast; (focus ((repeat (first | (with_reducible apply NewBox.alloc) | (with_reducible apply NewBox.drew) | (with_reducible apply NewBox.set1))); exact H90.out.b)); rfl
      ·have hne : w2.heap.size ≠ w.heap.size := by omega
       (repeat (first | (with_reducible refine NewBox.drew ?_) | (with_reducible refine NewBox.far hne _ ?_))); exact H90.out.r
      ·have hkb9 : w2.heap.size < v8.heap.size ∨ v9.heap.size ≤ w2.heap.size := by omega
       (repeat (first | (with_reducible refine BrkK.drew ?_) | (with_reducible refine BrkK.setBlk ?_ hkb9 _ _))); exact HBK.out
      ·have hkc9 : w2.heap.size < 0 ∨ p + 1 ≤ w2.heap.size := by omega
       (repeat (first | (with_reducible refine CodeK.drew ?_) | (with_reducible refine CodeK.setBlkR ?_ hkc9 _ _))); exact H90.out.c
      ·have hko9 : w.heap.size ≤ w2.heap.size := by omega
       (repeat (first | (with_reducible refine only_drew ?_) | (with_reducible refine only_new ?_ hko9 _))); exact H90.out.on
     case measure => simp [intOf]; omega
    ·have hc2 : (code == 0) = false := beq_eq_false_iff_ne.2 hc
     clear hc K90
     go_wp2
     go_roundw
     case rel => exact ⟨k + 1, a, m, lo, hi, by omega, by go_num, H90.out, HMW.out.1, by have := HMW.out.2; omega⟩
     case measure => simp [intOf]; omega
  ·have hI : ¬ (k : Int) < d := by omega
   have hxb := H0.out.b.2.1
   have hfb := H0.out.b.2.2
   have hkb := H0.out.b.1
   have hxr := H0.out.r.2.1
   have hfr := H0.out.r.2.2
   have hkr := H0.out.r.1
   go_wp2
   refine bodyPost_named (fun wz hw => ?_)
   have hzz : wr.heap.size ≤ wz.heap.size := by rw [hw]; first | omega | (simp [World.setCell]; done) | (simp [World.setCell]; omega)
   have HZ : Hid (NewBox wz w.heap.size [.int .i64 m.width, .slice a.E m.es.length a.ce, .slice a.R m.rs.length a.cr, .slice a.H m.hs.length a.ch, .int .i64 (lastHd m.hs).size, .slice a.A1 (pk1 m.width m.es m.hs).length a.c1, .int .i64 (lastHd m.hs).taken, .slice a.A2 (pk2 m.width m.rs m.hs).length a.c2, .int .i64 (lastHd m.hs).num, .int .i64 (lastHd m.hs).size, .string (lastHd m.hs).root, .int .i64 (lastHd m.hs).taken, .string (lastHd m.hs).troot]) := by rw [Hid, hw]; apply NewBox.cast; (focus ((repeat (first | (with_reducible apply NewBox.alloc) | (with_reducible apply NewBox.drew) | (with_reducible apply NewBox.set1))); exact H0.out.r)); rfl
   have HZK : Hid (BrkK wz lo hi a m) := by
    have hkz : w.heap.size < lo ∨ hi ≤ w.heap.size := .inl (by omega)
    rw [Hid, hw]; (repeat (first | (with_reducible refine BrkK.alloc ?_ _) | (with_reducible refine BrkK.drew ?_) | (with_reducible refine BrkK.setBlk ?_ hkz _ _))); exact H0.out.k
   have HZC : Hid (CodeK wz 0 (p + 1) (B, n, g) l) := by
    have hkz : w.heap.size < 0 ∨ p + 1 ≤ w.heap.size := .inr (by omega)
    rw [Hid, hw]; (repeat (first | (with_reducible refine CodeK.alloc ?_ _) | (with_reducible refine CodeK.drew ?_) | (with_reducible refine CodeK.setBlkR ?_ hkz _ _))); exact H0.out.c
   have HZO : Hid (Only p (p + 1) w wz) := by
    have hkz : w.heap.size ≤ w.heap.size := Nat.le_refl _
    rw [Hid, hw]; (repeat (first | (with_reducible refine only_alloc ?_ _) | (with_reducible refine only_drew ?_) | (with_reducible refine only_new ?_ hkz _))); exact H0.out.on
   clear hw hxb hfb hkb hxr hfr hkr H0
   have hxr := HZ.out.2.1
   refine bodyPost_ret (v := .agg #[.int .i64 m.width, .slice a.E m.es.length a.ce, .slice a.R m.rs.length a.cr, .slice a.H m.hs.length a.ch, .int .i64 (lastHd m.hs).size, .slice a.A1 (pk1 m.width m.es m.hs).length a.c1, .int .i64 (lastHd m.hs).taken, .slice a.A2 (pk2 m.width m.rs m.hs).length a.c2, .int .i64 (lastHd m.hs).num, .int .i64 (lastHd m.hs).size, .string (lastHd m.hs).root, .int .i64 (lastHd m.hs).taken, .string (lastHd m.hs).troot]) (by simp [results, Try.results44, go_sem, hxr]) rfl ?_
   exact ⟨a, m, rfl, ⟨HZK.out.mono (by omega) (by omega) (Nat.le_refl _), HMW.out.1, by have := HMW.out.2; omega⟩, CodeK.get HZC.out, HZO.out⟩
end Go.Proofs.Ytoccjgcokffkbaa
namespace Go.Proofs.Ytoccjgcokffkbaa
set_option linter.unusedVariables false
set_option linter.unusedSimpArgs false
open Go.RowKit
set_option maxRecDepth 100000 in
set_option maxHeartbeats 20000000 in
theorem DrawRight_c (n g : Nat) (B : Option Addr) (l : List Int) (w : World) (hr : Rd w 0 w.heap.size B (bys l)) (hl : l.length = n) (hn : n ≤ 1048576) (hb : ∀ x ∈ l, 0 ≤ x ∧ x ≤ 255) :
  Calls Try.prog 14 #[.slice B n g] w fun e w' => ∃ (a : Bk) (m : Bm), e = .returned (.agg #[.int .i64 m.width, .slice a.E m.es.length a.ce, .slice a.R m.rs.length a.cr, .slice a.H m.hs.length a.ch, .int .i64 (lastHd m.hs).size, .slice a.A1 (pk1 m.width m.es m.hs).length a.c1, .int .i64 (lastHd m.hs).taken, .slice a.A2 (pk2 m.width m.rs m.hs).length a.c2, .int .i64 (lastHd m.hs).num, .int .i64 (lastHd m.hs).size, .string (lastHd m.hs).root, .int .i64 (lastHd m.hs).taken, .string (lastHd m.hs).troot]) ∧ (BrkK w' w.heap.size w'.heap.size a m ∧ m.es.length ≤ 24) ∧ Below w.heap.size w w' := by
 have HNEW := Lib.hid (fun W (r : Rd W 0 W.heap.size B (bys l)) => l01New_c n g 0 W.heap.size B l W r hl hn hb)
 have HB : Hid (Below w.heap.size w w) := Below.refl _ _
 have HOQ : Hid (Rd w (0) (w.heap.size) (B) (bys l)) := Rd.base hr
 clear hr hl hb
 go_enter Try.func14, Try.ntmps14
 go_wp2_with fail
 refine calls_named (fun w1 hw => ?_)
 have hz1 : w.heap.size + 1 ≤ w1.heap.size := by rw [hw]; first | omega | (simp [World.setCell]; done) | (simp [World.setCell]; omega)
 have hzz1 : w.heap.size ≤ w1.heap.size := by omega
 have hbn : Below w.heap.size w w1 := by rw [hw]; exact (by ((repeat (first | ((with_reducible refine Below.alloc ?_ ?_ _); rotate_left 1; (focus (first | omega | (simp; done) | (simp; omega)))) | (with_reducible refine Below.drew ?_) | ((with_reducible refine Below.setCell ?_ ?_ _); rotate_left 1; (focus (first | omega | (simp; done) | (simp; omega)))))); exact Below.refl _ _))
 replace HB := Lib.hid (below_then HB.out hbn HB.out.size)
 replace HOQ := Lib.hid (HOQ.out.below hbn)
 clear hbn
 have HXr : Hid (NewBox w1 (w.heap.size) [.int .i64 0, .slice none 0 0, .slice none 0 0, .slice none 0 0, .int .i64 0, .slice none 0 0, .int .i64 0, .slice none 0 0, .int .i64 0, .int .i64 0, .string ⟨#[]⟩, .int .i64 0, .string ⟨#[]⟩]) := by rw [Hid, hw]; exact ⟨by first | omega | (simp [World.setCell]; done) | (simp [World.setCell]; omega), fun o => by rcases o with _ | _ | _ | _ | _ | _ | _ | _ | _ | _ | _ | _ | _ | o <;> go_simp, fun o => by go_simp⟩
 have hxr := HXr.out.2.1
 have hfr := HXr.out.2.2
 have hkr := HXr.out.1
 clear hw
 refine (HNEW.out _ HOQ.out.base).mono ?_
 rintro e w2 ⟨rfl, hcd, hpz, hb⟩
 have hzw2 : w1.heap.size ≤ w2.heap.size := hb.size
 have hzzw2 : w.heap.size ≤ w2.heap.size := by omega
 replace HB := Lib.hid (below_then HB.out hb HB.out.size)
 replace HOQ := Lib.hid (HOQ.out.below hb)
 replace HXr := Lib.hid (HXr.out.below hb)
 clear hxr hfr hkr
 have hxr := HXr.out.2.1
 have hfr := HXr.out.2.2
 have hkr := HXr.out.1
 clear hb
 have HOC : Hid (CodeK w2 (0) (w1.heap.size + 1) ((B, n, g)) (l)) := Lib.hid (CodeK.mk_ hcd)
 clear hcd HNEW
 clear HOQ
 obtain ⟨d0, hd0⟩ : ∃ d : Nat, 4 + n / 12 = d := ⟨_, rfl⟩
 have E1 : (4 : Int) + (n : Int) / 12 = (d0 : Int) := by omega
 by_cases h24 : 24 < d0
 ·have hI : (24 : Int) < (d0 : Int) := by omega
  have HRT := fun W x (hc : Code W w1.heap.size B n g 0 w1.heap.size l) (hp : w1.heap.size < W.heap.size) (x0 : 0 ≤ x) (x1 : x < 32) => l12Right_c hc hp (1 + x) (inR_true.2 ⟨by omega, by omega⟩) 24 (by omega)
  rw [show ((24 : Nat) : Int) = 24 from rfl] at HRT
  replace HRT := Lib.hid HRT
  clear hd0
  go_wp2_with fail
  refine calls_named (fun w3 hw => ?_)
  have hz3 : w2.heap.size + 0 ≤ w3.heap.size := by rw [hw]; first | omega | (simp [World.setCell]; done) | (simp [World.setCell]; omega)
  have hzz3 : w.heap.size ≤ w3.heap.size := by omega
  have hbn : Below w2.heap.size w2 w3 := by rw [hw]; exact (by ((repeat (first | ((with_reducible refine Below.alloc ?_ ?_ _); rotate_left 1; (focus (first | omega | (simp; done) | (simp; omega)))) | (with_reducible refine Below.drew ?_) | ((with_reducible refine Below.setCell ?_ ?_ _); rotate_left 1; (focus (first | omega | (simp; done) | (simp; omega)))))); exact Below.refl _ _))
  replace HB := Lib.hid (below_then HB.out hbn HB.out.size)
  replace HOC := Lib.hid (HOC.out.below hbn)
  replace HXr := Lib.hid (HXr.out.below hbn)
  clear hxr hfr hkr
  have hxr := HXr.out.2.1
  have hfr := HXr.out.2.2
  have hkr := HXr.out.1
  clear hbn
  clear hw
  refine (l01Below_c w1.heap.size n g 0 w1.heap.size B l 32 _ (CodeK.get HOC.out) (by omega) (by omega)).mono ?_
  rintro e w4 ⟨x, rfl, x0, x1, hc, hb⟩
  have hzw4 : w3.heap.size ≤ w4.heap.size := hb.size
  have hzzw4 : w.heap.size ≤ w4.heap.size := by omega
  replace HB := Lib.hid (below_only HB.out hb (by omega) HB.out.size)
  replace HXr := Lib.hid (HXr.out.only hb (by first | omega | (simp; omega)))
  clear hxr hfr hkr
  have hxr := HXr.out.2.1
  have hfr := HXr.out.2.2
  have hkr := HXr.out.1
  clear hb
  clear HOC
  have HOC : Hid (CodeK w4 (0) (w1.heap.size + 1) ((B, n, g)) (l)) := Lib.hid (CodeK.mk_ hc)
  clear hc
  go_wp2_with fail
  refine calls_named (fun w5 hw => ?_)
  have hz5 : w4.heap.size + 0 ≤ w5.heap.size := by rw [hw]; first | omega | (simp [World.setCell]; done) | (simp [World.setCell]; omega)
  have hzz5 : w.heap.size ≤ w5.heap.size := by omega
  have hbn : Below w4.heap.size w4 w5 := by rw [hw]; exact (by ((repeat (first | ((with_reducible refine Below.alloc ?_ ?_ _); rotate_left 1; (focus (first | omega | (simp; done) | (simp; omega)))) | (with_reducible refine Below.drew ?_) | ((with_reducible refine Below.setCell ?_ ?_ _); rotate_left 1; (focus (first | omega | (simp; done) | (simp; omega)))))); exact Below.refl _ _))
  replace HB := Lib.hid (below_then HB.out hbn HB.out.size)
  replace HOC := Lib.hid (HOC.out.below hbn)
  replace HXr := Lib.hid (HXr.out.below hbn)
  clear hxr hfr hkr
  have hxr := HXr.out.2.1
  have hfr := HXr.out.2.2
  have hkr := HXr.out.1
  clear hbn
  clear hw
  refine (HRT.out _ x (CodeK.get HOC.out) (by omega) x0 x1).mono ?_
  rintro e w6 ⟨a, m, rfl, ⟨hbk, hmw9, hml⟩, hc, hb⟩
  have hzw6 : w5.heap.size ≤ w6.heap.size := hb.size
  have hzzw6 : w.heap.size ≤ w6.heap.size := by omega
  replace HB := Lib.hid (below_only HB.out hb (by omega) HB.out.size)
  replace HXr := Lib.hid (HXr.out.only hb (by first | omega | (simp; omega)))
  clear hxr hfr hkr
  have hxr := HXr.out.2.1
  have hfr := HXr.out.2.2
  have hkr := HXr.out.1
  clear hb
  clear HOC
  have HOC : Hid (CodeK w6 (0) (w1.heap.size + 1) ((B, n, g)) (l)) := Lib.hid (CodeK.mk_ hc)
  clear hc
  have HOK : Hid (BrkK w6 (w5.heap.size) (w6.heap.size) (a) (m)) := Lib.hid hbk
  have HML := Lib.hid hml
  clear hbk hml hmw9
  clear HOC
  go_wp2
  refine bodyPost_named (fun w7 hw => ?_)
  have hz7 : w6.heap.size + 0 ≤ w7.heap.size := by rw [hw]; first | omega | (simp [World.setCell]; done) | (simp [World.setCell]; omega)
  have hzz7 : w.heap.size ≤ w7.heap.size := by omega
  replace HB : Hid (Below w.heap.size w w7) := by rw [Hid, hw]; exact (by ((repeat (first | ((with_reducible refine Below.alloc ?_ ?_ _); rotate_left 1; (focus (first | omega | (simp; done) | (simp; omega)))) | (with_reducible refine Below.drew ?_) | ((with_reducible refine Below.setCell ?_ ?_ _); rotate_left 1; (focus (first | omega | (simp; done) | (simp; omega)))))); exact HB.out))
  replace HOK : Hid (BrkK w7 (w5.heap.size) (w6.heap.size) (a) (m)) := by rw [Hid, hw]; (repeat (first | (with_reducible refine BrkK.alloc ?_ _) | (with_reducible refine BrkK.drew ?_) | ((with_reducible refine BrkK.setCell ?_ ?_ _); rotate_left 1; (focus (first | omega | (simp; done) | (simp; omega)))))); exact HOK.out
  replace HXr : Hid (NewBox w7 (w.heap.size) [.int .i64 m.width, .slice a.E m.es.length a.ce, .slice a.R m.rs.length a.cr, .slice a.H m.hs.length a.ch, .int .i64 (lastHd m.hs).size, .slice a.A1 (pk1 m.width m.es m.hs).length a.c1, .int .i64 (lastHd m.hs).taken, .slice a.A2 (pk2 m.width m.rs m.hs).length a.c2, .int .i64 (lastHd m.hs).num, .int .i64 (lastHd m.hs).size, .string (lastHd m.hs).root, .int .i64 (lastHd m.hs).taken, .string (lastHd m.hs).troot]) := by rw [Hid, hw]; apply NewBox.cast; (focus ((repeat (first | (with_reducible apply NewBox.alloc) | (with_reducible apply NewBox.drew) | (with_reducible apply NewBox.set1) | ((with_reducible apply NewBox.far); (focus (first | omega | (simp; done) | (simp; omega)))))); exact HXr.out)); rfl
  clear hxr hfr hkr
  have hxr := HXr.out.2.1
  have hfr := HXr.out.2.2
  have hkr := HXr.out.1
  clear hw
  refine bodyPost_ret (v := .agg #[.int .i64 m.width, .slice a.E m.es.length a.ce, .slice a.R m.rs.length a.cr, .slice a.H m.hs.length a.ch, .int .i64 (lastHd m.hs).size, .slice a.A1 (pk1 m.width m.es m.hs).length a.c1, .int .i64 (lastHd m.hs).taken, .slice a.A2 (pk2 m.width m.rs m.hs).length a.c2, .int .i64 (lastHd m.hs).num, .int .i64 (lastHd m.hs).size, .string (lastHd m.hs).root, .int .i64 (lastHd m.hs).taken, .string (lastHd m.hs).troot]) (by simp [results, Try.results14, go_sem, hxr]) rfl ?_
  exact ⟨a, m, rfl, ⟨HOK.out.mono (by omega) (by omega) (Nat.le_refl _), Nat.le_trans HML.out (by omega)⟩, HB.out⟩
 ·have hI : ¬ (24 : Int) < (d0 : Int) := by omega
  have HRT := Lib.hid (fun W x (hc : Code W w1.heap.size B n g 0 w1.heap.size l) (hp : w1.heap.size < W.heap.size) (x0 : 0 ≤ x) (x1 : x < 32) => l12Right_c hc hp (1 + x) (inR_true.2 ⟨by omega, by omega⟩) d0 (by omega))
  clear hd0
  go_wp2_with fail
  refine calls_named (fun w3 hw => ?_)
  have hz3 : w2.heap.size + 0 ≤ w3.heap.size := by rw [hw]; first | omega | (simp [World.setCell]; done) | (simp [World.setCell]; omega)
  have hzz3 : w.heap.size ≤ w3.heap.size := by omega
  have hbn : Below w2.heap.size w2 w3 := by rw [hw]; exact (by ((repeat (first | ((with_reducible refine Below.alloc ?_ ?_ _); rotate_left 1; (focus (first | omega | (simp; done) | (simp; omega)))) | (with_reducible refine Below.drew ?_) | ((with_reducible refine Below.setCell ?_ ?_ _); rotate_left 1; (focus (first | omega | (simp; done) | (simp; omega)))))); exact Below.refl _ _))
  replace HB := Lib.hid (below_then HB.out hbn HB.out.size)
  replace HOC := Lib.hid (HOC.out.below hbn)
  replace HXr := Lib.hid (HXr.out.below hbn)
  clear hxr hfr hkr
  have hxr := HXr.out.2.1
  have hfr := HXr.out.2.2
  have hkr := HXr.out.1
  clear hbn
  clear hw
  refine (l01Below_c w1.heap.size n g 0 w1.heap.size B l 32 _ (CodeK.get HOC.out) (by omega) (by omega)).mono ?_
  rintro e w4 ⟨x, rfl, x0, x1, hc, hb⟩
  have hzw4 : w3.heap.size ≤ w4.heap.size := hb.size
  have hzzw4 : w.heap.size ≤ w4.heap.size := by omega
  replace HB := Lib.hid (below_only HB.out hb (by omega) HB.out.size)
  replace HXr := Lib.hid (HXr.out.only hb (by first | omega | (simp; omega)))
  clear hxr hfr hkr
  have hxr := HXr.out.2.1
  have hfr := HXr.out.2.2
  have hkr := HXr.out.1
  clear hb
  clear HOC
  have HOC : Hid (CodeK w4 (0) (w1.heap.size + 1) ((B, n, g)) (l)) := Lib.hid (CodeK.mk_ hc)
  clear hc
  go_wp2_with fail
  refine calls_named (fun w5 hw => ?_)
  have hz5 : w4.heap.size + 0 ≤ w5.heap.size := by rw [hw]; first | omega | (simp [World.setCell]; done) | (simp [World.setCell]; omega)
  have hzz5 : w.heap.size ≤ w5.heap.size := by omega
  have hbn : Below w4.heap.size w4 w5 := by rw [hw]; exact (by ((repeat (first | ((with_reducible refine Below.alloc ?_ ?_ _); rotate_left 1; (focus (first | omega | (simp; done) | (simp; omega)))) | (with_reducible refine Below.drew ?_) | ((with_reducible refine Below.setCell ?_ ?_ _); rotate_left 1; (focus (first | omega | (simp; done) | (simp; omega)))))); exact Below.refl _ _))
  replace HB := Lib.hid (below_then HB.out hbn HB.out.size)
  replace HOC := Lib.hid (HOC.out.below hbn)
  replace HXr := Lib.hid (HXr.out.below hbn)
  clear hxr hfr hkr
  have hxr := HXr.out.2.1
  have hfr := HXr.out.2.2
  have hkr := HXr.out.1
  clear hbn
  clear hw
  refine (HRT.out _ x (CodeK.get HOC.out) (by omega) x0 x1).mono ?_
  rintro e w6 ⟨a, m, rfl, ⟨hbk, hmw9, hml⟩, hc, hb⟩
  have hzw6 : w5.heap.size ≤ w6.heap.size := hb.size
  have hzzw6 : w.heap.size ≤ w6.heap.size := by omega
  replace HB := Lib.hid (below_only HB.out hb (by omega) HB.out.size)
  replace HXr := Lib.hid (HXr.out.only hb (by first | omega | (simp; omega)))
  clear hxr hfr hkr
  have hxr := HXr.out.2.1
  have hfr := HXr.out.2.2
  have hkr := HXr.out.1
  clear hb
  clear HOC
  have HOC : Hid (CodeK w6 (0) (w1.heap.size + 1) ((B, n, g)) (l)) := Lib.hid (CodeK.mk_ hc)
  clear hc
  have HOK : Hid (BrkK w6 (w5.heap.size) (w6.heap.size) (a) (m)) := Lib.hid hbk
  have HML := Lib.hid hml
  clear hbk hml hmw9
  clear HOC
  go_wp2
  refine bodyPost_named (fun w7 hw => ?_)
  have hz7 : w6.heap.size + 0 ≤ w7.heap.size := by rw [hw]; first | omega | (simp [World.setCell]; done) | (simp [World.setCell]; omega)
  have hzz7 : w.heap.size ≤ w7.heap.size := by omega
  replace HB : Hid (Below w.heap.size w w7) := by rw [Hid, hw]; exact (by ((repeat (first | ((with_reducible refine Below.alloc ?_ ?_ _); rotate_left 1; (focus (first | omega | (simp; done) | (simp; omega)))) | (with_reducible refine Below.drew ?_) | ((with_reducible refine Below.setCell ?_ ?_ _); rotate_left 1; (focus (first | omega | (simp; done) | (simp; omega)))))); exact HB.out))
  replace HOK : Hid (BrkK w7 (w5.heap.size) (w6.heap.size) (a) (m)) := by rw [Hid, hw]; (repeat (first | (with_reducible refine BrkK.alloc ?_ _) | (with_reducible refine BrkK.drew ?_) | ((with_reducible refine BrkK.setCell ?_ ?_ _); rotate_left 1; (focus (first | omega | (simp; done) | (simp; omega)))))); exact HOK.out
  replace HXr : Hid (NewBox w7 (w.heap.size) [.int .i64 m.width, .slice a.E m.es.length a.ce, .slice a.R m.rs.length a.cr, .slice a.H m.hs.length a.ch, .int .i64 (lastHd m.hs).size, .slice a.A1 (pk1 m.width m.es m.hs).length a.c1, .int .i64 (lastHd m.hs).taken, .slice a.A2 (pk2 m.width m.rs m.hs).length a.c2, .int .i64 (lastHd m.hs).num, .int .i64 (lastHd m.hs).size, .string (lastHd m.hs).root, .int .i64 (lastHd m.hs).taken, .string (lastHd m.hs).troot]) := by rw [Hid, hw]; apply NewBox.cast; (focus ((repeat (first | (with_reducible apply NewBox.alloc) | (with_reducible apply NewBox.drew) | (with_reducible apply NewBox.set1) | ((with_reducible apply NewBox.far); (focus (first | omega | (simp; done) | (simp; omega)))))); exact HXr.out)); rfl
  clear hxr hfr hkr
  have hxr := HXr.out.2.1
  have hfr := HXr.out.2.2
  have hkr := HXr.out.1
  clear hw
  refine bodyPost_ret (v := .agg #[.int .i64 m.width, .slice a.E m.es.length a.ce, .slice a.R m.rs.length a.cr, .slice a.H m.hs.length a.ch, .int .i64 (lastHd m.hs).size, .slice a.A1 (pk1 m.width m.es m.hs).length a.c1, .int .i64 (lastHd m.hs).taken, .slice a.A2 (pk2 m.width m.rs m.hs).length a.c2, .int .i64 (lastHd m.hs).num, .int .i64 (lastHd m.hs).size, .string (lastHd m.hs).root, .int .i64 (lastHd m.hs).taken, .string (lastHd m.hs).troot]) (by simp [results, Try.results14, go_sem, hxr]) rfl ?_
  exact ⟨a, m, rfl, ⟨HOK.out.mono (by omega) (by omega) (Nat.le_refl _), Nat.le_trans HML.out (by omega)⟩, HB.out⟩
theorem DrawRightP_c (n g : Nat) (B : Option Addr) (l : List Int) (w : World) (hr : Rd w 0 w.heap.size B (bys l)) (hl : l.length = n) (hn : n ≤ 1048576) (hb : ∀ x ∈ l, 0 ≤ x ∧ x ≤ 255) :
  Calls Try.prog 14 #[.slice B n g] w fun e w' => ∃ (width : Int) (E R H A1 A2 : Option Addr) (ne nr nh ce cr ch c1 c2 m1 m2 : Nat) (es : List Ent) (rs : List Rcp) (hs : List Hd) (l1 l2 : List ByteArray) (h : Hd), e = .returned (.agg #[.int .i64 width, .slice E ne ce, .slice R nr cr, .slice H nh ch, .int .i64 h.size, .slice A1 m1 c1, .int .i64 h.taken, .slice A2 m2 c2, .int .i64 h.num, .int .i64 h.size, .string h.root, .int .i64 h.taken, .string h.troot]) ∧
   (BrkK w' w.heap.size w'.heap.size ⟨E, R, H, A1, A2, ce, cr, ch, c1, c2⟩ ⟨width, es, rs, hs⟩ ∧ es.length = ne ∧ rs.length = nr ∧ hs.length = nh ∧ pk1 width es hs = l1 ∧ pk2 width rs hs = l2 ∧ l1.length = m1 ∧ l2.length = m2 ∧ lastHd hs = h ∧ ne ≤ 24) ∧ Below w.heap.size w w' :=
 (DrawRight_c n g B l w hr hl hn hb).mono fun e w' ⟨a, m, he, ⟨hk, h24⟩, hb⟩ => ⟨m.width, a.E, a.R, a.H, a.A1, a.A2, _, _, _, a.ce, a.cr, a.ch, a.c1, a.c2, _, _, m.es, m.rs, m.hs, _, _, _, he, ⟨hk, rfl, rfl, rfl, rfl, rfl, rfl, rfl, rfl, h24⟩, hb⟩
/-- where the drawing of a deed stands -/
structure DdS (w wx : World) (p k1 k2 k3 k4 : Nat) (c1 c2 c3 c4 : List Value) (c : Option Addr × Nat × Nat) (l : List Int) : Prop where
 b1 : NewBox wx k1 c1
 b2 : NewBox wx k2 c2
 b3 : NewBox wx k3 c3
 b4 : NewBox wx k4 c4
 c : CodeK wx 0 (p + 1) c l
 on : Below w.heap.size w wx
 far : w.heap.size ≤ p ∧ (k1 < p ∨ p < k1) ∧ (k2 < p ∨ p < k2) ∧ (k3 < p ∨ p < k3) ∧ (k4 < p ∨ p < k4)
section
variable {w wx wy : World} {p k1 k2 k3 k4 n g : Nat} {c1 c2 c3 c4 : List Value} {c : Option Addr × Nat × Nat} {l : List Int} {B : Option Addr}
theorem DdS.below (h : DdS w wx p k1 k2 k3 k4 c1 c2 c3 c4 c l) (hb : Below wx.heap.size wx wy) : DdS w wy p k1 k2 k3 k4 c1 c2 c3 c4 c l :=
 ⟨h.b1.below hb, h.b2.below hb, h.b3.below hb, h.b4.below hb, h.c.below hb, below_then h.on hb h.on.size, h.far⟩
theorem DdS.alloc (h : DdS w wx p k1 k2 k3 k4 c1 c2 c3 c4 c l) (o : Obj) : DdS w (wx.alloc o) p k1 k2 k3 k4 c1 c2 c3 c4 c l := h.below ((Below.refl _ _).alloc (Nat.le_refl _) o)
theorem DdS.drew (h : DdS w wx p k1 k2 k3 k4 c1 c2 c3 c4 c l) : DdS w wx.drew p k1 k2 k3 k4 c1 c2 c3 c4 c l := h.below (Below.refl _ _).drew
theorem DdS.next (h : DdS w wx p k1 k2 k3 k4 c1 c2 c3 c4 (B, n, g) l) (hc : Code wy p B n g 0 p l) (ho : Only p (p + 1) wx wy) : DdS w wy p k1 k2 k3 k4 c1 c2 c3 c4 (B, n, g) l :=
 ⟨h.b1.only ho (by have := h.far; omega), h.b2.only ho (by have := h.far; omega), h.b3.only ho (by have := h.far; omega), h.b4.only ho (by have := h.far; omega), CodeK.mk_ hc, below_only h.on ho h.far.1 h.on.size, h.far⟩
end
/-- a drawn entry, a drawn receipt -/
def DrawnE (x : Ent) : Prop := nameOk x.topic = true ∧ x.index = 0 ∧ (0 ≤ x.time ∧ x.time < 100) ∧ x.key.size ≤ 2 ∧ x.body.size ≤ 8
def DrawnR (r : Rcp) : Prop := nameOk r.reader = true ∧ nameOk r.topic = true ∧ 0 ≤ r.index ∧ r.index < 3
def rdN : List ByteArray := [⟨#[97, 110, 110]⟩, ⟨#[98, 111, 98]⟩, ⟨#[101, 118, 101]⟩]
theorem rdN_ok : ∀ t ∈ rdN, nameOk t = true := by
 intro t ht
 simp only [rdN, List.mem_cons, List.not_mem_nil, or_false] at ht
 rcases ht with rfl | rfl | rfl <;> decide +kernel
set_option maxRecDepth 100000 in
set_option maxHeartbeats 20000000 in
theorem DrawDeed_c (n g : Nat) (B : Option Addr) (l : List Int) (w : World) (hr : Rd w 0 w.heap.size B (bys l)) (hl : l.length = n) (hn : n ≤ 1048576) (hb : ∀ x ∈ l, 0 ≤ x ∧ x ≤ 255) :
  Calls Try.prog 15 #[.slice B n g] w fun e w' => ∃ (kd : Int) (x : Ent) (r : Rcp) (A : Option Addr), e = .returned (.tuple #[.int .i64 kd, .agg #[.string x.topic, .int .i64 x.index, .int .i64 x.time, .string x.key, .string x.body], .agg #[.string r.reader, .string r.topic, .int .i64 r.index], .slice A 3 3]) ∧ ((0 ≤ kd ∧ kd < 3) ∧ DrawnE x ∧ DrawnR r) ∧ Below w.heap.size w w' := by
 have HNEW := Lib.hid (fun W (r : Rd W 0 W.heap.size B (bys l)) => l01New_c n g 0 W.heap.size B l W r hl hn hb)
 have HB : Hid (Below w.heap.size w w) := Below.refl _ _
 have HOQ : Hid (Rd w (0) (w.heap.size) (B) (bys l)) := Rd.base hr
 clear hr hl hb
 go_enter Try.func15, Try.ntmps15
 go_wp2_with fail
 refine calls_named (fun w1 hw => ?_)
 have hz1 : w.heap.size + 2 ≤ w1.heap.size := by rw [hw]; first | omega | (simp [World.setCell]; done) | (simp [World.setCell]; omega)
 have hzz1 : w.heap.size ≤ w1.heap.size := by omega
 have hbn : Below w.heap.size w w1 := by rw [hw]; exact (by ((repeat (first | ((with_reducible refine Below.alloc ?_ ?_ _); rotate_left 1; (focus (first | omega | (simp; done) | (simp; omega)))) | (with_reducible refine Below.drew ?_) | ((with_reducible refine Below.setCell ?_ ?_ _); rotate_left 1; (focus (first | omega | (simp; done) | (simp; omega)))))); exact Below.refl _ _))
 replace HB := Lib.hid (below_then HB.out hbn HB.out.size)
 replace HOQ := Lib.hid (HOQ.out.below hbn)
 clear hbn
 have HXe : Hid (NewBox w1 (w.heap.size) [.string ⟨#[]⟩, .int .i64 0, .int .i64 0, .string ⟨#[]⟩, .string ⟨#[]⟩]) := by rw [Hid, hw]; exact ⟨by first | omega | (simp [World.setCell]; done) | (simp [World.setCell]; omega), fun o => by rcases o with _ | _ | _ | _ | _ | o <;> go_simp, fun o => by go_simp⟩
 have hxe := HXe.out.2.1
 have hfe := HXe.out.2.2
 have hke := HXe.out.1
 have HXr : Hid (NewBox w1 (w.heap.size + 1) [.string ⟨#[]⟩, .string ⟨#[]⟩, .int .i64 0]) := by rw [Hid, hw]; exact ⟨by first | omega | (simp [World.setCell]; done) | (simp [World.setCell]; omega), fun o => by rcases o with _ | _ | _ | o <;> go_simp, fun o => by go_simp⟩
 have hxr := HXr.out.2.1
 have hfr := HXr.out.2.2
 have hkr := HXr.out.1
 clear hw
 refine (HNEW.out _ HOQ.out.base).mono ?_
 rintro e w2 ⟨rfl, hcd, hpz, hb⟩
 have hzw2 : w1.heap.size ≤ w2.heap.size := hb.size
 have hzzw2 : w.heap.size ≤ w2.heap.size := by omega
 replace HB := Lib.hid (below_then HB.out hb HB.out.size)
 replace HOQ := Lib.hid (HOQ.out.below hb)
 replace HXe := Lib.hid (HXe.out.below hb)
 clear hxe hfe hke
 have hxe := HXe.out.2.1
 have hfe := HXe.out.2.2
 have hke := HXe.out.1
 replace HXr := Lib.hid (HXr.out.below hb)
 clear hxr hfr hkr
 have hxr := HXr.out.2.1
 have hfr := HXr.out.2.2
 have hkr := HXr.out.1
 clear hb
 have HOC : Hid (CodeK w2 (0) (w1.heap.size + 1) ((B, n, g)) (l)) := Lib.hid (CodeK.mk_ hcd)
 clear hcd HNEW
 clear HOQ
 go_wp2_with fail
 refine calls_named (fun w3 hw => ?_)
 have hz3 : w2.heap.size + 0 ≤ w3.heap.size := by rw [hw]; first | omega | (simp [World.setCell]; done) | (simp [World.setCell]; omega)
 have hzz3 : w.heap.size ≤ w3.heap.size := by omega
 have hbn : Below w2.heap.size w2 w3 := by rw [hw]; exact (by ((repeat (first | ((with_reducible refine Below.alloc ?_ ?_ _); rotate_left 1; (focus (first | omega | (simp; done) | (simp; omega)))) | (with_reducible refine Below.drew ?_) | ((with_reducible refine Below.setCell ?_ ?_ _); rotate_left 1; (focus (first | omega | (simp; done) | (simp; omega)))))); exact Below.refl _ _))
 replace HB := Lib.hid (below_then HB.out hbn HB.out.size)
 replace HOC := Lib.hid (HOC.out.below hbn)
 replace HXe := Lib.hid (HXe.out.below hbn)
 clear hxe hfe hke
 have hxe := HXe.out.2.1
 have hfe := HXe.out.2.2
 have hke := HXe.out.1
 replace HXr := Lib.hid (HXr.out.below hbn)
 clear hxr hfr hkr
 have hxr := HXr.out.2.1
 have hfr := HXr.out.2.2
 have hkr := HXr.out.1
 clear hbn
 clear hw
 refine (l01Below_c w1.heap.size n g 0 w1.heap.size B l 3 _ (CodeK.get HOC.out) (by omega) (by omega)).mono ?_
 rintro e w4 ⟨kd, rfl, k0, k1, hc, hb⟩
 have hzw4 : w3.heap.size ≤ w4.heap.size := hb.size
 have hzzw4 : w.heap.size ≤ w4.heap.size := by omega
 replace HB := Lib.hid (below_only HB.out hb (by omega) HB.out.size)
 replace HXe := Lib.hid (HXe.out.only hb (by first | omega | (simp; omega)))
 clear hxe hfe hke
 have hxe := HXe.out.2.1
 have hfe := HXe.out.2.2
 have hke := HXe.out.1
 replace HXr := Lib.hid (HXr.out.only hb (by first | omega | (simp; omega)))
 clear hxr hfr hkr
 have hxr := HXr.out.2.1
 have hfr := HXr.out.2.2
 have hkr := HXr.out.1
 clear hb
 clear HOC
 have HOC : Hid (CodeK w4 (0) (w1.heap.size + 1) ((B, n, g)) (l)) := Lib.hid (CodeK.mk_ hc)
 clear hc
 go_wp2_with fail
 refine calls_named (fun w5 hw => ?_)
 have hz5 : w4.heap.size + 0 ≤ w5.heap.size := by rw [hw]; first | omega | (simp [World.setCell]; done) | (simp [World.setCell]; omega)
 have hzz5 : w.heap.size ≤ w5.heap.size := by omega
 have hbn : Below w4.heap.size w4 w5 := by rw [hw]; exact (by ((repeat (first | ((with_reducible refine Below.alloc ?_ ?_ _); rotate_left 1; (focus (first | omega | (simp; done) | (simp; omega)))) | (with_reducible refine Below.drew ?_) | ((with_reducible refine Below.setCell ?_ ?_ _); rotate_left 1; (focus (first | omega | (simp; done) | (simp; omega)))))); exact Below.refl _ _))
 replace HB := Lib.hid (below_then HB.out hbn HB.out.size)
 replace HOC := Lib.hid (HOC.out.below hbn)
 replace HXe := Lib.hid (HXe.out.below hbn)
 clear hxe hfe hke
 have hxe := HXe.out.2.1
 have hfe := HXe.out.2.2
 have hke := HXe.out.1
 replace HXr := Lib.hid (HXr.out.below hbn)
 clear hxr hfr hkr
 have hxr := HXr.out.2.1
 have hfr := HXr.out.2.2
 have hkr := HXr.out.1
 clear hbn
 clear hw
 refine (l09Topic_c (CodeK.get HOC.out) (by omega)).mono ?_
 rintro e w6 ⟨y3, rfl, hy3, hc, hb⟩
 have hzw6 : w5.heap.size ≤ w6.heap.size := hb.size
 have hzzw6 : w.heap.size ≤ w6.heap.size := by omega
 replace HB := Lib.hid (below_only HB.out hb (by omega) HB.out.size)
 replace HXe := Lib.hid (HXe.out.only hb (by first | omega | (simp; omega)))
 clear hxe hfe hke
 have hxe := HXe.out.2.1
 have hfe := HXe.out.2.2
 have hke := HXe.out.1
 replace HXr := Lib.hid (HXr.out.only hb (by first | omega | (simp; omega)))
 clear hxr hfr hkr
 have hxr := HXr.out.2.1
 have hfr := HXr.out.2.2
 have hkr := HXr.out.1
 clear hb
 clear HOC
 have HOC : Hid (CodeK w6 (0) (w1.heap.size + 1) ((B, n, g)) (l)) := Lib.hid (CodeK.mk_ hc)
 clear hc
 go_wp2_with fail
 refine calls_named (fun w7 hw => ?_)
 have hz7 : w6.heap.size + 0 ≤ w7.heap.size := by rw [hw]; first | omega | (simp [World.setCell]; done) | (simp [World.setCell]; omega)
 have hzz7 : w.heap.size ≤ w7.heap.size := by omega
 have hbn : Below w6.heap.size w6 w7 := by rw [hw]; exact (by ((repeat (first | ((with_reducible refine Below.alloc ?_ ?_ _); rotate_left 1; (focus (first | omega | (simp; done) | (simp; omega)))) | (with_reducible refine Below.drew ?_) | ((with_reducible refine Below.setCell ?_ ?_ _); rotate_left 1; (focus (first | omega | (simp; done) | (simp; omega)))))); exact Below.refl _ _))
 replace HB := Lib.hid (below_then HB.out hbn HB.out.size)
 replace HOC := Lib.hid (HOC.out.below hbn)
 replace HXe := Lib.hid (HXe.out.below hbn)
 clear hxe hfe hke
 have hxe := HXe.out.2.1
 have hfe := HXe.out.2.2
 have hke := HXe.out.1
 replace HXr := Lib.hid (HXr.out.below hbn)
 clear hxr hfr hkr
 have hxr := HXr.out.2.1
 have hfr := HXr.out.2.2
 have hkr := HXr.out.1
 clear hbn
 clear hw
 refine (l01Below_c w1.heap.size n g 0 w1.heap.size B l 100 _ (CodeK.get HOC.out) (by omega) (by omega)).mono ?_
 rintro e w8 ⟨y4, rfl, y40, y41, hc, hb⟩
 have hzw8 : w7.heap.size ≤ w8.heap.size := hb.size
 have hzzw8 : w.heap.size ≤ w8.heap.size := by omega
 replace HB := Lib.hid (below_only HB.out hb (by omega) HB.out.size)
 replace HXe := Lib.hid (HXe.out.only hb (by first | omega | (simp; omega)))
 clear hxe hfe hke
 have hxe := HXe.out.2.1
 have hfe := HXe.out.2.2
 have hke := HXe.out.1
 replace HXr := Lib.hid (HXr.out.only hb (by first | omega | (simp; omega)))
 clear hxr hfr hkr
 have hxr := HXr.out.2.1
 have hfr := HXr.out.2.2
 have hkr := HXr.out.1
 clear hb
 clear HOC
 have HOC : Hid (CodeK w8 (0) (w1.heap.size + 1) ((B, n, g)) (l)) := Lib.hid (CodeK.mk_ hc)
 clear hc
 go_wp2_with fail
 refine calls_named (fun w9 hw => ?_)
 have hz9 : w8.heap.size + 0 ≤ w9.heap.size := by rw [hw]; first | omega | (simp [World.setCell]; done) | (simp [World.setCell]; omega)
 have hzz9 : w.heap.size ≤ w9.heap.size := by omega
 have hbn : Below w8.heap.size w8 w9 := by rw [hw]; exact (by ((repeat (first | ((with_reducible refine Below.alloc ?_ ?_ _); rotate_left 1; (focus (first | omega | (simp; done) | (simp; omega)))) | (with_reducible refine Below.drew ?_) | ((with_reducible refine Below.setCell ?_ ?_ _); rotate_left 1; (focus (first | omega | (simp; done) | (simp; omega)))))); exact Below.refl _ _))
 replace HB := Lib.hid (below_then HB.out hbn HB.out.size)
 replace HOC := Lib.hid (HOC.out.below hbn)
 replace HXe := Lib.hid (HXe.out.below hbn)
 clear hxe hfe hke
 have hxe := HXe.out.2.1
 have hfe := HXe.out.2.2
 have hke := HXe.out.1
 replace HXr := Lib.hid (HXr.out.below hbn)
 clear hxr hfr hkr
 have hxr := HXr.out.2.1
 have hfr := HXr.out.2.2
 have hkr := HXr.out.1
 clear hbn
 clear hw
 refine (l01Below_c w1.heap.size n g 0 w1.heap.size B l 3 _ (CodeK.get HOC.out) (by omega) (by omega)).mono ?_
 rintro e w10 ⟨z5, rfl, z50, z51, hc, hb⟩
 have hzw10 : w9.heap.size ≤ w10.heap.size := hb.size
 have hzzw10 : w.heap.size ≤ w10.heap.size := by omega
 replace HB := Lib.hid (below_only HB.out hb (by omega) HB.out.size)
 replace HXe := Lib.hid (HXe.out.only hb (by first | omega | (simp; omega)))
 clear hxe hfe hke
 have hxe := HXe.out.2.1
 have hfe := HXe.out.2.2
 have hke := HXe.out.1
 replace HXr := Lib.hid (HXr.out.only hb (by first | omega | (simp; omega)))
 clear hxr hfr hkr
 have hxr := HXr.out.2.1
 have hfr := HXr.out.2.2
 have hkr := HXr.out.1
 clear hb
 clear HOC
 have HOC : Hid (CodeK w10 (0) (w1.heap.size + 1) ((B, n, g)) (l)) := Lib.hid (CodeK.mk_ hc)
 clear hc
 obtain ⟨y5, rfl⟩ : ∃ y5 : Nat, z5 = y5 := ⟨z5.toNat, by omega⟩
 go_wp2_with fail
 refine calls_named (fun w11 hw => ?_)
 have hz11 : w10.heap.size + 0 ≤ w11.heap.size := by rw [hw]; first | omega | (simp [World.setCell]; done) | (simp [World.setCell]; omega)
 have hzz11 : w.heap.size ≤ w11.heap.size := by omega
 have hbn : Below w10.heap.size w10 w11 := by rw [hw]; exact (by ((repeat (first | ((with_reducible refine Below.alloc ?_ ?_ _); rotate_left 1; (focus (first | omega | (simp; done) | (simp; omega)))) | (with_reducible refine Below.drew ?_) | ((with_reducible refine Below.setCell ?_ ?_ _); rotate_left 1; (focus (first | omega | (simp; done) | (simp; omega)))))); exact Below.refl _ _))
 replace HB := Lib.hid (below_then HB.out hbn HB.out.size)
 replace HOC := Lib.hid (HOC.out.below hbn)
 replace HXe := Lib.hid (HXe.out.below hbn)
 clear hxe hfe hke
 have hxe := HXe.out.2.1
 have hfe := HXe.out.2.2
 have hke := HXe.out.1
 replace HXr := Lib.hid (HXr.out.below hbn)
 clear hxr hfr hkr
 have hxr := HXr.out.2.1
 have hfr := HXr.out.2.2
 have hkr := HXr.out.1
 clear hbn
 clear hw
 refine (l01Text_c w1.heap.size n g 0 w1.heap.size B l y5 _ (CodeK.get HOC.out) (by omega) (by omega)).mono ?_
 rintro e w12 ⟨y6, rfl, hy6, hc, hb⟩
 have hzw12 : w11.heap.size ≤ w12.heap.size := hb.size
 have hzzw12 : w.heap.size ≤ w12.heap.size := by omega
 replace HB := Lib.hid (below_only HB.out hb (by omega) HB.out.size)
 replace HXe := Lib.hid (HXe.out.only hb (by first | omega | (simp; omega)))
 clear hxe hfe hke
 have hxe := HXe.out.2.1
 have hfe := HXe.out.2.2
 have hke := HXe.out.1
 replace HXr := Lib.hid (HXr.out.only hb (by first | omega | (simp; omega)))
 clear hxr hfr hkr
 have hxr := HXr.out.2.1
 have hfr := HXr.out.2.2
 have hkr := HXr.out.1
 clear hb
 clear HOC
 have HOC : Hid (CodeK w12 (0) (w1.heap.size + 1) ((B, n, g)) (l)) := Lib.hid (CodeK.mk_ hc)
 clear hc
 go_wp2_with fail
 refine calls_named (fun w13 hw => ?_)
 have hz13 : w12.heap.size + 0 ≤ w13.heap.size := by rw [hw]; first | omega | (simp [World.setCell]; done) | (simp [World.setCell]; omega)
 have hzz13 : w.heap.size ≤ w13.heap.size := by omega
 have hbn : Below w12.heap.size w12 w13 := by rw [hw]; exact (by ((repeat (first | ((with_reducible refine Below.alloc ?_ ?_ _); rotate_left 1; (focus (first | omega | (simp; done) | (simp; omega)))) | (with_reducible refine Below.drew ?_) | ((with_reducible refine Below.setCell ?_ ?_ _); rotate_left 1; (focus (first | omega | (simp; done) | (simp; omega)))))); exact Below.refl _ _))
 replace HB := Lib.hid (below_then HB.out hbn HB.out.size)
 replace HOC := Lib.hid (HOC.out.below hbn)
 replace HXe := Lib.hid (HXe.out.below hbn)
 clear hxe hfe hke
 have hxe := HXe.out.2.1
 have hfe := HXe.out.2.2
 have hke := HXe.out.1
 replace HXr := Lib.hid (HXr.out.below hbn)
 clear hxr hfr hkr
 have hxr := HXr.out.2.1
 have hfr := HXr.out.2.2
 have hkr := HXr.out.1
 clear hbn
 clear hw
 refine (l01Below_c w1.heap.size n g 0 w1.heap.size B l 9 _ (CodeK.get HOC.out) (by omega) (by omega)).mono ?_
 rintro e w14 ⟨z7, rfl, z70, z71, hc, hb⟩
 have hzw14 : w13.heap.size ≤ w14.heap.size := hb.size
 have hzzw14 : w.heap.size ≤ w14.heap.size := by omega
 replace HB := Lib.hid (below_only HB.out hb (by omega) HB.out.size)
 replace HXe := Lib.hid (HXe.out.only hb (by first | omega | (simp; omega)))
 clear hxe hfe hke
 have hxe := HXe.out.2.1
 have hfe := HXe.out.2.2
 have hke := HXe.out.1
 replace HXr := Lib.hid (HXr.out.only hb (by first | omega | (simp; omega)))
 clear hxr hfr hkr
 have hxr := HXr.out.2.1
 have hfr := HXr.out.2.2
 have hkr := HXr.out.1
 clear hb
 clear HOC
 have HOC : Hid (CodeK w14 (0) (w1.heap.size + 1) ((B, n, g)) (l)) := Lib.hid (CodeK.mk_ hc)
 clear hc
 obtain ⟨y7, rfl⟩ : ∃ y7 : Nat, z7 = y7 := ⟨z7.toNat, by omega⟩
 go_wp2_with fail
 refine calls_named (fun w15 hw => ?_)
 have hz15 : w14.heap.size + 0 ≤ w15.heap.size := by rw [hw]; first | omega | (simp [World.setCell]; done) | (simp [World.setCell]; omega)
 have hzz15 : w.heap.size ≤ w15.heap.size := by omega
 have hbn : Below w14.heap.size w14 w15 := by rw [hw]; exact (by ((repeat (first | ((with_reducible refine Below.alloc ?_ ?_ _); rotate_left 1; (focus (first | omega | (simp; done) | (simp; omega)))) | (with_reducible refine Below.drew ?_) | ((with_reducible refine Below.setCell ?_ ?_ _); rotate_left 1; (focus (first | omega | (simp; done) | (simp; omega)))))); exact Below.refl _ _))
 replace HB := Lib.hid (below_then HB.out hbn HB.out.size)
 replace HOC := Lib.hid (HOC.out.below hbn)
 replace HXe := Lib.hid (HXe.out.below hbn)
 clear hxe hfe hke
 have hxe := HXe.out.2.1
 have hfe := HXe.out.2.2
 have hke := HXe.out.1
 replace HXr := Lib.hid (HXr.out.below hbn)
 clear hxr hfr hkr
 have hxr := HXr.out.2.1
 have hfr := HXr.out.2.2
 have hkr := HXr.out.1
 clear hbn
 clear hw
 refine (l01Text_c w1.heap.size n g 0 w1.heap.size B l y7 _ (CodeK.get HOC.out) (by omega) (by omega)).mono ?_
 rintro e w16 ⟨y8, rfl, hy8, hc, hb⟩
 have hzw16 : w15.heap.size ≤ w16.heap.size := hb.size
 have hzzw16 : w.heap.size ≤ w16.heap.size := by omega
 replace HB := Lib.hid (below_only HB.out hb (by omega) HB.out.size)
 replace HXe := Lib.hid (HXe.out.only hb (by first | omega | (simp; omega)))
 clear hxe hfe hke
 have hxe := HXe.out.2.1
 have hfe := HXe.out.2.2
 have hke := HXe.out.1
 replace HXr := Lib.hid (HXr.out.only hb (by first | omega | (simp; omega)))
 clear hxr hfr hkr
 have hxr := HXr.out.2.1
 have hfr := HXr.out.2.2
 have hkr := HXr.out.1
 clear hb
 clear HOC
 have HOC : Hid (CodeK w16 (0) (w1.heap.size + 1) ((B, n, g)) (l)) := Lib.hid (CodeK.mk_ hc)
 clear hc
 have HXE : Hid (DrawnE ⟨y3, 0, y4, y6, y8⟩) := Lib.hid ⟨hy3, rfl, ⟨y40, y41⟩, by show y6.size ≤ 2; omega, by show y8.size ≤ 8; omega⟩
 clear hy3 hy6 hy8 y40 y41 z50 z51 z70 z71
 go_wp2_with fail
 refine calls_named (fun w17 hw => ?_)
 have hz17 : w16.heap.size + 2 ≤ w17.heap.size := by rw [hw]; first | omega | (simp [World.setCell]; done) | (simp [World.setCell]; omega)
 have hzz17 : w.heap.size ≤ w17.heap.size := by omega
 have hbn : Below w16.heap.size w16 w17 := by rw [hw]; exact (by ((repeat (first | ((with_reducible refine Below.alloc ?_ ?_ _); rotate_left 1; (focus (first | omega | (simp; done) | (simp; omega)))) | (with_reducible refine Below.drew ?_) | ((with_reducible refine Below.setCell ?_ ?_ _); rotate_left 1; (focus (first | omega | (simp; done) | (simp; omega)))))); exact Below.refl _ _))
 replace HB := Lib.hid (below_then HB.out hbn HB.out.size)
 replace HOC := Lib.hid (HOC.out.below hbn)
 replace HXe := Lib.hid (HXe.out.below hbn)
 clear hxe hfe hke
 have hxe := HXe.out.2.1
 have hfe := HXe.out.2.2
 have hke := HXe.out.1
 replace HXr := Lib.hid (HXr.out.below hbn)
 clear hxr hfr hkr
 have hxr := HXr.out.2.1
 have hfr := HXr.out.2.2
 have hkr := HXr.out.1
 clear hbn
 have HXx : Hid (NewBox w17 (w16.heap.size) [.string y3, .int .i64 0, .int .i64 y4, .string y6, .string y8]) := by rw [Hid, hw]; exact ⟨by first | omega | (simp [World.setCell]; done) | (simp [World.setCell]; omega), fun o => by rcases o with _ | _ | _ | _ | _ | o <;> go_simp, fun o => by go_simp⟩
 have hxx := HXx.out.2.1
 have hfx := HXx.out.2.2
 have hkx := HXx.out.1
 have HXz : Hid (NewBox w17 (w16.heap.size + 1) [.string ⟨#[97, 110, 110]⟩, .string ⟨#[98, 111, 98]⟩, .string ⟨#[101, 118, 101]⟩]) := by rw [Hid, hw]; exact ⟨by first | omega | (simp [World.setCell]; done) | (simp [World.setCell]; omega), fun o => by rcases o with _ | _ | _ | o <;> go_simp, fun o => by go_simp⟩
 have hxz := HXz.out.2.1
 have hfz := HXz.out.2.2
 have hkz := HXz.out.1
 clear hw
 refine (l01Pick_c (CodeK.get HOC.out) _ 3 3 _ _ rdN (rd_strs HXz.out rfl) rfl (by omega) (by omega) (by omega)).mono ?_
 rintro e w18 ⟨u3, rfl, hu3, hc, hb⟩
 have hzw18 : w17.heap.size ≤ w18.heap.size := hb.size
 have hzzw18 : w.heap.size ≤ w18.heap.size := by omega
 replace HB := Lib.hid (below_only HB.out hb (by omega) HB.out.size)
 replace HXe := Lib.hid (HXe.out.only hb (by first | omega | (simp; omega)))
 clear hxe hfe hke
 have hxe := HXe.out.2.1
 have hfe := HXe.out.2.2
 have hke := HXe.out.1
 replace HXr := Lib.hid (HXr.out.only hb (by first | omega | (simp; omega)))
 clear hxr hfr hkr
 have hxr := HXr.out.2.1
 have hfr := HXr.out.2.2
 have hkr := HXr.out.1
 replace HXx := Lib.hid (HXx.out.only hb (by first | omega | (simp; omega)))
 clear hxx hfx hkx
 have hxx := HXx.out.2.1
 have hfx := HXx.out.2.2
 have hkx := HXx.out.1
 replace HXz := Lib.hid (HXz.out.only hb (by first | omega | (simp; omega)))
 clear hxz hfz hkz
 have hxz := HXz.out.2.1
 have hfz := HXz.out.2.2
 have hkz := HXz.out.1
 clear hb
 clear HOC
 have HOC : Hid (CodeK w18 (0) (w1.heap.size + 1) ((B, n, g)) (l)) := Lib.hid (CodeK.mk_ hc)
 clear hc
 go_wp2_with fail
 refine calls_named (fun w19 hw => ?_)
 have hz19 : w18.heap.size + 0 ≤ w19.heap.size := by rw [hw]; first | omega | (simp [World.setCell]; done) | (simp [World.setCell]; omega)
 have hzz19 : w.heap.size ≤ w19.heap.size := by omega
 have hbn : Below w18.heap.size w18 w19 := by rw [hw]; exact (by ((repeat (first | ((with_reducible refine Below.alloc ?_ ?_ _); rotate_left 1; (focus (first | omega | (simp; done) | (simp; omega)))) | (with_reducible refine Below.drew ?_) | ((with_reducible refine Below.setCell ?_ ?_ _); rotate_left 1; (focus (first | omega | (simp; done) | (simp; omega)))))); exact Below.refl _ _))
 replace HB := Lib.hid (below_then HB.out hbn HB.out.size)
 replace HOC := Lib.hid (HOC.out.below hbn)
 replace HXe := Lib.hid (HXe.out.below hbn)
 clear hxe hfe hke
 have hxe := HXe.out.2.1
 have hfe := HXe.out.2.2
 have hke := HXe.out.1
 replace HXr := Lib.hid (HXr.out.below hbn)
 clear hxr hfr hkr
 have hxr := HXr.out.2.1
 have hfr := HXr.out.2.2
 have hkr := HXr.out.1
 replace HXx := Lib.hid (HXx.out.below hbn)
 clear hxx hfx hkx
 have hxx := HXx.out.2.1
 have hfx := HXx.out.2.2
 have hkx := HXx.out.1
 replace HXz := Lib.hid (HXz.out.below hbn)
 clear hxz hfz hkz
 have hxz := HXz.out.2.1
 have hfz := HXz.out.2.2
 have hkz := HXz.out.1
 clear hbn
 clear hw
 refine (l09Topic_c (CodeK.get HOC.out) (by omega)).mono ?_
 rintro e w20 ⟨u4, rfl, hu4, hc, hb⟩
 have hzw20 : w19.heap.size ≤ w20.heap.size := hb.size
 have hzzw20 : w.heap.size ≤ w20.heap.size := by omega
 replace HB := Lib.hid (below_only HB.out hb (by omega) HB.out.size)
 replace HXe := Lib.hid (HXe.out.only hb (by first | omega | (simp; omega)))
 clear hxe hfe hke
 have hxe := HXe.out.2.1
 have hfe := HXe.out.2.2
 have hke := HXe.out.1
 replace HXr := Lib.hid (HXr.out.only hb (by first | omega | (simp; omega)))
 clear hxr hfr hkr
 have hxr := HXr.out.2.1
 have hfr := HXr.out.2.2
 have hkr := HXr.out.1
 replace HXx := Lib.hid (HXx.out.only hb (by first | omega | (simp; omega)))
 clear hxx hfx hkx
 have hxx := HXx.out.2.1
 have hfx := HXx.out.2.2
 have hkx := HXx.out.1
 replace HXz := Lib.hid (HXz.out.only hb (by first | omega | (simp; omega)))
 clear hxz hfz hkz
 have hxz := HXz.out.2.1
 have hfz := HXz.out.2.2
 have hkz := HXz.out.1
 clear hb
 clear HOC
 have HOC : Hid (CodeK w20 (0) (w1.heap.size + 1) ((B, n, g)) (l)) := Lib.hid (CodeK.mk_ hc)
 clear hc
 go_wp2_with fail
 refine calls_named (fun w21 hw => ?_)
 have hz21 : w20.heap.size + 0 ≤ w21.heap.size := by rw [hw]; first | omega | (simp [World.setCell]; done) | (simp [World.setCell]; omega)
 have hzz21 : w.heap.size ≤ w21.heap.size := by omega
 have hbn : Below w20.heap.size w20 w21 := by rw [hw]; exact (by ((repeat (first | ((with_reducible refine Below.alloc ?_ ?_ _); rotate_left 1; (focus (first | omega | (simp; done) | (simp; omega)))) | (with_reducible refine Below.drew ?_) | ((with_reducible refine Below.setCell ?_ ?_ _); rotate_left 1; (focus (first | omega | (simp; done) | (simp; omega)))))); exact Below.refl _ _))
 replace HB := Lib.hid (below_then HB.out hbn HB.out.size)
 replace HOC := Lib.hid (HOC.out.below hbn)
 replace HXe := Lib.hid (HXe.out.below hbn)
 clear hxe hfe hke
 have hxe := HXe.out.2.1
 have hfe := HXe.out.2.2
 have hke := HXe.out.1
 replace HXr := Lib.hid (HXr.out.below hbn)
 clear hxr hfr hkr
 have hxr := HXr.out.2.1
 have hfr := HXr.out.2.2
 have hkr := HXr.out.1
 replace HXx := Lib.hid (HXx.out.below hbn)
 clear hxx hfx hkx
 have hxx := HXx.out.2.1
 have hfx := HXx.out.2.2
 have hkx := HXx.out.1
 replace HXz := Lib.hid (HXz.out.below hbn)
 clear hxz hfz hkz
 have hxz := HXz.out.2.1
 have hfz := HXz.out.2.2
 have hkz := HXz.out.1
 clear hbn
 clear hw
 refine (l01Below_c w1.heap.size n g 0 w1.heap.size B l 3 _ (CodeK.get HOC.out) (by omega) (by omega)).mono ?_
 rintro e w22 ⟨u5, rfl, u50, u51, hc, hb⟩
 have hzw22 : w21.heap.size ≤ w22.heap.size := hb.size
 have hzzw22 : w.heap.size ≤ w22.heap.size := by omega
 replace HB := Lib.hid (below_only HB.out hb (by omega) HB.out.size)
 replace HXe := Lib.hid (HXe.out.only hb (by first | omega | (simp; omega)))
 clear hxe hfe hke
 have hxe := HXe.out.2.1
 have hfe := HXe.out.2.2
 have hke := HXe.out.1
 replace HXr := Lib.hid (HXr.out.only hb (by first | omega | (simp; omega)))
 clear hxr hfr hkr
 have hxr := HXr.out.2.1
 have hfr := HXr.out.2.2
 have hkr := HXr.out.1
 replace HXx := Lib.hid (HXx.out.only hb (by first | omega | (simp; omega)))
 clear hxx hfx hkx
 have hxx := HXx.out.2.1
 have hfx := HXx.out.2.2
 have hkx := HXx.out.1
 replace HXz := Lib.hid (HXz.out.only hb (by first | omega | (simp; omega)))
 clear hxz hfz hkz
 have hxz := HXz.out.2.1
 have hfz := HXz.out.2.2
 have hkz := HXz.out.1
 clear hb
 clear HOC
 have HOC : Hid (CodeK w22 (0) (w1.heap.size + 1) ((B, n, g)) (l)) := Lib.hid (CodeK.mk_ hc)
 clear hc
 have HXR : Hid (DrawnR ⟨u3, u4, u5⟩) := Lib.hid ⟨rdN_ok _ hu3, hu4, u50, u51⟩
 clear hu3 hu4 u50 u51
 clear hxz hfz hkz HXz
 go_upto_region 5 with fail
 refine wp_named (fun w23 hw => ?_)
 have hz23 : w22.heap.size + 1 ≤ w23.heap.size := by rw [hw]; first | omega | (simp [World.setCell]; done) | (simp [World.setCell]; omega)
 have hzz23 : w.heap.size ≤ w23.heap.size := by omega
 have hbn : Below w22.heap.size w22 w23 := by rw [hw]; exact (by ((repeat (first | ((with_reducible refine Below.alloc ?_ ?_ _); rotate_left 1; (focus (first | omega | (simp; done) | (simp; omega)))) | (with_reducible refine Below.drew ?_) | ((with_reducible refine Below.setCell ?_ ?_ _); rotate_left 1; (focus (first | omega | (simp; done) | (simp; omega)))))); exact Below.refl _ _))
 replace HB := Lib.hid (below_then HB.out hbn HB.out.size)
 replace HOC := Lib.hid (HOC.out.below hbn)
 replace HXe := Lib.hid (HXe.out.below hbn)
 clear hxe hfe hke
 have hxe := HXe.out.2.1
 have hfe := HXe.out.2.2
 have hke := HXe.out.1
 replace HXr := Lib.hid (HXr.out.below hbn)
 clear hxr hfr hkr
 have hxr := HXr.out.2.1
 have hfr := HXr.out.2.2
 have hkr := HXr.out.1
 replace HXx := Lib.hid (HXx.out.below hbn)
 clear hxx hfx hkx
 have hxx := HXx.out.2.1
 have hfx := HXx.out.2.2
 have hkx := HXx.out.1
 clear hbn
 have HXy : Hid (NewBox w23 (w22.heap.size) [.string u3, .string u4, .int .i64 u5]) := by rw [Hid, hw]; exact ⟨by first | omega | (simp [World.setCell]; done) | (simp [World.setCell]; omega), fun o => by rcases o with _ | _ | _ | o <;> go_simp, fun o => by go_simp⟩
 have hxy := HXy.out.2.1
 have hfy := HXy.out.2.2
 have hky := HXy.out.1
 clear hw
 have H0 : Hid (DdS w w23 w1.heap.size ((w16.heap.size)) ((w22.heap.size)) ((w.heap.size)) ((w.heap.size + 1)) [.string y3, .int .i64 0, .int .i64 y4, .string y6, .string y8] [.string u3, .string u4, .int .i64 u5] [.string ⟨#[]⟩, .int .i64 0, .int .i64 0, .string ⟨#[]⟩, .string ⟨#[]⟩] [.string ⟨#[]⟩, .string ⟨#[]⟩, .int .i64 0] (B, n, g) l) := Lib.hid ⟨HXx.out, HXy.out, HXe.out, HXr.out, HOC.out, HB.out, by omega, by omega, by omega, by omega, by omega⟩
 have hpc : w1.heap.size < w23.heap.size := by omega
 have hne : (w.heap.size) ≠ (w.heap.size + 1) := by omega
 have hwe : w.heap.size ≤ (w.heap.size) := by omega
 have hwr : w.heap.size ≤ (w.heap.size + 1) := by omega
 have hee := HXe.out.2.2
 have hrr := HXr.out.2.2
 go_region_held3 (fun w' => (∀ o, w'.cell? ⟨(w16.heap.size), o, none⟩ = [.string y3, .int .i64 0, .int .i64 y4, .string y6, .string y8][o]?) ∧ ∀ o, w'.cell? ⟨(w22.heap.size), o, none⟩ = [.string u3, .string u4, .int .i64 u5][o]?) (first | exact ⟨(by (repeat (first | (with_reducible refine NewBox.alloc ?_ _) | (with_reducible refine NewBox.drew ?_) | (with_reducible refine NewBox.far (by omega) _ ?_))); with_reducible exact H3.out.b1 : NewBox _ _ [.string y3, .int .i64 0, .int .i64 y4, .string y6, .string y8]).2.1, (by (repeat (first | (with_reducible refine NewBox.alloc ?_ _) | (with_reducible refine NewBox.drew ?_) | (with_reducible refine NewBox.far (by omega) _ ?_))); with_reducible exact H3.out.b2 : NewBox _ _ [.string u3, .string u4, .int .i64 u5]).2.1⟩ | exact ⟨(by (repeat (first | (with_reducible refine NewBox.alloc ?_ _) | (with_reducible refine NewBox.drew ?_) | (with_reducible refine NewBox.far (by omega) _ ?_))); with_reducible exact H2.out.b1 : NewBox _ _ [.string y3, .int .i64 0, .int .i64 y4, .string y6, .string y8]).2.1, (by (repeat (first | (with_reducible refine NewBox.alloc ?_ _) | (with_reducible refine NewBox.drew ?_) | (with_reducible refine NewBox.far (by omega) _ ?_))); with_reducible exact H2.out.b2 : NewBox _ _ [.string u3, .string u4, .int .i64 u5]).2.1⟩ | exact ⟨(by (repeat (first | (with_reducible refine NewBox.alloc ?_ _) | (with_reducible refine NewBox.drew ?_) | (with_reducible refine NewBox.far (by omega) _ ?_))); with_reducible exact H1.out.b1 : NewBox _ _ [.string y3, .int .i64 0, .int .i64 y4, .string y6, .string y8]).2.1, (by (repeat (first | (with_reducible refine NewBox.alloc ?_ _) | (with_reducible refine NewBox.drew ?_) | (with_reducible refine NewBox.far (by omega) _ ?_))); with_reducible exact H1.out.b2 : NewBox _ _ [.string u3, .string u4, .int .i64 u5]).2.1⟩ | exact ⟨(by (repeat (first | (with_reducible refine NewBox.alloc ?_ _) | (with_reducible refine NewBox.drew ?_) | (with_reducible refine NewBox.far (by omega) _ ?_))); with_reducible exact H0.out.b1 : NewBox _ _ [.string y3, .int .i64 0, .int .i64 y4, .string y6, .string y8]).2.1, (by (repeat (first | (with_reducible refine NewBox.alloc ?_ _) | (with_reducible refine NewBox.drew ?_) | (with_reducible refine NewBox.far (by omega) _ ?_))); with_reducible exact H0.out.b2 : NewBox _ _ [.string u3, .string u4, .int .i64 u5]).2.1⟩) (first | ((go_at_call_of 34 (Value.int .i64 2); refine (l01Below_c w1.heap.size n g 0 w1.heap.size B l 2 _ (CodeK.get (DdS.c (by (repeat (first | (with_reducible refine DdS.alloc ?_ _) | (with_reducible refine DdS.drew ?_))); exact H0.out : DdS w _ w1.heap.size ((w16.heap.size)) ((w22.heap.size)) ((w.heap.size)) ((w.heap.size + 1)) [.string y3, .int .i64 0, .int .i64 y4, .string y6, .string y8] [.string u3, .string u4, .int .i64 u5] [.string ⟨#[]⟩, .int .i64 0, .int .i64 0, .string ⟨#[]⟩, .string ⟨#[]⟩] [.string ⟨#[]⟩, .string ⟨#[]⟩, .int .i64 0] (B, n, g) l))) (by omega) (by omega)).mono ?_; rintro e v1 ⟨t1, rfl, _, _, hc1, ho1⟩; have H1 := Lib.hid (DdS.next (by (repeat (first | (with_reducible refine DdS.alloc ?_ _) | (with_reducible refine DdS.drew ?_))); exact H0.out : DdS w _ w1.heap.size ((w16.heap.size)) ((w22.heap.size)) ((w.heap.size)) ((w.heap.size + 1)) [.string y3, .int .i64 0, .int .i64 y4, .string y6, .string y8] [.string u3, .string u4, .int .i64 u5] [.string ⟨#[]⟩, .int .i64 0, .int .i64 0, .string ⟨#[]⟩, .string ⟨#[]⟩] [.string ⟨#[]⟩, .string ⟨#[]⟩, .int .i64 0] (B, n, g) l) hc1 ho1); clear hc1 ho1)) | ((go_at_call_of 34 (Value.int .i64 60); refine (l01Below_c w1.heap.size n g 0 w1.heap.size B l 60 _ (CodeK.get (DdS.c (by (repeat (first | (with_reducible refine DdS.alloc ?_ _) | (with_reducible refine DdS.drew ?_))); exact H1.out : DdS w _ w1.heap.size ((w16.heap.size)) ((w22.heap.size)) ((w.heap.size)) ((w.heap.size + 1)) [.string y3, .int .i64 0, .int .i64 y4, .string y6, .string y8] [.string u3, .string u4, .int .i64 u5] [.string ⟨#[]⟩, .int .i64 0, .int .i64 0, .string ⟨#[]⟩, .string ⟨#[]⟩] [.string ⟨#[]⟩, .string ⟨#[]⟩, .int .i64 0] (B, n, g) l))) (by omega) (by omega)).mono ?_; rintro e v2 ⟨t2, rfl, _, _, hc2, ho2⟩; have H2 := Lib.hid (DdS.next (by (repeat (first | (with_reducible refine DdS.alloc ?_ _) | (with_reducible refine DdS.drew ?_))); exact H1.out : DdS w _ w1.heap.size ((w16.heap.size)) ((w22.heap.size)) ((w.heap.size)) ((w.heap.size + 1)) [.string y3, .int .i64 0, .int .i64 y4, .string y6, .string y8] [.string u3, .string u4, .int .i64 u5] [.string ⟨#[]⟩, .int .i64 0, .int .i64 0, .string ⟨#[]⟩, .string ⟨#[]⟩] [.string ⟨#[]⟩, .string ⟨#[]⟩, .int .i64 0] (B, n, g) l) hc2 ho2); clear hc2 ho2)) | ((go_at_call_of 34 (Value.int .i64 4); refine (l01Below_c w1.heap.size n g 0 w1.heap.size B l 4 _ (CodeK.get (DdS.c (by (repeat (first | (with_reducible refine DdS.alloc ?_ _) | (with_reducible refine DdS.drew ?_))); exact H2.out : DdS w _ w1.heap.size ((w16.heap.size)) ((w22.heap.size)) ((w.heap.size)) ((w.heap.size + 1)) [.string y3, .int .i64 0, .int .i64 y4, .string y6, .string y8] [.string u3, .string u4, .int .i64 u5] [.string ⟨#[]⟩, .int .i64 0, .int .i64 0, .string ⟨#[]⟩, .string ⟨#[]⟩] [.string ⟨#[]⟩, .string ⟨#[]⟩, .int .i64 0] (B, n, g) l))) (by omega) (by omega)).mono ?_; rintro e v3 ⟨t3, rfl, _, _, hc3, ho3⟩; have H3 := Lib.hid (DdS.next (by (repeat (first | (with_reducible refine DdS.alloc ?_ _) | (with_reducible refine DdS.drew ?_))); exact H2.out : DdS w _ w1.heap.size ((w16.heap.size)) ((w22.heap.size)) ((w.heap.size)) ((w.heap.size + 1)) [.string y3, .int .i64 0, .int .i64 y4, .string y6, .string y8] [.string u3, .string u4, .int .i64 u5] [.string ⟨#[]⟩, .int .i64 0, .int .i64 0, .string ⟨#[]⟩, .string ⟨#[]⟩] [.string ⟨#[]⟩, .string ⟨#[]⟩, .int .i64 0] (B, n, g) l) hc3 ho3); have hye := H3.out.b3.2.1; have hyf := H3.out.b3.2.2; have hyk := H3.out.b3.1; have hze := H3.out.b4.2.1; have hzf := H3.out.b4.2.2; have hzk := H3.out.b4.1; clear hc3 ho3)))
 all_goals
  go_wp2
  refine bodyPost_named (fun wz hw => ?_)
  have HZE : Hid (NewBox wz (w.heap.size) [.string y3, .int .i64 0, .int .i64 y4, .string y6, .string y8]) := by rw [Hid, hw]; apply NewBox.cast; (focus ((repeat (first | (with_reducible apply NewBox.alloc) | (with_reducible apply NewBox.drew) | (with_reducible apply NewBox.set1) | ((with_reducible apply NewBox.far); (focus (first | omega | (simp; done) | (simp; omega)))))); exact H3.out.b3)); rfl
  have HZR : Hid (NewBox wz (w.heap.size + 1) [.string u3, .string u4, .int .i64 u5]) := by rw [Hid, hw]; apply NewBox.cast; (focus ((repeat (first | (with_reducible apply NewBox.alloc) | (with_reducible apply NewBox.drew) | (with_reducible apply NewBox.set1) | ((with_reducible apply NewBox.far); (focus (first | omega | (simp; done) | (simp; omega)))))); exact H3.out.b4)); rfl
  have HZB : Hid (Below w.heap.size w wz) := by rw [Hid, hw]; (repeat (first | ((with_reducible refine Below.alloc ?_ ?_ _); rotate_left 1; (focus (first | omega | (have := H3.out.on.size; simp; omega)))) | (with_reducible refine Below.drew ?_) | ((with_reducible refine Below.setCell ?_ ?_ _); rotate_left 1; (focus (first | omega | (simp; done) | (simp; omega)))))); exact H3.out.on
  clear hw hye hyf hyk hze hzf hzk
  have hxe2 := HZE.out.2.1
  have hxr2 := HZR.out.2.1
  refine bodyPost_ret (v := .tuple #[.int .i64 kd, .agg #[.string y3, .int .i64 0, .int .i64 y4, .string y6, .string y8], .agg #[.string u3, .string u4, .int .i64 u5], .slice (some ⟨_, 0, none⟩) 3 3]) (by simp [results, Try.results15, go_sem, hxe2, hxr2]; rfl) rfl ?_
  exact ⟨kd, ⟨y3, 0, y4, y6, y8⟩, ⟨u3, u4, u5⟩, _, rfl, ⟨⟨k0, k1⟩, HXE.out, HXR.out⟩, HZB.out⟩
end Go.Proofs.Ytoccjgcokffkbaa
