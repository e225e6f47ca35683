/- Part 33 of the proof of FnWrites: lemmas and contracts. -/
import Derived.Test.YtoccjgcokffkbaaGreatTw27
import Derived.Test.YtoccjgcokffkbaaGreatTw29
import Derived.Test.YtoccjgcokffkbaaGreatTw32
namespace Go.Proofs.YtoccjgcokffkbaaGreat
set_option linter.unusedVariables false
set_option linter.unusedSimpArgs false
set_option maxHeartbeats 20000000
set_option maxRecDepth 100000
section
open Go.RowKit
theorem aB.smIs {width : Int} {es : List Ent} {rs : List Rcp} {hs : List Hd} (h : aB width es rs hs) (hl : hs.length < 400) :
  smZ1 width (ae hs).size (pk1 width es hs) (ae hs).taken (pk2 width rs hs) (ae hs) (aF width (es.drop (ae hs).size.toNat)) (aM width (rs.drop (ae hs).taken.toNat)) = (eU width es rs hs).size ∧
  smL1 width (ae hs).size (pk1 width es hs) (ae hs).taken (pk2 width rs hs) (ae hs) (aF width (es.drop (ae hs).size.toNat)) (aM width (rs.drop (ae hs).taken.toNat)) = pk1 width es (hs ++ [eU width es rs hs]) ∧
  smZ2 width (ae hs).size (pk1 width es hs) (ae hs).taken (pk2 width rs hs) (ae hs) (aF width (es.drop (ae hs).size.toNat)) (aM width (rs.drop (ae hs).taken.toNat)) = (eU width es rs hs).taken ∧
  smL2 width (ae hs).size (pk1 width es hs) (ae hs).taken (pk2 width rs hs) (ae hs) (aF width (es.drop (ae hs).size.toNat)) (aM width (rs.drop (ae hs).taken.toNat)) = pk2 width rs (hs ++ [eU width es rs hs]) ∧
  smH width (ae hs).size (pk1 width es hs) (ae hs).taken (pk2 width rs hs) (ae hs) (aF width (es.drop (ae hs).size.toNat)) (aM width (rs.drop (ae hs).taken.toNat)) = eU width es rs hs ∧
  smCode width (ae hs).size (pk1 width es hs) (ae hs).taken (pk2 width rs hs) (ae hs) (aF width (es.drop (ae hs).size.toNat)) (aM width (rs.drop (ae hs).taken.toNat)) = 0 := by
 obtain ⟨s1, s2, s3, s4⟩ := h.sm hl
 have k := Go.Proofs.YtoccjgcokffkbaaGreat.smIs s1
 obtain ⟨b1, b2, b3, b4, b5, b6, b7⟩ := h.last
 obtain ⟨p1, p2⟩ := pk_next h
 refine ⟨?_, ?_, ?_, ?_, ?_, k.a6⟩
 ·rw [k.a1, bK, List.length_drop]; show _ = (es.length : Int); omega
 ·rw [k.a2, s2, p1]
 ·rw [k.a3, bP, List.length_drop]; show _ = (rs.length : Int); omega
 ·rw [k.a4, s3, p2]
 rw [k.a5, s4]
theorem l12SealP_c (width : Int) (E R H A1 A2 : Option Addr) (ne nr nh ce cr ch c1 c2 m1 m2 : Nat) (es : List Ent) (rs : List Rcp) (hs : List Hd) (l1 l2 : List ByteArray) (h : Hd) (lo hi : Nat) (w : World) (hk : aH w lo hi ⟨E, R, H, A1, A2, ce, cr, ch, c1, c2⟩ ⟨width, es, rs, hs⟩) (hne : es.length = ne) (hnr : rs.length = nr) (hnh : hs.length = nh) (hl1 : pk1 width es hs = l1) (hl2 : pk2 width rs hs = l2) (hm1 : l1.length = m1) (hm2 : l2.length = m2) (hh : ae hs = h) :
  Calls Tryz.prog 59 #[.agg #[.int .i64 width, .slice E ne ce, .slice R nr cr, .slice H nh ch, .int .i64 h.size, .slice A1 m1 c1, .int .i64 h.taken, .slice A2 m2 c2, .int .i64 h.num, .int .i64 h.size, .string h.root, .int .i64 h.taken, .string h.troot]] w fun e w' => ∃ (a' : Bk) (m' : Bm) (L : Option Addr) (q g : Nat) (code : Int), e = .returned (.tuple #[.agg #[.int .i64 m'.width, .slice a'.E m'.es.length a'.ce, .slice a'.R m'.rs.length a'.cr, .slice a'.H m'.hs.length a'.ch, .int .i64 (ae m'.hs).size, .slice a'.A1 (pk1 m'.width m'.es m'.hs).length a'.c1, .int .i64 (ae m'.hs).taken, .slice a'.A2 (pk2 m'.width m'.rs m'.hs).length a'.c2, .int .i64 (ae m'.hs).num, .int .i64 (ae m'.hs).size, .string (ae m'.hs).root, .int .i64 (ae m'.hs).taken, .string (ae m'.hs).troot], .slice L q g, .int .i64 code]) ∧ gF w w' ⟨width, es, rs, hs⟩ a' m' code := by
 obtain ⟨f1, f2, f3, g1, g2, g3, g4, f4, g5, g6, g7⟩ := cK hk.ok
 have hlast := hk.ok.last
 have hpos := hk.ok.pos
 dsimp only at f1 f2 f3 g1 g2 g3 g4 f4 g5 g6 g7 hlast hpos
 rw [hne] at g1 hlast
 rw [hnr] at g2 hlast
 rw [hnh] at g3 g4 hpos
 rw [hh] at f4 g5 hlast
 rw [hl1, hm1] at g6
 rw [hl2, hm2] at g7
 have HLA := lH (fun W (rr : aH W 0 W.heap.size ⟨E, R, H, A1, A2, ce, cr, ch, c1, c2⟩ ⟨width, es, rs, hs⟩) => l12Last_c width h.size h.taken E R H A1 A2 ne nr nh ce cr ch c1 c2 0 W.heap.size m1 m2 hs h W rr.rH hnh (by omega) (by omega))
 rw [hh] at HLA
 have kE := hk.kE
 have kR := hk.kR
 have hok : aB width es rs hs := hk.ok
 have HOK := lH hok
 have HN1 := lH (show A1 = none → c1 = 0 from hk.n1)
 have HN2 := lH (show A2 = none → c2 = 0 from hk.n2)
 clear hok
 have HNR := lH hnr
 have HNH := lH hnh
 have HNE := lH hne
 have HHH := lH hh
 have HFE := lH f1
 have HFR := lH f2
 have HFH := lH f3
 have HQ1 := lH hl1
 have HQ2 := lH hl2
 have HM1 := lH hm1
 have HM2 := lH hm2
 have HF4 := lH f4
 have kE2 : ne ≤ ce := by have h7 := hk.kE; dsimp only at h7; omega
 have kR2 : nr ≤ cr := by have h7 := hk.kR; dsimp only at h7; omega
 clear kE kR
 have HB : Hid (Below w.heap.size w w) := Below.refl _ _
 have HOB : Hid (aH w (0) (w.heap.size) (⟨E, R, H, A1, A2, ce, cr, ch, c1, c2⟩) (⟨width, es, rs, hs⟩)) := lH hk.base
 clear hk f1 f2 f3 f4 hne hnr hnh hl1 hl2 hm1 hm2 hh
 go_enter Tryz.func59, Tryz.ntmps59
 go_wp2_with fail
 refine af (fun w1 hw => ?_)
 have hz1 : w.heap.size + 2 ≤ w1.heap.size := zA
 have hbn : Below w.heap.size w w1 := zB
 replace HB := bT HB hbn
 replace HOB := lH (HOB.out.below hbn)
 clear hbn
 have HXb : Hid (aa w1 (w.heap.size) [.int .i64 width, .slice E ne ce, .slice R nr cr, .slice H nh ch, .int .i64 h.size, .slice A1 m1 c1, .int .i64 h.taken, .slice A2 m2 c2, .int .i64 h.num, .int .i64 h.size, .string h.root, .int .i64 h.taken, .string h.troot]) := zG13
 obtain ⟨hkb, hxb, hfb⟩ := HXb.out
 have HXq : Hid (aa w1 (w.heap.size + 1) [.int .i64 0, .slice none 0 0, .slice none 0 0, .slice none 0 0, .int .i64 0, .slice none 0 0, .int .i64 0, .slice none 0 0, .int .i64 0, .int .i64 0, .string ⟨#[]⟩, .int .i64 0, .string ⟨#[]⟩]) := zG13
 obtain ⟨hkq, hxq, hfq⟩ := HXq.out
 clear hw
 refine (HLA.out _ HOB.out.base).mono ?_
 rintro e w2 ⟨rfl, hb⟩
 have hzw2 : w1.heap.size ≤ w2.heap.size := hb.size
 replace HB := bT HB hb
 replace HOB := lH (HOB.out.below hb)
 replace HXb := nB HXb hb
 clear hxb hfb hkb
 obtain ⟨hkb, hxb, hfb⟩ := HXb.out
 replace HXq := nB HXq hb
 clear hxq hfq hkq
 obtain ⟨hkq, hxq, hfq⟩ := HXq.out
 clear hb
 clear HLA
 by_cases hno : h.size = (ne : Int) ∧ h.taken = (nr : Int)
 ·have hd1 : (h.size == (ne : Int)) = true := beq_iff_eq.2 hno.1
  have hd2 : (h.taken == (nr : Int)) = true := beq_iff_eq.2 hno.2
  clear hno; go_wp2
  refine ag (fun w3 hw => ?_)
  have hz3 : w2.heap.size + 1 ≤ w3.heap.size := zA
  replace HB : Hid (Below w.heap.size w w3) := zC HB
  replace HOB : Hid (aH w3 (0) (w.heap.size) (⟨E, R, H, A1, A2, ce, cr, ch, c1, c2⟩) (⟨width, es, rs, hs⟩)) := zLBrkK HOB
  replace HXb := nE w3 HXb
  clear hxb hfb hkb; obtain ⟨hkb, hxb, hfb⟩ := HXb.out
  replace HXq : Hid (aa w3 (w.heap.size + 1) [.int .i64 0, .slice none 0 0, .slice none 0 0, .slice none 0 0, .int .i64 0, .slice none 0 0, .int .i64 0, .slice none 0 0, .int .i64 0, .int .i64 0, .string ⟨#[]⟩, .int .i64 0, .string ⟨#[]⟩]) := zD HXq
  clear hxq hfq hkq; obtain ⟨hkq, hxq, hfq⟩ := HXq.out
  have HXx : Hid (aa w3 (w2.heap.size) [.int .i64 h.num, .int .i64 h.size, .string h.root, .int .i64 h.taken, .string h.troot]) := zG5
  obtain ⟨hkx, hxx, hfx⟩ := HXx.out; clear hw
  refine bodyPost_ret (v := .tuple #[.agg #[.int .i64 0, .slice none 0 0, .slice none 0 0, .slice none 0 0, .int .i64 0, .slice none 0 0, .int .i64 0, .slice none 0 0, .int .i64 0, .int .i64 0, .string ⟨#[]⟩, .int .i64 0, .string ⟨#[]⟩], .slice (some ⟨w2.heap.size + 1, 0, none⟩) 0 0, .int .i64 2]) (by simp [results, Tryz.results59, go_sem, hxq]) rfl ?_
  exact ⟨zeroBk, zeroBm, _, 0, 0, 2, rfl, gF.no (by decide) HB.out⟩
 go_upto_region 2 with fail
 refine aC (fun w3 hw => ?_)
 have hz3 : w2.heap.size + 1 ≤ w3.heap.size := zA
 have hbn : Below w2.heap.size w2 w3 := zB
 replace HB := bT HB hbn
 replace HOB := lH (HOB.out.below hbn)
 replace HXb := nB HXb hbn
 clear hxb hfb hkb
 obtain ⟨hkb, hxb, hfb⟩ := HXb.out
 replace HXq := nB HXq hbn
 clear hxq hfq hkq
 obtain ⟨hkq, hxq, hfq⟩ := HXq.out
 clear hbn
 have HXx : Hid (aa w3 (w2.heap.size) [.int .i64 h.num, .int .i64 h.size, .string h.root, .int .i64 h.taken, .string h.troot]) := zG5
 obtain ⟨hkx, hxx, hfx⟩ := HXx.out
 clear hw
 go_cut [28] (fun v wx => v = .bool false ∧ w3 = wx)
 case first =>
  by_cases h1 : h.size = (ne : Int)
  ·have hd1 : (h.size == (ne : Int)) = true := beq_iff_eq.2 h1
   have hd2 : (h.taken == (nr : Int)) = false := beq_eq_false_iff_ne.2 (fun e => hno ⟨h1, e⟩)
   clear hno h1
   go_wp2_with fail
   go_meet
   exact ⟨rfl, rfl⟩
  have hd1 : (h.size == (ne : Int)) = false := beq_eq_false_iff_ne.2 h1
  clear hno h1
  go_wp2_with fail
  go_meet
  exact ⟨rfl, rfl⟩
 case rest =>
  obtain ⟨rfl, hwc⟩ := hcut; subst hwc; clear hno
  by_cases h4 : nh = 400
  ·have hd1 : ((nh : Int) == 400) = true := beq_iff_eq.2 (by omega)
   clear h4; go_wp2
   refine ag (fun w4 hw => ?_)
   have hz4 : w3.heap.size + 0 ≤ w4.heap.size := zA
   replace HB : Hid (Below w.heap.size w w4) := zC HB
   replace HOB : Hid (aH w4 (0) (w.heap.size) (⟨E, R, H, A1, A2, ce, cr, ch, c1, c2⟩) (⟨width, es, rs, hs⟩)) := zLBrkK HOB
   replace HXb := nE w4 HXb
   clear hxb hfb hkb; obtain ⟨hkb, hxb, hfb⟩ := HXb.out
   replace HXq : Hid (aa w4 (w.heap.size + 1) [.int .i64 0, .slice none 0 0, .slice none 0 0, .slice none 0 0, .int .i64 0, .slice none 0 0, .int .i64 0, .slice none 0 0, .int .i64 0, .int .i64 0, .string ⟨#[]⟩, .int .i64 0, .string ⟨#[]⟩]) := zD HXq
   clear hxq hfq hkq; obtain ⟨hkq, hxq, hfq⟩ := HXq.out
   replace HXx := nE w4 HXx
   clear hxx hfx hkx; obtain ⟨hkx, hxx, hfx⟩ := HXx.out; clear hw
   refine bodyPost_ret (v := .tuple #[.agg #[.int .i64 0, .slice none 0 0, .slice none 0 0, .slice none 0 0, .int .i64 0, .slice none 0 0, .int .i64 0, .slice none 0 0, .int .i64 0, .int .i64 0, .string ⟨#[]⟩, .int .i64 0, .string ⟨#[]⟩], .slice (some ⟨w3.heap.size, 0, none⟩) 0 0, .int .i64 3]) (by simp [results, Tryz.results59, go_sem, hxq]) rfl ?_
   exact ⟨zeroBk, zeroBm, _, 0, 0, 3, rfl, gF.no (by decide) HB.out⟩
  have hd1 : ((nh : Int) == 400) = false := beq_eq_false_iff_ne.2 (by omega)
  have h4l : nh < 400 := by omega
  clear h4
  obtain ⟨lo6, hlo6, hlo6'⟩ : ∃ n, n ≤ w3.heap.size ∧ w3.heap.size ≤ n := ⟨_, Nat.le_refl _, Nat.le_refl _⟩
  obtain ⟨sz, hsz⟩ : ∃ n : Nat, h.size = n := ⟨h.size.toNat, by omega⟩
  obtain ⟨tk, htk⟩ : ∃ n : Nat, h.taken = n := ⟨h.taken.toNat, by omega⟩
  have hnx := HOK.out.seal_ (by rw [HNH.out]; omega)
  obtain ⟨s1, s2, s3, s4, s5, s6⟩ := HOK.out.smIs (by rw [HNH.out]; omega)
  rw [HHH.out, HQ1.out, HQ2.out] at s1 s2 s3 s4 s5 s6
  obtain ⟨_, _, _, _, _, _, _, hxf, hxb, hp1l, hp2l⟩ := cK hnx
  rw [dS] at hxf hxb
  have t1 : h.size.toNat = sz := by omega
  have t2 : h.taken.toNat = tk := by omega
  rw [t1, t2] at s1 s2 s3 s4 s5 s6
  generalize eU width es rs hs = x at *
  have HP1 : Hid (pk1 width es (hs ++ [x]) = pk1 width es (hs ++ [x])) := lH rfl
  have HP2 : Hid (pk2 width rs (hs ++ [x]) = pk2 width rs (hs ++ [x])) := lH rfl
  generalize hp1 : pk1 width es (hs ++ [x]) = p1 at s1 s2 s3 s4 s5 s6 hp1l HP1
  generalize hp2 : pk2 width rs (hs ++ [x]) = p2 at s1 s2 s3 s4 s5 s6 hp2l HP2
  have HHS := lH (fun W (rr : aH W 0 W.heap.size ⟨E, R, H, A1, A2, ce, cr, ch, c1, c2⟩ ⟨width, es, rs, hs⟩) => l09Hashes_c width (cutX 5 E sz ce) (ce - sz) 0 W.heap.size (ne - sz) (es.drop sz) W (sufE_rd rr.rE sz ce (by rw [HNE.out]; omega)) (by rw [List.length_drop, HNE.out]) (by omega) (fun y hy => HFE.out y (List.mem_of_mem_drop hy)))
  have HHT := lH (fun W (rr : aH W 0 W.heap.size ⟨E, R, H, A1, A2, ce, cr, ch, c1, c2⟩ ⟨width, es, rs, hs⟩) => l12Taken_c width (cutX 3 R tk cr) (cr - tk) 0 W.heap.size (nr - tk) (rs.drop tk) W (sufR_rd rr.rR tk cr (by rw [HNR.out]; omega)) (by rw [List.length_drop, HNR.out]) (by omega) (fun y hy => HFR.out y (List.mem_of_mem_drop hy)))
  have HSM := fun W A5 c5 A6 c6 (rr : aH W 0 W.heap.size ⟨E, R, H, A1, A2, ce, cr, ch, c1, c2⟩ ⟨width, es, rs, hs⟩) r3 r4 => specSealMore_c width h.size h.taken A1 A2 c1 c2 0 W.heap.size 0 W.heap.size m1 m2 l1 l2 h A5 A6 c5 c6 0 W.heap.size 0 W.heap.size (ne - sz) (nr - tk) (aF width (es.drop sz)) (aM width (rs.drop tk)) W (HQ1.out ▸ rr.r1) (HQ2.out ▸ rr.r2) r3 r4 HM1.out HM2.out (by rw [bK, List.length_drop, HNE.out]) (by rw [bP, List.length_drop, HNR.out]) (by omega) (by omega) (by omega) (by omega) HN1.out HN2.out (by constructor <;> omega) (by constructor <;> omega) (by omega)
  rw [s1, s2, s3, s4, s5, s6] at HSM
  generalize smN width h.size l1 h.taken l2 h (aF width (es.drop sz)) (aM width (rs.drop tk)) = nn at *
  have hs1 := fun W => sufXE E ne ce sz (by omega) kE2 W
  have hs2 := fun W => sufXR R nr cr tk (by omega) kR2 W
  rw [← hsz] at hs1
  rw [← htk] at hs2
  change Hid (∀ W (rr : aH W 0 W.heap.size ⟨E, R, H, A1, A2, ce, cr, ch, c1, c2⟩ ⟨width, es, rs, hs⟩), Calls _ _ _ W fun e w' => ∃ A' c', e = .returned (.slice A' (ne - sz) c') ∧ w'.ownsRow W.heap.size 9 1 (.slice A' (ne - sz) c') (ne - sz) (strs (aF width (es.drop sz))) ∧ Below W.heap.size W w') at HHS
  change Hid (∀ W (rr : aH W 0 W.heap.size ⟨E, R, H, A1, A2, ce, cr, ch, c1, c2⟩ ⟨width, es, rs, hs⟩), Calls _ _ _ W fun e w' => ∃ A' c', e = .returned (.slice A' (nr - tk) c') ∧ w'.ownsRow W.heap.size 9 1 (.slice A' (nr - tk) c') (nr - tk) (strs (aM width (rs.drop tk))) ∧ Below W.heap.size W w') at HHT
  replace HSM := lH HSM
  have HCP := lH (fun W (r : aH W 0 W.heap.size ⟨E, R, H, A1, A2, ce, cr, ch, c1, c2⟩ ⟨width, es, rs, hs⟩) => l12CopyP_c width h.size h.taken E R H A1 A2 ne nr nh ce cr ch c1 c2 m1 m2 es rs hs l1 l2 h W r.rE r.rR r.rH (HQ1.out ▸ r.r1) (HQ2.out ▸ r.r2) HNE.out HNR.out HNH.out HM1.out HM2.out (by omega) (by omega) (by omega) (by omega) (by omega) r.nE r.nR r.nH r.n1 r.n2)
  have HWR := lH (fun W (r : aH W 0 W.heap.size ⟨E, R, H, A1, A2, ce, cr, ch, c1, c2⟩ ⟨width, es, rs, hs⟩) s hs2 => l12WriteP_c width E R H A1 A2 ne nr nh ce cr ch c1 c2 m1 m2 es rs hs l1 l2 h 0 W.heap.size 1 s W r HNE.out HNR.out HNH.out HQ1.out HQ2.out HM1.out HM2.out HHH.out (by omega) hs2)
  have HTX := lH (fun W => specHeadText_c width x W (by omega))
  have hts := il width x
  have hbl : (⟨es, rs, hs, l1, l2⟩ : Bl) = Bm.bl ⟨width, es, rs, hs⟩ := by show _ = Bl.mk es rs hs _ _; rw [HQ1.out, HQ2.out]
  have HBL := lH hbl
  have HNX := lH hnx
  have HE1 := lH hp1
  have HE2 := lH hp2
  clear hbl hnx hp1 hp2 s1 s2 s3 s4 s5 s6 hsz htk t1 t2 hxf HP1 HP2 HFE HFR HFH HN1 HN2 HM1 HM2 HF4; generalize aL width x = tx at *; generalize bE width x = ok at *
  generalize aF width (es.drop sz) = L at *
  generalize aM width (rs.drop tk) = T at *
  generalize cutX 5 E sz ce = E5 at *; generalize cutX 3 R tk cr = R5 at *
  generalize ne - sz = k5 at *
  generalize nr - tk = k6 at *
  generalize ce - sz = g5 at *
  generalize cr - tk = g6 at *
  go_wp2_with fail
  refine aC (fun w4 hw => ?_)
  have hz4 : w3.heap.size + 0 ≤ w4.heap.size := zA
  have hbn : Below w3.heap.size w3 w4 := zB
  replace HB := bT HB hbn; replace HOB := lH (HOB.out.below hbn); replace HXb := nB HXb hbn; clear hxb hfb hkb; obtain ⟨hkb, hxb, hfb⟩ := HXb.out; replace HXq := nB HXq hbn; clear hxq hfq hkq; obtain ⟨hkq, hxq, hfq⟩ := HXq.out; replace HXx := nB HXx hbn; clear hxx hfx hkx; obtain ⟨hkx, hxx, hfx⟩ := HXx.out; clear hbn; clear hw
  obtain ⟨F, HF⟩ : ∃ F : Facts, Hid (F = fun iq xq tqs dsq uq => match iq with
   | 0 => xq.v = .pointer (some ⟨(w.heap.size), 0, none⟩)
   | 1 => xq.v = .int .i64 width
   | 2 => xq.v = .pointer (some ⟨(w.heap.size), 4, none⟩)
   | 3 => xq.v = .agg #[.int .i64 h.size, .slice A1 m1 c1, .int .i64 h.taken, .slice A2 m2 c2, .int .i64 h.num, .int .i64 h.size, .string h.root, .int .i64 h.taken, .string h.troot]
   | 4 => xq.v = .pointer (some ⟨(w.heap.size), 0, none⟩)
   | 5 => xq.v = .int .i64 width
   | 6 => xq.v = .pointer (some ⟨(w.heap.size), 1, none⟩)
   | 7 => xq.v = .pointer (some ⟨(w.heap.size), 1, none⟩)
   | 8 => xq.v = .slice E ne ce
   | 9 => xq.v = .pointer (some ⟨(w2.heap.size), 1, none⟩)
   | 10 => xq.v = .int .i64 h.size
   | 11 => xq.v = .slice E5 k5 g5
   | 12 => ∃ (A5 : Option Addr) (c5 : Nat), xq.v = .slice A5 k5 c5 ∧ (Own uq xq.s xq.e A5 (strs L))
   | 13 => xq.v = .pointer (some ⟨(w.heap.size), 0, none⟩)
   | 14 => xq.v = .int .i64 width
   | 15 => xq.v = .pointer (some ⟨(w.heap.size), 2, none⟩)
   | 16 => xq.v = .slice R nr cr
   | 17 => xq.v = .pointer (some ⟨(w2.heap.size), 3, none⟩)
   | 18 => xq.v = .int .i64 h.taken
   | 19 => xq.v = .slice R5 k6 g6
   | 20 => ∃ (A6 : Option Addr) (c6 : Nat), xq.v = .slice A6 k6 c6 ∧ (Own uq xq.s xq.e A6 (strs T))
   | 21 => ∃ (B1 : Option Addr) (d1 : Nat) (B2 : Option Addr) (d2 : Nat), xq.v = .tuple #[.agg #[.int .i64 x.size, .slice B1 p1.length d1, .int .i64 x.taken, .slice B2 p2.length d2, .int .i64 x.num, .int .i64 x.size, .string x.root, .int .i64 x.taken, .string x.troot], .int .i64 nn, .int .i64 0] ∧ (Own uq xq.s xq.e B1 (strs p1)) ∧ (Own uq xq.s xq.e B2 (strs p2)) ∧ ((B1 = none → d1 = 0) ∧ (B2 = none → d2 = 0))
   | 22 => (match tqs, dsq with | [], [yq0] => ∃ (B1 : Option Addr) (d1 : Nat) (B2 : Option Addr) (d2 : Nat), yq0.v = .tuple #[.agg #[.int .i64 x.size, .slice B1 p1.length d1, .int .i64 x.taken, .slice B2 p2.length d2, .int .i64 x.num, .int .i64 x.size, .string x.root, .int .i64 x.taken, .string x.troot], .int .i64 nn, .int .i64 0] ∧ xq.v = .tuple #[.agg #[.int .i64 x.size, .slice B1 p1.length d1, .int .i64 x.taken, .slice B2 p2.length d2, .int .i64 x.num, .int .i64 x.size, .string x.root, .int .i64 x.taken, .string x.troot], .int .i64 nn, .int .i64 0] | _, _ => False)
   | 23 => (match tqs, dsq with | [], [yq0] => ∃ (B1 : Option Addr) (d1 : Nat) (B2 : Option Addr) (d2 : Nat), yq0.v = .tuple #[.agg #[.int .i64 x.size, .slice B1 p1.length d1, .int .i64 x.taken, .slice B2 p2.length d2, .int .i64 x.num, .int .i64 x.size, .string x.root, .int .i64 x.taken, .string x.troot], .int .i64 nn, .int .i64 0] ∧ xq.v = .agg #[.int .i64 x.size, .slice B1 p1.length d1, .int .i64 x.taken, .slice B2 p2.length d2, .int .i64 x.num, .int .i64 x.size, .string x.root, .int .i64 x.taken, .string x.troot] | _, _ => False)
   | 24 => (match tqs, dsq with | [], [yq0] => ∃ (B1 : Option Addr) (d1 : Nat) (B2 : Option Addr) (d2 : Nat), yq0.v = .tuple #[.agg #[.int .i64 x.size, .slice B1 p1.length d1, .int .i64 x.taken, .slice B2 p2.length d2, .int .i64 x.num, .int .i64 x.size, .string x.root, .int .i64 x.taken, .string x.troot], .int .i64 nn, .int .i64 0] ∧ xq.v = .int .i64 nn | _, _ => False)
   | 25 => (match tqs, dsq with | [], [yq0] => ∃ (B1 : Option Addr) (d1 : Nat) (B2 : Option Addr) (d2 : Nat), yq0.v = .tuple #[.agg #[.int .i64 x.size, .slice B1 p1.length d1, .int .i64 x.taken, .slice B2 p2.length d2, .int .i64 x.num, .int .i64 x.size, .string x.root, .int .i64 x.taken, .string x.troot], .int .i64 nn, .int .i64 0] ∧ xq.v = .int .i64 0 | _, _ => False)
   | 26 => xq.v = .pointer (some ⟨xq.s, 0, none⟩) ∧ xq.s < xq.e ∧ aa uq xq.s [.int .i64 0, .slice none 0 0, .int .i64 0, .slice none 0 0, .int .i64 0, .int .i64 0, .string ⟨#[]⟩, .int .i64 0, .string ⟨#[]⟩]
   | 27 => (match tqs, dsq with | [tq0], [yq0] => tq0.v = .pointer (some ⟨tq0.s, 0, none⟩) ∧ tq0.s < tq0.e ∧ ∃ (B1 : Option Addr) (d1 : Nat) (B2 : Option Addr) (d2 : Nat), yq0.v = .tuple #[.agg #[.int .i64 x.size, .slice B1 p1.length d1, .int .i64 x.taken, .slice B2 p2.length d2, .int .i64 x.num, .int .i64 x.size, .string x.root, .int .i64 x.taken, .string x.troot], .int .i64 nn, .int .i64 0] ∧ aa uq tq0.s [.int .i64 x.size, .slice B1 p1.length d1, .int .i64 x.taken, .slice B2 p2.length d2, .int .i64 x.num, .int .i64 x.size, .string x.root, .int .i64 x.taken, .string x.troot] | _, _ => False)
   | 28 => (match tqs, dsq with | [], [yq0] => ∃ (B1 : Option Addr) (d1 : Nat) (B2 : Option Addr) (d2 : Nat), yq0.v = .tuple #[.agg #[.int .i64 x.size, .slice B1 p1.length d1, .int .i64 x.taken, .slice B2 p2.length d2, .int .i64 x.num, .int .i64 x.size, .string x.root, .int .i64 x.taken, .string x.troot], .int .i64 nn, .int .i64 0] ∧ xq.v = .int .i64 nn | _, _ => False)
   | 29 => (match tqs, dsq with | [], [yq0] => ∃ (B1 : Option Addr) (d1 : Nat) (B2 : Option Addr) (d2 : Nat), yq0.v = .tuple #[.agg #[.int .i64 x.size, .slice B1 p1.length d1, .int .i64 x.taken, .slice B2 p2.length d2, .int .i64 x.num, .int .i64 x.size, .string x.root, .int .i64 x.taken, .string x.troot], .int .i64 nn, .int .i64 0] ∧ xq.v = .int .i64 0 | _, _ => False)
   | _ => False) := ⟨_, rfl⟩
  refine aX [[], [], [], [], [], [], [], [], [], [], [], [], [], [], [], [], [], [], [], [], [], [], [21], [21], [21], [21], [], [21], [21], [21]] [[], [], [], [], [], [], [], [], [], [], [], [], [], [], [], [], [], [], [], [], [], [], [], [], [], [], [], [26], [], []] [some 38, some 39, some 40, some 41, some 42, some 43, some 44, some 45, some 46, some 47, some 48, some 49, some 50, some 51, some 52, some 53, some 54, some 55, some 56, some 57, some 58, some 59, some 37, some 60, some 61, some 62, some 6, none, some 7, some 8] none 0 0 (.inl rfl) F (by kernel_rfl) (by kernel_rfl) (by kernel_rfl) ?_ ⟨?_, ?_, ?_, ?_, ?_, ?_, ?_, ?_, ?_, ?_, ?_, ?_, ?_, ?_, ?_, ?_, ?_, ?_, ?_, ?_, ?_, ?_, ?_, ?_, ?_, ?_, ?_, ?_, ?_, ?_, trivial⟩ ?_
  ·rw [HF.out]; intro iq xq tqs dsq uq u' hi hf hs hW hx hbk
   have kx : ∀ b, xq.s ≤ b → b < xq.e → u'.heap[b]? = uq.heap[b]? := fun b h1 h2 => hbk b (.inr (.inl ⟨h1, h2⟩))
   have kt : ∀ t ∈ tqs, ∀ b, t.s ≤ b → b < t.e → u'.heap[b]? = uq.heap[b]? := fun t ht b h1 h2 => hbk b (.inr (.inr ⟨t, ht, h1, h2⟩))
   match iq with
   | 0 | 1 => exact hf
   | 2 | 3 => exact hf
   | 4 | 5 => exact hf
   | 6 | 7 => exact hf
   | 8 | 9 => exact hf
   | 10 | 11 => exact hf
   | 12 => obtain ⟨A5, c5, hv, p0⟩ := hf; exact ⟨A5, c5, hv, p0.keep hs kx⟩
   | 13 | 14 => exact hf
   | 15 | 16 => exact hf
   | 17 | 18 | 19 => exact hf
   | 20 => obtain ⟨A6, c6, hv, p0⟩ := hf; exact ⟨A6, c6, hv, p0.keep hs kx⟩
   | 21 => obtain ⟨B1, d1, B2, d2, hv, p0, p1, p2⟩ := hf; exact ⟨B1, d1, B2, d2, hv, p0.keep hs kx, p1.keep hs kx, p2⟩
   | 22 | 23 => exact hf
   | 24 | 25 => exact hf
   | 26 => exact ⟨hf.1, hf.2.1, hf.2.2.keep hs (kx _ (Nat.le_refl _) hf.2.1)⟩
   | 27 => match tqs, dsq, hf with | [tq0], [yq0], hf => obtain ⟨h1, h2, B1, d1, B2, d2, hvr21, hb⟩ := hf; exact ⟨h1, h2, B1, d1, B2, d2, hvr21, hb.keep hs (kt tq0 List.mem_cons_self _ (Nat.le_refl _) h2)⟩
   | 28 | 29 => exact hf
  ·intro gh ρ u _ _ _ hd h0 hb he ha hF
   have r1 : ρ (.tmp 1) = .pointer (some ⟨w.heap.size, 0, none⟩) := (h0 1 (by decide +kernel)).trans rfl
   clear hd h0 he ha hF; go_simp; exact fE HF rfl
  ·intro gh ρ u _ _ _ hd h0 hb he ha hF
   replace hb := hb.drew.below (by decide +kernel)
   have hbz := hb.size
   have r38 : ρ (.tmp 38) = .pointer (some ⟨(w.heap.size), 0, none⟩) := fH (hd 0) 38 (fG HF (hF 0))
   obtain ⟨k_b, q_b, -⟩ := HXb.out.below hb
   obtain ⟨k_x, q_x, -⟩ := HXx.out.below hb
   clear hd h0 he ha hF; go_simp; exact fE HF rfl
  ·intro gh ρ u _ _ _ hd h0 hb he ha hF
   have r1 : ρ (.tmp 1) = .pointer (some ⟨w.heap.size, 0, none⟩) := (h0 1 (by decide +kernel)).trans rfl
   clear hd h0 he ha hF; go_simp; exact fE HF rfl
  ·intro gh ρ u _ _ _ hd h0 hb he ha hF
   replace hb := hb.drew.below (by decide +kernel)
   have hbz := hb.size
   have r40 : ρ (.tmp 40) = .pointer (some ⟨(w.heap.size), 4, none⟩) := fH (hd 2) 40 (fG HF (hF 2))
   obtain ⟨k_b, q_b, -⟩ := HXb.out.below hb
   obtain ⟨k_x, q_x, -⟩ := HXx.out.below hb
   clear hd h0 he ha hF; go_simp; exact fE HF rfl
  ·intro gh ρ u _ _ _ hd h0 hb he ha hF
   have r1 : ρ (.tmp 1) = .pointer (some ⟨w.heap.size, 0, none⟩) := (h0 1 (by decide +kernel)).trans rfl
   clear hd h0 he ha hF; go_simp; exact fE HF rfl
  ·intro gh ρ u _ _ _ hd h0 hb he ha hF
   replace hb := hb.drew.below (by decide +kernel)
   have hbz := hb.size
   have r42 : ρ (.tmp 42) = .pointer (some ⟨(w.heap.size), 0, none⟩) := fH (hd 4) 42 (fG HF (hF 4))
   obtain ⟨k_b, q_b, -⟩ := HXb.out.below hb
   obtain ⟨k_x, q_x, -⟩ := HXx.out.below hb
   clear hd h0 he ha hF; go_simp; exact fE HF rfl
  ·intro gh ρ u _ _ _ hd h0 hb he ha hF
   have r1 : ρ (.tmp 1) = .pointer (some ⟨w.heap.size, 0, none⟩) := (h0 1 (by decide +kernel)).trans rfl
   clear hd h0 he ha hF; go_simp; exact fE HF rfl
  ·intro gh ρ u _ _ _ hd h0 hb he ha hF
   have r44 : ρ (.tmp 44) = .pointer (some ⟨(w.heap.size), 1, none⟩) := fH (hd 6) 44 (fG HF (hF 6))
   clear hd h0 he ha hF; go_simp; exact fE HF rfl
  ·intro gh ρ u _ _ _ hd h0 hb he ha hF
   replace hb := hb.drew.below (by decide +kernel)
   have hbz := hb.size
   have r45 : ρ (.tmp 45) = .pointer (some ⟨(w.heap.size), 1, none⟩) := fH (hd 7) 45 (fG HF (hF 7))
   obtain ⟨k_b, q_b, -⟩ := HXb.out.below hb
   obtain ⟨k_x, q_x, -⟩ := HXx.out.below hb
   clear hd h0 he ha hF; go_simp; exact fE HF rfl
  ·intro gh ρ u _ _ _ hd h0 hb he ha hF
   have r5 : ρ (.tmp 5) = .pointer (some ⟨w2.heap.size, 0, none⟩) := (h0 5 (by decide +kernel)).trans rfl
   clear hd h0 he ha hF; go_simp; exact fE HF rfl
  ·intro gh ρ u _ _ _ hd h0 hb he ha hF
   replace hb := hb.drew.below (by decide +kernel)
   have hbz := hb.size
   have r47 : ρ (.tmp 47) = .pointer (some ⟨(w2.heap.size), 1, none⟩) := fH (hd 9) 47 (fG HF (hF 9))
   obtain ⟨k_b, q_b, -⟩ := HXb.out.below hb
   obtain ⟨k_x, q_x, -⟩ := HXx.out.below hb
   clear hd h0 he ha hF; go_simp; exact fE HF rfl
  ·intro gh ρ u _ _ _ hd h0 hb he ha hF
   have r46 : ρ (.tmp 46) = .slice E ne ce := fH (hd 8) 46 (fG HF (hF 8))
   have r48 : ρ (.tmp 48) = .int .i64 h.size := fH (hd 10) 48 (fG HF (hF 10))
   clear hd h0 he ha hF; go_simp; exact fE HF rfl
  ·intro gh ρ u _ _ _ hd h0 hb he ha hF
   replace hb := hb.drew.below (by decide +kernel)
   have hbz := hb.size
   have r43 : ρ (.tmp 43) = .int .i64 width := fH (hd 5) 43 (fG HF (hF 5))
   have r49 : ρ (.tmp 49) = .slice E5 k5 g5 := fH (hd 11) 49 (fG HF (hF 11))
   clear hd h0 he ha hF; go_simp
   have q_b := (HXb.out.below hb)
   have q_x := (HXx.out.below hb)
   refine (HHS.out _ (HOB.out.below hb).base).mono ?_
   rintro e u1 ⟨A5, c5, rfl, ho, hb1⟩
   rw [HF.out]
   exact ⟨_, rfl, aS.of_below hb1, A5, c5, rfl, Own.bn ho⟩
  ·intro gh ρ u _ _ _ hd h0 hb he ha hF
   have r1 : ρ (.tmp 1) = .pointer (some ⟨w.heap.size, 0, none⟩) := (h0 1 (by decide +kernel)).trans rfl
   clear hd h0 he ha hF; go_simp; exact fE HF rfl
  ·intro gh ρ u _ _ _ hd h0 hb he ha hF
   replace hb := hb.drew.below (by decide +kernel)
   have hbz := hb.size
   have r51 : ρ (.tmp 51) = .pointer (some ⟨(w.heap.size), 0, none⟩) := fH (hd 13) 51 (fG HF (hF 13))
   obtain ⟨k_b, q_b, -⟩ := HXb.out.below hb
   obtain ⟨k_x, q_x, -⟩ := HXx.out.below hb
   clear hd h0 he ha hF; go_simp; exact fE HF rfl
  ·intro gh ρ u _ _ _ hd h0 hb he ha hF
   have r1 : ρ (.tmp 1) = .pointer (some ⟨w.heap.size, 0, none⟩) := (h0 1 (by decide +kernel)).trans rfl
   clear hd h0 he ha hF; go_simp; exact fE HF rfl
  ·intro gh ρ u _ _ _ hd h0 hb he ha hF
   replace hb := hb.drew.below (by decide +kernel)
   have hbz := hb.size
   have r53 : ρ (.tmp 53) = .pointer (some ⟨(w.heap.size), 2, none⟩) := fH (hd 15) 53 (fG HF (hF 15))
   obtain ⟨k_b, q_b, -⟩ := HXb.out.below hb
   obtain ⟨k_x, q_x, -⟩ := HXx.out.below hb
   clear hd h0 he ha hF; go_simp; exact fE HF rfl
  ·intro gh ρ u _ _ _ hd h0 hb he ha hF
   have r5 : ρ (.tmp 5) = .pointer (some ⟨w2.heap.size, 0, none⟩) := (h0 5 (by decide +kernel)).trans rfl
   clear hd h0 he ha hF; go_simp; exact fE HF rfl
  ·intro gh ρ u _ _ _ hd h0 hb he ha hF
   replace hb := hb.drew.below (by decide +kernel)
   have hbz := hb.size
   have r55 : ρ (.tmp 55) = .pointer (some ⟨(w2.heap.size), 3, none⟩) := fH (hd 17) 55 (fG HF (hF 17))
   obtain ⟨k_b, q_b, -⟩ := HXb.out.below hb
   obtain ⟨k_x, q_x, -⟩ := HXx.out.below hb
   clear hd h0 he ha hF; go_simp; exact fE HF rfl
  ·intro gh ρ u _ _ _ hd h0 hb he ha hF
   have r54 : ρ (.tmp 54) = .slice R nr cr := fH (hd 16) 54 (fG HF (hF 16))
   have r56 : ρ (.tmp 56) = .int .i64 h.taken := fH (hd 18) 56 (fG HF (hF 18))
   clear hd h0 he ha hF; go_simp; exact fE HF rfl
  ·intro gh ρ u _ _ _ hd h0 hb he ha hF
   replace hb := hb.drew.below (by decide +kernel)
   have hbz := hb.size
   have r52 : ρ (.tmp 52) = .int .i64 width := fH (hd 14) 52 (fG HF (hF 14))
   have r57 : ρ (.tmp 57) = .slice R5 k6 g6 := fH (hd 19) 57 (fG HF (hF 19))
   clear hd h0 he ha hF; go_simp
   have q_b := (HXb.out.below hb)
   have q_x := (HXx.out.below hb)
   refine (HHT.out _ (HOB.out.below hb).base).mono ?_
   rintro e u1 ⟨A6, c6, rfl, ho, hb1⟩
   rw [HF.out]
   exact ⟨_, rfl, aS.of_below hb1, A6, c6, rfl, Own.bn ho⟩
  ·intro gh ρ u _ _ _ hd h0 hb he ha hF
   replace hb := hb.drew.below (by decide +kernel)
   have hbz := hb.size
   have r39 : ρ (.tmp 39) = .int .i64 width := fH (hd 1) 39 (fG HF (hF 1))
   have r41 : ρ (.tmp 41) = .agg #[.int .i64 h.size, .slice A1 m1 c1, .int .i64 h.taken, .slice A2 m2 c2, .int .i64 h.num, .int .i64 h.size, .string h.root, .int .i64 h.taken, .string h.troot] := fH (hd 3) 41 (fG HF (hF 3))
   have f12 : ∃ (A5 : Option Addr) (c5 : Nat), (gh 12).v = .slice A5 k5 c5 ∧ (Own u (gh 12).s (gh 12).e A5 (strs L)) := fG HF (hF 12)
   obtain ⟨A5, c5, hv12, g12_0⟩ := f12
   have r50 : ρ (.tmp 50) = .slice A5 k5 c5 := (hd 12 (by decide +kernel) 50 (by kernel_rfl)).trans hv12
   have f20 : ∃ (A6 : Option Addr) (c6 : Nat), (gh 20).v = .slice A6 k6 c6 ∧ (Own u (gh 20).s (gh 20).e A6 (strs T)) := fG HF (hF 20)
   obtain ⟨A6, c6, hv20, g20_0⟩ := f20
   have r58 : ρ (.tmp 58) = .slice A6 k6 c6 := (hd 20 (by decide +kernel) 58 (by kernel_rfl)).trans hv20
   clear hv12 hv20 hd h0 he ha hF; go_simp
   have q_b := (HXb.out.below hb)
   have q_x := (HXx.out.below hb)
   refine (HSM.out _ A5 c5 A6 c6 (HOB.out.below hb).base g12_0.rd.base g20_0.rd.base).mono ?_
   rintro e u1 ⟨B1, d1, av, bv, B2, d2, aw, bw, rfl, ⟨hv1, hv2, hv3, hv4⟩, ⟨hw1, hw2, hw3, hw4⟩, hdv, hb1⟩
   rw [HF.out]
   exact ⟨_, rfl, aS.of_below hb1, B1, d1, B2, d2, rfl, hv3.mono hv1 hv2 (Nat.le_refl _), hw3.mono hw1 hw2 (Nat.le_refl _), ⟨hv4, hw4⟩⟩
  ·intro gh ρ u _ _ _ hd h0 hb he ha hF
   have f21 : ∃ (B1 : Option Addr) (d1 : Nat) (B2 : Option Addr) (d2 : Nat), (gh 21).v = .tuple #[.agg #[.int .i64 x.size, .slice B1 p1.length d1, .int .i64 x.taken, .slice B2 p2.length d2, .int .i64 x.num, .int .i64 x.size, .string x.root, .int .i64 x.taken, .string x.troot], .int .i64 nn, .int .i64 0] ∧ (Own u (gh 21).s (gh 21).e B1 (strs p1)) ∧ (Own u (gh 21).s (gh 21).e B2 (strs p2)) ∧ ((B1 = none → d1 = 0) ∧ (B2 = none → d2 = 0)) := fG HF (hF 21)
   obtain ⟨B1, d1, B2, d2, hv21, g21_0, g21_1, g21_2⟩ := f21; have hrt21 := hv21
   have r59 : ρ (.tmp 59) = .tuple #[.agg #[.int .i64 x.size, .slice B1 p1.length d1, .int .i64 x.taken, .slice B2 p2.length d2, .int .i64 x.num, .int .i64 x.size, .string x.root, .int .i64 x.taken, .string x.troot], .int .i64 nn, .int .i64 0] := (hd 21 (by decide +kernel) 59 (by kernel_rfl)).trans hv21
   have HRT21 := lH hrt21
   clear hv21 hrt21 hd h0 he ha hF; go_simp
   rw [HF.out]
   exact ⟨aS.refl _ _, B1, d1, B2, d2, HRT21.out, rfl⟩
  ·intro gh ρ u _ _ _ hd h0 hb he ha hF
   have f22 : ∃ (B1 : Option Addr) (d1 : Nat) (B2 : Option Addr) (d2 : Nat), (gh 21).v = .tuple #[.agg #[.int .i64 x.size, .slice B1 p1.length d1, .int .i64 x.taken, .slice B2 p2.length d2, .int .i64 x.num, .int .i64 x.size, .string x.root, .int .i64 x.taken, .string x.troot], .int .i64 nn, .int .i64 0] ∧ (gh 22).v = .tuple #[.agg #[.int .i64 x.size, .slice B1 p1.length d1, .int .i64 x.taken, .slice B2 p2.length d2, .int .i64 x.num, .int .i64 x.size, .string x.root, .int .i64 x.taken, .string x.troot], .int .i64 nn, .int .i64 0] := fG HF (hF 22)
   obtain ⟨B1, d1, B2, d2, hrt21, hv22⟩ := f22
   have r37 : ρ (.tmp 37) = .tuple #[.agg #[.int .i64 x.size, .slice B1 p1.length d1, .int .i64 x.taken, .slice B2 p2.length d2, .int .i64 x.num, .int .i64 x.size, .string x.root, .int .i64 x.taken, .string x.troot], .int .i64 nn, .int .i64 0] := (hd 22 (by decide +kernel) 37 (by kernel_rfl)).trans hv22
   have HRT21 := lH hrt21
   clear hv22 hrt21 hd h0 he ha hF; go_simp
   rw [HF.out]
   exact ⟨aS.refl _ _, B1, d1, B2, d2, HRT21.out, rfl⟩
  ·intro gh ρ u _ _ _ hd h0 hb he ha hF
   have f22 : ∃ (B1 : Option Addr) (d1 : Nat) (B2 : Option Addr) (d2 : Nat), (gh 21).v = .tuple #[.agg #[.int .i64 x.size, .slice B1 p1.length d1, .int .i64 x.taken, .slice B2 p2.length d2, .int .i64 x.num, .int .i64 x.size, .string x.root, .int .i64 x.taken, .string x.troot], .int .i64 nn, .int .i64 0] ∧ (gh 22).v = .tuple #[.agg #[.int .i64 x.size, .slice B1 p1.length d1, .int .i64 x.taken, .slice B2 p2.length d2, .int .i64 x.num, .int .i64 x.size, .string x.root, .int .i64 x.taken, .string x.troot], .int .i64 nn, .int .i64 0] := fG HF (hF 22)
   obtain ⟨B1, d1, B2, d2, hrt21, hv22⟩ := f22
   have r37 : ρ (.tmp 37) = .tuple #[.agg #[.int .i64 x.size, .slice B1 p1.length d1, .int .i64 x.taken, .slice B2 p2.length d2, .int .i64 x.num, .int .i64 x.size, .string x.root, .int .i64 x.taken, .string x.troot], .int .i64 nn, .int .i64 0] := (hd 22 (by decide +kernel) 37 (by kernel_rfl)).trans hv22
   have HRT21 := lH hrt21
   clear hv22 hrt21 hd h0 he ha hF; go_simp
   rw [HF.out]
   exact ⟨aS.refl _ _, B1, d1, B2, d2, HRT21.out, rfl⟩
  ·intro gh ρ u _ _ _ hd h0 hb he ha hF
   have f22 : ∃ (B1 : Option Addr) (d1 : Nat) (B2 : Option Addr) (d2 : Nat), (gh 21).v = .tuple #[.agg #[.int .i64 x.size, .slice B1 p1.length d1, .int .i64 x.taken, .slice B2 p2.length d2, .int .i64 x.num, .int .i64 x.size, .string x.root, .int .i64 x.taken, .string x.troot], .int .i64 nn, .int .i64 0] ∧ (gh 22).v = .tuple #[.agg #[.int .i64 x.size, .slice B1 p1.length d1, .int .i64 x.taken, .slice B2 p2.length d2, .int .i64 x.num, .int .i64 x.size, .string x.root, .int .i64 x.taken, .string x.troot], .int .i64 nn, .int .i64 0] := fG HF (hF 22)
   obtain ⟨B1, d1, B2, d2, hrt21, hv22⟩ := f22
   have r37 : ρ (.tmp 37) = .tuple #[.agg #[.int .i64 x.size, .slice B1 p1.length d1, .int .i64 x.taken, .slice B2 p2.length d2, .int .i64 x.num, .int .i64 x.size, .string x.root, .int .i64 x.taken, .string x.troot], .int .i64 nn, .int .i64 0] := (hd 22 (by decide +kernel) 37 (by kernel_rfl)).trans hv22
   have HRT21 := lH hrt21
   clear hv22 hrt21 hd h0 he ha hF; go_simp
   rw [HF.out]
   exact ⟨aS.refl _ _, B1, d1, B2, d2, HRT21.out, rfl⟩
  ·intro gh ρ u _ _ _ hd h0 hb he ha hF
   replace hb := hb.drew.below (by decide +kernel)
   have hbz := hb.size; clear hd h0 he ha hF; go_simp
   rw [HF.out]
   exact ⟨aS.of_below ((Below.refl _ _).alloc (Nat.le_refl _) _), rfl, by simp, aa.new _ _ _⟩
  ·intro gh ρ u _ _ _ hd h0 hb he ha hF
   replace hb := hb.drew.below (by decide +kernel)
   have hbz := hb.size
   have f26 : (gh 26).v = .pointer (some ⟨(gh 26).s, 0, none⟩) ∧ (gh 26).s < (gh 26).e ∧ aa u (gh 26).s [.int .i64 0, .slice none 0 0, .int .i64 0, .slice none 0 0, .int .i64 0, .int .i64 0, .string ⟨#[]⟩, .int .i64 0, .string ⟨#[]⟩] := fG HF (hF 26)
   obtain ⟨hv26, hpl, hpz, hpc, hpf⟩ := f26
   have r6 : ρ (.tmp 6) = .pointer (some ⟨(gh 26).s, 0, none⟩) := (hd 26 (by decide +kernel) 6 (by kernel_rfl)).trans hv26
   have HP := lH hv26
   have f23 : ∃ (B1 : Option Addr) (d1 : Nat) (B2 : Option Addr) (d2 : Nat), (gh 21).v = .tuple #[.agg #[.int .i64 x.size, .slice B1 p1.length d1, .int .i64 x.taken, .slice B2 p2.length d2, .int .i64 x.num, .int .i64 x.size, .string x.root, .int .i64 x.taken, .string x.troot], .int .i64 nn, .int .i64 0] ∧ (gh 23).v = .agg #[.int .i64 x.size, .slice B1 p1.length d1, .int .i64 x.taken, .slice B2 p2.length d2, .int .i64 x.num, .int .i64 x.size, .string x.root, .int .i64 x.taken, .string x.troot] := fG HF (hF 23)
   obtain ⟨B1, d1, B2, d2, hrt21, hv23⟩ := f23
   have r60 : ρ (.tmp 60) = .agg #[.int .i64 x.size, .slice B1 p1.length d1, .int .i64 x.taken, .slice B2 p2.length d2, .int .i64 x.num, .int .i64 x.size, .string x.root, .int .i64 x.taken, .string x.troot] := (hd 23 (by decide +kernel) 60 (by kernel_rfl)).trans hv23
   have HRT21 := lH hrt21
   obtain ⟨_, _, _⟩ := he 26 (by decide +kernel)
   clear hv26 hv23 hrt21 hd h0 he ha hF; go_simp
   rw [HF.out]
   refine ⟨?_, HP.out, hpl, B1, d1, B2, d2, HRT21.out, ?_⟩
   ·refine aS.of_only (t := gh 26) ?_; (iterate 9 refine Only.setCell ?_ (by exact Nat.le_refl _) (by exact hpl) _); exact Only.refl _ _ _
   show aa _ (gh 26).s _
   exact ⟨by simpa [World.setCell] using hpz, fun o => by rcases o with _ | _ | _ | _ | _ | _ | _ | _ | _ | o <;> go_simp, fun o => by go_simp⟩
  ·intro gh ρ u _ _ _ hd h0 hb he ha hF
   have f24 : ∃ (B1 : Option Addr) (d1 : Nat) (B2 : Option Addr) (d2 : Nat), (gh 21).v = .tuple #[.agg #[.int .i64 x.size, .slice B1 p1.length d1, .int .i64 x.taken, .slice B2 p2.length d2, .int .i64 x.num, .int .i64 x.size, .string x.root, .int .i64 x.taken, .string x.troot], .int .i64 nn, .int .i64 0] ∧ (gh 24).v = .int .i64 nn := fG HF (hF 24)
   obtain ⟨B1, d1, B2, d2, hrt21, hv24⟩ := f24
   have r61 : ρ (.tmp 61) = .int .i64 nn := (hd 24 (by decide +kernel) 61 (by kernel_rfl)).trans hv24
   have HRT21 := lH hrt21
   clear hv24 hrt21 hd h0 he ha hF; go_simp
   rw [HF.out]
   exact ⟨aS.refl _ _, B1, d1, B2, d2, HRT21.out, rfl⟩
  ·intro gh ρ u _ _ _ hd h0 hb he ha hF
   have f25 : ∃ (B1 : Option Addr) (d1 : Nat) (B2 : Option Addr) (d2 : Nat), (gh 21).v = .tuple #[.agg #[.int .i64 x.size, .slice B1 p1.length d1, .int .i64 x.taken, .slice B2 p2.length d2, .int .i64 x.num, .int .i64 x.size, .string x.root, .int .i64 x.taken, .string x.troot], .int .i64 nn, .int .i64 0] ∧ (gh 25).v = .int .i64 0 := fG HF (hF 25)
   obtain ⟨B1, d1, B2, d2, hrt21, hv25⟩ := f25
   have r62 : ρ (.tmp 62) = .int .i64 0 := (hd 25 (by decide +kernel) 62 (by kernel_rfl)).trans hv25
   have HRT21 := lH hrt21
   clear hv25 hrt21 hd h0 he ha hF; go_simp
   rw [HF.out]
   exact ⟨aS.refl _ _, B1, d1, B2, d2, HRT21.out, rfl⟩
  intro gh w5 hB hE hA hF
  replace hB : Below w4.heap.size w4 w5 := hB.below rfl
  have f0 : (gh 0).v = .pointer (some ⟨(w.heap.size), 0, none⟩) := fG HF (hF 0)
  have f1 : (gh 1).v = .int .i64 width := fG HF (hF 1)
  have f2 : (gh 2).v = .pointer (some ⟨(w.heap.size), 4, none⟩) := fG HF (hF 2)
  have f3 : (gh 3).v = .agg #[.int .i64 h.size, .slice A1 m1 c1, .int .i64 h.taken, .slice A2 m2 c2, .int .i64 h.num, .int .i64 h.size, .string h.root, .int .i64 h.taken, .string h.troot] := fG HF (hF 3)
  have f4 : (gh 4).v = .pointer (some ⟨(w.heap.size), 0, none⟩) := fG HF (hF 4)
  have f5 : (gh 5).v = .int .i64 width := fG HF (hF 5)
  have f6 : (gh 6).v = .pointer (some ⟨(w.heap.size), 1, none⟩) := fG HF (hF 6)
  have f7 : (gh 7).v = .pointer (some ⟨(w.heap.size), 1, none⟩) := fG HF (hF 7)
  have f8 : (gh 8).v = .slice E ne ce := fG HF (hF 8)
  have f9 : (gh 9).v = .pointer (some ⟨(w2.heap.size), 1, none⟩) := fG HF (hF 9)
  have f10 : (gh 10).v = .int .i64 h.size := fG HF (hF 10)
  have f11 : (gh 11).v = .slice E5 k5 g5 := fG HF (hF 11)
  have f12 : ∃ (A5 : Option Addr) (c5 : Nat), (gh 12).v = .slice A5 k5 c5 ∧ (Own w5 (gh 12).s (gh 12).e A5 (strs L)) := fG HF (hF 12)
  have f13 : (gh 13).v = .pointer (some ⟨(w.heap.size), 0, none⟩) := fG HF (hF 13)
  have f14 : (gh 14).v = .int .i64 width := fG HF (hF 14)
  have f15 : (gh 15).v = .pointer (some ⟨(w.heap.size), 2, none⟩) := fG HF (hF 15)
  have f16 : (gh 16).v = .slice R nr cr := fG HF (hF 16)
  have f17 : (gh 17).v = .pointer (some ⟨(w2.heap.size), 3, none⟩) := fG HF (hF 17)
  have f18 : (gh 18).v = .int .i64 h.taken := fG HF (hF 18)
  have f19 : (gh 19).v = .slice R5 k6 g6 := fG HF (hF 19)
  have f20 : ∃ (A6 : Option Addr) (c6 : Nat), (gh 20).v = .slice A6 k6 c6 ∧ (Own w5 (gh 20).s (gh 20).e A6 (strs T)) := fG HF (hF 20)
  have f21 : ∃ (B1 : Option Addr) (d1 : Nat) (B2 : Option Addr) (d2 : Nat), (gh 21).v = .tuple #[.agg #[.int .i64 x.size, .slice B1 p1.length d1, .int .i64 x.taken, .slice B2 p2.length d2, .int .i64 x.num, .int .i64 x.size, .string x.root, .int .i64 x.taken, .string x.troot], .int .i64 nn, .int .i64 0] ∧ (Own w5 (gh 21).s (gh 21).e B1 (strs p1)) ∧ (Own w5 (gh 21).s (gh 21).e B2 (strs p2)) ∧ ((B1 = none → d1 = 0) ∧ (B2 = none → d2 = 0)) := fG HF (hF 21)
  have f22 : ∃ (B1 : Option Addr) (d1 : Nat) (B2 : Option Addr) (d2 : Nat), (gh 21).v = .tuple #[.agg #[.int .i64 x.size, .slice B1 p1.length d1, .int .i64 x.taken, .slice B2 p2.length d2, .int .i64 x.num, .int .i64 x.size, .string x.root, .int .i64 x.taken, .string x.troot], .int .i64 nn, .int .i64 0] ∧ (gh 22).v = .tuple #[.agg #[.int .i64 x.size, .slice B1 p1.length d1, .int .i64 x.taken, .slice B2 p2.length d2, .int .i64 x.num, .int .i64 x.size, .string x.root, .int .i64 x.taken, .string x.troot], .int .i64 nn, .int .i64 0] := fG HF (hF 22)
  have f23 : ∃ (B1 : Option Addr) (d1 : Nat) (B2 : Option Addr) (d2 : Nat), (gh 21).v = .tuple #[.agg #[.int .i64 x.size, .slice B1 p1.length d1, .int .i64 x.taken, .slice B2 p2.length d2, .int .i64 x.num, .int .i64 x.size, .string x.root, .int .i64 x.taken, .string x.troot], .int .i64 nn, .int .i64 0] ∧ (gh 23).v = .agg #[.int .i64 x.size, .slice B1 p1.length d1, .int .i64 x.taken, .slice B2 p2.length d2, .int .i64 x.num, .int .i64 x.size, .string x.root, .int .i64 x.taken, .string x.troot] := fG HF (hF 23)
  have f24 : ∃ (B1 : Option Addr) (d1 : Nat) (B2 : Option Addr) (d2 : Nat), (gh 21).v = .tuple #[.agg #[.int .i64 x.size, .slice B1 p1.length d1, .int .i64 x.taken, .slice B2 p2.length d2, .int .i64 x.num, .int .i64 x.size, .string x.root, .int .i64 x.taken, .string x.troot], .int .i64 nn, .int .i64 0] ∧ (gh 24).v = .int .i64 nn := fG HF (hF 24)
  have f25 : ∃ (B1 : Option Addr) (d1 : Nat) (B2 : Option Addr) (d2 : Nat), (gh 21).v = .tuple #[.agg #[.int .i64 x.size, .slice B1 p1.length d1, .int .i64 x.taken, .slice B2 p2.length d2, .int .i64 x.num, .int .i64 x.size, .string x.root, .int .i64 x.taken, .string x.troot], .int .i64 nn, .int .i64 0] ∧ (gh 25).v = .int .i64 0 := fG HF (hF 25)
  have f27 : (gh 26).v = .pointer (some ⟨(gh 26).s, 0, none⟩) ∧ (gh 26).s < (gh 26).e ∧ ∃ (B1 : Option Addr) (d1 : Nat) (B2 : Option Addr) (d2 : Nat), (gh 21).v = .tuple #[.agg #[.int .i64 x.size, .slice B1 p1.length d1, .int .i64 x.taken, .slice B2 p2.length d2, .int .i64 x.num, .int .i64 x.size, .string x.root, .int .i64 x.taken, .string x.troot], .int .i64 nn, .int .i64 0] ∧ aa w5 (gh 26).s [.int .i64 x.size, .slice B1 p1.length d1, .int .i64 x.taken, .slice B2 p2.length d2, .int .i64 x.num, .int .i64 x.size, .string x.root, .int .i64 x.taken, .string x.troot] := fG HF (hF 27)
  have f28 : ∃ (B1 : Option Addr) (d1 : Nat) (B2 : Option Addr) (d2 : Nat), (gh 21).v = .tuple #[.agg #[.int .i64 x.size, .slice B1 p1.length d1, .int .i64 x.taken, .slice B2 p2.length d2, .int .i64 x.num, .int .i64 x.size, .string x.root, .int .i64 x.taken, .string x.troot], .int .i64 nn, .int .i64 0] ∧ (gh 28).v = .int .i64 nn := fG HF (hF 28)
  have f29 : ∃ (B1 : Option Addr) (d1 : Nat) (B2 : Option Addr) (d2 : Nat), (gh 21).v = .tuple #[.agg #[.int .i64 x.size, .slice B1 p1.length d1, .int .i64 x.taken, .slice B2 p2.length d2, .int .i64 x.num, .int .i64 x.size, .string x.root, .int .i64 x.taken, .string x.troot], .int .i64 nn, .int .i64 0] ∧ (gh 29).v = .int .i64 0 := fG HF (hF 29)
  obtain ⟨A5, c5, hv12, _⟩ := f12; obtain ⟨A6, c6, hv20, _⟩ := f20; obtain ⟨B1, d1, B2, d2, hv21, hoA, hoB, hnn⟩ := f21; have hv0 := f0; have hv1 := f1; have hv2 := f2; have hv3 := f3; have hv4 := f4; have hv5 := f5; have hv6 := f6; have hv7 := f7; have hv8 := f8; have hv9 := f9; have hv10 := f10; have hv11 := f11; have hv13 := f13; have hv14 := f14; have hv15 := f15; have hv16 := f16; have hv17 := f17
  have hv18 := f18; have hv19 := f19; obtain ⟨B1_22, d1_22, B2_22, d2_22, hu21, hv22⟩ := f22
  replace hu21 := hv21.symm.trans hu21
  simp at hu21
  try simp only [and_assoc] at hu21
  obtain ⟨rfl, rfl, rfl, rfl⟩ := hu21; obtain ⟨B1_23, d1_23, B2_23, d2_23, hu21, hv23⟩ := f23
  replace hu21 := hv21.symm.trans hu21
  simp at hu21
  try simp only [and_assoc] at hu21
  obtain ⟨rfl, rfl, rfl, rfl⟩ := hu21; obtain ⟨B1_24, d1_24, B2_24, d2_24, hu21, hv24⟩ := f24
  replace hu21 := hv21.symm.trans hu21
  simp at hu21
  try simp only [and_assoc] at hu21
  obtain ⟨rfl, rfl, rfl, rfl⟩ := hu21; obtain ⟨B1_25, d1_25, B2_25, d2_25, hu21, hv25⟩ := f25
  replace hu21 := hv21.symm.trans hu21
  simp at hu21
  try simp only [and_assoc] at hu21
  obtain ⟨rfl, rfl, rfl, rfl⟩ := hu21; obtain ⟨hv26, hl26, f27⟩ := f27; obtain ⟨B1_27, d1_27, B2_27, d2_27, hu21, hx27⟩ := f27
  replace hu21 := hv21.symm.trans hu21
  simp at hu21
  try simp only [and_assoc] at hu21
  obtain ⟨rfl, rfl, rfl, rfl⟩ := hu21; obtain ⟨B1_28, d1_28, B2_28, d2_28, hu21, hv28⟩ := f28
  replace hu21 := hv21.symm.trans hu21
  simp at hu21
  try simp only [and_assoc] at hu21
  obtain ⟨rfl, rfl, rfl, rfl⟩ := hu21; obtain ⟨B1_29, d1_29, B2_29, d2_29, hu21, hv29⟩ := f29
  replace hu21 := hv21.symm.trans hu21
  simp at hu21
  try simp only [and_assoc] at hu21
  obtain ⟨rfl, rfl, rfl, rfl⟩ := hu21
  obtain ⟨hs21, hse21, he21⟩ := hE 21 (by decide +kernel)
  obtain ⟨hs26, hse26, he26⟩ := hE 26 (by decide +kernel)
  have hdj5_21_26 := hA 21 (by decide +kernel) 26 (by decide +kernel) (by decide)
  change w4.heap.size ≤ _ at hs21 hs26
  clear hE hA hF
  simp only [dQ, Nat.reduceAdd, hv0, hv1, hv2, hv3, hv4, hv5, hv6, hv7, hv8, hv9, hv10, hv11, hv12, hv13, hv14, hv15, hv16, hv17, hv18, hv19, hv20, hv21, hv22, hv23, hv24, hv25, hv26, hv28, hv29]
  clear hv0 hv1 hv2 hv3 hv4 hv5 hv6 hv7 hv8 hv9 hv10 hv11 hv12 hv13 hv14 hv15 hv16 hv17 hv18 hv19 hv20 hv21 hv22 hv23 hv24 hv25 hv26 hv28 hv29
  generalize (gh 21).s = s5_21 at *
  generalize (gh 21).e = e5_21 at *
  generalize (gh 26).s = s5_26 at *
  generalize (gh 26).e = e5_26 at *
  clear HF; have hb := hB; clear hB
  have hzw5 : w4.heap.size ≤ w5.heap.size := hb.size
  replace HB := bT HB hb; replace HOB := lH (HOB.out.below hb); replace HXb := nB HXb hb; clear hxb hfb hkb; obtain ⟨hkb, hxb, hfb⟩ := HXb.out; replace HXq := nB HXq hb; clear hxq hfq hkq; obtain ⟨hkq, hxq, hfq⟩ := HXq.out; replace HXx := nB HXx hb; clear hxx hfx hkx; obtain ⟨hkx, hxx, hfx⟩ := HXx.out; clear hb
  have HXs : Hid (aa w5 (s5_26) [.int .i64 x.size, .slice B1 p1.length d1, .int .i64 x.taken, .slice B2 p2.length d2, .int .i64 x.num, .int .i64 x.size, .string x.root, .int .i64 x.taken, .string x.troot]) := hx27
  obtain ⟨hks, hxs, hfs⟩ := HXs.out; clear hx27
  have HNN := lH hnn
  obtain ⟨a6, ha6, ha6'⟩ : ∃ n, n ≤ w5.heap.size ∧ w5.heap.size ≤ n := ⟨_, Nat.le_refl _, Nat.le_refl _⟩
  have HOP1 : Hid (Rd w5 (lo6) (a6) (B1) (strs p1)) := lH (hoA.rd.mono (by omega) (by omega) (by omega))
  have HOP2 : Hid (Rd w5 (lo6) (a6) (B2) (strs p2)) := lH (hoB.rd.mono (by omega) (by omega) (by omega))
  clear hoA hoB hnn hs1 hs2 HHS HHT HSM
  go_wp2_with fail
  refine af (fun w6 hw => ?_)
  have hz6 : w5.heap.size + 0 ≤ w6.heap.size := zA
  have hbn : Below w5.heap.size w5 w6 := zB
  replace HB := bT HB hbn; replace HOB := lH (HOB.out.below hbn); replace HOP1 := lH (HOP1.out.below hbn); replace HOP2 := lH (HOP2.out.below hbn); replace HXb := nB HXb hbn; clear hxb hfb hkb; obtain ⟨hkb, hxb, hfb⟩ := HXb.out; replace HXq := nB HXq hbn; clear hxq hfq hkq; obtain ⟨hkq, hxq, hfq⟩ := HXq.out; replace HXx := nB HXx hbn; clear hxx hfx hkx; obtain ⟨hkx, hxx, hfx⟩ := HXx.out; replace HXs := nB HXs hbn
  clear hxs hfs hks; obtain ⟨hks, hxs, hfs⟩ := HXs.out; clear hbn; clear hw
  refine (HTX.out _).mono ?_
  rintro e w7 ⟨rfl, hb⟩
  have hzw7 : w6.heap.size ≤ w7.heap.size := hb.size
  replace HB := bT HB hb; replace HOB := lH (HOB.out.below hb); replace HOP1 := lH (HOP1.out.below hb); replace HOP2 := lH (HOP2.out.below hb); replace HXb := nB HXb hb; clear hxb hfb hkb; obtain ⟨hkb, hxb, hfb⟩ := HXb.out; replace HXq := nB HXq hb; clear hxq hfq hkq; obtain ⟨hkq, hxq, hfq⟩ := HXq.out; replace HXx := nB HXx hb; clear hxx hfx hkx; obtain ⟨hkx, hxx, hfx⟩ := HXx.out; replace HXs := nB HXs hb
  clear hxs hfs hks; obtain ⟨hks, hxs, hfs⟩ := HXs.out; clear hb; clear HTX
  go_wp2_with fail
  refine af (fun w8 hw => ?_)
  have hz8 : w7.heap.size + 0 ≤ w8.heap.size := zA
  have hbn : Below w7.heap.size w7 w8 := zB
  replace HB := bT HB hbn; replace HOB := lH (HOB.out.below hbn); replace HOP1 := lH (HOP1.out.below hbn); replace HOP2 := lH (HOP2.out.below hbn); replace HXb := nB HXb hbn; clear hxb hfb hkb; obtain ⟨hkb, hxb, hfb⟩ := HXb.out; replace HXq := nB HXq hbn; clear hxq hfq hkq; obtain ⟨hkq, hxq, hfq⟩ := HXq.out; replace HXx := nB HXx hbn; clear hxx hfx hkx; obtain ⟨hkx, hxx, hfx⟩ := HXx.out; replace HXs := nB HXs hbn
  clear hxs hfs hks; obtain ⟨hks, hxs, hfs⟩ := HXs.out; clear hbn; clear hw
  refine (HCP.out _ HOB.out.base).mono ?_
  rintro e w9 ⟨a3, rfl, hcp, hb⟩
  have hzw9 : w8.heap.size ≤ w9.heap.size := hb.size
  replace HB := bT HB hb; replace HOB := lH (HOB.out.below hb); replace HOP1 := lH (HOP1.out.below hb); replace HOP2 := lH (HOP2.out.below hb); replace HXb := nB HXb hb; clear hxb hfb hkb; obtain ⟨hkb, hxb, hfb⟩ := HXb.out; replace HXq := nB HXq hb; clear hxq hfq hkq; obtain ⟨hkq, hxq, hfq⟩ := HXq.out; replace HXx := nB HXx hb; clear hxx hfx hkx; obtain ⟨hkx, hxx, hfx⟩ := HXx.out; replace HXs := nB HXs hb
  clear hxs hfs hks; obtain ⟨hks, hxs, hfs⟩ := HXs.out; clear hb
  have HOC : Hid (bY w9 (w8.heap.size) (w9.heap.size) (a3) (⟨es, rs, hs, l1, l2⟩)) := lH hcp
  clear hcp HCP
  obtain ⟨lo5, hlo5, hlo5'⟩ : ∃ n, n ≤ w8.heap.size ∧ w8.heap.size ≤ n := ⟨_, Nat.le_refl _, Nat.le_refl _⟩
  obtain ⟨hi5, hhi5, hhi5'⟩ : ∃ n, n ≤ w9.heap.size ∧ w9.heap.size ≤ n := ⟨_, Nat.le_refl _, Nat.le_refl _⟩
  have HK5 := lH (HOC.out.mono hlo5 hhi5')
  clear HOC
  have HOC : Hid (bY w9 (lo5) (hi5) (a3) (⟨es, rs, hs, l1, l2⟩)) := lH HK5.out
  clear HK5
  go_upto_region 10 with fail
  refine aC (fun w10 hw => ?_)
  have hz10 : w9.heap.size + 1 ≤ w10.heap.size := zA
  have hbn : Below w9.heap.size w9 w10 := zB
  replace HB := bT HB hbn; replace HOB := lH (HOB.out.below hbn); replace HOP1 := lH (HOP1.out.below hbn); replace HOP2 := lH (HOP2.out.below hbn); replace HOC := lH (HOC.out.below hbn); replace HXb := nB HXb hbn; clear hxb hfb hkb; obtain ⟨hkb, hxb, hfb⟩ := HXb.out; replace HXq := nB HXq hbn; clear hxq hfq hkq; obtain ⟨hkq, hxq, hfq⟩ := HXq.out; replace HXx := nB HXx hbn; clear hxx hfx hkx; obtain ⟨hkx, hxx, hfx⟩ := HXx.out
  replace HXs := nB HXs hbn; clear hxs hfs hks; obtain ⟨hks, hxs, hfs⟩ := HXs.out; clear hbn
  have HXo : Hid (aa w10 (w9.heap.size) [.int .i64 width, .slice a3.E ne a3.ce, .slice a3.R nr a3.cr, .slice a3.H nh a3.ch, .int .i64 x.size, .slice B1 p1.length d1, .int .i64 x.taken, .slice B2 p2.length d2, .int .i64 x.num, .int .i64 x.size, .string x.root, .int .i64 x.taken, .string x.troot]) := zG13
  obtain ⟨hko, hxo, hfo⟩ := HXo.out; clear hw
  have HRR : Hid (aJ w10 lo5 hi5 ((33, 5), .slice a3.H nh a3.ch, nh) (hds hs)) := lH (by have h7 := HOC.out.h; dsimp only at h7; rwa [HNH.out] at h7)
  go_wp2_with (at_builtin; refine app1LHd rfl _ _ rfl lo5 hi5 w10.heap.size _ nh (hds hs) x rfl (HRR.out.alloc _) rfl (aa.new w10 _ _) (by omega) (by simp; omega) (w10.heap.size + 1) (by simp) ?_)
  intro g4 c4 w2_ hg1 hg2 hg3 hrow hg
  have hon := (Only.of_below ((Below.refl _ _).alloc (Nat.le_refl _) _)).trans ((HRR.out.alloc _).onlyG hg)
  have hgr := hg
  rw [← HNH.out] at hgr
  have re := aJ.cast ((HOC.out.e.alloc _).grown hgr HOC.out.eh) (show _ = ((41, 5), Value.slice a3.E ne a3.ce, ne) by dsimp only; rw [HNE.out])
  have rr := aJ.cast ((HOC.out.r.alloc _).grown hgr HOC.out.rh) (show _ = ((43, 3), Value.slice a3.R nr a3.cr, nr) by dsimp only; rw [HNR.out])
  have hzw2_ : w10.heap.size ≤ w2_.heap.size := hon.size
  replace HB := lH (au HB.out hon (by omega) HB.out.size)
  replace HOB := lH (HOB.out.only hon (by first | omega | (simp; omega)))
  replace HOP1 := lH (HOP1.out.only hon (by first | omega | (simp; omega)))
  replace HOP2 := lH (HOP2.out.only hon (by first | omega | (simp; omega)))
  replace HXb := nO HXb hon
  clear hxb hfb hkb; obtain ⟨hkb, hxb, hfb⟩ := HXb.out
  replace HXq := nO HXq hon
  clear hxq hfq hkq; obtain ⟨hkq, hxq, hfq⟩ := HXq.out
  replace HXx := nO HXx hon
  clear hxx hfx hkx; obtain ⟨hkx, hxx, hfx⟩ := HXx.out
  replace HXs := nO HXs hon
  clear hxs hfs hks; obtain ⟨hks, hxs, hfs⟩ := HXs.out
  replace HXo := nO HXo hon
  clear hxo hfo hko; obtain ⟨hko, hxo, hfo⟩ := HXo.out; clear HOC HRR
  have HOE5 : Hid (aJ w2_ (lo5) (hi5) (((41, 5), .slice a3.E ne a3.ce, ne)) (aQ es)) := lH re
  have HOR5 : Hid (aJ w2_ (lo5) (hi5) (((43, 3), .slice a3.R nr a3.cr, nr)) (bf rs)) := lH rr
  have HOH5 : Hid (aJ w2_ (g4) (g4 + 1) (((33, 5), .slice (some ⟨g4, 0, none⟩) (nh + 1) c4, nh + 1)) (hds hs ++ hds [x])) := lH hrow
  clear hon re rr hrow hg hgr
  go_upto_region 11 with fail
  refine aC (fun w11 hw => ?_)
  have hz11 : w2_.heap.size + 0 ≤ w11.heap.size := zA
  replace HB : Hid (Below w.heap.size w w11) := zC HB
  replace HOB : Hid (aH w11 (0) (w.heap.size) (⟨E, R, H, A1, A2, ce, cr, ch, c1, c2⟩) (⟨width, es, rs, hs⟩)) := zLBrkK HOB
  replace HOP1 : Hid (Rd w11 (lo6) (a6) (B1) (strs p1)) := zLRd HOP1
  replace HOP2 : Hid (Rd w11 (lo6) (a6) (B2) (strs p2)) := zLRd HOP2
  replace HOE5 : Hid (aJ w11 (lo5) (hi5) (((41, 5), .slice a3.E ne a3.ce, ne)) (aQ es)) := zLRowT HOE5
  replace HOR5 : Hid (aJ w11 (lo5) (hi5) (((43, 3), .slice a3.R nr a3.cr, nr)) (bf rs)) := zLRowT HOR5
  replace HOH5 : Hid (aJ w11 (g4) (g4 + 1) (((33, 5), .slice (some ⟨g4, 0, none⟩) (nh + 1) c4, nh + 1)) (hds hs ++ hds [x])) := zLRowT HOH5
  replace HXb := nE w11 HXb
  clear hxb hfb hkb; obtain ⟨hkb, hxb, hfb⟩ := HXb.out
  replace HXq := nE w11 HXq
  clear hxq hfq hkq; obtain ⟨hkq, hxq, hfq⟩ := HXq.out
  replace HXx := nE w11 HXx
  clear hxx hfx hkx; obtain ⟨hkx, hxx, hfx⟩ := HXx.out
  replace HXs := nE w11 HXs
  clear hxs hfs hks; obtain ⟨hks, hxs, hfs⟩ := HXs.out
  replace HXo : Hid (aa w11 (w9.heap.size) [.int .i64 width, .slice a3.E ne a3.ce, .slice a3.R nr a3.cr, .slice (some ⟨g4, 0, none⟩) (nh + 1) c4, .int .i64 x.size, .slice B1 p1.length d1, .int .i64 x.taken, .slice B2 p2.length d2, .int .i64 x.num, .int .i64 x.size, .string x.root, .int .i64 x.taken, .string x.troot]) := zD HXo
  clear hxo hfo hko; obtain ⟨hko, hxo, hfo⟩ := HXo.out; clear hw
  obtain ⟨F, HF⟩ : ∃ F : Facts, Hid (F = fun iq xq tqs dsq uq => match iq with
   | 0 => xq.v = .agg #[.int .i64 width, .slice a3.E ne a3.ce, .slice a3.R nr a3.cr, .slice (some ⟨g4, 0, none⟩) (nh + 1) c4, .int .i64 x.size, .slice B1 p1.length d1, .int .i64 x.taken, .slice B2 p2.length d2, .int .i64 x.num, .int .i64 x.size, .string x.root, .int .i64 x.taken, .string x.troot]
   | 1 => xq.v = .agg #[.int .i64 width, .slice E ne ce, .slice R nr cr, .slice H nh ch, .int .i64 h.size, .slice A1 m1 c1, .int .i64 h.taken, .slice A2 m2 c2, .int .i64 h.num, .int .i64 h.size, .string h.root, .int .i64 h.taken, .string h.troot]
   | 2 => xq.v = .string tx
   | 3 => ∃ (kw : Nat), xq.v = .slice (some ⟨kw, 0, none⟩) 1 1 ∧ (True)
   | 4 => aa uq (w.heap.size + 1) [.int .i64 width, .slice a3.E ne a3.ce, .slice a3.R nr a3.cr, .slice (some ⟨g4, 0, none⟩) (nh + 1) c4, .int .i64 x.size, .slice B1 p1.length d1, .int .i64 x.taken, .slice B2 p2.length d2, .int .i64 x.num, .int .i64 x.size, .string x.root, .int .i64 x.taken, .string x.troot]
   | 5 => (match tqs, dsq with | [], [yq0] => ∃ (kw : Nat), yq0.v = .slice (some ⟨kw, 0, none⟩) 1 1 ∧ xq.v = .slice (some ⟨kw, 0, none⟩) 1 1 | _, _ => False)
   | 6 => xq.v = .int .i64 0
   | _ => False) := ⟨_, rfl⟩
  refine aX [[], [], [], [], [], [3], []] [[], [], [], [], [], [], []] [some 82, some 83, some 84, some 85, none, some 3, some 4] (some 4) (w.heap.size + 1) (w.heap.size + 1 + 1) (.inr (by omega)) F (by kernel_rfl) (by kernel_rfl) (by kernel_rfl) ?_ ⟨?_, ?_, ?_, ?_, ?_, ?_, ?_, trivial⟩ ?_
  ·rw [HF.out]; intro iq xq tqs dsq uq u' hi hf hs hW hx hbk
   have kx : ∀ b, xq.s ≤ b → b < xq.e → u'.heap[b]? = uq.heap[b]? := fun b h1 h2 => hbk b (.inr (.inl ⟨h1, h2⟩))
   have kt : ∀ t ∈ tqs, ∀ b, t.s ≤ b → b < t.e → u'.heap[b]? = uq.heap[b]? := fun t ht b h1 h2 => hbk b (.inr (.inr ⟨t, ht, h1, h2⟩))
   match iq with
   | 0 | 1 | 2 => exact hf
   | 3 => obtain ⟨kw, hv, p0⟩ := hf; exact ⟨kw, hv, trivial⟩
   | 4 => exact aa.keep hf hs (hbk _ (.inl ⟨hkq, .inr (.inr rfl)⟩))
   | 5 | 6 => exact hf
  ·intro gh ρ u _ _ _ hd h0 hb he ha hF
   first | replace hb := hb.drew.below (by decide +kernel) | replace hb := hb.drew.only
   have hbz : w11.heap.size ≤ u.heap.size := hb.size
   have r11 : ρ (.tmp 11) = .pointer (some ⟨w9.heap.size, 0, none⟩) := (h0 11 (by decide +kernel)).trans rfl
   first | have q_o := (HXo.out.below hb).2.1 | have q_o := (HXo.out.only hb (by omega)).2.1
   have k_o : w9.heap.size < u.heap.size := by have := HXo.out.1; omega
   first | have q_b := (HXb.out.below hb).2.1 | have q_b := (HXb.out.only hb (by omega)).2.1
   have k_b : w.heap.size < u.heap.size := by have := HXb.out.1; omega
   clear hd h0 he ha hF; go_simp; exact fE HF rfl
  ·intro gh ρ u _ _ _ hd h0 hb he ha hF
   first | replace hb := hb.drew.below (by decide +kernel) | replace hb := hb.drew.only
   have hbz : w11.heap.size ≤ u.heap.size := hb.size
   have r1 : ρ (.tmp 1) = .pointer (some ⟨w.heap.size, 0, none⟩) := (h0 1 (by decide +kernel)).trans rfl
   first | have q_o := (HXo.out.below hb).2.1 | have q_o := (HXo.out.only hb (by omega)).2.1
   have k_o : w9.heap.size < u.heap.size := by have := HXo.out.1; omega
   first | have q_b := (HXb.out.below hb).2.1 | have q_b := (HXb.out.only hb (by omega)).2.1
   have k_b : w.heap.size < u.heap.size := by have := HXb.out.1; omega
   clear hd h0 he ha hF; go_simp; exact fE HF rfl
  ·intro gh ρ u _ _ _ hd h0 hb he ha hF
   have r9 : ρ (.tmp 9) = .string tx := (h0 9 (by decide +kernel)).trans rfl
   clear hd h0 he ha hF; go_simp; exact fE HF rfl
  ·intro gh ρ u _ _ _ hd h0 hb he ha hF
   first | replace hb := hb.drew.below (by decide +kernel) | replace hb := hb.drew.only
   have hbz : w11.heap.size ≤ u.heap.size := hb.size
   have r83 : ρ (.tmp 83) = .agg #[.int .i64 width, .slice E ne ce, .slice R nr cr, .slice H nh ch, .int .i64 h.size, .slice A1 m1 c1, .int .i64 h.taken, .slice A2 m2 c2, .int .i64 h.num, .int .i64 h.size, .string h.root, .int .i64 h.taken, .string h.troot] := fH (hd 1) 83 (fG HF (hF 1))
   have r84 : ρ (.tmp 84) = .string tx := fH (hd 2) 84 (fG HF (hF 2))
   clear hd h0 he ha hF; go_simp
   have q_o := (HXo.out.below hb)
   have q_b := (HXb.out.below hb)
   refine (HWR.out _ (HOB.out.below hb).base tx (by omega)).mono ?_
   rintro e u1 ⟨kw, rfl, hb1⟩
   rw [HF.out]
   exact ⟨_, rfl, aS.of_below hb1, kw, rfl, trivial⟩
  ·intro gh ρ u _ _ _ hd h0 hb he ha hF
   first | replace hb := hb.drew.below (by decide +kernel) | replace hb := hb.drew.only
   have hbz : w11.heap.size ≤ u.heap.size := hb.size
   have r2 : ρ (.tmp 2) = .pointer (some ⟨w.heap.size + 1, 0, none⟩) := (h0 2 (by decide +kernel)).trans rfl
   have r82 : ρ (.tmp 82) = .agg #[.int .i64 width, .slice a3.E ne a3.ce, .slice a3.R nr a3.cr, .slice (some ⟨g4, 0, none⟩) (nh + 1) c4, .int .i64 x.size, .slice B1 p1.length d1, .int .i64 x.taken, .slice B2 p2.length d2, .int .i64 x.num, .int .i64 x.size, .string x.root, .int .i64 x.taken, .string x.troot] := fH (hd 0) 82 (fG HF (hF 0))
   obtain ⟨hzk, hzc, hzf⟩ := HXq.out.below hb
   clear hd h0 he ha hF; go_simp
   rw [HF.out]
   refine ⟨?_, ?_⟩
   ·refine aS.of_z (lo := w.heap.size + 1) (hi := w.heap.size + 1 + 1) ?_ rfl; (iterate 13 refine Only.setCell ?_ (by exact Nat.le_refl _) (by exact Nat.lt_succ_self _) _); exact Only.refl _ _ _
   show aa _ (w.heap.size + 1) _
   exact ⟨by simpa [World.setCell] using hzk, fun o => by rcases o with _ | _ | _ | _ | _ | _ | _ | _ | _ | _ | _ | _ | _ | o <;> go_simp, fun o => by go_simp⟩
  ·intro gh ρ u _ _ _ hd h0 hb he ha hF
   have f3 : ∃ (kw : Nat), (gh 3).v = .slice (some ⟨kw, 0, none⟩) 1 1 ∧ (True) := fG HF (hF 3)
   obtain ⟨kw, hv3, g3_0⟩ := f3; have hrt3 := hv3
   have r85 : ρ (.tmp 85) = .slice (some ⟨kw, 0, none⟩) 1 1 := (hd 3 (by decide +kernel) 85 (by kernel_rfl)).trans hv3
   have HRT3 := lH hrt3
   clear hv3 hrt3 hd h0 he ha hF; go_simp
   rw [HF.out]
   exact ⟨aS.refl _ _, kw, HRT3.out, rfl⟩
  ·intro gh ρ u _ _ _ hd h0 hb he ha hF
   clear hd h0 he ha hF; go_simp; exact fE HF rfl
  intro gh w12 hB hE hA hF
  replace hB : Only (w.heap.size + 1) (w.heap.size + 1 + 1) w11 w12 := hB.only
  have f0 : (gh 0).v = .agg #[.int .i64 width, .slice a3.E ne a3.ce, .slice a3.R nr a3.cr, .slice (some ⟨g4, 0, none⟩) (nh + 1) c4, .int .i64 x.size, .slice B1 p1.length d1, .int .i64 x.taken, .slice B2 p2.length d2, .int .i64 x.num, .int .i64 x.size, .string x.root, .int .i64 x.taken, .string x.troot] := fG HF (hF 0)
  have f1 : (gh 1).v = .agg #[.int .i64 width, .slice E ne ce, .slice R nr cr, .slice H nh ch, .int .i64 h.size, .slice A1 m1 c1, .int .i64 h.taken, .slice A2 m2 c2, .int .i64 h.num, .int .i64 h.size, .string h.root, .int .i64 h.taken, .string h.troot] := fG HF (hF 1)
  have f2 : (gh 2).v = .string tx := fG HF (hF 2)
  have f3 : ∃ (kw : Nat), (gh 3).v = .slice (some ⟨kw, 0, none⟩) 1 1 ∧ (True) := fG HF (hF 3)
  have f4 : aa w12 (w.heap.size + 1) [.int .i64 width, .slice a3.E ne a3.ce, .slice a3.R nr a3.cr, .slice (some ⟨g4, 0, none⟩) (nh + 1) c4, .int .i64 x.size, .slice B1 p1.length d1, .int .i64 x.taken, .slice B2 p2.length d2, .int .i64 x.num, .int .i64 x.size, .string x.root, .int .i64 x.taken, .string x.troot] := fG HF (hF 4)
  have f5 : ∃ (kw : Nat), (gh 3).v = .slice (some ⟨kw, 0, none⟩) 1 1 ∧ (gh 5).v = .slice (some ⟨kw, 0, none⟩) 1 1 := fG HF (hF 5)
  have f6 : (gh 6).v = .int .i64 0 := fG HF (hF 6)
  obtain ⟨kw, hv3, _⟩ := f3; have hv0 := f0; have hv1 := f1; have hv2 := f2; have hx4 := f4; obtain ⟨kw_5, hu3, hv5⟩ := f5
  replace hu3 := hv3.symm.trans hu3
  simp at hu3
  try simp only [and_assoc] at hu3
  obtain rfl := hu3
  have hv6 := f6; clear hE hA hF
  simp only [dQ, Nat.reduceAdd, hv0, hv1, hv2, hv3, hv5, hv6]
  clear hv0 hv1 hv2 hv3 hv5 hv6; clear HF; have hb := hB; clear hB
  have hzw12 : w11.heap.size ≤ w12.heap.size := hb.size
  replace HB := lH (au HB.out hb (by omega) HB.out.size)
  replace HOB := lH (HOB.out.only hb (by first | omega | (simp; omega)))
  replace HOP1 := lH (HOP1.out.only hb (by first | omega | (simp; omega)))
  replace HOP2 := lH (HOP2.out.only hb (by first | omega | (simp; omega)))
  replace HOE5 := lH (HOE5.out.only hb (by first | omega | (simp; omega)))
  replace HOR5 := lH (HOR5.out.only hb (by first | omega | (simp; omega)))
  replace HOH5 := lH (HOH5.out.only hb (by first | omega | (simp; omega)))
  replace HXb := nO HXb hb
  clear hxb hfb hkb; obtain ⟨hkb, hxb, hfb⟩ := HXb.out; clear hxq hfq hkq HXq
  replace HXx := nO HXx hb
  clear hxx hfx hkx; obtain ⟨hkx, hxx, hfx⟩ := HXx.out
  replace HXs := nO HXs hb
  clear hxs hfs hks; obtain ⟨hks, hxs, hfs⟩ := HXs.out
  replace HXo := nO HXo hb
  clear hxo hfo hko; obtain ⟨hko, hxo, hfo⟩ := HXo.out; clear hb
  have HXq : Hid (aa w12 (w.heap.size + 1) [.int .i64 width, .slice a3.E ne a3.ce, .slice a3.R nr a3.cr, .slice (some ⟨g4, 0, none⟩) (nh + 1) c4, .int .i64 x.size, .slice B1 p1.length d1, .int .i64 x.taken, .slice B2 p2.length d2, .int .i64 x.num, .int .i64 x.size, .string x.root, .int .i64 x.taken, .string x.troot]) := hx4
  obtain ⟨hkq, hxq, hfq⟩ := HXq.out; clear hx4
  have hbk := brk_rows (lo := w.heap.size) HNX.out HNE.out HNR.out (by rw [List.length_append, HNH.out] <;> rfl) HOE5.out HOR5.out (by rw [hds_app]; exact HOH5.out) (by rw [HE1.out]; exact HOP1.out.mono (by omega) (by omega) (Nat.le_refl _)) (by rw [HE2.out]; exact HOP2.out.mono (by omega) (by omega) (Nat.le_refl _)) HNN.out.1 HNN.out.2 (by omega) (by omega) (by omega)
  have HBK := lH hbk
  clear hbk; go_wp2
  refine bodyPost_ret (v := .tuple #[.agg #[.int .i64 width, .slice a3.E ne a3.ce, .slice a3.R nr a3.cr, .slice (some ⟨g4, 0, none⟩) (nh + 1) c4, .int .i64 x.size, .slice B1 p1.length d1, .int .i64 x.taken, .slice B2 p2.length d2, .int .i64 x.num, .int .i64 x.size, .string x.root, .int .i64 x.taken, .string x.troot], .slice (some ⟨kw, 0, none⟩) 1 1, .int .i64 0]) (by simp [results, Tryz.results59, go_sem, hxq]) rfl ?_
  exact ⟨⟨a3.E, a3.R, some ⟨g4, 0, none⟩, B1, B2, a3.ce, a3.cr, c4, d1, d2⟩, ⟨width, es, rs, hs ++ [x]⟩, some ⟨kw, 0, none⟩, 1, 1, 0, by dsimp only; rw [List.length_append, HNE.out, HNR.out, HNH.out, HE1.out, HE2.out, dS] <;> rfl, fun _ => ⟨HBK.out, rfl, Nat.le_succ _⟩, HB.out⟩
end
end Go.Proofs.YtoccjgcokffkbaaGreat
