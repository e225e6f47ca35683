/- Part 31 of the proof of FnWrites: lemmas and contracts. -/
import Derived.Test.YtoccjgcokffkbaaGreatTw27
import Derived.Test.YtoccjgcokffkbaaGreatTw29
namespace Go.Proofs.YtoccjgcokffkbaaGreat
set_option linter.unusedVariables false
set_option linter.unusedSimpArgs false
set_option maxHeartbeats 20000000
set_option maxRecDepth 100000
section
open Go.RowKit
theorem l12ReceiptP_c (width : Int) (E R H A1 A2 : Option Addr) (ne nr nh ce cr ch c1 c2 m1 m2 : Nat) (es : List Ent) (rs : List Rcp) (hs : List Hd) (l1 l2 : List ByteArray) (h : Hd) (lo hi : Nat) (r : Rcp) (w : World) (hk : aH w lo hi ⟨E, R, H, A1, A2, ce, cr, ch, c1, c2⟩ ⟨width, es, rs, hs⟩) (hne : es.length = ne) (hnr : rs.length = nr) (hnh : hs.length = nh) (hl1 : pk1 width es hs = l1) (hl2 : pk2 width rs hs = l2) (hm1 : l1.length = m1) (hm2 : l2.length = m2) (hh : ae hs = h) (hrf : r.fits) :
  Calls Tryz.prog 60 #[.agg #[.int .i64 width, .slice E ne ce, .slice R nr cr, .slice H nh ch, .int .i64 h.size, .slice A1 m1 c1, .int .i64 h.taken, .slice A2 m2 c2, .int .i64 h.num, .int .i64 h.size, .string h.root, .int .i64 h.taken, .string h.troot], .agg #[.string r.reader, .string r.topic, .int .i64 r.index]] w fun e w' => ∃ (a' : Bk) (m' : Bm) (L : Option Addr) (q g : Nat) (code : Int), e = .returned (.tuple #[.agg #[.int .i64 m'.width, .slice a'.E m'.es.length a'.ce, .slice a'.R m'.rs.length a'.cr, .slice a'.H m'.hs.length a'.ch, .int .i64 (ae m'.hs).size, .slice a'.A1 (pk1 m'.width m'.es m'.hs).length a'.c1, .int .i64 (ae m'.hs).taken, .slice a'.A2 (pk2 m'.width m'.rs m'.hs).length a'.c2, .int .i64 (ae m'.hs).num, .int .i64 (ae m'.hs).size, .string (ae m'.hs).root, .int .i64 (ae m'.hs).taken, .string (ae m'.hs).troot], .slice L q g, .int .i64 code]) ∧ gF w w' ⟨width, es, rs, hs⟩ a' m' code := by
 have hkk := hk
 obtain ⟨f1, f2, f3, g1, g2, g3, g4, f4, g5, g6, g7⟩ := cK hk.ok
 have hlast := hk.ok.last
 have hpos := hk.ok.pos
 dsimp only at f1 f2 f3 g1 g2 g3 g4 f4 g5 g6 g7 hlast hpos
 rw [hne] at g1 hlast
 rw [hnr] at g2 hlast
 rw [hnh] at g3 g4 hpos
 rw [hh] at f4 g5 hlast
 rw [hl1, hm1] at g6
 rw [hl2, hm2] at g7
 have HRO := lH (fun W => specReceiptOk_c r W hrf)
 have HLA := lH (fun W (rr : aH W 0 W.heap.size ⟨E, R, H, A1, A2, ce, cr, ch, c1, c2⟩ ⟨width, es, rs, hs⟩) => l12Last_c width h.size h.taken E R H A1 A2 ne nr nh ce cr ch c1 c2 0 W.heap.size m1 m2 hs h W rr.rH hnh (by omega) (by omega))
 rw [hh] at HLA
 obtain ⟨sz, hsz⟩ : ∃ n : Nat, h.size = n := ⟨h.size.toNat, by omega⟩
 have hkE := hk.kE
 dsimp only at hkE
 have hsl := fun W => preXE E ne ce sz (by omega) W
 have HLF := lH (fun W (rr : aH W 0 W.heap.size ⟨E, R, H, A1, A2, ce, cr, ch, c1, c2⟩ ⟨width, es, rs, hs⟩) => ((l09Leaf_c E ce 0 W.heap.size sz (es.take sz) r.topic r.index W (Rd.entsTake rr.rE sz) (by rw [List.length_take]; omega) (by omega)).mono (fun e w' ⟨q1, q2⟩ => ⟨q1, q2 ▸ Below.refl _ _⟩) : Calls Tryz.prog 105 #[.slice E sz ce, .string r.topic, .int .i64 r.index] W fun e w' => e = .returned (.int .i64 (aN (fU r.topic r.index) (es.take sz) 0)) ∧ Below W.heap.size W w'))
 have hlfI : dN es sz r = decide (0 ≤ aN (fU r.topic r.index) (es.take sz) 0) := rfl
 have HAT := lH (fun W (rr : aH W 0 W.heap.size ⟨E, R, H, A1, A2, ce, cr, ch, c1, c2⟩ ⟨width, es, rs, hs⟩) => l12At_c R cr 0 W.heap.size nr rs r W rr.rR hnr (by omega) f2 hrf)
 have hpos2 := rcpPos_ge (r := r) rs 0
 have htake := fun (q1 : bZ r = true) (q2 : dN es sz r = true) (q3 : r ∉ rs) (q4 : rs.length < 512) => hk.ok.take q1 (by show dN es (ae hs).size.toNat r = true; rw [hh, hsz, Int.toNat_natCast]; exact q2) q3 q4
 have HCP := lH (fun W (r : aH W 0 W.heap.size ⟨E, R, H, A1, A2, ce, cr, ch, c1, c2⟩ ⟨width, es, rs, hs⟩) => l12CopyP_c width h.size h.taken E R H A1 A2 ne nr nh ce cr ch c1 c2 m1 m2 es rs hs l1 l2 h W r.rE r.rR r.rH (hl1 ▸ r.r1) (hl2 ▸ r.r2) hne hnr hnh hm1 hm2 (by omega) (by omega) (by omega) (by omega) (by omega) r.nE r.nR r.nH r.n1 r.n2)
 have HWR := lH (fun W (r : aH W 0 W.heap.size ⟨E, R, H, A1, A2, ce, cr, ch, c1, c2⟩ ⟨width, es, rs, hs⟩) s hs2 => l12WriteP_c width E R H A1 A2 ne nr nh ce cr ch c1 c2 m1 m2 es rs hs l1 l2 h 0 W.heap.size 2 s W r hne hnr hnh hl1 hl2 hm1 hm2 hh (by omega) hs2)
 have HTX := lH (fun W => gP r W hrf)
 have hts := dV r
 have hbl : (⟨es, rs, hs, l1, l2⟩ : Bl) = Bm.bl ⟨width, es, rs, hs⟩ := by show _ = Bl.mk es rs hs _ _; rw [hl1, hl2]
 have HBL := lH hbl
 have HTK := lH htake
 have HOK := lH hk.ok
 have HP2 := lH hpos2
 have HNR := lH hnr
 have HNH := lH hnh
 have HNE := lH hne
 have HHH := lH hh
 have HM1 : Hid ((pk1 width es hs).length = m1) := lH (by rw [hl1, hm1])
 have HM2 : Hid ((pk2 width (rs ++ [r]) hs).length = m2) := lH (by rw [pk2_more hk.ok, hl2, hm2])
 have HLI := lH hlfI
 have HQ3 : Hid (pk1 width es hs = l1) := lH hl1
 have HQ4 : Hid (pk2 width (rs ++ [r]) hs = l2) := lH (by rw [pk2_more hk.ok, hl2])
 rw [← hsz] at hsl
 have HB : Hid (Below w.heap.size w w) := Below.refl _ _
 have HOB : Hid (aH w (0) (w.heap.size) (⟨E, R, H, A1, A2, ce, cr, ch, c1, c2⟩) (⟨width, es, rs, hs⟩)) := lH hk.base
 clear hk hkk f1 f2 f3 f4 hlast hne hnr hnh hl1 hl2 hm1 hm2 hh hbl hsz htake hpos2 hlfI hkE hrf
 generalize aK r = tx at *
 generalize aN (fU r.topic r.index) (es.take sz) 0 = lf at *
 generalize ed r rs 0 = rp at *
 have hfld := fun W => hdField1 h.num h.size h.taken h.root h.troot W
 go_enter Tryz.func60, Tryz.ntmps60
 go_wp2_with fail
 refine af (fun w1 hw => ?_)
 have hz1 : w.heap.size + 3 ≤ w1.heap.size := zA
 have hbn : Below w.heap.size w w1 := zB
 replace HB := bT HB hbn
 replace HOB := lH (HOB.out.below hbn)
 clear hbn
 have HXb : Hid (aa w1 (w.heap.size) [.int .i64 width, .slice E ne ce, .slice R nr cr, .slice H nh ch, .int .i64 h.size, .slice A1 m1 c1, .int .i64 h.taken, .slice A2 m2 c2, .int .i64 h.num, .int .i64 h.size, .string h.root, .int .i64 h.taken, .string h.troot]) := zG13
 obtain ⟨hkb, hxb, hfb⟩ := HXb.out
 have HXr : Hid (aa w1 (w.heap.size + 1) [.string r.reader, .string r.topic, .int .i64 r.index]) := zG3
 obtain ⟨hkr, hxr, hfr⟩ := HXr.out
 have HXq : Hid (aa w1 (w.heap.size + 2) [.int .i64 0, .slice none 0 0, .slice none 0 0, .slice none 0 0, .int .i64 0, .slice none 0 0, .int .i64 0, .slice none 0 0, .int .i64 0, .int .i64 0, .string ⟨#[]⟩, .int .i64 0, .string ⟨#[]⟩]) := zG13
 obtain ⟨hkq, hxq, hfq⟩ := HXq.out
 clear hw
 refine (HRO.out _).mono ?_
 rintro e w2 ⟨rfl, hb⟩
 have hzw2 : w1.heap.size ≤ w2.heap.size := hb.size
 replace HB := bT HB hb
 replace HOB := lH (HOB.out.below hb)
 replace HXb := nB HXb hb
 clear hxb hfb hkb
 obtain ⟨hkb, hxb, hfb⟩ := HXb.out
 replace HXr := nB HXr hb
 clear hxr hfr hkr
 obtain ⟨hkr, hxr, hfr⟩ := HXr.out
 replace HXq := nB HXq hb
 clear hxq hfq hkq
 obtain ⟨hkq, hxq, hfq⟩ := HXq.out
 clear hb
 rcases hq : bZ r with _ | _
 ·clear hq
  go_wp2
  refine ag (fun w3 hw => ?_)
  have hz3 : w2.heap.size + 0 ≤ w3.heap.size := zA
  replace HB : Hid (Below w.heap.size w w3) := zC HB
  replace HOB : Hid (aH w3 (0) (w.heap.size) (⟨E, R, H, A1, A2, ce, cr, ch, c1, c2⟩) (⟨width, es, rs, hs⟩)) := zLBrkK HOB
  replace HXb := nE w3 HXb
  clear hxb hfb hkb; obtain ⟨hkb, hxb, hfb⟩ := HXb.out
  replace HXr := nE w3 HXr
  clear hxr hfr hkr; obtain ⟨hkr, hxr, hfr⟩ := HXr.out
  replace HXq : Hid (aa w3 (w.heap.size + 2) [.int .i64 0, .slice none 0 0, .slice none 0 0, .slice none 0 0, .int .i64 0, .slice none 0 0, .int .i64 0, .slice none 0 0, .int .i64 0, .int .i64 0, .string ⟨#[]⟩, .int .i64 0, .string ⟨#[]⟩]) := zD HXq
  clear hxq hfq hkq; obtain ⟨hkq, hxq, hfq⟩ := HXq.out; clear hw
  refine bodyPost_ret (v := .tuple #[.agg #[.int .i64 0, .slice none 0 0, .slice none 0 0, .slice none 0 0, .int .i64 0, .slice none 0 0, .int .i64 0, .slice none 0 0, .int .i64 0, .int .i64 0, .string ⟨#[]⟩, .int .i64 0, .string ⟨#[]⟩], .slice (some ⟨w2.heap.size, 0, none⟩) 0 0, .int .i64 2]) (by simp [results, Tryz.results60, go_sem, hxq]) rfl ?_
  exact ⟨zeroBk, zeroBm, _, 0, 0, 2, rfl, gF.no (by decide) HB.out⟩
 have HQ1 := lH hq
 clear hq
 rcases hd : decide (lf < 0) with _ | _
 ·skip
  go_wp2_with fail
  refine aC (fun w3 hw => ?_)
  have hz3 : w2.heap.size + 0 ≤ w3.heap.size := zA
  have hbn : Below w2.heap.size w2 w3 := zB
  replace HB := bT HB hbn; replace HOB := lH (HOB.out.below hbn); replace HXb := nB HXb hbn; clear hxb hfb hkb; obtain ⟨hkb, hxb, hfb⟩ := HXb.out; replace HXr := nB HXr hbn; clear hxr hfr hkr; obtain ⟨hkr, hxr, hfr⟩ := HXr.out; replace HXq := nB HXq hbn; clear hxq hfq hkq; obtain ⟨hkq, hxq, hfq⟩ := HXq.out; clear hbn; clear hw
  obtain ⟨F, HF⟩ : ∃ F : Facts, Hid (F = fun iq xq tqs dsq uq => match iq with
   | 0 => xq.v = .pointer (some ⟨(w.heap.size), 1, none⟩)
   | 1 => xq.v = .pointer (some ⟨(w.heap.size), 1, none⟩)
   | 2 => xq.v = .slice E ne ce
   | 3 => xq.v = .agg #[.int .i64 width, .slice E ne ce, .slice R nr cr, .slice H nh ch, .int .i64 h.size, .slice A1 m1 c1, .int .i64 h.taken, .slice A2 m2 c2, .int .i64 h.num, .int .i64 h.size, .string h.root, .int .i64 h.taken, .string h.troot]
   | 4 => xq.v = .agg #[.int .i64 h.num, .int .i64 h.size, .string h.root, .int .i64 h.taken, .string h.troot]
   | 5 => xq.v = .int .i64 h.size
   | 6 => xq.v = .slice E sz ce
   | 7 => xq.v = .pointer (some ⟨(w.heap.size + 1), 1, none⟩)
   | 8 => xq.v = .string r.topic
   | 9 => xq.v = .pointer (some ⟨(w.heap.size + 1), 2, none⟩)
   | 10 => xq.v = .int .i64 r.index
   | 11 => xq.v = .int .i64 lf
   | 12 => xq.v = .bool false
   | _ => False) := ⟨_, rfl⟩
  refine aX [[], [], [], [], [], [], [], [], [], [], [], [], []] [[], [], [], [], [], [], [], [], [], [], [], [], []] [some 14, some 15, some 16, some 17, some 18, some 19, some 20, some 21, some 22, some 23, some 24, some 25, some 26] none 0 0 (.inl rfl) F (by kernel_rfl) (by kernel_rfl) (by kernel_rfl) ?_ ⟨?_, ?_, ?_, ?_, ?_, ?_, ?_, ?_, ?_, ?_, ?_, ?_, ?_, trivial⟩ ?_
  ·rw [HF.out]; intro iq xq tqs dsq uq u' hi hf hs hW hx hbk
   have kx : ∀ b, xq.s ≤ b → b < xq.e → u'.heap[b]? = uq.heap[b]? := fun b h1 h2 => hbk b (.inr (.inl ⟨h1, h2⟩))
   have kt : ∀ t ∈ tqs, ∀ b, t.s ≤ b → b < t.e → u'.heap[b]? = uq.heap[b]? := fun t ht b h1 h2 => hbk b (.inr (.inr ⟨t, ht, h1, h2⟩))
   match iq with
   | 0 | 1 => exact hf
   | 2 | 3 => exact hf
   | 4 | 5 => exact hf
   | 6 | 7 => exact hf
   | 8 | 9 => exact hf
   | 10 | 11 | 12 => exact hf
  ·intro gh ρ u _ _ _ hd h0 hb he ha hF
   have r2 : ρ (.tmp 2) = .pointer (some ⟨w.heap.size, 0, none⟩) := (h0 2 (by decide +kernel)).trans rfl
   clear hd h0 he ha hF; go_simp; exact fE HF rfl
  ·intro gh ρ u _ _ _ hd h0 hb he ha hF
   have r14 : ρ (.tmp 14) = .pointer (some ⟨(w.heap.size), 1, none⟩) := fH (hd 0) 14 (fG HF (hF 0))
   clear hd h0 he ha hF; go_simp; exact fE HF rfl
  ·intro gh ρ u _ _ _ hd h0 hb he ha hF
   replace hb := hb.drew.below (by decide +kernel)
   have hbz := hb.size
   have r15 : ρ (.tmp 15) = .pointer (some ⟨(w.heap.size), 1, none⟩) := fH (hd 1) 15 (fG HF (hF 1))
   obtain ⟨k_b, q_b, -⟩ := HXb.out.below hb
   obtain ⟨k_r, q_r, -⟩ := HXr.out.below hb
   clear hd h0 he ha hF; go_simp; exact fE HF rfl
  ·intro gh ρ u _ _ _ hd h0 hb he ha hF
   replace hb := hb.drew.below (by decide +kernel)
   have hbz := hb.size
   have r2 : ρ (.tmp 2) = .pointer (some ⟨w.heap.size, 0, none⟩) := (h0 2 (by decide +kernel)).trans rfl
   obtain ⟨k_b, q_b, -⟩ := HXb.out.below hb
   obtain ⟨k_r, q_r, -⟩ := HXr.out.below hb
   clear hd h0 he ha hF; go_simp; exact fE HF rfl
  ·intro gh ρ u _ _ _ hd h0 hb he ha hF
   replace hb := hb.drew.below (by decide +kernel)
   have hbz := hb.size
   have r17 : ρ (.tmp 17) = .agg #[.int .i64 width, .slice E ne ce, .slice R nr cr, .slice H nh ch, .int .i64 h.size, .slice A1 m1 c1, .int .i64 h.taken, .slice A2 m2 c2, .int .i64 h.num, .int .i64 h.size, .string h.root, .int .i64 h.taken, .string h.troot] := fH (hd 3) 17 (fG HF (hF 3))
   clear hd h0 he ha hF; go_simp
   have q_b := (HXb.out.below hb)
   have q_r := (HXr.out.below hb)
   refine (HLA.out _ (HOB.out.below hb).base).mono ?_
   rintro e u1 ⟨rfl, hb1⟩
   rw [HF.out]
   exact ⟨_, rfl, aS.of_below hb1, rfl⟩
  ·intro gh ρ u _ _ _ hd h0 hb he ha hF
   have r18 : ρ (.tmp 18) = .agg #[.int .i64 h.num, .int .i64 h.size, .string h.root, .int .i64 h.taken, .string h.troot] := fH (hd 4) 18 (fG HF (hF 4))
   clear hd h0 he ha hF; go_simp; exact fE HF rfl
  ·intro gh ρ u _ _ _ hd h0 hb he ha hF
   have r16 : ρ (.tmp 16) = .slice E ne ce := fH (hd 2) 16 (fG HF (hF 2))
   have r19 : ρ (.tmp 19) = .int .i64 h.size := fH (hd 5) 19 (fG HF (hF 5))
   clear hd h0 he ha hF; go_simp; exact fE HF rfl
  ·intro gh ρ u _ _ _ hd h0 hb he ha hF
   have r3 : ρ (.tmp 3) = .pointer (some ⟨w.heap.size + 1, 0, none⟩) := (h0 3 (by decide +kernel)).trans rfl
   clear hd h0 he ha hF; go_simp; exact fE HF rfl
  ·intro gh ρ u _ _ _ hd h0 hb he ha hF
   replace hb := hb.drew.below (by decide +kernel)
   have hbz := hb.size
   have r21 : ρ (.tmp 21) = .pointer (some ⟨(w.heap.size + 1), 1, none⟩) := fH (hd 7) 21 (fG HF (hF 7))
   obtain ⟨k_b, q_b, -⟩ := HXb.out.below hb
   obtain ⟨k_r, q_r, -⟩ := HXr.out.below hb
   clear hd h0 he ha hF; go_simp; exact fE HF rfl
  ·intro gh ρ u _ _ _ hd h0 hb he ha hF
   have r3 : ρ (.tmp 3) = .pointer (some ⟨w.heap.size + 1, 0, none⟩) := (h0 3 (by decide +kernel)).trans rfl
   clear hd h0 he ha hF; go_simp; exact fE HF rfl
  ·intro gh ρ u _ _ _ hd h0 hb he ha hF
   replace hb := hb.drew.below (by decide +kernel)
   have hbz := hb.size
   have r23 : ρ (.tmp 23) = .pointer (some ⟨(w.heap.size + 1), 2, none⟩) := fH (hd 9) 23 (fG HF (hF 9))
   obtain ⟨k_b, q_b, -⟩ := HXb.out.below hb
   obtain ⟨k_r, q_r, -⟩ := HXr.out.below hb
   clear hd h0 he ha hF; go_simp; exact fE HF rfl
  ·intro gh ρ u _ _ _ hd h0 hb he ha hF
   replace hb := hb.drew.below (by decide +kernel)
   have hbz := hb.size
   have r20 : ρ (.tmp 20) = .slice E sz ce := fH (hd 6) 20 (fG HF (hF 6))
   have r22 : ρ (.tmp 22) = .string r.topic := fH (hd 8) 22 (fG HF (hF 8))
   have r24 : ρ (.tmp 24) = .int .i64 r.index := fH (hd 10) 24 (fG HF (hF 10))
   clear hd h0 he ha hF; go_simp
   have q_b := (HXb.out.below hb)
   have q_r := (HXr.out.below hb)
   refine (HLF.out _ (HOB.out.below hb).base).mono ?_
   rintro e u1 ⟨rfl, hb1⟩
   rw [HF.out]
   exact ⟨_, rfl, aS.of_below hb1, rfl⟩
  ·intro gh ρ u _ _ _ hd h0 hb he ha hF
   have r25 : ρ (.tmp 25) = .int .i64 lf := fH (hd 11) 25 (fG HF (hF 11))
   clear hd h0 he ha hF; go_simp; exact fE HF rfl
  intro gh w4 hB hE hA hF
  replace hB : Below w3.heap.size w3 w4 := hB.below rfl
  have f0 : (gh 0).v = .pointer (some ⟨(w.heap.size), 1, none⟩) := fG HF (hF 0)
  have f1 : (gh 1).v = .pointer (some ⟨(w.heap.size), 1, none⟩) := fG HF (hF 1)
  have f2 : (gh 2).v = .slice E ne ce := fG HF (hF 2)
  have f3 : (gh 3).v = .agg #[.int .i64 width, .slice E ne ce, .slice R nr cr, .slice H nh ch, .int .i64 h.size, .slice A1 m1 c1, .int .i64 h.taken, .slice A2 m2 c2, .int .i64 h.num, .int .i64 h.size, .string h.root, .int .i64 h.taken, .string h.troot] := fG HF (hF 3)
  have f4 : (gh 4).v = .agg #[.int .i64 h.num, .int .i64 h.size, .string h.root, .int .i64 h.taken, .string h.troot] := fG HF (hF 4)
  have f5 : (gh 5).v = .int .i64 h.size := fG HF (hF 5)
  have f6 : (gh 6).v = .slice E sz ce := fG HF (hF 6)
  have f7 : (gh 7).v = .pointer (some ⟨(w.heap.size + 1), 1, none⟩) := fG HF (hF 7)
  have f8 : (gh 8).v = .string r.topic := fG HF (hF 8)
  have f9 : (gh 9).v = .pointer (some ⟨(w.heap.size + 1), 2, none⟩) := fG HF (hF 9)
  have f10 : (gh 10).v = .int .i64 r.index := fG HF (hF 10)
  have f11 : (gh 11).v = .int .i64 lf := fG HF (hF 11)
  have f12 : (gh 12).v = .bool false := fG HF (hF 12)
  have hv4 := f4; have hv11 := f11; have hv0 := f0; have hv1 := f1; have hv2 := f2; have hv3 := f3; have hv5 := f5; have hv6 := f6; have hv7 := f7; have hv8 := f8; have hv9 := f9; have hv10 := f10; have hv12 := f12; clear hE hA hF
  simp only [dQ, Nat.reduceAdd, hv0, hv1, hv2, hv3, hv4, hv5, hv6, hv7, hv8, hv9, hv10, hv11, hv12]
  clear hv0 hv1 hv2 hv3 hv4 hv5 hv6 hv7 hv8 hv9 hv10 hv11 hv12; clear HF; have hb := hB; clear hB
  have hzw4 : w3.heap.size ≤ w4.heap.size := hb.size
  replace HB := bT HB hb; replace HOB := lH (HOB.out.below hb); replace HXb := nB HXb hb; clear hxb hfb hkb; obtain ⟨hkb, hxb, hfb⟩ := HXb.out; replace HXr := nB HXr hb; clear hxr hfr hkr; obtain ⟨hkr, hxr, hfr⟩ := HXr.out; replace HXq := nB HXq hb; clear hxq hfq hkq; obtain ⟨hkq, hxq, hfq⟩ := HXq.out; clear hb
  have hlf := of_decide_eq_false hd
  clear hd hsl hfld
  simp only [Act.put, List.setIfInBounds_toArray, List.set_cons_zero, List.set_cons_succ]
  go_wp2_with fail
  refine af (fun w5 hw => ?_)
  have hz5 : w4.heap.size + 0 ≤ w5.heap.size := zA
  have hbn : Below w4.heap.size w4 w5 := zB
  replace HB := bT HB hbn; replace HOB := lH (HOB.out.below hbn); replace HXb := nB HXb hbn; clear hxb hfb hkb; obtain ⟨hkb, hxb, hfb⟩ := HXb.out; replace HXr := nB HXr hbn; clear hxr hfr hkr; obtain ⟨hkr, hxr, hfr⟩ := HXr.out; replace HXq := nB HXq hbn; clear hxq hfq hkq; obtain ⟨hkq, hxq, hfq⟩ := HXq.out; clear hbn; clear hw
  refine (HAT.out _ HOB.out.base).mono ?_
  rintro e w6 ⟨rfl, hb⟩
  have hzw6 : w5.heap.size ≤ w6.heap.size := hb.size
  replace HB := bT HB hb; replace HOB := lH (HOB.out.below hb); replace HXb := nB HXb hb; clear hxb hfb hkb; obtain ⟨hkb, hxb, hfb⟩ := HXb.out; replace HXr := nB HXr hb; clear hxr hfr hkr; obtain ⟨hkr, hxr, hfr⟩ := HXr.out; replace HXq := nB HXq hb; clear hxq hfq hkq; obtain ⟨hkq, hxq, hfq⟩ := HXq.out; clear hb; clear HLA HLF HAT HRO
  rcases hd : decide (0 ≤ rp) with _ | _
  ·have hrp : ¬ 0 ≤ rp := of_decide_eq_false hd
   clear hd
   by_cases h5 : nr = 512
   ·have h6 : ((nr : Int) == 512) = true := beq_iff_eq.2 (by omega)
    clear h5; go_wp2
    refine ag (fun w7 hw => ?_)
    have hz7 : w6.heap.size + 0 ≤ w7.heap.size := zA
    replace HB : Hid (Below w.heap.size w w7) := zC HB
    replace HOB : Hid (aH w7 (0) (w.heap.size) (⟨E, R, H, A1, A2, ce, cr, ch, c1, c2⟩) (⟨width, es, rs, hs⟩)) := zLBrkK HOB
    replace HXb := nE w7 HXb
    clear hxb hfb hkb; obtain ⟨hkb, hxb, hfb⟩ := HXb.out
    replace HXr := nE w7 HXr
    clear hxr hfr hkr; obtain ⟨hkr, hxr, hfr⟩ := HXr.out
    replace HXq : Hid (aa w7 (w.heap.size + 2) [.int .i64 0, .slice none 0 0, .slice none 0 0, .slice none 0 0, .int .i64 0, .slice none 0 0, .int .i64 0, .slice none 0 0, .int .i64 0, .int .i64 0, .string ⟨#[]⟩, .int .i64 0, .string ⟨#[]⟩]) := zD HXq
    clear hxq hfq hkq; obtain ⟨hkq, hxq, hfq⟩ := HXq.out; clear hw
    refine bodyPost_ret (v := .tuple #[.agg #[.int .i64 0, .slice none 0 0, .slice none 0 0, .slice none 0 0, .int .i64 0, .slice none 0 0, .int .i64 0, .slice none 0 0, .int .i64 0, .int .i64 0, .string ⟨#[]⟩, .int .i64 0, .string ⟨#[]⟩], .slice (some ⟨w6.heap.size, 0, none⟩) 0 0, .int .i64 5]) (by simp [results, Tryz.results60, go_sem, hxq]) rfl ?_
    exact ⟨zeroBk, zeroBm, _, 0, 0, 5, rfl, gF.no (by decide) HB.out⟩
   have h6 : ((nr : Int) == 512) = false := beq_eq_false_iff_ne.2 (by omega)
   go_wp2_with fail
   refine af (fun w7 hw => ?_)
   have hz7 : w6.heap.size + 0 ≤ w7.heap.size := zA
   have hbn : Below w6.heap.size w6 w7 := zB
   replace HB := bT HB hbn; replace HOB := lH (HOB.out.below hbn); replace HXb := nB HXb hbn; clear hxb hfb hkb; obtain ⟨hkb, hxb, hfb⟩ := HXb.out; replace HXr := nB HXr hbn; clear hxr hfr hkr; obtain ⟨hkr, hxr, hfr⟩ := HXr.out; replace HXq := nB HXq hbn; clear hxq hfq hkq; obtain ⟨hkq, hxq, hfq⟩ := HXq.out; clear hbn; clear hw
   refine (HTX.out _).mono ?_
   rintro e w8 ⟨rfl, hb⟩
   have hzw8 : w7.heap.size ≤ w8.heap.size := hb.size
   replace HB := bT HB hb; replace HOB := lH (HOB.out.below hb); replace HXb := nB HXb hb; clear hxb hfb hkb; obtain ⟨hkb, hxb, hfb⟩ := HXb.out; replace HXr := nB HXr hb; clear hxr hfr hkr; obtain ⟨hkr, hxr, hfr⟩ := HXr.out; replace HXq := nB HXq hb; clear hxq hfq hkq; obtain ⟨hkq, hxq, hfq⟩ := HXq.out; clear hb; clear HTX h6
   have hpo := HTK.out HQ1.out (by rw [HLI.out]; exact decide_eq_true (by omega)) (by
    rcases HP2.out with ⟨_, h7⟩ | ⟨k, _, h7, _⟩
    ·exact h7
    omega) (by rw [HNR.out]; omega)
   have HPO := lH hpo
   clear hpo HTK HP2 HLI hlf h5
   go_wp2_with fail
   refine af (fun w9 hw => ?_)
   have hz9 : w8.heap.size + 0 ≤ w9.heap.size := zA
   have hbn : Below w8.heap.size w8 w9 := zB
   replace HB := bT HB hbn; replace HOB := lH (HOB.out.below hbn); replace HXb := nB HXb hbn; clear hxb hfb hkb; obtain ⟨hkb, hxb, hfb⟩ := HXb.out; replace HXr := nB HXr hbn; clear hxr hfr hkr; obtain ⟨hkr, hxr, hfr⟩ := HXr.out; replace HXq := nB HXq hbn; clear hxq hfq hkq; obtain ⟨hkq, hxq, hfq⟩ := HXq.out; clear hbn; clear hw
   refine (HCP.out _ HOB.out.base).mono ?_
   rintro e w10 ⟨a3, rfl, hcp, hb⟩
   have hzw10 : w9.heap.size ≤ w10.heap.size := hb.size
   replace HB := bT HB hb; replace HOB := lH (HOB.out.below hb); replace HXb := nB HXb hb; clear hxb hfb hkb; obtain ⟨hkb, hxb, hfb⟩ := HXb.out; replace HXr := nB HXr hb; clear hxr hfr hkr; obtain ⟨hkr, hxr, hfr⟩ := HXr.out; replace HXq := nB HXq hb; clear hxq hfq hkq; obtain ⟨hkq, hxq, hfq⟩ := HXq.out; clear hb
   have HOC : Hid (bY w10 (w9.heap.size) (w10.heap.size) (a3) (⟨es, rs, hs, l1, l2⟩)) := lH hcp
   clear hcp HCP
   obtain ⟨lo5, hlo5, hlo5'⟩ : ∃ n, n ≤ w9.heap.size ∧ w9.heap.size ≤ n := ⟨_, Nat.le_refl _, Nat.le_refl _⟩
   obtain ⟨hi5, hhi5, hhi5'⟩ : ∃ n, n ≤ w10.heap.size ∧ w10.heap.size ≤ n := ⟨_, Nat.le_refl _, Nat.le_refl _⟩
   have HK5 := lH (HOC.out.mono hlo5 hhi5')
   clear HOC
   have HOC : Hid (bY w10 (lo5) (hi5) (a3) (⟨es, rs, hs, l1, l2⟩)) := lH HK5.out
   clear HK5
   go_upto_region 14 with fail
   refine aC (fun w11 hw => ?_)
   have hz11 : w10.heap.size + 1 ≤ w11.heap.size := zA
   have hbn : Below w10.heap.size w10 w11 := zB
   replace HB := bT HB hbn; replace HOB := lH (HOB.out.below hbn); replace HOC := lH (HOC.out.below hbn); replace HXb := nB HXb hbn; clear hxb hfb hkb; obtain ⟨hkb, hxb, hfb⟩ := HXb.out; replace HXr := nB HXr hbn; clear hxr hfr hkr; obtain ⟨hkr, hxr, hfr⟩ := HXr.out; replace HXq := nB HXq hbn; clear hxq hfq hkq; obtain ⟨hkq, hxq, hfq⟩ := HXq.out; clear hbn
   have HXo : Hid (aa w11 (w10.heap.size) [.int .i64 width, .slice a3.E ne a3.ce, .slice a3.R nr a3.cr, .slice a3.H nh a3.ch, .int .i64 h.size, .slice a3.A1 m1 a3.c1, .int .i64 h.taken, .slice a3.A2 m2 a3.c2, .int .i64 h.num, .int .i64 h.size, .string h.root, .int .i64 h.taken, .string h.troot]) := zG13
   obtain ⟨hko, hxo, hfo⟩ := HXo.out; clear hw
   have HRR : Hid (aJ w11 lo5 hi5 ((43, 3), .slice a3.R nr a3.cr, nr) (bf rs)) := lH (by have h7 := HOC.out.r; dsimp only at h7; rwa [HNR.out] at h7)
   go_wp2_with (at_builtin; refine app1LRcp rfl _ _ rfl lo5 hi5 w11.heap.size _ nr (bf rs) r rfl (HRR.out.alloc _) rfl (aa.new w11 _ _) (by omega) (by simp; omega) (w11.heap.size + 1) (by simp) ?_)
   intro g4 c4 w2_ hg1 hg2 hg3 hrow hg
   have hon := (Only.of_below ((Below.refl _ _).alloc (Nat.le_refl _) _)).trans ((HRR.out.alloc _).onlyG hg)
   have hgr := hg
   rw [← HNR.out] at hgr
   have re := aJ.cast ((HOC.out.e.alloc _).grown hgr HOC.out.er) (show _ = ((41, 5), Value.slice a3.E ne a3.ce, ne) by dsimp only; rw [HNE.out])
   have rh := aJ.cast ((HOC.out.h.alloc _).grown hgr HOC.out.rh.symm) (show _ = ((33, 5), Value.slice a3.H nh a3.ch, nh) by dsimp only; rw [HNH.out])
   have ra := (HOC.out.a1.alloc _).grown hgr HOC.out.r1
   have rb := (HOC.out.a2.alloc _).grown hgr HOC.out.r2
   have hzw2_ : w11.heap.size ≤ w2_.heap.size := hon.size
   replace HB := lH (au HB.out hon (by omega) HB.out.size)
   replace HOB := lH (HOB.out.only hon (by first | omega | (simp; omega)))
   replace HXb := nO HXb hon
   clear hxb hfb hkb; obtain ⟨hkb, hxb, hfb⟩ := HXb.out
   replace HXr := nO HXr hon
   clear hxr hfr hkr; obtain ⟨hkr, hxr, hfr⟩ := HXr.out
   replace HXq := nO HXq hon
   clear hxq hfq hkq; obtain ⟨hkq, hxq, hfq⟩ := HXq.out
   replace HXo := nO HXo hon
   clear hxo hfo hko; obtain ⟨hko, hxo, hfo⟩ := HXo.out; clear HOC HRR
   have HOE5 : Hid (aJ w2_ (lo5) (hi5) (((41, 5), .slice a3.E ne a3.ce, ne)) (aQ es)) := lH re
   have HOH5 : Hid (aJ w2_ (lo5) (hi5) (((33, 5), .slice a3.H nh a3.ch, nh)) (hds hs)) := lH rh
   have HOA5 : Hid (aJ w2_ (lo5) (hi5) (((9, 1), .slice a3.A1 l1.length a3.c1, l1.length)) (strs l1)) := lH ra
   have HOB5 : Hid (aJ w2_ (lo5) (hi5) (((9, 1), .slice a3.A2 l2.length a3.c2, l2.length)) (strs l2)) := lH rb
   have HOR5 : Hid (aJ w2_ (g4) (g4 + 1) (((43, 3), .slice (some ⟨g4, 0, none⟩) (nr + 1) c4, nr + 1)) (bf rs ++ bf [r])) := lH hrow
   clear hon re rh ra rb hrow hg hgr
   go_upto_region 15 with fail
   refine aC (fun w12 hw => ?_)
   have hz12 : w2_.heap.size + 0 ≤ w12.heap.size := zA
   replace HB : Hid (Below w.heap.size w w12) := zC HB
   replace HOB : Hid (aH w12 (0) (w.heap.size) (⟨E, R, H, A1, A2, ce, cr, ch, c1, c2⟩) (⟨width, es, rs, hs⟩)) := zLBrkK HOB
   replace HOE5 : Hid (aJ w12 (lo5) (hi5) (((41, 5), .slice a3.E ne a3.ce, ne)) (aQ es)) := zLRowT HOE5
   replace HOH5 : Hid (aJ w12 (lo5) (hi5) (((33, 5), .slice a3.H nh a3.ch, nh)) (hds hs)) := zLRowT HOH5
   replace HOA5 : Hid (aJ w12 (lo5) (hi5) (((9, 1), .slice a3.A1 l1.length a3.c1, l1.length)) (strs l1)) := zLRowT HOA5
   replace HOB5 : Hid (aJ w12 (lo5) (hi5) (((9, 1), .slice a3.A2 l2.length a3.c2, l2.length)) (strs l2)) := zLRowT HOB5
   replace HOR5 : Hid (aJ w12 (g4) (g4 + 1) (((43, 3), .slice (some ⟨g4, 0, none⟩) (nr + 1) c4, nr + 1)) (bf rs ++ bf [r])) := zLRowT HOR5
   replace HXb := nE w12 HXb
   clear hxb hfb hkb; obtain ⟨hkb, hxb, hfb⟩ := HXb.out
   replace HXr := nE w12 HXr
   clear hxr hfr hkr; obtain ⟨hkr, hxr, hfr⟩ := HXr.out
   replace HXq := nE w12 HXq
   clear hxq hfq hkq; obtain ⟨hkq, hxq, hfq⟩ := HXq.out
   replace HXo : Hid (aa w12 (w10.heap.size) [.int .i64 width, .slice a3.E ne a3.ce, .slice (some ⟨g4, 0, none⟩) (nr + 1) c4, .slice a3.H nh a3.ch, .int .i64 h.size, .slice a3.A1 m1 a3.c1, .int .i64 h.taken, .slice a3.A2 m2 a3.c2, .int .i64 h.num, .int .i64 h.size, .string h.root, .int .i64 h.taken, .string h.troot]) := zD HXo
   clear hxo hfo hko; obtain ⟨hko, hxo, hfo⟩ := HXo.out; clear hw
   obtain ⟨F, HF⟩ : ∃ F : Facts, Hid (F = fun iq xq tqs dsq uq => match iq with
    | 0 => xq.v = .agg #[.int .i64 width, .slice a3.E ne a3.ce, .slice (some ⟨g4, 0, none⟩) (nr + 1) c4, .slice a3.H nh a3.ch, .int .i64 h.size, .slice a3.A1 m1 a3.c1, .int .i64 h.taken, .slice a3.A2 m2 a3.c2, .int .i64 h.num, .int .i64 h.size, .string h.root, .int .i64 h.taken, .string h.troot]
    | 1 => xq.v = .agg #[.int .i64 width, .slice E ne ce, .slice R nr cr, .slice H nh ch, .int .i64 h.size, .slice A1 m1 c1, .int .i64 h.taken, .slice A2 m2 c2, .int .i64 h.num, .int .i64 h.size, .string h.root, .int .i64 h.taken, .string h.troot]
    | 2 => xq.v = .string tx
    | 3 => ∃ (kw : Nat), xq.v = .slice (some ⟨kw, 0, none⟩) 1 1 ∧ (True)
    | 4 => aa uq (w.heap.size + 2) [.int .i64 width, .slice a3.E ne a3.ce, .slice (some ⟨g4, 0, none⟩) (nr + 1) c4, .slice a3.H nh a3.ch, .int .i64 h.size, .slice a3.A1 m1 a3.c1, .int .i64 h.taken, .slice a3.A2 m2 a3.c2, .int .i64 h.num, .int .i64 h.size, .string h.root, .int .i64 h.taken, .string h.troot]
    | 5 => (match tqs, dsq with | [], [yq0] => ∃ (kw : Nat), yq0.v = .slice (some ⟨kw, 0, none⟩) 1 1 ∧ xq.v = .slice (some ⟨kw, 0, none⟩) 1 1 | _, _ => False)
    | 6 => xq.v = .int .i64 0
    | _ => False) := ⟨_, rfl⟩
   refine aX [[], [], [], [], [], [3], []] [[], [], [], [], [], [], []] [some 54, some 55, some 56, some 57, none, some 5, some 6] (some 4) (w.heap.size + 2) (w.heap.size + 2 + 1) (.inr (by omega)) F (by kernel_rfl) (by kernel_rfl) (by kernel_rfl) ?_ ⟨?_, ?_, ?_, ?_, ?_, ?_, ?_, trivial⟩ ?_
   ·rw [HF.out]; intro iq xq tqs dsq uq u' hi hf hs hW hx hbk
    have kx : ∀ b, xq.s ≤ b → b < xq.e → u'.heap[b]? = uq.heap[b]? := fun b h1 h2 => hbk b (.inr (.inl ⟨h1, h2⟩))
    have kt : ∀ t ∈ tqs, ∀ b, t.s ≤ b → b < t.e → u'.heap[b]? = uq.heap[b]? := fun t ht b h1 h2 => hbk b (.inr (.inr ⟨t, ht, h1, h2⟩))
    match iq with
    | 0 | 1 | 2 => exact hf
    | 3 => obtain ⟨kw, hv, p0⟩ := hf; exact ⟨kw, hv, trivial⟩
    | 4 => exact aa.keep hf hs (hbk _ (.inl ⟨hkq, .inr (.inr rfl)⟩))
    | 5 | 6 => exact hf
   ·intro gh ρ u _ _ _ hd h0 hb he ha hF
    first | replace hb := hb.drew.below (by decide +kernel) | replace hb := hb.drew.only
    have hbz : w12.heap.size ≤ u.heap.size := hb.size
    have r10 : ρ (.tmp 10) = .pointer (some ⟨w10.heap.size, 0, none⟩) := (h0 10 (by decide +kernel)).trans rfl
    first | have q_o := (HXo.out.below hb).2.1 | have q_o := (HXo.out.only hb (by omega)).2.1
    have k_o : w10.heap.size < u.heap.size := by have := HXo.out.1; omega
    first | have q_b := (HXb.out.below hb).2.1 | have q_b := (HXb.out.only hb (by omega)).2.1
    have k_b : w.heap.size < u.heap.size := by have := HXb.out.1; omega
    clear hd h0 he ha hF; go_simp; exact fE HF rfl
   ·intro gh ρ u _ _ _ hd h0 hb he ha hF
    first | replace hb := hb.drew.below (by decide +kernel) | replace hb := hb.drew.only
    have hbz : w12.heap.size ≤ u.heap.size := hb.size
    have r2 : ρ (.tmp 2) = .pointer (some ⟨w.heap.size, 0, none⟩) := (h0 2 (by decide +kernel)).trans rfl
    first | have q_o := (HXo.out.below hb).2.1 | have q_o := (HXo.out.only hb (by omega)).2.1
    have k_o : w10.heap.size < u.heap.size := by have := HXo.out.1; omega
    first | have q_b := (HXb.out.below hb).2.1 | have q_b := (HXb.out.only hb (by omega)).2.1
    have k_b : w.heap.size < u.heap.size := by have := HXb.out.1; omega
    clear hd h0 he ha hF; go_simp; exact fE HF rfl
   ·intro gh ρ u _ _ _ hd h0 hb he ha hF
    have r8 : ρ (.tmp 8) = .string tx := (h0 8 (by decide +kernel)).trans rfl
    clear hd h0 he ha hF; go_simp; exact fE HF rfl
   ·intro gh ρ u _ _ _ hd h0 hb he ha hF
    first | replace hb := hb.drew.below (by decide +kernel) | replace hb := hb.drew.only
    have hbz : w12.heap.size ≤ u.heap.size := hb.size
    have r55 : ρ (.tmp 55) = .agg #[.int .i64 width, .slice E ne ce, .slice R nr cr, .slice H nh ch, .int .i64 h.size, .slice A1 m1 c1, .int .i64 h.taken, .slice A2 m2 c2, .int .i64 h.num, .int .i64 h.size, .string h.root, .int .i64 h.taken, .string h.troot] := fH (hd 1) 55 (fG HF (hF 1))
    have r56 : ρ (.tmp 56) = .string tx := fH (hd 2) 56 (fG HF (hF 2))
    clear hd h0 he ha hF; go_simp
    have q_o := (HXo.out.below hb)
    have q_b := (HXb.out.below hb)
    refine (HWR.out _ (HOB.out.below hb).base tx (by omega)).mono ?_
    rintro e u1 ⟨kw, rfl, hb1⟩
    rw [HF.out]
    exact ⟨_, rfl, aS.of_below hb1, kw, rfl, trivial⟩
   ·intro gh ρ u _ _ _ hd h0 hb he ha hF
    first | replace hb := hb.drew.below (by decide +kernel) | replace hb := hb.drew.only
    have hbz : w12.heap.size ≤ u.heap.size := hb.size
    have r4 : ρ (.tmp 4) = .pointer (some ⟨w.heap.size + 2, 0, none⟩) := (h0 4 (by decide +kernel)).trans rfl
    have r54 : ρ (.tmp 54) = .agg #[.int .i64 width, .slice a3.E ne a3.ce, .slice (some ⟨g4, 0, none⟩) (nr + 1) c4, .slice a3.H nh a3.ch, .int .i64 h.size, .slice a3.A1 m1 a3.c1, .int .i64 h.taken, .slice a3.A2 m2 a3.c2, .int .i64 h.num, .int .i64 h.size, .string h.root, .int .i64 h.taken, .string h.troot] := fH (hd 0) 54 (fG HF (hF 0))
    obtain ⟨hzk, hzc, hzf⟩ := HXq.out.below hb
    clear hd h0 he ha hF; go_simp
    rw [HF.out]
    refine ⟨?_, ?_⟩
    ·refine aS.of_z (lo := w.heap.size + 2) (hi := w.heap.size + 2 + 1) ?_ rfl; (iterate 13 refine Only.setCell ?_ (by exact Nat.le_refl _) (by exact Nat.lt_succ_self _) _); exact Only.refl _ _ _
    show aa _ (w.heap.size + 2) _
    exact ⟨by simpa [World.setCell] using hzk, fun o => by rcases o with _ | _ | _ | _ | _ | _ | _ | _ | _ | _ | _ | _ | _ | o <;> go_simp, fun o => by go_simp⟩
   ·intro gh ρ u _ _ _ hd h0 hb he ha hF
    have f3 : ∃ (kw : Nat), (gh 3).v = .slice (some ⟨kw, 0, none⟩) 1 1 ∧ (True) := fG HF (hF 3)
    obtain ⟨kw, hv3, g3_0⟩ := f3; have hrt3 := hv3
    have r57 : ρ (.tmp 57) = .slice (some ⟨kw, 0, none⟩) 1 1 := (hd 3 (by decide +kernel) 57 (by kernel_rfl)).trans hv3
    have HRT3 := lH hrt3
    clear hv3 hrt3 hd h0 he ha hF; go_simp
    rw [HF.out]
    exact ⟨aS.refl _ _, kw, HRT3.out, rfl⟩
   ·intro gh ρ u _ _ _ hd h0 hb he ha hF
    clear hd h0 he ha hF; go_simp; exact fE HF rfl
   intro gh w13 hB hE hA hF
   replace hB : Only (w.heap.size + 2) (w.heap.size + 2 + 1) w12 w13 := hB.only
   have f0 : (gh 0).v = .agg #[.int .i64 width, .slice a3.E ne a3.ce, .slice (some ⟨g4, 0, none⟩) (nr + 1) c4, .slice a3.H nh a3.ch, .int .i64 h.size, .slice a3.A1 m1 a3.c1, .int .i64 h.taken, .slice a3.A2 m2 a3.c2, .int .i64 h.num, .int .i64 h.size, .string h.root, .int .i64 h.taken, .string h.troot] := fG HF (hF 0)
   have f1 : (gh 1).v = .agg #[.int .i64 width, .slice E ne ce, .slice R nr cr, .slice H nh ch, .int .i64 h.size, .slice A1 m1 c1, .int .i64 h.taken, .slice A2 m2 c2, .int .i64 h.num, .int .i64 h.size, .string h.root, .int .i64 h.taken, .string h.troot] := fG HF (hF 1)
   have f2 : (gh 2).v = .string tx := fG HF (hF 2)
   have f3 : ∃ (kw : Nat), (gh 3).v = .slice (some ⟨kw, 0, none⟩) 1 1 ∧ (True) := fG HF (hF 3)
   have f4 : aa w13 (w.heap.size + 2) [.int .i64 width, .slice a3.E ne a3.ce, .slice (some ⟨g4, 0, none⟩) (nr + 1) c4, .slice a3.H nh a3.ch, .int .i64 h.size, .slice a3.A1 m1 a3.c1, .int .i64 h.taken, .slice a3.A2 m2 a3.c2, .int .i64 h.num, .int .i64 h.size, .string h.root, .int .i64 h.taken, .string h.troot] := fG HF (hF 4)
   have f5 : ∃ (kw : Nat), (gh 3).v = .slice (some ⟨kw, 0, none⟩) 1 1 ∧ (gh 5).v = .slice (some ⟨kw, 0, none⟩) 1 1 := fG HF (hF 5)
   have f6 : (gh 6).v = .int .i64 0 := fG HF (hF 6)
   obtain ⟨kw, hv3, _⟩ := f3; have hv0 := f0; have hv1 := f1; have hv2 := f2; have hx4 := f4; obtain ⟨kw_5, hu3, hv5⟩ := f5
   replace hu3 := hv3.symm.trans hu3
   simp at hu3
   try simp only [and_assoc] at hu3
   obtain rfl := hu3
   have hv6 := f6; clear hE hA hF
   simp only [dQ, Nat.reduceAdd, hv0, hv1, hv2, hv3, hv5, hv6]
   clear hv0 hv1 hv2 hv3 hv5 hv6; clear HF; have hb := hB; clear hB
   have hzw13 : w12.heap.size ≤ w13.heap.size := hb.size
   replace HB := lH (au HB.out hb (by omega) HB.out.size)
   replace HOB := lH (HOB.out.only hb (by first | omega | (simp; omega)))
   replace HOE5 := lH (HOE5.out.only hb (by first | omega | (simp; omega)))
   replace HOH5 := lH (HOH5.out.only hb (by first | omega | (simp; omega)))
   replace HOA5 := lH (HOA5.out.only hb (by first | omega | (simp; omega)))
   replace HOB5 := lH (HOB5.out.only hb (by first | omega | (simp; omega)))
   replace HOR5 := lH (HOR5.out.only hb (by first | omega | (simp; omega)))
   replace HXb := nO HXb hb
   clear hxb hfb hkb; obtain ⟨hkb, hxb, hfb⟩ := HXb.out
   replace HXr := nO HXr hb
   clear hxr hfr hkr; obtain ⟨hkr, hxr, hfr⟩ := HXr.out; clear hxq hfq hkq HXq
   replace HXo := nO HXo hb
   clear hxo hfo hko; obtain ⟨hko, hxo, hfo⟩ := HXo.out; clear hb
   have HXq : Hid (aa w13 (w.heap.size + 2) [.int .i64 width, .slice a3.E ne a3.ce, .slice (some ⟨g4, 0, none⟩) (nr + 1) c4, .slice a3.H nh a3.ch, .int .i64 h.size, .slice a3.A1 m1 a3.c1, .int .i64 h.taken, .slice a3.A2 m2 a3.c2, .int .i64 h.num, .int .i64 h.size, .string h.root, .int .i64 h.taken, .string h.troot]) := hx4
   obtain ⟨hkq, hxq, hfq⟩ := HXq.out; clear hx4
   have hbk := brk_rows (lo := w.heap.size) HPO.out HNE.out (by rw [List.length_append, HNR.out] <;> rfl) HNH.out HOE5.out (by rw [rcps_app]; exact HOR5.out) HOH5.out (by rw [HQ3.out]; exact (HOA5.out.rd (by omega)).mono (by omega) (by omega) (Nat.le_refl _)) (by rw [HQ4.out]; exact (HOB5.out.rd (by omega)).mono (by omega) (by omega) (Nat.le_refl _)) (HOA5.out.own (by omega)).2.1 (HOB5.out.own (by omega)).2.1 (by omega) (by omega) (by omega)
   have HBK := lH hbk
   clear hbk; go_wp2
   refine bodyPost_ret (v := .tuple #[.agg #[.int .i64 width, .slice a3.E ne a3.ce, .slice (some ⟨g4, 0, none⟩) (nr + 1) c4, .slice a3.H nh a3.ch, .int .i64 h.size, .slice a3.A1 m1 a3.c1, .int .i64 h.taken, .slice a3.A2 m2 a3.c2, .int .i64 h.num, .int .i64 h.size, .string h.root, .int .i64 h.taken, .string h.troot], .slice (some ⟨kw, 0, none⟩) 1 1, .int .i64 0]) (by simp [results, Tryz.results60, go_sem, hxq]) rfl ?_
   exact ⟨⟨a3.E, some ⟨g4, 0, none⟩, a3.H, a3.A1, a3.A2, a3.ce, c4, a3.ch, a3.c1, a3.c2⟩, ⟨width, es, rs ++ [r], hs⟩, some ⟨kw, 0, none⟩, 1, 1, 0, by dsimp only; rw [List.length_append, HNE.out, HNR.out, HNH.out, HM1.out, HM2.out, HHH.out] <;> rfl, fun _ => ⟨HBK.out, rfl, Nat.le_succ _⟩, HB.out⟩
  have hrp : 0 ≤ rp := of_decide_eq_true hd
  go_wp2
  refine ag (fun w7 hw => ?_)
  have hz7 : w6.heap.size + 0 ≤ w7.heap.size := zA
  replace HB : Hid (Below w.heap.size w w7) := zC HB
  replace HOB : Hid (aH w7 (0) (w.heap.size) (⟨E, R, H, A1, A2, ce, cr, ch, c1, c2⟩) (⟨width, es, rs, hs⟩)) := zLBrkK HOB
  replace HXb := nE w7 HXb
  clear hxb hfb hkb; obtain ⟨hkb, hxb, hfb⟩ := HXb.out
  replace HXr := nE w7 HXr
  clear hxr hfr hkr; obtain ⟨hkr, hxr, hfr⟩ := HXr.out
  replace HXq : Hid (aa w7 (w.heap.size + 2) [.int .i64 0, .slice none 0 0, .slice none 0 0, .slice none 0 0, .int .i64 0, .slice none 0 0, .int .i64 0, .slice none 0 0, .int .i64 0, .int .i64 0, .string ⟨#[]⟩, .int .i64 0, .string ⟨#[]⟩]) := zD HXq
  clear hxq hfq hkq; obtain ⟨hkq, hxq, hfq⟩ := HXq.out; clear hw
  refine bodyPost_ret (v := .tuple #[.agg #[.int .i64 0, .slice none 0 0, .slice none 0 0, .slice none 0 0, .int .i64 0, .slice none 0 0, .int .i64 0, .slice none 0 0, .int .i64 0, .int .i64 0, .string ⟨#[]⟩, .int .i64 0, .string ⟨#[]⟩], .slice (some ⟨w6.heap.size, 0, none⟩) 0 0, .int .i64 4]) (by simp [results, Tryz.results60, go_sem, hxq]) rfl ?_
  exact ⟨zeroBk, zeroBm, _, 0, 0, 4, rfl, gF.no (by decide) HB.out⟩
 go_wp2_with fail
 refine aC (fun w3 hw => ?_)
 have hz3 : w2.heap.size + 0 ≤ w3.heap.size := zA
 have hbn : Below w2.heap.size w2 w3 := zB
 replace HB := bT HB hbn
 replace HOB := lH (HOB.out.below hbn)
 replace HXb := nB HXb hbn
 clear hxb hfb hkb
 obtain ⟨hkb, hxb, hfb⟩ := HXb.out
 replace HXr := nB HXr hbn
 clear hxr hfr hkr
 obtain ⟨hkr, hxr, hfr⟩ := HXr.out
 replace HXq := nB HXq hbn
 clear hxq hfq hkq
 obtain ⟨hkq, hxq, hfq⟩ := HXq.out
 clear hbn
 clear hw
 obtain ⟨F, HF⟩ : ∃ F : Facts, Hid (F = fun iq xq tqs dsq uq => match iq with
  | 0 => xq.v = .pointer (some ⟨(w.heap.size), 1, none⟩)
  | 1 => xq.v = .pointer (some ⟨(w.heap.size), 1, none⟩)
  | 2 => xq.v = .slice E ne ce
  | 3 => xq.v = .agg #[.int .i64 width, .slice E ne ce, .slice R nr cr, .slice H nh ch, .int .i64 h.size, .slice A1 m1 c1, .int .i64 h.taken, .slice A2 m2 c2, .int .i64 h.num, .int .i64 h.size, .string h.root, .int .i64 h.taken, .string h.troot]
  | 4 => xq.v = .agg #[.int .i64 h.num, .int .i64 h.size, .string h.root, .int .i64 h.taken, .string h.troot]
  | 5 => xq.v = .int .i64 h.size
  | 6 => xq.v = .slice E sz ce
  | 7 => xq.v = .pointer (some ⟨(w.heap.size + 1), 1, none⟩)
  | 8 => xq.v = .string r.topic
  | 9 => xq.v = .pointer (some ⟨(w.heap.size + 1), 2, none⟩)
  | 10 => xq.v = .int .i64 r.index
  | 11 => xq.v = .int .i64 lf
  | 12 => xq.v = .bool true
  | _ => False) := ⟨_, rfl⟩
 refine aX [[], [], [], [], [], [], [], [], [], [], [], [], []] [[], [], [], [], [], [], [], [], [], [], [], [], []] [some 14, some 15, some 16, some 17, some 18, some 19, some 20, some 21, some 22, some 23, some 24, some 25, some 26] none 0 0 (.inl rfl) F (by kernel_rfl) (by kernel_rfl) (by kernel_rfl) ?_ ⟨?_, ?_, ?_, ?_, ?_, ?_, ?_, ?_, ?_, ?_, ?_, ?_, ?_, trivial⟩ ?_
 ·rw [HF.out]; intro iq xq tqs dsq uq u' hi hf hs hW hx hbk
  have kx : ∀ b, xq.s ≤ b → b < xq.e → u'.heap[b]? = uq.heap[b]? := fun b h1 h2 => hbk b (.inr (.inl ⟨h1, h2⟩))
  have kt : ∀ t ∈ tqs, ∀ b, t.s ≤ b → b < t.e → u'.heap[b]? = uq.heap[b]? := fun t ht b h1 h2 => hbk b (.inr (.inr ⟨t, ht, h1, h2⟩))
  match iq with
  | 0 | 1 => exact hf
  | 2 | 3 => exact hf
  | 4 | 5 => exact hf
  | 6 | 7 => exact hf
  | 8 | 9 => exact hf
  | 10 | 11 | 12 => exact hf
 ·intro gh ρ u _ _ _ hd h0 hb he ha hF
  have r2 : ρ (.tmp 2) = .pointer (some ⟨w.heap.size, 0, none⟩) := (h0 2 (by decide +kernel)).trans rfl
  clear hd h0 he ha hF; go_simp; exact fE HF rfl
 ·intro gh ρ u _ _ _ hd h0 hb he ha hF
  have r14 : ρ (.tmp 14) = .pointer (some ⟨(w.heap.size), 1, none⟩) := fH (hd 0) 14 (fG HF (hF 0))
  clear hd h0 he ha hF; go_simp; exact fE HF rfl
 ·intro gh ρ u _ _ _ hd h0 hb he ha hF
  replace hb := hb.drew.below (by decide +kernel)
  have hbz := hb.size
  have r15 : ρ (.tmp 15) = .pointer (some ⟨(w.heap.size), 1, none⟩) := fH (hd 1) 15 (fG HF (hF 1))
  obtain ⟨k_b, q_b, -⟩ := HXb.out.below hb
  obtain ⟨k_r, q_r, -⟩ := HXr.out.below hb
  clear hd h0 he ha hF; go_simp; exact fE HF rfl
 ·intro gh ρ u _ _ _ hd h0 hb he ha hF
  replace hb := hb.drew.below (by decide +kernel)
  have hbz := hb.size
  have r2 : ρ (.tmp 2) = .pointer (some ⟨w.heap.size, 0, none⟩) := (h0 2 (by decide +kernel)).trans rfl
  obtain ⟨k_b, q_b, -⟩ := HXb.out.below hb
  obtain ⟨k_r, q_r, -⟩ := HXr.out.below hb
  clear hd h0 he ha hF; go_simp; exact fE HF rfl
 ·intro gh ρ u _ _ _ hd h0 hb he ha hF
  replace hb := hb.drew.below (by decide +kernel)
  have hbz := hb.size
  have r17 : ρ (.tmp 17) = .agg #[.int .i64 width, .slice E ne ce, .slice R nr cr, .slice H nh ch, .int .i64 h.size, .slice A1 m1 c1, .int .i64 h.taken, .slice A2 m2 c2, .int .i64 h.num, .int .i64 h.size, .string h.root, .int .i64 h.taken, .string h.troot] := fH (hd 3) 17 (fG HF (hF 3))
  clear hd h0 he ha hF; go_simp
  have q_b := (HXb.out.below hb)
  have q_r := (HXr.out.below hb)
  refine (HLA.out _ (HOB.out.below hb).base).mono ?_
  rintro e u1 ⟨rfl, hb1⟩
  rw [HF.out]
  exact ⟨_, rfl, aS.of_below hb1, rfl⟩
 ·intro gh ρ u _ _ _ hd h0 hb he ha hF
  have r18 : ρ (.tmp 18) = .agg #[.int .i64 h.num, .int .i64 h.size, .string h.root, .int .i64 h.taken, .string h.troot] := fH (hd 4) 18 (fG HF (hF 4))
  clear hd h0 he ha hF; go_simp; exact fE HF rfl
 ·intro gh ρ u _ _ _ hd h0 hb he ha hF
  have r16 : ρ (.tmp 16) = .slice E ne ce := fH (hd 2) 16 (fG HF (hF 2))
  have r19 : ρ (.tmp 19) = .int .i64 h.size := fH (hd 5) 19 (fG HF (hF 5))
  clear hd h0 he ha hF; go_simp; exact fE HF rfl
 ·intro gh ρ u _ _ _ hd h0 hb he ha hF
  have r3 : ρ (.tmp 3) = .pointer (some ⟨w.heap.size + 1, 0, none⟩) := (h0 3 (by decide +kernel)).trans rfl
  clear hd h0 he ha hF; go_simp; exact fE HF rfl
 ·intro gh ρ u _ _ _ hd h0 hb he ha hF
  replace hb := hb.drew.below (by decide +kernel)
  have hbz := hb.size
  have r21 : ρ (.tmp 21) = .pointer (some ⟨(w.heap.size + 1), 1, none⟩) := fH (hd 7) 21 (fG HF (hF 7))
  obtain ⟨k_b, q_b, -⟩ := HXb.out.below hb
  obtain ⟨k_r, q_r, -⟩ := HXr.out.below hb
  clear hd h0 he ha hF; go_simp; exact fE HF rfl
 ·intro gh ρ u _ _ _ hd h0 hb he ha hF
  have r3 : ρ (.tmp 3) = .pointer (some ⟨w.heap.size + 1, 0, none⟩) := (h0 3 (by decide +kernel)).trans rfl
  clear hd h0 he ha hF; go_simp; exact fE HF rfl
 ·intro gh ρ u _ _ _ hd h0 hb he ha hF
  replace hb := hb.drew.below (by decide +kernel)
  have hbz := hb.size
  have r23 : ρ (.tmp 23) = .pointer (some ⟨(w.heap.size + 1), 2, none⟩) := fH (hd 9) 23 (fG HF (hF 9))
  obtain ⟨k_b, q_b, -⟩ := HXb.out.below hb
  obtain ⟨k_r, q_r, -⟩ := HXr.out.below hb
  clear hd h0 he ha hF; go_simp; exact fE HF rfl
 ·intro gh ρ u _ _ _ hd h0 hb he ha hF
  replace hb := hb.drew.below (by decide +kernel)
  have hbz := hb.size
  have r20 : ρ (.tmp 20) = .slice E sz ce := fH (hd 6) 20 (fG HF (hF 6))
  have r22 : ρ (.tmp 22) = .string r.topic := fH (hd 8) 22 (fG HF (hF 8))
  have r24 : ρ (.tmp 24) = .int .i64 r.index := fH (hd 10) 24 (fG HF (hF 10))
  clear hd h0 he ha hF; go_simp
  have q_b := (HXb.out.below hb)
  have q_r := (HXr.out.below hb)
  refine (HLF.out _ (HOB.out.below hb).base).mono ?_
  rintro e u1 ⟨rfl, hb1⟩
  rw [HF.out]
  exact ⟨_, rfl, aS.of_below hb1, rfl⟩
 ·intro gh ρ u _ _ _ hd h0 hb he ha hF
  have r25 : ρ (.tmp 25) = .int .i64 lf := fH (hd 11) 25 (fG HF (hF 11))
  clear hd h0 he ha hF; go_simp; exact fE HF rfl
 intro gh w4 hB hE hA hF
 replace hB : Below w3.heap.size w3 w4 := hB.below rfl
 have f0 : (gh 0).v = .pointer (some ⟨(w.heap.size), 1, none⟩) := fG HF (hF 0)
 have f1 : (gh 1).v = .pointer (some ⟨(w.heap.size), 1, none⟩) := fG HF (hF 1)
 have f2 : (gh 2).v = .slice E ne ce := fG HF (hF 2)
 have f3 : (gh 3).v = .agg #[.int .i64 width, .slice E ne ce, .slice R nr cr, .slice H nh ch, .int .i64 h.size, .slice A1 m1 c1, .int .i64 h.taken, .slice A2 m2 c2, .int .i64 h.num, .int .i64 h.size, .string h.root, .int .i64 h.taken, .string h.troot] := fG HF (hF 3)
 have f4 : (gh 4).v = .agg #[.int .i64 h.num, .int .i64 h.size, .string h.root, .int .i64 h.taken, .string h.troot] := fG HF (hF 4)
 have f5 : (gh 5).v = .int .i64 h.size := fG HF (hF 5)
 have f6 : (gh 6).v = .slice E sz ce := fG HF (hF 6)
 have f7 : (gh 7).v = .pointer (some ⟨(w.heap.size + 1), 1, none⟩) := fG HF (hF 7)
 have f8 : (gh 8).v = .string r.topic := fG HF (hF 8)
 have f9 : (gh 9).v = .pointer (some ⟨(w.heap.size + 1), 2, none⟩) := fG HF (hF 9)
 have f10 : (gh 10).v = .int .i64 r.index := fG HF (hF 10)
 have f11 : (gh 11).v = .int .i64 lf := fG HF (hF 11)
 have f12 : (gh 12).v = .bool true := fG HF (hF 12)
 have hv4 := f4
 have hv11 := f11
 have hv0 := f0
 have hv1 := f1
 have hv2 := f2
 have hv3 := f3
 have hv5 := f5
 have hv6 := f6
 have hv7 := f7
 have hv8 := f8
 have hv9 := f9
 have hv10 := f10
 have hv12 := f12
 clear hE hA hF
 simp only [dQ, Nat.reduceAdd, hv0, hv1, hv2, hv3, hv4, hv5, hv6, hv7, hv8, hv9, hv10, hv11, hv12]
 clear hv0 hv1 hv2 hv3 hv4 hv5 hv6 hv7 hv8 hv9 hv10 hv11 hv12
 clear HF
 have hb := hB
 clear hB
 have hzw4 : w3.heap.size ≤ w4.heap.size := hb.size
 replace HB := bT HB hb
 replace HOB := lH (HOB.out.below hb)
 replace HXb := nB HXb hb
 clear hxb hfb hkb
 obtain ⟨hkb, hxb, hfb⟩ := HXb.out
 replace HXr := nB HXr hb
 clear hxr hfr hkr
 obtain ⟨hkr, hxr, hfr⟩ := HXr.out
 replace HXq := nB HXq hb
 clear hxq hfq hkq
 obtain ⟨hkq, hxq, hfq⟩ := HXq.out
 clear hb
 clear hd hsl hfld
 simp only [Act.put, List.setIfInBounds_toArray, List.set_cons_zero, List.set_cons_succ]
 go_wp2
 refine ag (fun w5 hw => ?_)
 have hz5 : w4.heap.size + 0 ≤ w5.heap.size := zA
 replace HB : Hid (Below w.heap.size w w5) := zC HB
 replace HOB : Hid (aH w5 (0) (w.heap.size) (⟨E, R, H, A1, A2, ce, cr, ch, c1, c2⟩) (⟨width, es, rs, hs⟩)) := zLBrkK HOB
 replace HXb := nE w5 HXb
 clear hxb hfb hkb
 obtain ⟨hkb, hxb, hfb⟩ := HXb.out
 replace HXr := nE w5 HXr
 clear hxr hfr hkr
 obtain ⟨hkr, hxr, hfr⟩ := HXr.out
 replace HXq : Hid (aa w5 (w.heap.size + 2) [.int .i64 0, .slice none 0 0, .slice none 0 0, .slice none 0 0, .int .i64 0, .slice none 0 0, .int .i64 0, .slice none 0 0, .int .i64 0, .int .i64 0, .string ⟨#[]⟩, .int .i64 0, .string ⟨#[]⟩]) := zD HXq
 clear hxq hfq hkq
 obtain ⟨hkq, hxq, hfq⟩ := HXq.out
 clear hw
 refine bodyPost_ret (v := .tuple #[.agg #[.int .i64 0, .slice none 0 0, .slice none 0 0, .slice none 0 0, .int .i64 0, .slice none 0 0, .int .i64 0, .slice none 0 0, .int .i64 0, .int .i64 0, .string ⟨#[]⟩, .int .i64 0, .string ⟨#[]⟩], .slice (some ⟨w4.heap.size, 0, none⟩) 0 0, .int .i64 3]) (by simp [results, Tryz.results60, go_sem, hxq]) rfl ?_
 exact ⟨zeroBk, zeroBm, _, 0, 0, 3, rfl, gF.no (by decide) HB.out⟩
end
end Go.Proofs.YtoccjgcokffkbaaGreat
