/- Part 36 of the proof of FnDeeds: lemmas and contracts. -/
import Derived.Test.YtoccjgcokffkbaaGreatTd35
import Derived.Deep.DeepCutAuto
namespace Go.Proofs.YtoccjgcokffkbaaGreat
set_option linter.unusedVariables false
set_option linter.unusedSimpArgs false
set_option maxHeartbeats 20000000
section
open Go.RowKit
theorem hdField0 (n s t : Int) (r u : ByteArray) (W : World) : (Instr.field 33 (.agg #[.int .i64 n, .int .i64 s, .string r, .int .i64 t, .string u]) 0).run Tryz.prog W = .ok (.int .i64 n) W := by kernel_rfl
theorem eqlHdT (a b : Hd) (h : a = b) (hb : b.fits) (W : World) : (binOp .eql 33 (.agg #[.int .i64 a.num, .int .i64 a.size, .string a.root, .int .i64 a.taken, .string a.troot]) (.agg #[.int .i64 b.num, .int .i64 b.size, .string b.root, .int .i64 b.taken, .string b.troot])).run Tryz.prog W = .ok (.bool true) W := by
 subst h
 have h9 := eqlHd a a hb hb W
 rw [decide_eq_true rfl] at h9
 exact h9
theorem brkOkB_c (width : Int) (E R H A1 A2 : Option Addr) (ne nr nh ce cr ch c1 c2 m1 m2 : Nat) (es : List Ent) (rs : List Rcp) (hs : List Hd) (l1 l2 : List ByteArray) (h : Hd) (W : World) (hk : aG W 0 W.heap.size ⟨E, R, H, A1, A2, ce, cr, ch, c1, c2⟩ ⟨width, es, rs, hs⟩) (hne : es.length = ne) (hnr : rs.length = nr) (hnh : hs.length = nh) (hl1 : pk1 width es hs = l1) (hl2 : pk2 width rs hs = l2) (hm1 : l1.length = m1) (hm2 : l2.length = m2) (hh : ae hs = h) :
  Calls Tryz.prog 23 #[.agg #[.int .i64 width, .slice E ne ce, .slice R nr cr, .slice H nh ch, .int .i64 h.size, .slice A1 m1 c1, .int .i64 h.taken, .slice A2 m2 c2, .int .i64 h.num, .int .i64 h.size, .string h.root, .int .i64 h.taken, .string h.troot]] W fun e w' => e = .returned (.bool true) ∧ Below W.heap.size W w' := by
 obtain ⟨f1, f2, f3, g1, g2, g3, g4, f4, g5, g6, g7⟩ := bN hk.ok
 dsimp only at f1 f2 f3 g1 g2 g3 g4 f4 g5 g6 g7
 subst hne
 subst hnr
 subst hnh
 subst hl1
 subst hl2
 subst hm1
 subst hm2
 subst hh
 have h9 := eZ width (ae hs).size (ae hs).taken E R H A1 A2 es.length rs.length hs.length ce cr ch c1 c2 0 W.heap.size 0 W.heap.size 0 W.heap.size 0 W.heap.size 0 W.heap.size (pk1 width es hs).length (pk2 width rs hs).length es rs hs (pk1 width es hs) (pk2 width rs hs) (ae hs) W hk.rE hk.rR hk.rH hk.r1 hk.r2 rfl rfl rfl rfl rfl (by omega) (by omega) (by omega) (by omega) (by omega) hk.kE hk.kR hk.kH f1 f2 f3 f4 (by omega)
 rw [show brkOk width es rs hs (ae hs).size (pk1 width es hs) (ae hs).taken (pk2 width rs hs) (ae hs) = true from hk.ok.ok] at h9
 exact h9
theorem waitingB_c (width : Int) (E R H A1 A2 : Option Addr) (ne nr nh ce cr ch c1 c2 m1 m2 : Nat) (es : List Ent) (rs : List Rcp) (hs : List Hd) (l1 l2 : List ByteArray) (h : Hd) (W : World) (hk : aG W 0 W.heap.size ⟨E, R, H, A1, A2, ce, cr, ch, c1, c2⟩ ⟨width, es, rs, hs⟩) (hne : es.length = ne) (hnr : rs.length = nr) (hnh : hs.length = nh) (hl1 : pk1 width es hs = l1) (hl2 : pk2 width rs hs = l2) (hm1 : l1.length = m1) (hm2 : l2.length = m2) (hh : ae hs = h) :
  Calls Tryz.prog 24 #[.agg #[.int .i64 width, .slice E ne ce, .slice R nr cr, .slice H nh ch, .int .i64 h.size, .slice A1 m1 c1, .int .i64 h.taken, .slice A2 m2 c2, .int .i64 h.num, .int .i64 h.size, .string h.root, .int .i64 h.taken, .string h.troot]] W fun e w' => e = .returned (.tuple #[.int .i64 ((ne : Nat) - h.size), .int .i64 ((nr : Nat) - h.taken)]) ∧ Below W.heap.size W w' := by
 obtain ⟨f1, f2, f3, g1, g2, g3, g4, f4, g5, g6, g7⟩ := bN hk.ok
 dsimp only at f1 f2 f3 g1 g2 g3 g4 f4 g5 g6 g7
 subst hne
 subst hnr
 subst hnh
 subst hl1
 subst hl2
 subst hm1
 subst hm2
 subst hh
 have h9 := implWaiting_c width (ae hs).size (ae hs).taken E R H A1 A2 es.length rs.length hs.length ce cr ch c1 c2 0 W.heap.size 0 W.heap.size 0 W.heap.size 0 W.heap.size 0 W.heap.size (pk1 width es hs).length (pk2 width rs hs).length es rs hs (pk1 width es hs) (pk2 width rs hs) (ae hs) W hk.rE hk.rR hk.rH hk.r1 hk.r2 rfl rfl rfl rfl rfl (by omega) (by omega) (by omega) (by omega) (by omega) hk.kE hk.kR hk.kH f1 f2 f3 f4 (by omega)
 rw [wt1, wt2, if_pos (show brkOk width es rs hs (ae hs).size (pk1 width es hs) (ae hs).taken (pk2 width rs hs) (ae hs) = true from hk.ok.ok), if_pos (show brkOk width es rs hs (ae hs).size (pk1 width es hs) (ae hs).taken (pk2 width rs hs) (ae hs) = true from hk.ok.ok)] at h9
 exact h9
set_option maxRecDepth 100000 in
theorem walk_FnDeeds (n g : Nat) (B : Option Addr) (l0 : List Int) (w : World) (hr : Rd w 0 w.heap.size B (bys l0)) (hl : l0.length = n) (hng : n ≤ g) (hn : n ≤ maxLen) (hb : ∀ x ∈ l0, 0 ≤ x ∧ x ≤ 255) :
  Calls Tryz.prog 6 #[.slice B n g] w fun e w' => e = .returned (.bool true) ∧ Below w.heap.size w w' := by
 by_cases h20 : 1048576 < n
 ·have hd : decide (1048576 < n) = true := decide_eq_true h20
  go_enter Tryz.func6, Tryz.ntmps6
  go_wp2_with fail
  refine (big_c n g B _ hn).mono ?_
  rintro e w1 ⟨rfl, rfl⟩
  rw [hd]
  go_wp2
  go_ret
  exact ⟨rfl, Below.refl _ _⟩
 have hd : decide (1048576 < n) = false := decide_eq_false h20
 have HDA := lH (fun W (r : Rd W 0 W.heap.size B (bys l0)) => DrawRightP_c n g B l0 W r hl (by omega) hb)
 have HDD := lH (fun W (r : Rd W 0 W.heap.size B (bys l0)) => DrawDeed_c n g B l0 W r hl (by omega) hb)
 have HB : Hid (Below w.heap.size w w) := Below.refl _ _
 have HOQ : Hid (Rd w (0) (w.heap.size) (B) (bys l0)) := Rd.base hr
 clear hr hl hb hng
 go_enter Tryz.func6, Tryz.ntmps6
 go_wp2_with fail
 refine (big_c n g B _ hn).mono ?_
 rintro e w0_ ⟨rfl, rfl⟩
 rw [hd]
 clear hd hn
 go_wp2_with fail
 refine af (fun w1 hw => ?_)
 have hz1 : w.heap.size + 0 ≤ w1.heap.size := zA
 have hbn : Below w.heap.size w w1 := zB
 replace HB := bT HB hbn
 replace HOQ := lH (HOQ.out.below hbn)
 clear hbn
 clear hw
 refine (HDA.out _ HOQ.out.base).mono ?_
 rintro e w2 ⟨width, E, R, H, A1, A2, ne, nr, nh, ce, cr, ch, c1, c2, m1, m2, es, rs, hs, l1, l2, h, rfl, ⟨hbk, hne, hnr, hnh, hl1, hl2, hm1, hm2, hh, h24⟩, hb⟩
 have hzw2 : w1.heap.size ≤ w2.heap.size := hb.size
 replace HB := bT HB hb
 replace HOQ := lH (HOQ.out.below hb)
 clear hb
 have HOK : Hid (aG w2 (w1.heap.size) (w2.heap.size) (⟨E, R, H, A1, A2, ce, cr, ch, c1, c2⟩) (⟨width, es, rs, hs⟩)) := lH hbk
 have hok : aB width es rs hs := hbk.ok
 have HDI := lH (fun (kd : Int) (x : Ent) (r : Rcp) W (rr : aG W 0 W.heap.size ⟨E, R, H, A1, A2, ce, cr, ch, c1, c2⟩ ⟨width, es, rs, hs⟩) (h0 : 0 ≤ kd) (h3 : kd < 3) (hx : DrawnE x) (hr : DrawnR r) => didB_c width E R H A1 A2 ne nr nh ce cr ch c1 c2 m1 m2 es rs hs l1 l2 h kd x r W rr hne hnr hnh hl1 hl2 hm1 hm2 hh h0 h3 hx hr h24)
 have HBO := lH (fun W (rr : aG W 0 W.heap.size ⟨E, R, H, A1, A2, ce, cr, ch, c1, c2⟩ ⟨width, es, rs, hs⟩) => brkOkB_c width E R H A1 A2 ne nr nh ce cr ch c1 c2 m1 m2 es rs hs l1 l2 h W rr hne hnr hnh hl1 hl2 hm1 hm2 hh)
 obtain ⟨f1, f2, f3, g1, g2, g3, g4, f4, g5, g6, g7⟩ := bN hok
 rw [hnr] at g2
 rw [hnh] at g3
 rw [hh] at f4
 have hnum := dQ hok.last.2.2.2.2.2.2
 rw [hh] at hnum
 have hpos : 0 < nh := by rw [← hnh]; exact hok.pos
 have HLA := fun W (rr : aG W 0 W.heap.size ⟨E, R, H, A1, A2, ce, cr, ch, c1, c2⟩ ⟨width, es, rs, hs⟩) => lawLast_c width h.size h.taken E R H A1 A2 ne nr nh ce cr ch c1 c2 0 W.heap.size m1 m2 hs h W rr.rH hnh hpos (by omega)
 rw [hh] at HLA
 replace HLA := lH HLA
 have HNE := lH hne
 have HNR := lH hnr
 have HHH := lH hh
 have HF4 := lH f4
 clear hbk HDA hl1 hl2 hm1 hm2 hh hne hnr hok f1 f2 f3 f4 g1 g4 g5 g6 g7 hnh
 go_wp2_with fail
 refine af (fun w3 hw => ?_)
 have hz3 : w2.heap.size + 1 ≤ w3.heap.size := zA
 have hbn : Below w2.heap.size w2 w3 := zB
 replace HB := bT HB hbn
 replace HOQ := lH (HOQ.out.below hbn)
 replace HOK := lH (HOK.out.below hbn)
 clear hbn
 have HXb : Hid (aa w3 (w2.heap.size) [.int .i64 width, .slice E ne ce, .slice R nr cr, .slice H nh ch, .int .i64 h.size, .slice A1 m1 c1, .int .i64 h.taken, .slice A2 m2 c2, .int .i64 h.num, .int .i64 h.size, .string h.root, .int .i64 h.taken, .string h.troot]) := zG13
 obtain ⟨hkb, hxb, hfb⟩ := HXb.out
 clear hw
 refine (HDD.out _ HOQ.out.base).mono ?_
 rintro e w4 ⟨kd, x, r, D, rfl, ⟨hkd, hx, hr⟩, hb⟩
 have hzw4 : w3.heap.size ≤ w4.heap.size := hb.size
 replace HB := bT HB hb
 replace HOQ := lH (HOQ.out.below hb)
 replace HOK := lH (HOK.out.below hb)
 replace HXb := nB HXb hb
 clear hxb hfb hkb
 obtain ⟨hkb, hxb, hfb⟩ := HXb.out
 clear hb
 clear HOQ
 go_wp2_with fail
 refine af (fun w5 hw => ?_)
 have hz5 : w4.heap.size + 2 ≤ w5.heap.size := zA
 have hbn : Below w4.heap.size w4 w5 := zB
 replace HB := bT HB hbn
 replace HOK := lH (HOK.out.below hbn)
 replace HXb := nB HXb hbn
 clear hxb hfb hkb
 obtain ⟨hkb, hxb, hfb⟩ := HXb.out
 clear hbn
 have HXe : Hid (aa w5 (w4.heap.size) [.string x.topic, .int .i64 x.index, .int .i64 x.time, .string x.key, .string x.body]) := zG5
 obtain ⟨hke, hxe, hfe⟩ := HXe.out
 have HXr : Hid (aa w5 (w4.heap.size + 1) [.string r.reader, .string r.topic, .int .i64 r.index]) := zG3
 obtain ⟨hkr, hxr, hfr⟩ := HXr.out
 clear hw
 refine (HDI.out kd x r _ HOK.out.base hkd.1 hkd.2 hx hr).mono ?_
 rintro e w6 ⟨width2, E2, R2, H2, B1, B2, ne2, nr2, nh2, ce2, cr2, ch2, d1, d2, n1, n2, es2, rs2, hs2, k1, k2, h2, L, q, cd, rfl, hdp, hb⟩
 have hzw6 : w5.heap.size ≤ w6.heap.size := hb.size
 replace HB := bT HB hb
 replace HOK := lH (HOK.out.below hb)
 replace HXb := nB HXb hb
 clear hxb hfb hkb
 obtain ⟨hkb, hxb, hfb⟩ := HXb.out
 replace HXe := nB HXe hb
 clear hxe hfe hke
 obtain ⟨hke, hxe, hfe⟩ := HXe.out
 replace HXr := nB HXr hb
 clear hxr hfr hkr
 obtain ⟨hkr, hxr, hfr⟩ := HXr.out
 clear hb
 clear HDI HDD hx hr
 rcases hdp with ⟨hq1, hq2, hq3, hq4, hq5⟩ | ⟨hq1, hq2, hbk, ⟨hne2, hnr2, hnh2, hk1, hk2, hn1, hn2, hh2⟩, haf, f, tx, hde, hwr⟩
 ·have e1 : (cd != 0) = true := bne_iff_ne.2 hq1
  have e2 : decide (0 < kd) = true := decide_eq_true hq2
  subst hq3 hq4 hq5; clear hq1
  go_wp2_with fail
  refine af (fun w7 hw => ?_)
  have hz7 : w6.heap.size + 1 ≤ w7.heap.size := zA
  have hbn : Below w6.heap.size w6 w7 := zB
  replace HB := bT HB hbn; replace HOK := lH (HOK.out.below hbn); replace HXb := nB HXb hbn; clear hxb hfb hkb; obtain ⟨hkb, hxb, hfb⟩ := HXb.out; replace HXe := nB HXe hbn; clear hxe hfe hke; obtain ⟨hke, hxe, hfe⟩ := HXe.out; replace HXr := nB HXr hbn; clear hxr hfr hkr; obtain ⟨hkr, hxr, hfr⟩ := HXr.out; clear hbn
  have HXu : Hid (aa w7 (w6.heap.size) [.int .i64 width2, .slice E2 0 ce2, .slice R2 nr2 cr2, .slice H2 0 ch2, .int .i64 h2.size, .slice B1 n1 d1, .int .i64 h2.taken, .slice B2 n2 d2, .int .i64 h2.num, .int .i64 h2.size, .string h2.root, .int .i64 h2.taken, .string h2.troot]) := zG13
  obtain ⟨hku, hxu, hfu⟩ := HXu.out; clear hw
  refine (HBO.out _ HOK.out.base).mono ?_
  rintro e w8 ⟨rfl, hb⟩
  have hzw8 : w7.heap.size ≤ w8.heap.size := hb.size
  replace HB := bT HB hb; replace HOK := lH (HOK.out.below hb); replace HXb := nB HXb hb; clear hxb hfb hkb; obtain ⟨hkb, hxb, hfb⟩ := HXb.out; replace HXe := nB HXe hb; clear hxe hfe hke; obtain ⟨hke, hxe, hfe⟩ := HXe.out; replace HXr := nB HXr hb; clear hxr hfr hkr; obtain ⟨hkr, hxr, hfr⟩ := HXr.out; replace HXu := nB HXu hb; clear hxu hfu hku; obtain ⟨hku, hxu, hfu⟩ := HXu.out; clear hb; go_wp2
  go_ret
  exact ⟨rfl, HB.out⟩
 clear hwr hde
 subst hq1 hq2
 have HOK2 : Hid (aG w6 (w5.heap.size) (w6.heap.size) (⟨E2, R2, H2, B1, B2, ce2, cr2, ch2, d1, d2⟩) (⟨width2, es2, rs2, hs2⟩)) := lH hbk
 have hok2 : aB width2 es2 rs2 hs2 := hbk.ok
 have HBO2 := lH (fun W (rr : aG W 0 W.heap.size ⟨E2, R2, H2, B1, B2, ce2, cr2, ch2, d1, d2⟩ ⟨width2, es2, rs2, hs2⟩) => brkOkB_c width2 E2 R2 H2 B1 B2 ne2 nr2 nh2 ce2 cr2 ch2 d1 d2 n1 n2 es2 rs2 hs2 k1 k2 h2 W rr hne2 hnr2 hnh2 hk1 hk2 hn1 hn2 hh2)
 have HWT2 := lH (fun W (rr : aG W 0 W.heap.size ⟨E2, R2, H2, B1, B2, ce2, cr2, ch2, d1, d2⟩ ⟨width2, es2, rs2, hs2⟩) => waitingB_c width2 E2 R2 H2 B1 B2 ne2 nr2 nh2 ce2 cr2 ch2 d1 d2 n1 n2 es2 rs2 hs2 k1 k2 h2 W rr hne2 hnr2 hnh2 hk1 hk2 hn1 hn2 hh2)
 obtain ⟨f1, f2, f3, j1, j2, j3, j4, f4, j5, j6, j7⟩ := bN hok2
 rw [hne2] at j1
 rw [hnr2] at j2
 rw [hnh2] at j3
 have hpos2 : 0 < nh2 := by rw [← hnh2]; exact hok2.pos
 have hlast2 := hok2.last
 have hnum2 := dQ hok2.last.2.2.2.2.2.2
 rw [hh2] at hlast2 hnum2
 rw [hne2, hnr2] at hlast2
 have HLA2 := fun W (rr : aG W 0 W.heap.size ⟨E2, R2, H2, B1, B2, ce2, cr2, ch2, d1, d2⟩ ⟨width2, es2, rs2, hs2⟩) => lawLast_c width2 h2.size h2.taken E2 R2 H2 B1 B2 ne2 nr2 nh2 ce2 cr2 ch2 d1 d2 0 W.heap.size n1 n2 hs2 h2 W rr.rH hnh2 hpos2 (by omega)
 rw [hh2] at HLA2
 replace HLA2 := lH HLA2
 have HAF := lH haf
 have HEQ2 := lH (And.intro hne2 (And.intro hnr2 hh2))
 clear hbk hk1 hk2 hn1 hn2 hh2 hne2 hnr2 hok2 f1 f2 f3 f4 j4 j5 j6 j7 hnh2 haf
 go_wp2_with fail
 refine af (fun w7 hw => ?_)
 have hz7 : w6.heap.size + 1 ≤ w7.heap.size := zA
 have hbn : Below w6.heap.size w6 w7 := zB
 replace HB := bT HB hbn
 replace HOK := lH (HOK.out.below hbn)
 replace HOK2 := lH (HOK2.out.below hbn)
 replace HXb := nB HXb hbn
 clear hxb hfb hkb
 obtain ⟨hkb, hxb, hfb⟩ := HXb.out
 replace HXe := nB HXe hbn
 clear hxe hfe hke
 obtain ⟨hke, hxe, hfe⟩ := HXe.out
 replace HXr := nB HXr hbn
 clear hxr hfr hkr
 obtain ⟨hkr, hxr, hfr⟩ := HXr.out
 clear hbn
 have HXu : Hid (aa w7 (w6.heap.size) [.int .i64 width2, .slice E2 ne2 ce2, .slice R2 nr2 cr2, .slice H2 nh2 ch2, .int .i64 h2.size, .slice B1 n1 d1, .int .i64 h2.taken, .slice B2 n2 d2, .int .i64 h2.num, .int .i64 h2.size, .string h2.root, .int .i64 h2.taken, .string h2.troot]) := zG13
 obtain ⟨hku, hxu, hfu⟩ := HXu.out
 clear hw
 refine (HBO.out _ HOK.out.base).mono ?_
 rintro e w8 ⟨rfl, hb⟩
 have hzw8 : w7.heap.size ≤ w8.heap.size := hb.size
 replace HB := bT HB hb
 replace HOK := lH (HOK.out.below hb)
 replace HOK2 := lH (HOK2.out.below hb)
 replace HXb := nB HXb hb
 clear hxb hfb hkb
 obtain ⟨hkb, hxb, hfb⟩ := HXb.out
 replace HXe := nB HXe hb
 clear hxe hfe hke
 obtain ⟨hke, hxe, hfe⟩ := HXe.out
 replace HXr := nB HXr hb
 clear hxr hfr hkr
 obtain ⟨hkr, hxr, hfr⟩ := HXr.out
 replace HXu := nB HXu hb
 clear hxu hfu hku
 obtain ⟨hku, hxu, hfu⟩ := HXu.out
 clear hb
 clear HBO
 go_wp2_with fail
 refine af (fun w9 hw => ?_)
 have hz9 : w8.heap.size + 0 ≤ w9.heap.size := zA
 have hbn : Below w8.heap.size w8 w9 := zB
 replace HB := bT HB hbn
 replace HOK := lH (HOK.out.below hbn)
 replace HOK2 := lH (HOK2.out.below hbn)
 replace HXb := nB HXb hbn
 clear hxb hfb hkb
 obtain ⟨hkb, hxb, hfb⟩ := HXb.out
 replace HXe := nB HXe hbn
 clear hxe hfe hke
 obtain ⟨hke, hxe, hfe⟩ := HXe.out
 replace HXr := nB HXr hbn
 clear hxr hfr hkr
 obtain ⟨hkr, hxr, hfr⟩ := HXr.out
 replace HXu := nB HXu hbn
 clear hxu hfu hku
 obtain ⟨hku, hxu, hfu⟩ := HXu.out
 clear hbn
 clear hw
 refine (HWT2.out _ HOK2.out.base).mono ?_
 rintro e w10 ⟨rfl, hb⟩
 have hzw10 : w9.heap.size ≤ w10.heap.size := hb.size
 replace HB := bT HB hb
 replace HOK := lH (HOK.out.below hb)
 replace HOK2 := lH (HOK2.out.below hb)
 replace HXb := nB HXb hb
 clear hxb hfb hkb
 obtain ⟨hkb, hxb, hfb⟩ := HXb.out
 replace HXe := nB HXe hb
 clear hxe hfe hke
 obtain ⟨hke, hxe, hfe⟩ := HXe.out
 replace HXr := nB HXr hb
 clear hxr hfr hkr
 obtain ⟨hkr, hxr, hfr⟩ := HXr.out
 replace HXu := nB HXu hb
 clear hxu hfu hku
 obtain ⟨hku, hxu, hfu⟩ := HXu.out
 clear hb
 clear HWT2
 go_wp2_with fail
 refine af (fun w11 hw => ?_)
 have hz11 : w10.heap.size + 0 ≤ w11.heap.size := zA
 have hbn : Below w10.heap.size w10 w11 := zB
 replace HB := bT HB hbn
 replace HOK := lH (HOK.out.below hbn)
 replace HOK2 := lH (HOK2.out.below hbn)
 replace HXb := nB HXb hbn
 clear hxb hfb hkb
 obtain ⟨hkb, hxb, hfb⟩ := HXb.out
 replace HXe := nB HXe hbn
 clear hxe hfe hke
 obtain ⟨hke, hxe, hfe⟩ := HXe.out
 replace HXr := nB HXr hbn
 clear hxr hfr hkr
 obtain ⟨hkr, hxr, hfr⟩ := HXr.out
 replace HXu := nB HXu hbn
 clear hxu hfu hku
 obtain ⟨hku, hxu, hfu⟩ := HXu.out
 clear hbn
 clear hw
 refine (HLA2.out _ HOK2.out.base).mono ?_
 rintro e w12 ⟨rfl, hb⟩
 have hzw12 : w11.heap.size ≤ w12.heap.size := hb.size
 replace HB := bT HB hb
 replace HOK := lH (HOK.out.below hb)
 replace HOK2 := lH (HOK2.out.below hb)
 replace HXb := nB HXb hb
 clear hxb hfb hkb
 obtain ⟨hkb, hxb, hfb⟩ := HXb.out
 replace HXe := nB HXe hb
 clear hxe hfe hke
 obtain ⟨hke, hxe, hfe⟩ := HXe.out
 replace HXr := nB HXr hb
 clear hxr hfr hkr
 obtain ⟨hkr, hxr, hfr⟩ := HXr.out
 replace HXu := nB HXu hb
 clear hxu hfu hku
 obtain ⟨hku, hxu, hfu⟩ := HXu.out
 clear hb
 clear HLA2
 obtain ⟨y1, dy1⟩ : ∃ y : Int, (ne2 : Int) - h2.size = y := ⟨_, rfl⟩
 obtain ⟨y2, dy2⟩ : ∃ y : Int, (nr2 : Int) - h2.taken = y := ⟨_, rfl⟩
 have w1_ : IntKind.i64.wrap ((ne2 : Int) - h2.size) = (ne2 : Int) - h2.size := by rw [IntKind.wrap_i64]; omega
 have w2_ : IntKind.i64.wrap ((nr2 : Int) - h2.taken) = (nr2 : Int) - h2.taken := by rw [IntKind.wrap_i64]; omega
 have v1 : ((ne2 : Int) - h2.size != (ne2 : Int) - h2.size) = false := by simp
 have v2 : ((nr2 : Int) - h2.taken != (nr2 : Int) - h2.taken) = false := by simp
 clear dy1 dy2
 go_wp2_with fail
 refine af (fun w13 hw => ?_)
 have hz13 : w12.heap.size + 1 ≤ w13.heap.size := zA
 have hbn : Below w12.heap.size w12 w13 := zB
 replace HB := bT HB hbn
 replace HOK := lH (HOK.out.below hbn)
 replace HOK2 := lH (HOK2.out.below hbn)
 replace HXb := nB HXb hbn
 clear hxb hfb hkb
 obtain ⟨hkb, hxb, hfb⟩ := HXb.out
 replace HXe := nB HXe hbn
 clear hxe hfe hke
 obtain ⟨hke, hxe, hfe⟩ := HXe.out
 replace HXr := nB HXr hbn
 clear hxr hfr hkr
 obtain ⟨hkr, hxr, hfr⟩ := HXr.out
 replace HXu := nB HXu hbn
 clear hxu hfu hku
 obtain ⟨hku, hxu, hfu⟩ := HXu.out
 clear hbn
 have HXz : Hid (aa w13 (w12.heap.size) [.int .i64 h2.num, .int .i64 h2.size, .string h2.root, .int .i64 h2.taken, .string h2.troot]) := zG5
 obtain ⟨hkz, hxz, hfz⟩ := HXz.out
 clear hw
 refine (HBO2.out _ HOK2.out.base).mono ?_
 rintro e w14 ⟨rfl, hb⟩
 have hzw14 : w13.heap.size ≤ w14.heap.size := hb.size
 replace HB := bT HB hb
 replace HOK := lH (HOK.out.below hb)
 replace HOK2 := lH (HOK2.out.below hb)
 replace HXb := nB HXb hb
 clear hxb hfb hkb
 obtain ⟨hkb, hxb, hfb⟩ := HXb.out
 replace HXe := nB HXe hb
 clear hxe hfe hke
 obtain ⟨hke, hxe, hfe⟩ := HXe.out
 replace HXr := nB HXr hb
 clear hxr hfr hkr
 obtain ⟨hkr, hxr, hfr⟩ := HXr.out
 replace HXu := nB HXu hb
 clear hxu hfu hku
 obtain ⟨hku, hxu, hfu⟩ := HXu.out
 replace HXz := nB HXz hb
 clear hxz hfz hkz
 obtain ⟨hkz, hxz, hfz⟩ := HXz.out
 clear hb
 clear HBO2
 by_cases hk2 : kd = 2
 ·obtain ⟨t1, t2, t3, t4, t5⟩ := HAF.out.two hk2
  subst hk2
  have r1 : h2.size = (ne2 : Int) := by have q1 := t3; have q2 := congrArg List.length t1; rw [show (ae (Bm.mk width2 es2 rs2 hs2).hs) = h2 from HEQ2.out.2.2] at q1; have q3 := HEQ2.out.1; dsimp only at q1 q2; omega
  have r2 : h2.taken = (nr2 : Int) := by have q1 := t4; have q2 := congrArg List.length t2; rw [show (ae (Bm.mk width2 es2 rs2 hs2).hs) = h2 from HEQ2.out.2.2] at q1; have q3 := HEQ2.out.2.1; dsimp only at q1 q2; omega
  have r3 : h2.num = h.num + 1 := by have q1 := t5; rw [show (ae (Bm.mk width2 es2 rs2 hs2).hs) = h2 from HEQ2.out.2.2, show (ae (Bm.mk width es rs hs).hs) = h from HHH.out] at q1; exact q1
  have r4 : (ne2 : Int) = (ne : Int) := by have q2 := congrArg List.length t1; have q3 := HEQ2.out.1; have q4 := HNE.out; dsimp only at q2; omega
  clear t1 t2 t3 t4 t5
  go_upto_region 15 with fail
  refine aD (fun w15 hw => ?_)
  have hz15 : w14.heap.size + 0 ≤ w15.heap.size := zA
  have hbn : Below w14.heap.size w14 w15 := zB
  replace HB := bT HB hbn; replace HOK := lH (HOK.out.below hbn); replace HOK2 := lH (HOK2.out.below hbn); replace HXb := nB HXb hbn; clear hxb hfb hkb; obtain ⟨hkb, hxb, hfb⟩ := HXb.out; replace HXe := nB HXe hbn; clear hxe hfe hke; obtain ⟨hke, hxe, hfe⟩ := HXe.out; replace HXr := nB HXr hbn; clear hxr hfr hkr; obtain ⟨hkr, hxr, hfr⟩ := HXr.out; replace HXu := nB HXu hbn; clear hxu hfu hku; obtain ⟨hku, hxu, hfu⟩ := HXu.out
  replace HXz := nB HXz hbn; clear hxz hfz hkz; obtain ⟨hkz, hxz, hfz⟩ := HXz.out; clear hbn; clear hw
  have x1 : ((ne2 : Int) - h2.size == 0) = true := beq_iff_eq.2 (by omega)
  have x2 : ((nr2 : Int) - h2.taken == 0) = true := beq_iff_eq.2 (by omega)
  have x3 : IntKind.i64.wrap (h.num + 1) = h.num + 1 := by rw [IntKind.wrap_i64]; omega
  have x4 : (h2.num == h.num + 1) = true := beq_iff_eq.2 r3
  have x5 : ((ne2 : Int) == (ne : Int)) = true := beq_iff_eq.2 r4
  have hfd := hdField0 h.num h.size h.taken h.root h.troot
  have HLV := lH (fun v : Later w15 => HLA.out v.v (HOK.out.below v.h).base)
  have z0 : ∀ v : Later w15, v.v.cell? ⟨(w12.heap.size), 0, none⟩ = some (.int .i64 h2.num) := fun v => (ag v _ _ hkz).trans (hxz 0)
  have u1 : ∀ v : Later w15, v.v.cell? ⟨(w6.heap.size), 1, none⟩ = some (.slice E2 ne2 ce2) := fun v => (ag v _ _ hku).trans (hxu 1)
  have b0 : ∀ v : Later w15, v.v.cell? ⟨(w2.heap.size), 0, none⟩ = some (.int .i64 width) := fun v => (ag v _ _ hkb).trans (hxb 0)
  have b1 : ∀ v : Later w15, v.v.cell? ⟨(w2.heap.size), 1, none⟩ = some (.slice E ne ce) := fun v => (ag v _ _ hkb).trans (hxb 1)
  have b2 : ∀ v : Later w15, v.v.cell? ⟨(w2.heap.size), 2, none⟩ = some (.slice R nr cr) := fun v => (ag v _ _ hkb).trans (hxb 2)
  have b3 : ∀ v : Later w15, v.v.cell? ⟨(w2.heap.size), 3, none⟩ = some (.slice H nh ch) := fun v => (ag v _ _ hkb).trans (hxb 3)
  have b4 : ∀ v : Later w15, v.v.cell? ⟨(w2.heap.size), 4, none⟩ = some (.int .i64 h.size) := fun v => (ag v _ _ hkb).trans (hxb 4)
  have b5 : ∀ v : Later w15, v.v.cell? ⟨(w2.heap.size), 5, none⟩ = some (.slice A1 m1 c1) := fun v => (ag v _ _ hkb).trans (hxb 5)
  have b6 : ∀ v : Later w15, v.v.cell? ⟨(w2.heap.size), 6, none⟩ = some (.int .i64 h.taken) := fun v => (ag v _ _ hkb).trans (hxb 6)
  have b7 : ∀ v : Later w15, v.v.cell? ⟨(w2.heap.size), 7, none⟩ = some (.slice A2 m2 c2) := fun v => (ag v _ _ hkb).trans (hxb 7)
  have b8 : ∀ v : Later w15, v.v.cell? ⟨(w2.heap.size), 8, none⟩ = some (.int .i64 h.num) := fun v => (ag v _ _ hkb).trans (hxb 8)
  have b9 : ∀ v : Later w15, v.v.cell? ⟨(w2.heap.size), 9, none⟩ = some (.int .i64 h.size) := fun v => (ag v _ _ hkb).trans (hxb 9)
  have b10 : ∀ v : Later w15, v.v.cell? ⟨(w2.heap.size), 10, none⟩ = some (.string h.root) := fun v => (ag v _ _ hkb).trans (hxb 10)
  have b11 : ∀ v : Later w15, v.v.cell? ⟨(w2.heap.size), 11, none⟩ = some (.int .i64 h.taken) := fun v => (ag v _ _ hkb).trans (hxb 11)
  have b12 : ∀ v : Later w15, v.v.cell? ⟨(w2.heap.size), 12, none⟩ = some (.string h.troot) := fun v => (ag v _ _ hkb).trans (hxb 12)
  clear r1 r2 r3 r4
  refine aA (by kernel_rfl) (by kernel_rfl) ?_
  repeat (go_big_quiet_step ((first | with_reducible exact aC (HLV.out _))))
  refine wpQuiet_nil ?_
  intro wA h9
  have hb9 := aP h9
  have hzwA : w15.heap.size ≤ wA.heap.size := hb9.size
  replace HB := bT HB hb9; replace HOK := lH (HOK.out.below hb9); replace HOK2 := lH (HOK2.out.below hb9); replace HXb := nB HXb hb9; clear hxb hfb hkb; obtain ⟨hkb, hxb, hfb⟩ := HXb.out; replace HXe := nB HXe hb9; clear hxe hfe hke; obtain ⟨hke, hxe, hfe⟩ := HXe.out; replace HXr := nB HXr hb9; clear hxr hfr hkr; obtain ⟨hkr, hxr, hfr⟩ := HXr.out; replace HXu := nB HXu hb9; clear hxu hfu hku; obtain ⟨hku, hxu, hfu⟩ := HXu.out
  replace HXz := nB HXz hb9; clear hxz hfz hkz; obtain ⟨hkz, hxz, hfz⟩ := HXz.out; clear h9 hb9 x1 x2 x3 x4 x5 hfd HLV z0 u1 b0 b1 b2 b3 b4 b5 b6 b7 b8 b9 b10 b11 b12; go_wp2
  go_ret
  exact ⟨rfl, HB.out⟩
 obtain ⟨t1, t2⟩ := HAF.out.one hk2
 have r1 : h2 = h := by have q1 := congrArg ae t1; rw [show ae (Bm.mk width2 es2 rs2 hs2).hs = h2 from HEQ2.out.2.2, show ae (Bm.mk width es rs hs).hs = h from HHH.out] at q1; exact q1
 have r2 : ne2 + nr2 = ne + nr + 1 := by have q1 := t2; have q2 := HEQ2.out.1; have q3 := HEQ2.out.2.1; have q4 := HNE.out; have q5 := HNR.out; dsimp only at q1; omega
 have e2 : (kd == 2) = false := beq_eq_false_iff_ne.2 hk2
 clear t1 t2 HAF HEQ2
 go_upto_region 16 with fail
 refine aD (fun w15 hw => ?_)
 have hz15 : w14.heap.size + 0 ≤ w15.heap.size := zA
 have hbn : Below w14.heap.size w14 w15 := zB
 replace HB := bT HB hbn
 replace HOK := lH (HOK.out.below hbn)
 replace HOK2 := lH (HOK2.out.below hbn)
 replace HXb := nB HXb hbn
 clear hxb hfb hkb
 obtain ⟨hkb, hxb, hfb⟩ := HXb.out
 replace HXe := nB HXe hbn
 clear hxe hfe hke
 obtain ⟨hke, hxe, hfe⟩ := HXe.out
 replace HXr := nB HXr hbn
 clear hxr hfr hkr
 obtain ⟨hkr, hxr, hfr⟩ := HXr.out
 replace HXu := nB HXu hbn
 clear hxu hfu hku
 obtain ⟨hku, hxu, hfu⟩ := HXu.out
 replace HXz := nB HXz hbn
 clear hxz hfz hkz
 obtain ⟨hkz, hxz, hfz⟩ := HXz.out
 clear hbn
 clear hw
 have x3 : IntKind.i64.wrap ((ne2 : Int) + (nr2 : Int)) = (ne2 : Int) + (nr2 : Int) := by rw [IntKind.wrap_i64]; omega
 have x4 : IntKind.i64.wrap ((ne : Int) + (nr : Int)) = (ne : Int) + (nr : Int) := by rw [IntKind.wrap_i64]; omega
 have x6 : IntKind.i64.wrap ((ne : Int) + (nr : Int) + 1) = (ne : Int) + (nr : Int) + 1 := by rw [IntKind.wrap_i64]; omega
 have x5 : ((ne2 : Int) + (nr2 : Int) == (ne : Int) + (nr : Int) + 1) = true := beq_iff_eq.2 (by omega)
 have heq := eqlHdT h2 h r1 HF4.out
 have HLV := lH (fun v : Later w15 => HLA.out v.v (HOK.out.below v.h).base)
 have z0 : ∀ v : Later w15, v.v.cell? ⟨(w12.heap.size), 0, none⟩ = some (.int .i64 h2.num) := fun v => (ag v _ _ hkz).trans (hxz 0)
 have z1 : ∀ v : Later w15, v.v.cell? ⟨(w12.heap.size), 1, none⟩ = some (.int .i64 h2.size) := fun v => (ag v _ _ hkz).trans (hxz 1)
 have z2 : ∀ v : Later w15, v.v.cell? ⟨(w12.heap.size), 2, none⟩ = some (.string h2.root) := fun v => (ag v _ _ hkz).trans (hxz 2)
 have z3 : ∀ v : Later w15, v.v.cell? ⟨(w12.heap.size), 3, none⟩ = some (.int .i64 h2.taken) := fun v => (ag v _ _ hkz).trans (hxz 3)
 have z4 : ∀ v : Later w15, v.v.cell? ⟨(w12.heap.size), 4, none⟩ = some (.string h2.troot) := fun v => (ag v _ _ hkz).trans (hxz 4)
 have u1 : ∀ v : Later w15, v.v.cell? ⟨(w6.heap.size), 1, none⟩ = some (.slice E2 ne2 ce2) := fun v => (ag v _ _ hku).trans (hxu 1)
 have u2 : ∀ v : Later w15, v.v.cell? ⟨(w6.heap.size), 2, none⟩ = some (.slice R2 nr2 cr2) := fun v => (ag v _ _ hku).trans (hxu 2)
 have b0 : ∀ v : Later w15, v.v.cell? ⟨(w2.heap.size), 0, none⟩ = some (.int .i64 width) := fun v => (ag v _ _ hkb).trans (hxb 0)
 have b1 : ∀ v : Later w15, v.v.cell? ⟨(w2.heap.size), 1, none⟩ = some (.slice E ne ce) := fun v => (ag v _ _ hkb).trans (hxb 1)
 have b2 : ∀ v : Later w15, v.v.cell? ⟨(w2.heap.size), 2, none⟩ = some (.slice R nr cr) := fun v => (ag v _ _ hkb).trans (hxb 2)
 have b3 : ∀ v : Later w15, v.v.cell? ⟨(w2.heap.size), 3, none⟩ = some (.slice H nh ch) := fun v => (ag v _ _ hkb).trans (hxb 3)
 have b4 : ∀ v : Later w15, v.v.cell? ⟨(w2.heap.size), 4, none⟩ = some (.int .i64 h.size) := fun v => (ag v _ _ hkb).trans (hxb 4)
 have b5 : ∀ v : Later w15, v.v.cell? ⟨(w2.heap.size), 5, none⟩ = some (.slice A1 m1 c1) := fun v => (ag v _ _ hkb).trans (hxb 5)
 have b6 : ∀ v : Later w15, v.v.cell? ⟨(w2.heap.size), 6, none⟩ = some (.int .i64 h.taken) := fun v => (ag v _ _ hkb).trans (hxb 6)
 have b7 : ∀ v : Later w15, v.v.cell? ⟨(w2.heap.size), 7, none⟩ = some (.slice A2 m2 c2) := fun v => (ag v _ _ hkb).trans (hxb 7)
 have b8 : ∀ v : Later w15, v.v.cell? ⟨(w2.heap.size), 8, none⟩ = some (.int .i64 h.num) := fun v => (ag v _ _ hkb).trans (hxb 8)
 have b9 : ∀ v : Later w15, v.v.cell? ⟨(w2.heap.size), 9, none⟩ = some (.int .i64 h.size) := fun v => (ag v _ _ hkb).trans (hxb 9)
 have b10 : ∀ v : Later w15, v.v.cell? ⟨(w2.heap.size), 10, none⟩ = some (.string h.root) := fun v => (ag v _ _ hkb).trans (hxb 10)
 have b11 : ∀ v : Later w15, v.v.cell? ⟨(w2.heap.size), 11, none⟩ = some (.int .i64 h.taken) := fun v => (ag v _ _ hkb).trans (hxb 11)
 have b12 : ∀ v : Later w15, v.v.cell? ⟨(w2.heap.size), 12, none⟩ = some (.string h.troot) := fun v => (ag v _ _ hkb).trans (hxb 12)
 clear r1 r2
 refine aA (by kernel_rfl) (by kernel_rfl) ?_
 repeat (go_big_quiet_step ((first | with_reducible exact aC (HLV.out _))))
 refine wpQuiet_nil ?_
 intro wA h9
 have hb9 := aP h9
 have hzwA : w15.heap.size ≤ wA.heap.size := hb9.size
 replace HB := bT HB hb9
 replace HOK := lH (HOK.out.below hb9)
 replace HOK2 := lH (HOK2.out.below hb9)
 replace HXb := nB HXb hb9
 clear hxb hfb hkb
 obtain ⟨hkb, hxb, hfb⟩ := HXb.out
 replace HXe := nB HXe hb9
 clear hxe hfe hke
 obtain ⟨hke, hxe, hfe⟩ := HXe.out
 replace HXr := nB HXr hb9
 clear hxr hfr hkr
 obtain ⟨hkr, hxr, hfr⟩ := HXr.out
 replace HXu := nB HXu hb9
 clear hxu hfu hku
 obtain ⟨hku, hxu, hfu⟩ := HXu.out
 replace HXz := nB HXz hb9
 clear hxz hfz hkz
 obtain ⟨hkz, hxz, hfz⟩ := HXz.out
 clear h9 hb9 x3 x4 x5 x6 heq HLV z0 z1 z2 z3 z4 u1 u2 b0 b1 b2 b3 b4 b5 b6 b7 b8 b9 b10 b11 b12
 go_wp2
 go_ret
 exact ⟨rfl, HB.out⟩
end
end Go.Proofs.YtoccjgcokffkbaaGreat
