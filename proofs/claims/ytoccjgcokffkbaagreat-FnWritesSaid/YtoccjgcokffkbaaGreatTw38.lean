/- Part 38 of the proof of FnWrites: lemmas and contracts. -/
import Derived.Test.YtoccjgcokffkbaaGreatTw37
import Derived.Deep.DeepCutAuto
namespace Go.Proofs.YtoccjgcokffkbaaGreat
set_option linter.unusedVariables false
set_option linter.unusedSimpArgs false
set_option maxHeartbeats 20000000
set_option maxRecDepth 100000
section
open Go.RowKit
theorem deedW_fits {m m' : Bm} {f : Nat} {t : ByteArray} (h : aB m.width m.es m.rs m.hs) (d : Deed m m' f t) : (bV m f t).fits := by
 obtain ⟨_, _, _, _, h5⟩ := deed_puts h d
 have h1 := eu h f
 have h2 := (gJ h1.1 h1.2).2.2
 have h3 := d.le
 have h6 := eu d.ok f
 have h7 := gK (h6.1 t (by rw [d.at_]; exact List.mem_append_right _ List.mem_cons_self)).1
 have h8 : (bq (m.file f)).size ≤ 291600 := h2
 refine ⟨?_, ?_, ?_⟩
 ·show I64 ((f : Nat) : Int); constructor <;> omega
 ·show I64 (((bq (m.file f)).size : Nat) : Int); constructor <;> omega
 show (bC t).size ≤ maxLen
 unfold maxLen; omega
theorem deedW_bulk {m m' : Bm} {f : Nat} {t : ByteArray} (h : aB m.width m.es m.rs m.hs) (d : Deed m m' f t) : dG Wri.bulk [bV m f t] ≤ 1000 := by
 obtain ⟨_, _, _, _, h5⟩ := deed_puts h d
 have h6 := eu d.ok f
 have h7 := gK (h6.1 t (by rw [d.at_]; exact List.mem_append_right _ List.mem_cons_self)).1
 show (bC t).size + 0 ≤ 1000
 omega
theorem diskB_c (width : Int) (E R H A1 A2 : Option Addr) (ne nr nh ce cr ch c1 c2 m1 m2 : Nat) (es : List Ent) (rs : List Rcp) (hs : List Hd) (l1 l2 : List ByteArray) (h : Hd) (W : World) (hk : aH W 0 W.heap.size ⟨E, R, H, A1, A2, ce, cr, ch, c1, c2⟩ ⟨width, es, rs, hs⟩) (hne : es.length = ne) (hnr : rs.length = nr) (hnh : hs.length = nh) (hl1 : pk1 width es hs = l1) (hl2 : pk2 width rs hs = l2) (hm1 : l1.length = m1) (hm2 : l2.length = m2) (hh : ae hs = h) :
  Calls Tryz.prog 25 #[.agg #[.int .i64 width, .slice E ne ce, .slice R nr cr, .slice H nh ch, .int .i64 h.size, .slice A1 m1 c1, .int .i64 h.taken, .slice A2 m2 c2, .int .i64 h.num, .int .i64 h.size, .string h.root, .int .i64 h.taken, .string h.troot]] W fun e w' => (∃ (A : Option Addr) (c : Nat), e = .returned (.tuple #[.agg #[.slice A 3 c], .bool true]) ∧ Own w' W.heap.size w'.heap.size A (strs (dU width es rs hs)) ∧ (dU width es rs hs).length = 3) ∧ Below W.heap.size W w' := by
 obtain ⟨f1, f2, f3, g1, g2, g3, g4, f4, g5, g6, g7⟩ := cK hk.ok
 dsimp only at f1 f2 f3 g1 g2 g3 g4 f4 g5 g6 g7
 subst hne
 subst hnr
 subst hnh
 subst hl1
 subst hl2
 subst hm1
 subst hm2
 subst hh
 have h9 := implDiskOf_c width (ae hs).size (ae hs).taken E R H A1 A2 es.length rs.length hs.length ce cr ch c1 c2 0 W.heap.size 0 W.heap.size 0 W.heap.size 0 W.heap.size 0 W.heap.size (pk1 width es hs).length (pk2 width rs hs).length es rs hs (pk1 width es hs) (pk2 width rs hs) (ae hs) W hk.rE hk.rR hk.rH hk.r1 hk.r2 rfl rfl rfl rfl rfl (by omega) (by omega) (by omega) (by omega) (by omega) hk.kE hk.kR hk.kH f1 f2 f3 f4 (by omega)
 have hq : brkOk width es rs hs (ae hs).size (pk1 width es hs) (ae hs).taken (pk2 width rs hs) (ae hs) = true := hk.ok.ok
 rw [dkL, hq, if_pos rfl] at h9
 exact h9.mono fun e w' ⟨⟨A, c, h1, h2⟩, h3⟩ => ⟨⟨A, c, h1, h2, rfl⟩, h3⟩
theorem sameDisk_c (A1 A2 : Option Addr) (c1 c2 lo1 hi1 lo2 hi2 : Nat) (l : List ByteArray) (w : World) (hr1 : Rd w lo1 hi1 A1 (strs l)) (hr2 : Rd w lo2 hi2 A2 (strs l)) (hn : l.length = 3) :
  Calls Tryz.prog 27 #[.agg #[.slice A1 3 c1], .agg #[.slice A2 3 c2]] w fun e w' => e = .returned (.bool true) ∧ Below w.heap.size w w' := by
 have HST := lH (fun W (q1 : Rd W 0 W.heap.size A1 (strs l)) (q2 : Rd W 0 W.heap.size A2 (strs l)) => sameTexts_c A1 A2 c1 c2 0 W.heap.size 0 W.heap.size 3 l W q1 q2 hn (by omega))
 have HB : Hid (Below w.heap.size w w) := Below.refl _ _
 have HOA : Hid (Rd w (0) (w.heap.size) (A1) (strs l)) := Rd.base hr1
 have HOB : Hid (Rd w (0) (w.heap.size) (A2) (strs l)) := Rd.base hr2
 clear hr1 hr2 hn
 go_enter Tryz.func27, Tryz.ntmps27
 go_wp2_with fail
 refine af (fun w1 hw => ?_)
 have hz1 : w.heap.size + 2 ≤ w1.heap.size := zA
 have hbn : Below w.heap.size w w1 := zB
 replace HB := bT HB hbn
 replace HOA := lH (HOA.out.below hbn)
 replace HOB := lH (HOB.out.below hbn)
 clear hbn
 have HXa : Hid (aa w1 (w.heap.size) [.slice A1 3 c1]) := zG1
 obtain ⟨hka, hxa, hfa⟩ := HXa.out
 have HXb : Hid (aa w1 (w.heap.size + 1) [.slice A2 3 c2]) := zG1
 obtain ⟨hkb, hxb, hfb⟩ := HXb.out
 clear hw
 refine (HST.out _ HOA.out.base HOB.out.base).mono ?_
 rintro e w2 ⟨rfl, hb⟩
 have hzw2 : w1.heap.size ≤ w2.heap.size := hb.size
 replace HB := bT HB hb
 replace HOA := lH (HOA.out.below hb)
 replace HOB := lH (HOB.out.below hb)
 replace HXa := nB HXa hb
 clear hxa hfa hka
 obtain ⟨hka, hxa, hfa⟩ := HXa.out
 replace HXb := nB HXb hb
 clear hxb hfb hkb
 obtain ⟨hkb, hxb, hfb⟩ := HXb.out
 clear hb
 go_wp2
 go_ret
 exact ⟨rfl, HB.out⟩
theorem walk_FnWrites (n g : Nat) (B : Option Addr) (l0 : List Int) (w : World) (hr : Rd w 0 w.heap.size B (bys l0)) (hl : l0.length = n) (hng : n ≤ g) (hn : n ≤ maxLen) (hb : ∀ x ∈ l0, 0 ≤ x ∧ x ≤ 255) :
  Calls Tryz.prog 7 #[.slice B n g] w fun e w' => e = .returned (.bool true) ∧ Below w.heap.size w w' := by
 by_cases h20 : 1048576 < n
 ·have hd : decide (1048576 < n) = true := decide_eq_true h20
  go_enter Tryz.func7, Tryz.ntmps7
  go_wp2_with fail
  refine (big_c n g B _ hn).mono ?_
  rintro e w1 ⟨rfl, rfl⟩
  rw [hd]
  go_wp2
  go_ret
  exact ⟨rfl, Below.refl _ _⟩
 have hd : decide (1048576 < n) = false := decide_eq_false h20
 have HDA := lH (fun W (r : Rd W 0 W.heap.size B (bys l0)) => DrawRightP_c n g B l0 W r hl (by omega) hb)
 have HDD := lH (fun W (r : Rd W 0 W.heap.size B (bys l0)) => DrawDeed_c n g B l0 W r hl (by omega) hb)
 have HB : Hid (Below w.heap.size w w) := Below.refl _ _
 have HOQ : Hid (Rd w (0) (w.heap.size) (B) (bys l0)) := Rd.base hr
 clear hr hl hb hng
 go_enter Tryz.func7, Tryz.ntmps7
 go_wp2_with fail
 refine (big_c n g B _ hn).mono ?_
 rintro e w0_ ⟨rfl, rfl⟩
 rw [hd]
 clear hd hn
 go_wp2_with fail
 refine af (fun w1 hw => ?_)
 have hz1 : w.heap.size + 0 ≤ w1.heap.size := zA
 have hbn : Below w.heap.size w w1 := zB
 replace HB := bT HB hbn
 replace HOQ := lH (HOQ.out.below hbn)
 clear hbn
 clear hw
 refine (HDA.out _ HOQ.out.base).mono ?_
 rintro e w2 ⟨width, E, R, H, A1, A2, ne, nr, nh, ce, cr, ch, c1, c2, m1, m2, es, rs, hs, l1, l2, h, rfl, ⟨hbk, hne, hnr, hnh, hl1, hl2, hm1, hm2, hh, h24⟩, hb⟩
 have hzw2 : w1.heap.size ≤ w2.heap.size := hb.size
 replace HB := bT HB hb
 replace HOQ := lH (HOQ.out.below hb)
 clear hb
 have HOK : Hid (aH w2 (w1.heap.size) (w2.heap.size) (⟨E, R, H, A1, A2, ce, cr, ch, c1, c2⟩) (⟨width, es, rs, hs⟩)) := lH hbk
 have hok : aB width es rs hs := hbk.ok
 have HDI := lH (fun (kd : Int) (x : Ent) (r : Rcp) W (rr : aH W 0 W.heap.size ⟨E, R, H, A1, A2, ce, cr, ch, c1, c2⟩ ⟨width, es, rs, hs⟩) (h0 : 0 ≤ kd) (h3 : kd < 3) (hx : DrawnE x) (hr : DrawnR r) => didB_c width E R H A1 A2 ne nr nh ce cr ch c1 c2 m1 m2 es rs hs l1 l2 h kd x r W rr hne hnr hnh hl1 hl2 hm1 hm2 hh h0 h3 hx hr h24)
 have HDK := lH (fun W (rr : aH W 0 W.heap.size ⟨E, R, H, A1, A2, ce, cr, ch, c1, c2⟩ ⟨width, es, rs, hs⟩) => diskB_c width E R H A1 A2 ne nr nh ce cr ch c1 c2 m1 m2 es rs hs l1 l2 h W rr hne hnr hnh hl1 hl2 hm1 hm2 hh)
 have HPAR := lH hok
 clear hbk HDA hl1 hl2 hm1 hm2 hh hne hnr hok hnh
 go_wp2_with fail
 refine af (fun w3 hw => ?_)
 have hz3 : w2.heap.size + 1 ≤ w3.heap.size := zA
 have hbn : Below w2.heap.size w2 w3 := zB
 replace HB := bT HB hbn
 replace HOQ := lH (HOQ.out.below hbn)
 replace HOK := lH (HOK.out.below hbn)
 clear hbn
 have HXb : Hid (aa w3 (w2.heap.size) [.int .i64 width, .slice E ne ce, .slice R nr cr, .slice H nh ch, .int .i64 h.size, .slice A1 m1 c1, .int .i64 h.taken, .slice A2 m2 c2, .int .i64 h.num, .int .i64 h.size, .string h.root, .int .i64 h.taken, .string h.troot]) := zG13
 obtain ⟨hkb, hxb, hfb⟩ := HXb.out
 clear hw
 refine (HDD.out _ HOQ.out.base).mono ?_
 rintro e w4 ⟨kd, x, r, D, rfl, ⟨hkd, hx, hr⟩, hb⟩
 have hzw4 : w3.heap.size ≤ w4.heap.size := hb.size
 replace HB := bT HB hb
 replace HOQ := lH (HOQ.out.below hb)
 replace HOK := lH (HOK.out.below hb)
 replace HXb := nB HXb hb
 clear hxb hfb hkb
 obtain ⟨hkb, hxb, hfb⟩ := HXb.out
 clear hb
 clear HOQ
 go_wp2_with fail
 refine af (fun w5 hw => ?_)
 have hz5 : w4.heap.size + 2 ≤ w5.heap.size := zA
 have hbn : Below w4.heap.size w4 w5 := zB
 replace HB := bT HB hbn
 replace HOK := lH (HOK.out.below hbn)
 replace HXb := nB HXb hbn
 clear hxb hfb hkb
 obtain ⟨hkb, hxb, hfb⟩ := HXb.out
 clear hbn
 have HXe : Hid (aa w5 (w4.heap.size) [.string x.topic, .int .i64 x.index, .int .i64 x.time, .string x.key, .string x.body]) := zG5
 obtain ⟨hke, hxe, hfe⟩ := HXe.out
 have HXr : Hid (aa w5 (w4.heap.size + 1) [.string r.reader, .string r.topic, .int .i64 r.index]) := zG3
 obtain ⟨hkr, hxr, hfr⟩ := HXr.out
 clear hw
 refine (HDI.out kd x r _ HOK.out.base hkd.1 hkd.2 hx hr).mono ?_
 rintro e w6 ⟨width2, E2, R2, H2, B1, B2, ne2, nr2, nh2, ce2, cr2, ch2, d1, d2, n1, n2, es2, rs2, hs2, k1, k2, h2, L, q, cd, rfl, hdp, hb⟩
 have hzw6 : w5.heap.size ≤ w6.heap.size := hb.size
 replace HB := bT HB hb
 replace HOK := lH (HOK.out.below hb)
 replace HXb := nB HXb hb
 clear hxb hfb hkb
 obtain ⟨hkb, hxb, hfb⟩ := HXb.out
 replace HXe := nB HXe hb
 clear hxe hfe hke
 obtain ⟨hke, hxe, hfe⟩ := HXe.out
 replace HXr := nB HXr hb
 clear hxr hfr hkr
 obtain ⟨hkr, hxr, hfr⟩ := HXr.out
 clear hb
 clear HDI HDD hx hr
 rcases hdp with ⟨hq1, hq2, hq3, hq4, hq5⟩ | ⟨hq1, hq2, hbk, ⟨hne2, hnr2, hnh2, hk1, hk2, hn1, hn2, hh2⟩, haf, f, tx, hde, hwr⟩
 ·have e1 : (cd != 0) = true := bne_iff_ne.2 hq1
  have e2 : decide (0 < kd) = true := decide_eq_true hq2
  subst hq3 hq4 hq5; clear hq1
  go_upto_region 6 with fail
  refine aC (fun w7 hw => ?_)
  have hz7 : w6.heap.size + 1 ≤ w7.heap.size := zA
  have hbn : Below w6.heap.size w6 w7 := zB
  replace HB := bT HB hbn; replace HOK := lH (HOK.out.below hbn); replace HXb := nB HXb hbn; clear hxb hfb hkb; obtain ⟨hkb, hxb, hfb⟩ := HXb.out; replace HXe := nB HXe hbn; clear hxe hfe hke; obtain ⟨hke, hxe, hfe⟩ := HXe.out; replace HXr := nB HXr hbn; clear hxr hfr hkr; obtain ⟨hkr, hxr, hfr⟩ := HXr.out; clear hbn
  have HXu : Hid (aa w7 (w6.heap.size) [.int .i64 width2, .slice E2 0 ce2, .slice R2 nr2 cr2, .slice H2 0 ch2, .int .i64 h2.size, .slice B1 n1 d1, .int .i64 h2.taken, .slice B2 n2 d2, .int .i64 h2.num, .int .i64 h2.size, .string h2.root, .int .i64 h2.taken, .string h2.troot]) := zG13
  obtain ⟨hku, hxu, hfu⟩ := HXu.out; clear hw; go_wp2
  go_ret
  exact ⟨rfl, HB.out⟩
 clear haf
 subst hq1 hq2
 obtain ⟨p1, p2, p3, p4, p5⟩ := deed_puts HPAR.out hde
 have hfits : ∀ z ∈ [bV ⟨width, es, rs, hs⟩ f tx], z.fits := fun z hz => by rw [List.mem_singleton.1 hz]; exact deedW_fits HPAR.out hde
 have hblk := deedW_bulk HPAR.out hde
 have HOK2 : Hid (aH w6 (w5.heap.size) (w6.heap.size) (⟨E2, R2, H2, B1, B2, ce2, cr2, ch2, d1, d2⟩) (⟨width2, es2, rs2, hs2⟩)) := lH hbk
 have HOW : Hid (Rd w6 (w5.heap.size) (w6.heap.size) (L) (gM [bV ⟨width, es, rs, hs⟩ f tx])) := lH hwr
 have HDK2 := lH (fun W (rr : aH W 0 W.heap.size ⟨E2, R2, H2, B1, B2, ce2, cr2, ch2, d1, d2⟩ ⟨width2, es2, rs2, hs2⟩) => diskB_c width2 E2 R2 H2 B1 B2 ne2 nr2 nh2 ce2 cr2 ch2 d1 d2 n1 n2 es2 rs2 hs2 k1 k2 h2 W rr hne2 hnr2 hnh2 hk1 hk2 hn1 hn2 hh2)
 have HPA := fun W A c (r1 : Rd W 0 W.heap.size A (strs (dU width es rs hs))) (r2 : Rd W 0 W.heap.size L (gM [bV ⟨width, es, rs, hs⟩ f tx])) => implPutAll_c A c 0 W.heap.size 3 (dU width es rs hs) L 1 0 W.heap.size 1 [bV ⟨width, es, rs, hs⟩ f tx] W r1 rfl (by omega) r2 rfl (by omega) hfits
 rw [show gW (dU width es rs hs) [bV ⟨width, es, rs, hs⟩ f tx] = dU width2 es2 rs2 hs2 from p1, show putAllK (dU width es rs hs) [bV ⟨width, es, rs, hs⟩ f tx] = 1 from p2, show (dU width2 es2 rs2 hs2).length = 3 from rfl] at HPA
 replace HPA := lH HPA
 have HRW := fun W (r2 : Rd W 0 W.heap.size L (gM [bV ⟨width, es, rs, hs⟩ f tx])) => implRaws_c L 1 0 W.heap.size 1 [bV ⟨width, es, rs, hs⟩ f tx] W r2 rfl (by show 1 + dG Wri.bulk [bV ⟨width, es, rs, hs⟩ f tx] ≤ 1048576; omega)
 rw [p3] at HRW
 replace HRW := lH HRW
 have e6 : decide ((6 : Int) < ((6 + tx.size : Nat) : Int)) = true := decide_eq_true (by omega)
 obtain ⟨sm, hsm⟩ : ∃ sm : Int, ((6 + tx.size : Nat) : Int) = sm := ⟨_, rfl⟩
 rw [hsm] at HRW e6
 clear hbk hwr hde hk1 hk2 hn1 hn2 hh2 hne2 hnr2 hnh2 p1 p2 p3 p4 p5 hfits hblk hsm
 generalize bV ⟨width, es, rs, hs⟩ f tx = dw at *
 generalize dU width2 es2 rs2 hs2 = dk2 at *
 generalize dU width es rs hs = dk1 at *
 go_wp2_with fail
 refine af (fun w7 hw => ?_)
 have hz7 : w6.heap.size + 1 ≤ w7.heap.size := zA
 have hbn : Below w6.heap.size w6 w7 := zB
 replace HB := bT HB hbn
 replace HOK := lH (HOK.out.below hbn)
 replace HOK2 := lH (HOK2.out.below hbn)
 replace HOW := lH (HOW.out.below hbn)
 replace HXb := nB HXb hbn
 clear hxb hfb hkb
 obtain ⟨hkb, hxb, hfb⟩ := HXb.out
 replace HXe := nB HXe hbn
 clear hxe hfe hke
 obtain ⟨hke, hxe, hfe⟩ := HXe.out
 replace HXr := nB HXr hbn
 clear hxr hfr hkr
 obtain ⟨hkr, hxr, hfr⟩ := HXr.out
 clear hbn
 have HXu : Hid (aa w7 (w6.heap.size) [.int .i64 width2, .slice E2 ne2 ce2, .slice R2 nr2 cr2, .slice H2 nh2 ch2, .int .i64 h2.size, .slice B1 n1 d1, .int .i64 h2.taken, .slice B2 n2 d2, .int .i64 h2.num, .int .i64 h2.size, .string h2.root, .int .i64 h2.taken, .string h2.troot]) := zG13
 obtain ⟨hku, hxu, hfu⟩ := HXu.out
 clear hw
 refine (HDK.out _ HOK.out.base).mono ?_
 rintro e w8 ⟨⟨A5, c5, rfl, o5⟩, hb⟩
 have hzw8 : w7.heap.size ≤ w8.heap.size := hb.size
 replace HB := bT HB hb
 replace HOK := lH (HOK.out.below hb)
 replace HOK2 := lH (HOK2.out.below hb)
 replace HOW := lH (HOW.out.below hb)
 replace HXb := nB HXb hb
 clear hxb hfb hkb
 obtain ⟨hkb, hxb, hfb⟩ := HXb.out
 replace HXe := nB HXe hb
 clear hxe hfe hke
 obtain ⟨hke, hxe, hfe⟩ := HXe.out
 replace HXr := nB HXr hb
 clear hxr hfr hkr
 obtain ⟨hkr, hxr, hfr⟩ := HXr.out
 replace HXu := nB HXu hb
 clear hxu hfu hku
 obtain ⟨hku, hxu, hfu⟩ := HXu.out
 clear hb
 have HOD1 : Hid (Rd w8 (w7.heap.size) (w8.heap.size) (A5) (strs dk1)) := lH o5.1.rd
 have HL5 := lH o5.2
 clear o5 HDK
 go_wp2_with fail
 refine af (fun w9 hw => ?_)
 have hz9 : w8.heap.size + 1 ≤ w9.heap.size := zA
 have hbn : Below w8.heap.size w8 w9 := zB
 replace HB := bT HB hbn
 replace HOK := lH (HOK.out.below hbn)
 replace HOK2 := lH (HOK2.out.below hbn)
 replace HOW := lH (HOW.out.below hbn)
 replace HOD1 := lH (HOD1.out.below hbn)
 replace HXb := nB HXb hbn
 clear hxb hfb hkb
 obtain ⟨hkb, hxb, hfb⟩ := HXb.out
 replace HXe := nB HXe hbn
 clear hxe hfe hke
 obtain ⟨hke, hxe, hfe⟩ := HXe.out
 replace HXr := nB HXr hbn
 clear hxr hfr hkr
 obtain ⟨hkr, hxr, hfr⟩ := HXr.out
 replace HXu := nB HXu hbn
 clear hxu hfu hku
 obtain ⟨hku, hxu, hfu⟩ := HXu.out
 clear hbn
 have HXd : Hid (aa w9 (w8.heap.size) [.slice A5 3 c5]) := zG1
 obtain ⟨hkd, hxd, hfd⟩ := HXd.out
 clear hw
 refine (HDK2.out _ HOK2.out.base).mono ?_
 rintro e w10 ⟨⟨A6, c6, rfl, o6⟩, hb⟩
 have hzw10 : w9.heap.size ≤ w10.heap.size := hb.size
 replace HB := bT HB hb
 replace HOK := lH (HOK.out.below hb)
 replace HOK2 := lH (HOK2.out.below hb)
 replace HOW := lH (HOW.out.below hb)
 replace HOD1 := lH (HOD1.out.below hb)
 replace HXb := nB HXb hb
 clear hxb hfb hkb
 obtain ⟨hkb, hxb, hfb⟩ := HXb.out
 replace HXe := nB HXe hb
 clear hxe hfe hke
 obtain ⟨hke, hxe, hfe⟩ := HXe.out
 replace HXr := nB HXr hb
 clear hxr hfr hkr
 obtain ⟨hkr, hxr, hfr⟩ := HXr.out
 replace HXu := nB HXu hb
 clear hxu hfu hku
 obtain ⟨hku, hxu, hfu⟩ := HXu.out
 replace HXd := nB HXd hb
 clear hxd hfd hkd
 obtain ⟨hkd, hxd, hfd⟩ := HXd.out
 clear hb
 have HOD2 : Hid (Rd w10 (w9.heap.size) (w10.heap.size) (A6) (strs dk2)) := lH o6.1.rd
 have HL6 := lH o6.2
 clear o6 HDK2
 go_wp2_with fail
 refine af (fun w11 hw => ?_)
 have hz11 : w10.heap.size + 1 ≤ w11.heap.size := zA
 have hbn : Below w10.heap.size w10 w11 := zB
 replace HB := bT HB hbn
 replace HOK := lH (HOK.out.below hbn)
 replace HOK2 := lH (HOK2.out.below hbn)
 replace HOW := lH (HOW.out.below hbn)
 replace HOD1 := lH (HOD1.out.below hbn)
 replace HOD2 := lH (HOD2.out.below hbn)
 replace HXb := nB HXb hbn
 clear hxb hfb hkb
 obtain ⟨hkb, hxb, hfb⟩ := HXb.out
 replace HXe := nB HXe hbn
 clear hxe hfe hke
 obtain ⟨hke, hxe, hfe⟩ := HXe.out
 replace HXr := nB HXr hbn
 clear hxr hfr hkr
 obtain ⟨hkr, hxr, hfr⟩ := HXr.out
 replace HXu := nB HXu hbn
 clear hxu hfu hku
 obtain ⟨hku, hxu, hfu⟩ := HXu.out
 replace HXd := nB HXd hbn
 clear hxd hfd hkd
 obtain ⟨hkd, hxd, hfd⟩ := HXd.out
 clear hbn
 have HXv : Hid (aa w11 (w10.heap.size) [.slice A6 3 c6]) := zG1
 obtain ⟨hkv, hxv, hfv⟩ := HXv.out
 clear hw
 refine (HPA.out _ A5 c5 HOD1.out.base HOW.out.base).mono ?_
 rintro e w12 ⟨A7, c7, rfl, o7, hb⟩
 have hzw12 : w11.heap.size ≤ w12.heap.size := hb.size
 replace HB := bT HB hb
 replace HOK := lH (HOK.out.below hb)
 replace HOK2 := lH (HOK2.out.below hb)
 replace HOW := lH (HOW.out.below hb)
 replace HOD1 := lH (HOD1.out.below hb)
 replace HOD2 := lH (HOD2.out.below hb)
 replace HXb := nB HXb hb
 clear hxb hfb hkb
 obtain ⟨hkb, hxb, hfb⟩ := HXb.out
 replace HXe := nB HXe hb
 clear hxe hfe hke
 obtain ⟨hke, hxe, hfe⟩ := HXe.out
 replace HXr := nB HXr hb
 clear hxr hfr hkr
 obtain ⟨hkr, hxr, hfr⟩ := HXr.out
 replace HXu := nB HXu hb
 clear hxu hfu hku
 obtain ⟨hku, hxu, hfu⟩ := HXu.out
 replace HXd := nB HXd hb
 clear hxd hfd hkd
 obtain ⟨hkd, hxd, hfd⟩ := HXd.out
 replace HXv := nB HXv hb
 clear hxv hfv hkv
 obtain ⟨hkv, hxv, hfv⟩ := HXv.out
 clear hb
 have HOD3 : Hid (Rd w12 (w11.heap.size) (w12.heap.size) (A7) (strs dk2)) := lH o7.rd
 clear o7 HPA
 go_wp2_with fail
 refine af (fun w13 hw => ?_)
 have hz13 : w12.heap.size + 1 ≤ w13.heap.size := zA
 have hbn : Below w12.heap.size w12 w13 := zB
 replace HB := bT HB hbn
 replace HOK := lH (HOK.out.below hbn)
 replace HOK2 := lH (HOK2.out.below hbn)
 replace HOW := lH (HOW.out.below hbn)
 replace HOD1 := lH (HOD1.out.below hbn)
 replace HOD2 := lH (HOD2.out.below hbn)
 replace HOD3 := lH (HOD3.out.below hbn)
 replace HXb := nB HXb hbn
 clear hxb hfb hkb
 obtain ⟨hkb, hxb, hfb⟩ := HXb.out
 replace HXe := nB HXe hbn
 clear hxe hfe hke
 obtain ⟨hke, hxe, hfe⟩ := HXe.out
 replace HXr := nB HXr hbn
 clear hxr hfr hkr
 obtain ⟨hkr, hxr, hfr⟩ := HXr.out
 replace HXu := nB HXu hbn
 clear hxu hfu hku
 obtain ⟨hku, hxu, hfu⟩ := HXu.out
 replace HXd := nB HXd hbn
 clear hxd hfd hkd
 obtain ⟨hkd, hxd, hfd⟩ := HXd.out
 replace HXv := nB HXv hbn
 clear hxv hfv hkv
 obtain ⟨hkv, hxv, hfv⟩ := HXv.out
 clear hbn
 have HXy : Hid (aa w13 (w12.heap.size) [.slice A7 3 c7]) := zG1
 obtain ⟨hky, hxy, hfy⟩ := HXy.out
 clear hw
 refine (sameDisk_c A7 A6 c7 c6 0 (w13).heap.size 0 (w13).heap.size dk2 w13 HOD3.out.base HOD2.out.base HL6.out).mono ?_
 rintro e w14 ⟨rfl, hb⟩
 have hzw14 : w13.heap.size ≤ w14.heap.size := hb.size
 replace HB := bT HB hb
 replace HOK := lH (HOK.out.below hb)
 replace HOK2 := lH (HOK2.out.below hb)
 replace HOW := lH (HOW.out.below hb)
 replace HOD1 := lH (HOD1.out.below hb)
 replace HOD2 := lH (HOD2.out.below hb)
 replace HOD3 := lH (HOD3.out.below hb)
 replace HXb := nB HXb hb
 clear hxb hfb hkb
 obtain ⟨hkb, hxb, hfb⟩ := HXb.out
 replace HXe := nB HXe hb
 clear hxe hfe hke
 obtain ⟨hke, hxe, hfe⟩ := HXe.out
 replace HXr := nB HXr hb
 clear hxr hfr hkr
 obtain ⟨hkr, hxr, hfr⟩ := HXr.out
 replace HXu := nB HXu hb
 clear hxu hfu hku
 obtain ⟨hku, hxu, hfu⟩ := HXu.out
 replace HXd := nB HXd hb
 clear hxd hfd hkd
 obtain ⟨hkd, hxd, hfd⟩ := HXd.out
 replace HXv := nB HXv hb
 clear hxv hfv hkv
 obtain ⟨hkv, hxv, hfv⟩ := HXv.out
 replace HXy := nB HXy hb
 clear hxy hfy hky
 obtain ⟨hky, hxy, hfy⟩ := HXy.out
 clear hb
 go_wp2_with fail
 refine af (fun w15 hw => ?_)
 have hz15 : w14.heap.size + 0 ≤ w15.heap.size := zA
 have hbn : Below w14.heap.size w14 w15 := zB
 replace HB := bT HB hbn
 replace HOK := lH (HOK.out.below hbn)
 replace HOK2 := lH (HOK2.out.below hbn)
 replace HOW := lH (HOW.out.below hbn)
 replace HOD1 := lH (HOD1.out.below hbn)
 replace HOD2 := lH (HOD2.out.below hbn)
 replace HOD3 := lH (HOD3.out.below hbn)
 replace HXb := nB HXb hbn
 clear hxb hfb hkb
 obtain ⟨hkb, hxb, hfb⟩ := HXb.out
 replace HXe := nB HXe hbn
 clear hxe hfe hke
 obtain ⟨hke, hxe, hfe⟩ := HXe.out
 replace HXr := nB HXr hbn
 clear hxr hfr hkr
 obtain ⟨hkr, hxr, hfr⟩ := HXr.out
 replace HXu := nB HXu hbn
 clear hxu hfu hku
 obtain ⟨hku, hxu, hfu⟩ := HXu.out
 replace HXd := nB HXd hbn
 clear hxd hfd hkd
 obtain ⟨hkd, hxd, hfd⟩ := HXd.out
 replace HXv := nB HXv hbn
 clear hxv hfv hkv
 obtain ⟨hkv, hxv, hfv⟩ := HXv.out
 replace HXy := nB HXy hbn
 clear hxy hfy hky
 obtain ⟨hky, hxy, hfy⟩ := HXy.out
 clear hbn
 clear hw
 refine (HRW.out _ HOW.out.base).mono ?_
 rintro e w16 ⟨rfl, hb⟩
 have hzw16 : w15.heap.size ≤ w16.heap.size := hb.size
 replace HB := bT HB hb
 replace HOK := lH (HOK.out.below hb)
 replace HOK2 := lH (HOK2.out.below hb)
 replace HOW := lH (HOW.out.below hb)
 replace HOD1 := lH (HOD1.out.below hb)
 replace HOD2 := lH (HOD2.out.below hb)
 replace HOD3 := lH (HOD3.out.below hb)
 replace HXb := nB HXb hb
 clear hxb hfb hkb
 obtain ⟨hkb, hxb, hfb⟩ := HXb.out
 replace HXe := nB HXe hb
 clear hxe hfe hke
 obtain ⟨hke, hxe, hfe⟩ := HXe.out
 replace HXr := nB HXr hb
 clear hxr hfr hkr
 obtain ⟨hkr, hxr, hfr⟩ := HXr.out
 replace HXu := nB HXu hb
 clear hxu hfu hku
 obtain ⟨hku, hxu, hfu⟩ := HXu.out
 replace HXd := nB HXd hb
 clear hxd hfd hkd
 obtain ⟨hkd, hxd, hfd⟩ := HXd.out
 replace HXv := nB HXv hb
 clear hxv hfv hkv
 obtain ⟨hkv, hxv, hfv⟩ := HXv.out
 replace HXy := nB HXy hb
 clear hxy hfy hky
 obtain ⟨hky, hxy, hfy⟩ := HXy.out
 clear hb
 go_wp2
 go_ret
 exact ⟨rfl, HB.out⟩
end
end Go.Proofs.YtoccjgcokffkbaaGreat
