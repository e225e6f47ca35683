/- Part 35 of the proof of FnDeeds: lemmas and contracts. -/
import Derived.Test.YtoccjgcokffkbaaGreatTd28
import Derived.Test.YtoccjgcokffkbaaGreatTd34
namespace Go.Proofs.YtoccjgcokffkbaaGreat
set_option linter.unusedVariables false
set_option linter.unusedSimpArgs false
set_option maxHeartbeats 20000000
section
open Go.RowKit
structure After (kd : Int) (m m' : Bm) : Prop where
 two : kd = 2 → m'.es = m.es ∧ m'.rs = m.rs ∧ (ae m'.hs).size = (m.es.length : Nat) ∧ (ae m'.hs).taken = (m.rs.length : Nat) ∧ (ae m'.hs).num = (ae m.hs).num + 1
 one : kd ≠ 2 → m'.hs = m.hs ∧ m'.es.length + m'.rs.length = m.es.length + m.rs.length + 1
def DidP (w w' : World) (kd : Int) (m : Bm) (width2 : Int) (E2 R2 H2 B1 B2 : Option Addr) (ne2 nr2 nh2 ce2 cr2 ch2 d1 d2 n1 n2 : Nat) (es2 : List Ent) (rs2 : List Rcp) (hs2 : List Hd) (k1 k2 : List ByteArray) (h2 : Hd) (L : Option Addr) (q : Nat) (code : Int) : Prop :=
 (¬ code = 0 ∧ 0 < kd ∧ nh2 = 0 ∧ ne2 = 0 ∧ q = 0) ∨ (code = 0 ∧ q = 1 ∧ aG w' w.heap.size w'.heap.size ⟨E2, R2, H2, B1, B2, ce2, cr2, ch2, d1, d2⟩ ⟨width2, es2, rs2, hs2⟩ ∧ (es2.length = ne2 ∧ rs2.length = nr2 ∧ hs2.length = nh2 ∧ pk1 width2 es2 hs2 = k1 ∧ pk2 width2 rs2 hs2 = k2 ∧ k1.length = n1 ∧ k2.length = n2 ∧ ae hs2 = h2) ∧ After kd m ⟨width2, es2, rs2, hs2⟩ ∧ ∃ f tx, Deed m ⟨width2, es2, rs2, hs2⟩ f tx ∧ Rd w' w.heap.size w'.heap.size L (wris [dZ m f tx]))
theorem did_conv {w w' : World} {kd : Int} {m m' : Bm} {a' : Bk} {f q : Nat} {tx : ByteArray} {L : Option Addr} {code : Int} (h : DoneR w w' m a' m' f tx L q code) (hkd : ¬ code = 0 → 0 < kd) (ha : code = 0 → After kd m m') :
  DidP w w' kd m m'.width a'.E a'.R a'.H a'.A1 a'.A2 m'.es.length m'.rs.length m'.hs.length a'.ce a'.cr a'.ch a'.c1 a'.c2 (pk1 m'.width m'.es m'.hs).length (pk2 m'.width m'.rs m'.hs).length m'.es m'.rs m'.hs (pk1 m'.width m'.es m'.hs) (pk2 m'.width m'.rs m'.hs) (ae m'.hs) L q code := by
 rcases h with ⟨h1, rfl, rfl⟩ | ⟨h1, h2, h3, h4, h5⟩
 ·exact .inl ⟨h1, hkd h1, rfl, rfl, rfl⟩
 exact .inr ⟨h1, h2, h4, ⟨rfl, rfl, rfl, rfl, rfl, rfl, rfl, rfl⟩, ha h1, f, tx, h3, h5⟩
set_option maxRecDepth 100000 in
theorem didB_c (width : Int) (E R H A1 A2 : Option Addr) (ne nr nh ce cr ch c1 c2 m1 m2 : Nat) (es : List Ent) (rs : List Rcp) (hs : List Hd) (l1 l2 : List ByteArray) (h : Hd) (kd : Int) (x : Ent) (r : Rcp) (w : World) (hk : aG w 0 w.heap.size ⟨E, R, H, A1, A2, ce, cr, ch, c1, c2⟩ ⟨width, es, rs, hs⟩) (hne : es.length = ne) (hnr : rs.length = nr) (hnh : hs.length = nh) (hl1 : pk1 width es hs = l1) (hl2 : pk2 width rs hs = l2) (hm1 : l1.length = m1) (hm2 : l2.length = m2) (hh : ae hs = h) (h0 : 0 ≤ kd) (h3 : kd < 3) (hx : DrawnE x) (hr : DrawnR r) (h24 : ne ≤ 24) :
  Calls Tryz.prog 22 #[.agg #[.int .i64 width, .slice E ne ce, .slice R nr cr, .slice H nh ch, .int .i64 h.size, .slice A1 m1 c1, .int .i64 h.taken, .slice A2 m2 c2, .int .i64 h.num, .int .i64 h.size, .string h.root, .int .i64 h.taken, .string h.troot], .int .i64 kd, .agg #[.string x.topic, .int .i64 x.index, .int .i64 x.time, .string x.key, .string x.body], .agg #[.string r.reader, .string r.topic, .int .i64 r.index]] w fun e w' => ∃ (width2 : Int) (E2 R2 H2 B1 B2 : Option Addr) (ne2 nr2 nh2 ce2 cr2 ch2 d1 d2 n1 n2 : Nat) (es2 : List Ent) (rs2 : List Rcp) (hs2 : List Hd) (k1 k2 : List ByteArray) (h2 : Hd) (L : Option Addr) (q : Nat) (code : Int), e = .returned (.tuple #[.agg #[.int .i64 width2, .slice E2 ne2 ce2, .slice R2 nr2 cr2, .slice H2 nh2 ch2, .int .i64 h2.size, .slice B1 n1 d1, .int .i64 h2.taken, .slice B2 n2 d2, .int .i64 h2.num, .int .i64 h2.size, .string h2.root, .int .i64 h2.taken, .string h2.troot], .slice L q q, .int .i64 code]) ∧ DidP w w' kd ⟨width, es, rs, hs⟩ width2 E2 R2 H2 B1 B2 ne2 nr2 nh2 ce2 cr2 ch2 d1 d2 n1 n2 es2 rs2 hs2 k1 k2 h2 L q code ∧ Below w.heap.size w w' := by
 have hkk := hk
 obtain ⟨f1, f2, f3, g1, g2, g3, g4, f4, g5, g6, g7⟩ := bN hk.ok
 have hlast := hk.ok.last
 have hpos := hk.ok.pos
 dsimp only at f1 f2 f3 g1 g2 g3 g4 f4 g5 g6 g7 hlast hpos
 rw [hne] at g1 hlast
 rw [hnr] at g2 hlast
 rw [hnh] at g3 g4 hpos
 rw [hh] at f4 g5 hlast
 rw [hl1, hm1] at g6
 rw [hl2, hm2] at g7
 have hok : aB width es rs hs := hk.ok
 have hc : bK es x.topic x.time x.key x.body = 0 := by
  obtain ⟨q1, q2, q3, q4, q5⟩ := hx
  rw [bK, if_pos q1, dG, az.2 ⟨q3.1, by omega⟩, decide_eq_true (by omega : x.key.size ≤ 40), decide_eq_true (by omega : x.body.size ≤ 400), decide_eq_false (by omega : ¬ 512 ≤ es.length)]
  rfl
 have hxt : x.topic.size ≤ 20 := eU hx.1
 have hxk := hx.2.2.2.1
 have hxb := hx.2.2.2.2
 have hro : bX r = true := by rw [bX, hr.1, hr.2.1, az.2 ⟨hr.2.2.1, by have := hr.2.2.2; omega⟩]; rfl
 have hrf := rcp_fit hro
 have HPU : Hid (∀ W, aG W 0 W.heap.size ⟨E, R, H, A1, A2, ce, cr, ch, c1, c2⟩ ⟨width, es, rs, hs⟩ → Calls Tryz.prog 47 #[.agg #[.int .i64 width, .slice E ne ce, .slice R nr cr, .slice H nh ch, .int .i64 h.size, .slice A1 m1 c1, .int .i64 h.taken, .slice A2 m2 c2, .int .i64 h.num, .int .i64 h.size, .string h.root, .int .i64 h.taken, .string h.troot], .string x.topic, .int .i64 x.time, .string x.key, .string x.body] W fun e w' => ∃ (width2 : Int) (E2 R2 H2 B1 B2 : Option Addr) (ne2 nr2 nh2 ce2 cr2 ch2 d1 d2 n1 n2 : Nat) (es2 : List Ent) (rs2 : List Rcp) (hs2 : List Hd) (k1 k2 : List ByteArray) (h2 : Hd) (L : Option Addr), e = .returned (.tuple #[.agg #[.int .i64 width2, .slice E2 ne2 ce2, .slice R2 nr2 cr2, .slice H2 nh2 ch2, .int .i64 h2.size, .slice B1 n1 d1, .int .i64 h2.taken, .slice B2 n2 d2, .int .i64 h2.num, .int .i64 h2.size, .string h2.root, .int .i64 h2.taken, .string h2.troot], .slice L 1 1, .int .i64 ne, .int .i64 0]) ∧ DidP W w' 0 ⟨width, es, rs, hs⟩ width2 E2 R2 H2 B1 B2 ne2 nr2 nh2 ce2 cr2 ch2 d1 d2 n1 n2 es2 rs2 hs2 k1 k2 h2 L 1 0 ∧ Below W.heap.size W w') := lH (fun W rr =>
  (publishB_c width E R H A1 A2 ne nr nh ce cr ch c1 c2 m1 m2 es rs hs l1 l2 h x.topic x.time x.key x.body W rr hne hnr hnh hl1 hl2 hm1 hm2 hh (by omega) (by omega) (by omega) hc).mono fun e w' ⟨a', q, he, hd, hb⟩ => ⟨_, _, _, _, _, _, _, _, _, _, _, _, _, _, _, _, _, _, _, _, _, _, some ⟨q, 0, none⟩, he, did_conv (.inr ⟨rfl, rfl, hd⟩) (fun h => absurd rfl h) (fun _ => ⟨fun e => by omega, fun _ => ⟨rfl, by show (es ++ [_]).length + rs.length = es.length + rs.length + 1; rw [List.length_append]; show es.length + 1 + rs.length = _; omega⟩⟩), hb⟩)
 have HTK : Hid (∀ W, aG W 0 W.heap.size ⟨E, R, H, A1, A2, ce, cr, ch, c1, c2⟩ ⟨width, es, rs, hs⟩ → Calls Tryz.prog 48 #[.agg #[.int .i64 width, .slice E ne ce, .slice R nr cr, .slice H nh ch, .int .i64 h.size, .slice A1 m1 c1, .int .i64 h.taken, .slice A2 m2 c2, .int .i64 h.num, .int .i64 h.size, .string h.root, .int .i64 h.taken, .string h.troot], .agg #[.string r.reader, .string r.topic, .int .i64 r.index]] W fun e w' => ∃ (width2 : Int) (E2 R2 H2 B1 B2 : Option Addr) (ne2 nr2 nh2 ce2 cr2 ch2 d1 d2 n1 n2 : Nat) (es2 : List Ent) (rs2 : List Rcp) (hs2 : List Hd) (k1 k2 : List ByteArray) (h2 : Hd) (L : Option Addr) (q : Nat) (code : Int), e = .returned (.tuple #[.agg #[.int .i64 width2, .slice E2 ne2 ce2, .slice R2 nr2 cr2, .slice H2 nh2 ch2, .int .i64 h2.size, .slice B1 n1 d1, .int .i64 h2.taken, .slice B2 n2 d2, .int .i64 h2.num, .int .i64 h2.size, .string h2.root, .int .i64 h2.taken, .string h2.troot], .slice L q q, .int .i64 code]) ∧ DidP W w' 1 ⟨width, es, rs, hs⟩ width2 E2 R2 H2 B1 B2 ne2 nr2 nh2 ce2 cr2 ch2 d1 d2 n1 n2 es2 rs2 hs2 k1 k2 h2 L q code ∧ Below W.heap.size W w') := lH (fun W rr =>
  (takeB_c width E R H A1 A2 ne nr nh ce cr ch c1 c2 m1 m2 es rs hs l1 l2 h r W rr hne hnr hnh hl1 hl2 hm1 hm2 hh hrf hro).mono fun e w' ⟨a', m', L, q, code, he, ⟨hd, hm'⟩, hb⟩ => ⟨_, _, _, _, _, _, _, _, _, _, _, _, _, _, _, _, _, _, _, _, _, _, L, q, code, he, did_conv hd (fun _ => by omega) (fun e => by
    rw [hm' e]; exact ⟨fun e => by omega, fun _ => ⟨rfl, by show es.length + (rs ++ [_]).length = es.length + rs.length + 1; rw [List.length_append]; rfl⟩⟩), hb⟩)
 have HSE : Hid (∀ W, aG W 0 W.heap.size ⟨E, R, H, A1, A2, ce, cr, ch, c1, c2⟩ ⟨width, es, rs, hs⟩ → Calls Tryz.prog 49 #[.agg #[.int .i64 width, .slice E ne ce, .slice R nr cr, .slice H nh ch, .int .i64 h.size, .slice A1 m1 c1, .int .i64 h.taken, .slice A2 m2 c2, .int .i64 h.num, .int .i64 h.size, .string h.root, .int .i64 h.taken, .string h.troot]] W fun e w' => ∃ (width2 : Int) (E2 R2 H2 B1 B2 : Option Addr) (ne2 nr2 nh2 ce2 cr2 ch2 d1 d2 n1 n2 : Nat) (es2 : List Ent) (rs2 : List Rcp) (hs2 : List Hd) (k1 k2 : List ByteArray) (h2 : Hd) (L : Option Addr) (q : Nat) (code : Int), e = .returned (.tuple #[.agg #[.int .i64 width2, .slice E2 ne2 ce2, .slice R2 nr2 cr2, .slice H2 nh2 ch2, .int .i64 h2.size, .slice B1 n1 d1, .int .i64 h2.taken, .slice B2 n2 d2, .int .i64 h2.num, .int .i64 h2.size, .string h2.root, .int .i64 h2.taken, .string h2.troot], .slice L q q, .int .i64 code]) ∧ DidP W w' 2 ⟨width, es, rs, hs⟩ width2 E2 R2 H2 B1 B2 ne2 nr2 nh2 ce2 cr2 ch2 d1 d2 n1 n2 es2 rs2 hs2 k1 k2 h2 L q code ∧ Below W.heap.size W w') := lH (fun W rr =>
  (sealB_c width E R H A1 A2 ne nr nh ce cr ch c1 c2 m1 m2 es rs hs l1 l2 h W rr hne hnr hnh hl1 hl2 hm1 hm2 hh).mono fun e w' ⟨a', m', L, q, code, he, ⟨hd, hm'⟩, hb⟩ => ⟨_, _, _, _, _, _, _, _, _, _, _, _, _, _, _, _, _, _, _, _, _, _, L, q, code, he, did_conv hd (fun _ => by omega) (fun e => by
    rw [hm' e]; exact ⟨fun _ => ⟨rfl, rfl, by show (ae (hs ++ [eH width es rs hs])).size = _; rw [dN]; rfl, by show (ae (hs ++ [eH width es rs hs])).taken = _; rw [dN]; rfl, by
     show (ae (hs ++ [eH width es rs hs])).num = (ae hs).num + 1
     rw [dN, hok.lastAt.1]
     show (hs.length : Int) = ((hs.length - 1 : Nat) : Int) + 1
     have := hok.pos; omega⟩, fun e => absurd rfl e⟩), hb⟩)
 have HB : Hid (Below w.heap.size w w) := Below.refl _ _
 have HOK : Hid (aG w (0) (w.heap.size) (⟨E, R, H, A1, A2, ce, cr, ch, c1, c2⟩) (⟨width, es, rs, hs⟩)) := lH hkk
 have HDP : Hid (∀ w' kd (width2 : Int) (E2 R2 H2 B1 B2 : Option Addr) (ne2 nr2 nh2 ce2 cr2 ch2 d1 d2 n1 n2 : Nat) (es2 : List Ent) (rs2 : List Rcp) (hs2 : List Hd) (k1 k2 : List ByteArray) (h2 : Hd) L q code, DidP w w' kd ⟨width, es, rs, hs⟩ width2 E2 R2 H2 B1 B2 ne2 nr2 nh2 ce2 cr2 ch2 d1 d2 n1 n2 es2 rs2 hs2 k1 k2 h2 L q code ↔ (¬ code = 0 ∧ 0 < kd ∧ nh2 = 0 ∧ ne2 = 0 ∧ q = 0) ∨ (code = 0 ∧ q = 1 ∧ aG w' w.heap.size w'.heap.size ⟨E2, R2, H2, B1, B2, ce2, cr2, ch2, d1, d2⟩ ⟨width2, es2, rs2, hs2⟩ ∧ (es2.length = ne2 ∧ rs2.length = nr2 ∧ hs2.length = nh2 ∧ pk1 width2 es2 hs2 = k1 ∧ pk2 width2 rs2 hs2 = k2 ∧ k1.length = n1 ∧ k2.length = n2 ∧ ae hs2 = h2) ∧ After kd ⟨width, es, rs, hs⟩ ⟨width2, es2, rs2, hs2⟩ ∧ ∃ f tx, Deed ⟨width, es, rs, hs⟩ ⟨width2, es2, rs2, hs2⟩ f tx ∧ Rd w' w.heap.size w'.heap.size L (wris [dZ ⟨width, es, rs, hs⟩ f tx]))) := lH (by intros; exact Iff.rfl)
 clear hk hkk f1 f2 f3 f4 hlast hne hnr hnh hl1 hl2 hm1 hm2 hh hok hc hro hrf hx hr hxt hxk hxb
 go_enter Tryz.func22, Tryz.ntmps22
 go_upto_region 1 with fail
 refine aD (fun w1 hw => ?_)
 have hz1 : w.heap.size + 4 ≤ w1.heap.size := zA
 have hbn : Below w.heap.size w w1 := zB
 replace HB := bT HB hbn
 replace HOK := lH (HOK.out.below hbn)
 clear hbn
 have HXb : Hid (aa w1 (w.heap.size) [.int .i64 width, .slice E ne ce, .slice R nr cr, .slice H nh ch, .int .i64 h.size, .slice A1 m1 c1, .int .i64 h.taken, .slice A2 m2 c2, .int .i64 h.num, .int .i64 h.size, .string h.root, .int .i64 h.taken, .string h.troot]) := zG13
 obtain ⟨hkb, hxb, hfb⟩ := HXb.out
 have HXe : Hid (aa w1 (w.heap.size + 1) [.string x.topic, .int .i64 x.index, .int .i64 x.time, .string x.key, .string x.body]) := zG5
 obtain ⟨hke, hxe, hfe⟩ := HXe.out
 have HXr : Hid (aa w1 (w.heap.size + 2) [.string r.reader, .string r.topic, .int .i64 r.index]) := zG3
 obtain ⟨hkr, hxr, hfr⟩ := HXr.out
 have HXq : Hid (aa w1 (w.heap.size + 3) [.int .i64 0, .slice none 0 0, .slice none 0 0, .slice none 0 0, .int .i64 0, .slice none 0 0, .int .i64 0, .slice none 0 0, .int .i64 0, .int .i64 0, .string ⟨#[]⟩, .int .i64 0, .string ⟨#[]⟩]) := zG13
 obtain ⟨hkq, hxq, hfq⟩ := HXq.out
 clear hw
 rcases (show kd = 0 ∨ kd = 1 ∨ kd = 2 by omega) with rfl | rfl | rfl
 ·go_wp2_with fail
  refine af (fun w2 hw => ?_)
  have hz2 : w1.heap.size + 0 ≤ w2.heap.size := zA
  have hbn : Below w1.heap.size w1 w2 := zB
  replace HB := bT HB hbn; replace HOK := lH (HOK.out.below hbn); replace HXb := nB HXb hbn; clear hxb hfb hkb; obtain ⟨hkb, hxb, hfb⟩ := HXb.out; replace HXe := nB HXe hbn; clear hxe hfe hke; obtain ⟨hke, hxe, hfe⟩ := HXe.out; replace HXr := nB HXr hbn; clear hxr hfr hkr; obtain ⟨hkr, hxr, hfr⟩ := HXr.out; replace HXq := nB HXq hbn; clear hxq hfq hkq; obtain ⟨hkq, hxq, hfq⟩ := HXq.out; clear hbn; clear hw
  refine (HPU.out _ HOK.out.base).mono ?_
  rintro e w3 ⟨width2, E2, R2, H2, B1, B2, ne2, nr2, nh2, ce2, cr2, ch2, d1, d2, n1, n2, es2, rs2, hs2, k1, k2, h2, L, rfl, hdp, hb⟩
  have hzw3 : w2.heap.size ≤ w3.heap.size := hb.size
  replace HB := bT HB hb; replace HOK := lH (HOK.out.below hb); replace HXb := nB HXb hb; clear hxb hfb hkb; obtain ⟨hkb, hxb, hfb⟩ := HXb.out; replace HXe := nB HXe hb; clear hxe hfe hke; obtain ⟨hke, hxe, hfe⟩ := HXe.out; replace HXr := nB HXr hb; clear hxr hfr hkr; obtain ⟨hkr, hxr, hfr⟩ := HXr.out; replace HXq := nB HXq hb; clear hxq hfq hkq; obtain ⟨hkq, hxq, hfq⟩ := HXq.out; clear hb
  rcases hdp with ⟨q1, _⟩ | ⟨_, _, hbk, hq, haf, f, tx, hde, hwr⟩
  ·exact absurd rfl q1
  clear HPU HTK HSE; clear hxb hfb hkb HXb; clear hxe hfe hke HXe; clear hxr hfr hkr HXr; clear HOK
  have HOK2 : Hid (aG w3 (w2.heap.size) (w3.heap.size) (⟨E2, R2, H2, B1, B2, ce2, cr2, ch2, d1, d2⟩) (⟨width2, es2, rs2, hs2⟩)) := lH hbk
  have HOW : Hid (Rd w3 (w2.heap.size) (w3.heap.size) (L) (wris [dZ ⟨width, es, rs, hs⟩ f tx])) := lH hwr
  have HQ := lH hq
  have HAF := lH haf
  have HDE := lH hde
  clear hbk hwr hq haf hde; go_wp2
  refine ai (fun w4 hw => ?_)
  have hz4 : w3.heap.size + 1 ≤ w4.heap.size := zA
  replace HB : Hid (Below w.heap.size w w4) := zC HB
  replace HOK2 : Hid (aG w4 (w2.heap.size) (w3.heap.size) (⟨E2, R2, H2, B1, B2, ce2, cr2, ch2, d1, d2⟩) (⟨width2, es2, rs2, hs2⟩)) := zLBrkK HOK2
  replace HOW : Hid (Rd w4 (w2.heap.size) (w3.heap.size) (L) (wris [dZ ⟨width, es, rs, hs⟩ f tx])) := zLRd HOW
  replace HXq : Hid (aa w4 (w.heap.size + 3) [.int .i64 width2, .slice E2 ne2 ce2, .slice R2 nr2 cr2, .slice H2 nh2 ch2, .int .i64 h2.size, .slice B1 n1 d1, .int .i64 h2.taken, .slice B2 n2 d2, .int .i64 h2.num, .int .i64 h2.size, .string h2.root, .int .i64 h2.taken, .string h2.troot]) := zD HXq
  clear hxq hfq hkq; obtain ⟨hkq, hxq, hfq⟩ := HXq.out
  have HXo : Hid (aa w4 (w3.heap.size) [.int .i64 width2, .slice E2 ne2 ce2, .slice R2 nr2 cr2, .slice H2 nh2 ch2, .int .i64 h2.size, .slice B1 n1 d1, .int .i64 h2.taken, .slice B2 n2 d2, .int .i64 h2.num, .int .i64 h2.size, .string h2.root, .int .i64 h2.taken, .string h2.troot]) := zG13
  obtain ⟨hko, hxo, hfo⟩ := HXo.out; clear hw
  refine bodyPost_ret (v := .tuple #[.agg #[.int .i64 width2, .slice E2 ne2 ce2, .slice R2 nr2 cr2, .slice H2 nh2 ch2, .int .i64 h2.size, .slice B1 n1 d1, .int .i64 h2.taken, .slice B2 n2 d2, .int .i64 h2.num, .int .i64 h2.size, .string h2.root, .int .i64 h2.taken, .string h2.troot], .slice L 1 1, .int .i64 0]) (by simp [results, Tryz.results22, go_sem, hxq]) rfl ?_
  exact ⟨width2, E2, R2, H2, B1, B2, ne2, nr2, nh2, ce2, cr2, ch2, d1, d2, n1, n2, es2, rs2, hs2, k1, k2, h2, L, 1, 0, rfl, .inr ⟨rfl, rfl, HOK2.out.mono (by omega) (by omega) (Nat.le_refl _), HQ.out, HAF.out, f, tx, HDE.out, HOW.out.mono (by omega) (by omega) (Nat.le_refl _)⟩, HB.out⟩
 ·go_wp2_with fail
  refine af (fun w2 hw => ?_)
  have hz2 : w1.heap.size + 0 ≤ w2.heap.size := zA
  have hbn : Below w1.heap.size w1 w2 := zB
  replace HB := bT HB hbn; replace HOK := lH (HOK.out.below hbn); replace HXb := nB HXb hbn; clear hxb hfb hkb; obtain ⟨hkb, hxb, hfb⟩ := HXb.out; replace HXe := nB HXe hbn; clear hxe hfe hke; obtain ⟨hke, hxe, hfe⟩ := HXe.out; replace HXr := nB HXr hbn; clear hxr hfr hkr; obtain ⟨hkr, hxr, hfr⟩ := HXr.out; replace HXq := nB HXq hbn; clear hxq hfq hkq; obtain ⟨hkq, hxq, hfq⟩ := HXq.out; clear hbn; clear hw
  refine (HTK.out _ HOK.out.base).mono ?_
  rintro e w3 ⟨width2, E2, R2, H2, B1, B2, ne2, nr2, nh2, ce2, cr2, ch2, d1, d2, n1, n2, es2, rs2, hs2, k1, k2, h2, L, q, cd, rfl, hdp, hb⟩
  have hzw3 : w2.heap.size ≤ w3.heap.size := hb.size
  replace HB := bT HB hb; replace HOK := lH (HOK.out.below hb); replace HXb := nB HXb hb; clear hxb hfb hkb; obtain ⟨hkb, hxb, hfb⟩ := HXb.out; replace HXe := nB HXe hb; clear hxe hfe hke; obtain ⟨hke, hxe, hfe⟩ := HXe.out; replace HXr := nB HXr hb; clear hxr hfr hkr; obtain ⟨hkr, hxr, hfr⟩ := HXr.out; replace HXq := nB HXq hb; clear hxq hfq hkq; obtain ⟨hkq, hxq, hfq⟩ := HXq.out; clear hb; clear HPU HTK HSE
  clear hxb hfb hkb HXb; clear hxe hfe hke HXe; clear hxr hfr hkr HXr; clear HOK
  rcases hdp with ⟨q1, q2, q3, q4, q5⟩ | ⟨q1, q2, hbk, hq, haf, f, tx, hde, hwr⟩
  ·have HQ := lH (And.intro q1 (And.intro q2 (And.intro q3 (And.intro q4 q5))))
   clear q1 q2 q3 q4 q5; go_wp2
   refine ai (fun w4 hw => ?_)
   have hz4 : w3.heap.size + 0 ≤ w4.heap.size := zA
   replace HB : Hid (Below w.heap.size w w4) := zC HB
   replace HXq : Hid (aa w4 (w.heap.size + 3) [.int .i64 width2, .slice E2 ne2 ce2, .slice R2 nr2 cr2, .slice H2 nh2 ch2, .int .i64 h2.size, .slice B1 n1 d1, .int .i64 h2.taken, .slice B2 n2 d2, .int .i64 h2.num, .int .i64 h2.size, .string h2.root, .int .i64 h2.taken, .string h2.troot]) := zD HXq
   clear hxq hfq hkq; obtain ⟨hkq, hxq, hfq⟩ := HXq.out; clear hw
   refine bodyPost_ret (v := .tuple #[.agg #[.int .i64 width2, .slice E2 ne2 ce2, .slice R2 nr2 cr2, .slice H2 nh2 ch2, .int .i64 h2.size, .slice B1 n1 d1, .int .i64 h2.taken, .slice B2 n2 d2, .int .i64 h2.num, .int .i64 h2.size, .string h2.root, .int .i64 h2.taken, .string h2.troot], .slice L q q, .int .i64 cd]) (by simp [results, Tryz.results22, go_sem, hxq]) rfl ?_
   exact ⟨width2, E2, R2, H2, B1, B2, ne2, nr2, nh2, ce2, cr2, ch2, d1, d2, n1, n2, es2, rs2, hs2, k1, k2, h2, L, q, cd, rfl, .inl HQ.out, HB.out⟩
  have HQ0 := lH (And.intro q1 q2)
  have HOK2 : Hid (aG w3 (w2.heap.size) (w3.heap.size) (⟨E2, R2, H2, B1, B2, ce2, cr2, ch2, d1, d2⟩) (⟨width2, es2, rs2, hs2⟩)) := lH hbk
  have HOW : Hid (Rd w3 (w2.heap.size) (w3.heap.size) (L) (wris [dZ ⟨width, es, rs, hs⟩ f tx])) := lH hwr
  have HQ := lH hq
  have HAF := lH haf
  have HDE := lH hde
  clear hbk hwr hq haf hde q1 q2; go_wp2
  refine ai (fun w4 hw => ?_)
  have hz4 : w3.heap.size + 0 ≤ w4.heap.size := zA
  replace HB : Hid (Below w.heap.size w w4) := zC HB
  replace HOK2 : Hid (aG w4 (w2.heap.size) (w3.heap.size) (⟨E2, R2, H2, B1, B2, ce2, cr2, ch2, d1, d2⟩) (⟨width2, es2, rs2, hs2⟩)) := zLBrkK HOK2
  replace HOW : Hid (Rd w4 (w2.heap.size) (w3.heap.size) (L) (wris [dZ ⟨width, es, rs, hs⟩ f tx])) := zLRd HOW
  replace HXq : Hid (aa w4 (w.heap.size + 3) [.int .i64 width2, .slice E2 ne2 ce2, .slice R2 nr2 cr2, .slice H2 nh2 ch2, .int .i64 h2.size, .slice B1 n1 d1, .int .i64 h2.taken, .slice B2 n2 d2, .int .i64 h2.num, .int .i64 h2.size, .string h2.root, .int .i64 h2.taken, .string h2.troot]) := zD HXq
  clear hxq hfq hkq; obtain ⟨hkq, hxq, hfq⟩ := HXq.out; clear hw
  refine bodyPost_ret (v := .tuple #[.agg #[.int .i64 width2, .slice E2 ne2 ce2, .slice R2 nr2 cr2, .slice H2 nh2 ch2, .int .i64 h2.size, .slice B1 n1 d1, .int .i64 h2.taken, .slice B2 n2 d2, .int .i64 h2.num, .int .i64 h2.size, .string h2.root, .int .i64 h2.taken, .string h2.troot], .slice L q q, .int .i64 cd]) (by simp [results, Tryz.results22, go_sem, hxq]) rfl ?_
  exact ⟨width2, E2, R2, H2, B1, B2, ne2, nr2, nh2, ce2, cr2, ch2, d1, d2, n1, n2, es2, rs2, hs2, k1, k2, h2, L, q, cd, rfl, .inr ⟨HQ0.out.1, HQ0.out.2, HOK2.out.mono (by omega) (by omega) (Nat.le_refl _), HQ.out, HAF.out, f, tx, HDE.out, HOW.out.mono (by omega) (by omega) (Nat.le_refl _)⟩, HB.out⟩
 go_wp2_with fail
 refine af (fun w2 hw => ?_)
 have hz2 : w1.heap.size + 0 ≤ w2.heap.size := zA
 have hbn : Below w1.heap.size w1 w2 := zB
 replace HB := bT HB hbn
 replace HOK := lH (HOK.out.below hbn)
 replace HXb := nB HXb hbn
 clear hxb hfb hkb
 obtain ⟨hkb, hxb, hfb⟩ := HXb.out
 replace HXe := nB HXe hbn
 clear hxe hfe hke
 obtain ⟨hke, hxe, hfe⟩ := HXe.out
 replace HXr := nB HXr hbn
 clear hxr hfr hkr
 obtain ⟨hkr, hxr, hfr⟩ := HXr.out
 replace HXq := nB HXq hbn
 clear hxq hfq hkq
 obtain ⟨hkq, hxq, hfq⟩ := HXq.out
 clear hbn
 clear hw
 refine (HSE.out _ HOK.out.base).mono ?_
 rintro e w3 ⟨width2, E2, R2, H2, B1, B2, ne2, nr2, nh2, ce2, cr2, ch2, d1, d2, n1, n2, es2, rs2, hs2, k1, k2, h2, L, q, cd, rfl, hdp, hb⟩
 have hzw3 : w2.heap.size ≤ w3.heap.size := hb.size
 replace HB := bT HB hb
 replace HOK := lH (HOK.out.below hb)
 replace HXb := nB HXb hb
 clear hxb hfb hkb
 obtain ⟨hkb, hxb, hfb⟩ := HXb.out
 replace HXe := nB HXe hb
 clear hxe hfe hke
 obtain ⟨hke, hxe, hfe⟩ := HXe.out
 replace HXr := nB HXr hb
 clear hxr hfr hkr
 obtain ⟨hkr, hxr, hfr⟩ := HXr.out
 replace HXq := nB HXq hb
 clear hxq hfq hkq
 obtain ⟨hkq, hxq, hfq⟩ := HXq.out
 clear hb
 clear HPU HTK HSE
 clear hxb hfb hkb HXb
 clear hxe hfe hke HXe
 clear hxr hfr hkr HXr
 clear HOK
 rcases hdp with ⟨q1, q2, q3, q4, q5⟩ | ⟨q1, q2, hbk, hq, haf, f, tx, hde, hwr⟩
 ·have HQ := lH (And.intro q1 (And.intro q2 (And.intro q3 (And.intro q4 q5))))
  clear q1 q2 q3 q4 q5; go_wp2
  refine ai (fun w4 hw => ?_)
  have hz4 : w3.heap.size + 0 ≤ w4.heap.size := zA
  replace HB : Hid (Below w.heap.size w w4) := zC HB
  replace HXq : Hid (aa w4 (w.heap.size + 3) [.int .i64 width2, .slice E2 ne2 ce2, .slice R2 nr2 cr2, .slice H2 nh2 ch2, .int .i64 h2.size, .slice B1 n1 d1, .int .i64 h2.taken, .slice B2 n2 d2, .int .i64 h2.num, .int .i64 h2.size, .string h2.root, .int .i64 h2.taken, .string h2.troot]) := zD HXq
  clear hxq hfq hkq; obtain ⟨hkq, hxq, hfq⟩ := HXq.out; clear hw
  refine bodyPost_ret (v := .tuple #[.agg #[.int .i64 width2, .slice E2 ne2 ce2, .slice R2 nr2 cr2, .slice H2 nh2 ch2, .int .i64 h2.size, .slice B1 n1 d1, .int .i64 h2.taken, .slice B2 n2 d2, .int .i64 h2.num, .int .i64 h2.size, .string h2.root, .int .i64 h2.taken, .string h2.troot], .slice L q q, .int .i64 cd]) (by simp [results, Tryz.results22, go_sem, hxq]) rfl ?_
  exact ⟨width2, E2, R2, H2, B1, B2, ne2, nr2, nh2, ce2, cr2, ch2, d1, d2, n1, n2, es2, rs2, hs2, k1, k2, h2, L, q, cd, rfl, .inl HQ.out, HB.out⟩
 have HQ0 := lH (And.intro q1 q2)
 have HOK2 : Hid (aG w3 (w2.heap.size) (w3.heap.size) (⟨E2, R2, H2, B1, B2, ce2, cr2, ch2, d1, d2⟩) (⟨width2, es2, rs2, hs2⟩)) := lH hbk
 have HOW : Hid (Rd w3 (w2.heap.size) (w3.heap.size) (L) (wris [dZ ⟨width, es, rs, hs⟩ f tx])) := lH hwr
 have HQ := lH hq
 have HAF := lH haf
 have HDE := lH hde
 clear hbk hwr hq haf hde q1 q2
 go_wp2
 refine ai (fun w4 hw => ?_)
 have hz4 : w3.heap.size + 0 ≤ w4.heap.size := zA
 replace HB : Hid (Below w.heap.size w w4) := zC HB
 replace HOK2 : Hid (aG w4 (w2.heap.size) (w3.heap.size) (⟨E2, R2, H2, B1, B2, ce2, cr2, ch2, d1, d2⟩) (⟨width2, es2, rs2, hs2⟩)) := zLBrkK HOK2
 replace HOW : Hid (Rd w4 (w2.heap.size) (w3.heap.size) (L) (wris [dZ ⟨width, es, rs, hs⟩ f tx])) := zLRd HOW
 replace HXq : Hid (aa w4 (w.heap.size + 3) [.int .i64 width2, .slice E2 ne2 ce2, .slice R2 nr2 cr2, .slice H2 nh2 ch2, .int .i64 h2.size, .slice B1 n1 d1, .int .i64 h2.taken, .slice B2 n2 d2, .int .i64 h2.num, .int .i64 h2.size, .string h2.root, .int .i64 h2.taken, .string h2.troot]) := zD HXq
 clear hxq hfq hkq
 obtain ⟨hkq, hxq, hfq⟩ := HXq.out
 clear hw
 refine bodyPost_ret (v := .tuple #[.agg #[.int .i64 width2, .slice E2 ne2 ce2, .slice R2 nr2 cr2, .slice H2 nh2 ch2, .int .i64 h2.size, .slice B1 n1 d1, .int .i64 h2.taken, .slice B2 n2 d2, .int .i64 h2.num, .int .i64 h2.size, .string h2.root, .int .i64 h2.taken, .string h2.troot], .slice L q q, .int .i64 cd]) (by simp [results, Tryz.results22, go_sem, hxq]) rfl ?_
 exact ⟨width2, E2, R2, H2, B1, B2, ne2, nr2, nh2, ce2, cr2, ch2, d1, d2, n1, n2, es2, rs2, hs2, k1, k2, h2, L, q, cd, rfl, .inr ⟨HQ0.out.1, HQ0.out.2, HOK2.out.mono (by omega) (by omega) (Nat.le_refl _), HQ.out, HAF.out, f, tx, HDE.out, HOW.out.mono (by omega) (by omega) (Nat.le_refl _)⟩, HB.out⟩
set_option maxRecDepth 100000 in
theorem big_c (n g : Nat) (B : Option Addr) (w : World) (hn : n ≤ maxLen) : Calls Tryz.prog 8 #[.slice B n g] w fun e w' => e = .returned (.bool (decide (1048576 < n))) ∧ w = w' := by
 unfold maxLen at hn
 go_enter Tryz.func8, Tryz.ntmps8
 rcases Nat.lt_or_ge 1048576 n with h | h
 ·have hI : (1048576 : Int) < n := by omega
  go_wp2
  go_ret
  exact ⟨aj (by first | rfl | (rw [decide_eq_true h]; simp [h]) | simp [h]), rfl⟩
 have hI : ¬ (1048576 : Int) < n := by omega
 go_wp2
 go_ret
 exact ⟨aj (by first | rfl | simp [h] | (rw [decide_eq_false (by omega)]; simp; omega)), rfl⟩
set_option maxRecDepth 100000 in
theorem lawLast_c (width z1 z2 : Int) (E R H A1 A2 : Option Addr) (ne nr nh ce cr ch c1 c2 lo hi m1 m2 : Nat) (hs : List Hd) (h : Hd) (w : World) (hr : Rd w lo hi H (hds hs)) (hn : hs.length = nh) (hpos : 0 < nh) (hl : nh ≤ 1048576) :
  Calls Tryz.prog 14 #[.agg #[.int .i64 width, .slice E ne ce, .slice R nr cr, .slice H nh ch, .int .i64 z1, .slice A1 m1 c1, .int .i64 z2, .slice A2 m2 c2, .int .i64 h.num, .int .i64 h.size, .string h.root, .int .i64 h.taken, .string h.troot]] w fun e w' => e = .returned (.agg #[.int .i64 (ae hs).num, .int .i64 (ae hs).size, .string (ae hs).root, .int .i64 (ae hs).taken, .string (ae hs).troot]) ∧ Below w.heap.size w w' := by
 obtain ⟨q, hq⟩ : ∃ q, nh = q + 1 := ⟨nh - 1, by omega⟩
 obtain ⟨b, off, x, rfl, hb, hx, hd⟩ := hd_cells hr (k := q) (by omega)
 have hxl : ae hs = x := by
  have h := dP (hs := hs) (by omega)
  rw [hn, hq, Nat.add_sub_cancel, hx] at h
  exact (Option.some.inj h).symm
 rw [hxl]
 have d0 := hd.1
 have d1 := hd.2.1
 have d2 := hd.2.2.1
 have d3 := hd.2.2.2.1
 have d4 := hd.2.2.2.2
 have E0 : ((nh : Int) == 0) = false := beq_eq_false_iff_ne.2 (by omega)
 have E1 : IntKind.i64.wrap ((nh : Int) - 1) = q := by rw [IntKind.wrap_i64]; omega
 have E2 : (nh : Int) - 1 = q := by omega
 have E3 : (q : Int) < nh := by omega
 have E4 : IntKind.i64.wrap (q : Int) = q := by rw [IntKind.wrap_i64]; omega
 clear hx hd hr hxl hn hpos hq
 have HB : Hid (Below w.heap.size w w) := Below.refl _ _
 go_enter Tryz.func14, Tryz.ntmps14
 go_wp2
 refine ai (fun w1 hw => ?_)
 have hz1 : w.heap.size + 2 ≤ w1.heap.size := zA
 have hbn : Below w.heap.size w w1 := zB
 replace HB := bT HB hbn
 clear hbn
 have HXq0 : Hid (aa w1 (w.heap.size) [.int .i64 width, .slice E ne ce, .slice R nr cr, .slice (some ⟨b, off, none⟩) nh ch, .int .i64 z1, .slice A1 m1 c1, .int .i64 z2, .slice A2 m2 c2, .int .i64 h.num, .int .i64 h.size, .string h.root, .int .i64 h.taken, .string h.troot]) := zG13
 obtain ⟨hkq0, hxq0, hfq0⟩ := HXq0.out
 have HXq : Hid (aa w1 (w.heap.size + 1) [.int .i64 x.num, .int .i64 x.size, .string x.root, .int .i64 x.taken, .string x.troot]) := zG5
 obtain ⟨hkq, hxq, hfq⟩ := HXq.out
 clear hw
 refine bodyPost_ret (v := .agg #[.int .i64 x.num, .int .i64 x.size, .string x.root, .int .i64 x.taken, .string x.troot]) (by simp [results, Tryz.results14, go_sem, hxq]) rfl ?_
 exact ⟨rfl, HB.out⟩
end
end Go.Proofs.YtoccjgcokffkbaaGreat
