/- Part 37 of the proof of FnWrites: lemmas and contracts. -/
import Derived.Test.YtoccjgcokffkbaaGreatTw30
import Derived.Test.YtoccjgcokffkbaaGreatTw36
import Derived.BigQuiet
import Derived.Deep.QuietTactic
namespace Go.Proofs.YtoccjgcokffkbaaGreat
set_option linter.unusedVariables false
set_option linter.unusedSimpArgs false
set_option maxHeartbeats 20000000
set_option maxRecDepth 100000
section
open Go.RowKit
structure After (kd : Int) (m m' : Bm) : Prop where
 two : kd = 2 → m'.es = m.es ∧ m'.rs = m.rs ∧ (ae m'.hs).size = (m.es.length : Nat) ∧ (ae m'.hs).taken = (m.rs.length : Nat) ∧ (ae m'.hs).num = (ae m.hs).num + 1
 one : kd ≠ 2 → m'.hs = m.hs ∧ m'.es.length + m'.rs.length = m.es.length + m.rs.length + 1
def DidP (w w' : World) (kd : Int) (m : Bm) (width2 : Int) (E2 R2 H2 B1 B2 : Option Addr) (ne2 nr2 nh2 ce2 cr2 ch2 d1 d2 n1 n2 : Nat) (es2 : List Ent) (rs2 : List Rcp) (hs2 : List Hd) (k1 k2 : List ByteArray) (h2 : Hd) (L : Option Addr) (q : Nat) (code : Int) : Prop :=
 (¬ code = 0 ∧ 0 < kd ∧ nh2 = 0 ∧ ne2 = 0 ∧ q = 0) ∨ (code = 0 ∧ q = 1 ∧ aH w' w.heap.size w'.heap.size ⟨E2, R2, H2, B1, B2, ce2, cr2, ch2, d1, d2⟩ ⟨width2, es2, rs2, hs2⟩ ∧ (es2.length = ne2 ∧ rs2.length = nr2 ∧ hs2.length = nh2 ∧ pk1 width2 es2 hs2 = k1 ∧ pk2 width2 rs2 hs2 = k2 ∧ k1.length = n1 ∧ k2.length = n2 ∧ ae hs2 = h2) ∧ After kd m ⟨width2, es2, rs2, hs2⟩ ∧ ∃ f tx, Deed m ⟨width2, es2, rs2, hs2⟩ f tx ∧ Rd w' w.heap.size w'.heap.size L (gM [bV m f tx]))
theorem did_conv {w w' : World} {kd : Int} {m m' : Bm} {a' : Bk} {f q : Nat} {tx : ByteArray} {L : Option Addr} {code : Int} (h : DoneR w w' m a' m' f tx L q code) (hkd : ¬ code = 0 → 0 < kd) (ha : code = 0 → After kd m m') :
  DidP w w' kd m m'.width a'.E a'.R a'.H a'.A1 a'.A2 m'.es.length m'.rs.length m'.hs.length a'.ce a'.cr a'.ch a'.c1 a'.c2 (pk1 m'.width m'.es m'.hs).length (pk2 m'.width m'.rs m'.hs).length m'.es m'.rs m'.hs (pk1 m'.width m'.es m'.hs) (pk2 m'.width m'.rs m'.hs) (ae m'.hs) L q code := by
 rcases h with ⟨h1, rfl, rfl⟩ | ⟨h1, h2, h3, h4, h5⟩
 ·exact .inl ⟨h1, hkd h1, rfl, rfl, rfl⟩
 exact .inr ⟨h1, h2, h4, ⟨rfl, rfl, rfl, rfl, rfl, rfl, rfl, rfl⟩, ha h1, f, tx, h3, h5⟩
theorem didB_c (width : Int) (E R H A1 A2 : Option Addr) (ne nr nh ce cr ch c1 c2 m1 m2 : Nat) (es : List Ent) (rs : List Rcp) (hs : List Hd) (l1 l2 : List ByteArray) (h : Hd) (kd : Int) (x : Ent) (r : Rcp) (w : World) (hk : aH w 0 w.heap.size ⟨E, R, H, A1, A2, ce, cr, ch, c1, c2⟩ ⟨width, es, rs, hs⟩) (hne : es.length = ne) (hnr : rs.length = nr) (hnh : hs.length = nh) (hl1 : pk1 width es hs = l1) (hl2 : pk2 width rs hs = l2) (hm1 : l1.length = m1) (hm2 : l2.length = m2) (hh : ae hs = h) (h0 : 0 ≤ kd) (h3 : kd < 3) (hx : DrawnE x) (hr : DrawnR r) (h24 : ne ≤ 24) :
  Calls Tryz.prog 22 #[.agg #[.int .i64 width, .slice E ne ce, .slice R nr cr, .slice H nh ch, .int .i64 h.size, .slice A1 m1 c1, .int .i64 h.taken, .slice A2 m2 c2, .int .i64 h.num, .int .i64 h.size, .string h.root, .int .i64 h.taken, .string h.troot], .int .i64 kd, .agg #[.string x.topic, .int .i64 x.index, .int .i64 x.time, .string x.key, .string x.body], .agg #[.string r.reader, .string r.topic, .int .i64 r.index]] w fun e w' => ∃ (width2 : Int) (E2 R2 H2 B1 B2 : Option Addr) (ne2 nr2 nh2 ce2 cr2 ch2 d1 d2 n1 n2 : Nat) (es2 : List Ent) (rs2 : List Rcp) (hs2 : List Hd) (k1 k2 : List ByteArray) (h2 : Hd) (L : Option Addr) (q : Nat) (code : Int), e = .returned (.tuple #[.agg #[.int .i64 width2, .slice E2 ne2 ce2, .slice R2 nr2 cr2, .slice H2 nh2 ch2, .int .i64 h2.size, .slice B1 n1 d1, .int .i64 h2.taken, .slice B2 n2 d2, .int .i64 h2.num, .int .i64 h2.size, .string h2.root, .int .i64 h2.taken, .string h2.troot], .slice L q q, .int .i64 code]) ∧ DidP w w' kd ⟨width, es, rs, hs⟩ width2 E2 R2 H2 B1 B2 ne2 nr2 nh2 ce2 cr2 ch2 d1 d2 n1 n2 es2 rs2 hs2 k1 k2 h2 L q code ∧ Below w.heap.size w w' := by
 have hkk := hk
 obtain ⟨f1, f2, f3, g1, g2, g3, g4, f4, g5, g6, g7⟩ := cK hk.ok
 have hlast := hk.ok.last
 have hpos := hk.ok.pos
 dsimp only at f1 f2 f3 g1 g2 g3 g4 f4 g5 g6 g7 hlast hpos
 rw [hne] at g1 hlast
 rw [hnr] at g2 hlast
 rw [hnh] at g3 g4 hpos
 rw [hh] at f4 g5 hlast
 rw [hl1, hm1] at g6
 rw [hl2, hm2] at g7
 have hok : aB width es rs hs := hk.ok
 have hc : bL es x.topic x.time x.key x.body = 0 := by
  obtain ⟨q1, q2, q3, q4, q5⟩ := hx
  rw [bL, if_pos q1, dK, ax.2 ⟨q3.1, by omega⟩, decide_eq_true (by omega : x.key.size ≤ 40), decide_eq_true (by omega : x.body.size ≤ 400), decide_eq_false (by omega : ¬ 512 ≤ es.length)]
  rfl
 have hxt : x.topic.size ≤ 20 := fe hx.1
 have hxk := hx.2.2.2.1
 have hxb := hx.2.2.2.2
 have hro : bZ r = true := by rw [bZ, hr.1, hr.2.1, ax.2 ⟨hr.2.2.1, by have := hr.2.2.2; omega⟩]; rfl
 have hrf := rcp_fit hro
 have HPU : Hid (∀ W, aH W 0 W.heap.size ⟨E, R, H, A1, A2, ce, cr, ch, c1, c2⟩ ⟨width, es, rs, hs⟩ → Calls Tryz.prog 47 #[.agg #[.int .i64 width, .slice E ne ce, .slice R nr cr, .slice H nh ch, .int .i64 h.size, .slice A1 m1 c1, .int .i64 h.taken, .slice A2 m2 c2, .int .i64 h.num, .int .i64 h.size, .string h.root, .int .i64 h.taken, .string h.troot], .string x.topic, .int .i64 x.time, .string x.key, .string x.body] W fun e w' => ∃ (width2 : Int) (E2 R2 H2 B1 B2 : Option Addr) (ne2 nr2 nh2 ce2 cr2 ch2 d1 d2 n1 n2 : Nat) (es2 : List Ent) (rs2 : List Rcp) (hs2 : List Hd) (k1 k2 : List ByteArray) (h2 : Hd) (L : Option Addr), e = .returned (.tuple #[.agg #[.int .i64 width2, .slice E2 ne2 ce2, .slice R2 nr2 cr2, .slice H2 nh2 ch2, .int .i64 h2.size, .slice B1 n1 d1, .int .i64 h2.taken, .slice B2 n2 d2, .int .i64 h2.num, .int .i64 h2.size, .string h2.root, .int .i64 h2.taken, .string h2.troot], .slice L 1 1, .int .i64 ne, .int .i64 0]) ∧ DidP W w' 0 ⟨width, es, rs, hs⟩ width2 E2 R2 H2 B1 B2 ne2 nr2 nh2 ce2 cr2 ch2 d1 d2 n1 n2 es2 rs2 hs2 k1 k2 h2 L 1 0 ∧ Below W.heap.size W w') := lH (fun W rr =>
  (publishB_c width E R H A1 A2 ne nr nh ce cr ch c1 c2 m1 m2 es rs hs l1 l2 h x.topic x.time x.key x.body W rr hne hnr hnh hl1 hl2 hm1 hm2 hh (by omega) (by omega) (by omega) hc).mono fun e w' ⟨a', q, he, hd, hb⟩ => ⟨_, _, _, _, _, _, _, _, _, _, _, _, _, _, _, _, _, _, _, _, _, _, some ⟨q, 0, none⟩, he, did_conv (.inr ⟨rfl, rfl, hd⟩) (fun h => absurd rfl h) (fun _ => ⟨fun e => by omega, fun _ => ⟨rfl, by show (es ++ [_]).length + rs.length = es.length + rs.length + 1; rw [List.length_append]; show es.length + 1 + rs.length = _; omega⟩⟩), hb⟩)
 have HTK : Hid (∀ W, aH W 0 W.heap.size ⟨E, R, H, A1, A2, ce, cr, ch, c1, c2⟩ ⟨width, es, rs, hs⟩ → Calls Tryz.prog 48 #[.agg #[.int .i64 width, .slice E ne ce, .slice R nr cr, .slice H nh ch, .int .i64 h.size, .slice A1 m1 c1, .int .i64 h.taken, .slice A2 m2 c2, .int .i64 h.num, .int .i64 h.size, .string h.root, .int .i64 h.taken, .string h.troot], .agg #[.string r.reader, .string r.topic, .int .i64 r.index]] W fun e w' => ∃ (width2 : Int) (E2 R2 H2 B1 B2 : Option Addr) (ne2 nr2 nh2 ce2 cr2 ch2 d1 d2 n1 n2 : Nat) (es2 : List Ent) (rs2 : List Rcp) (hs2 : List Hd) (k1 k2 : List ByteArray) (h2 : Hd) (L : Option Addr) (q : Nat) (code : Int), e = .returned (.tuple #[.agg #[.int .i64 width2, .slice E2 ne2 ce2, .slice R2 nr2 cr2, .slice H2 nh2 ch2, .int .i64 h2.size, .slice B1 n1 d1, .int .i64 h2.taken, .slice B2 n2 d2, .int .i64 h2.num, .int .i64 h2.size, .string h2.root, .int .i64 h2.taken, .string h2.troot], .slice L q q, .int .i64 code]) ∧ DidP W w' 1 ⟨width, es, rs, hs⟩ width2 E2 R2 H2 B1 B2 ne2 nr2 nh2 ce2 cr2 ch2 d1 d2 n1 n2 es2 rs2 hs2 k1 k2 h2 L q code ∧ Below W.heap.size W w') := lH (fun W rr =>
  (takeB_c width E R H A1 A2 ne nr nh ce cr ch c1 c2 m1 m2 es rs hs l1 l2 h r W rr hne hnr hnh hl1 hl2 hm1 hm2 hh hrf hro).mono fun e w' ⟨a', m', L, q, code, he, ⟨hd, hm'⟩, hb⟩ => ⟨_, _, _, _, _, _, _, _, _, _, _, _, _, _, _, _, _, _, _, _, _, _, L, q, code, he, did_conv hd (fun _ => by omega) (fun e => by
    rw [hm' e]; exact ⟨fun e => by omega, fun _ => ⟨rfl, by show es.length + (rs ++ [_]).length = es.length + rs.length + 1; rw [List.length_append]; rfl⟩⟩), hb⟩)
 have HSE : Hid (∀ W, aH W 0 W.heap.size ⟨E, R, H, A1, A2, ce, cr, ch, c1, c2⟩ ⟨width, es, rs, hs⟩ → Calls Tryz.prog 49 #[.agg #[.int .i64 width, .slice E ne ce, .slice R nr cr, .slice H nh ch, .int .i64 h.size, .slice A1 m1 c1, .int .i64 h.taken, .slice A2 m2 c2, .int .i64 h.num, .int .i64 h.size, .string h.root, .int .i64 h.taken, .string h.troot]] W fun e w' => ∃ (width2 : Int) (E2 R2 H2 B1 B2 : Option Addr) (ne2 nr2 nh2 ce2 cr2 ch2 d1 d2 n1 n2 : Nat) (es2 : List Ent) (rs2 : List Rcp) (hs2 : List Hd) (k1 k2 : List ByteArray) (h2 : Hd) (L : Option Addr) (q : Nat) (code : Int), e = .returned (.tuple #[.agg #[.int .i64 width2, .slice E2 ne2 ce2, .slice R2 nr2 cr2, .slice H2 nh2 ch2, .int .i64 h2.size, .slice B1 n1 d1, .int .i64 h2.taken, .slice B2 n2 d2, .int .i64 h2.num, .int .i64 h2.size, .string h2.root, .int .i64 h2.taken, .string h2.troot], .slice L q q, .int .i64 code]) ∧ DidP W w' 2 ⟨width, es, rs, hs⟩ width2 E2 R2 H2 B1 B2 ne2 nr2 nh2 ce2 cr2 ch2 d1 d2 n1 n2 es2 rs2 hs2 k1 k2 h2 L q code ∧ Below W.heap.size W w') := lH (fun W rr =>
  (sealB_c width E R H A1 A2 ne nr nh ce cr ch c1 c2 m1 m2 es rs hs l1 l2 h W rr hne hnr hnh hl1 hl2 hm1 hm2 hh).mono fun e w' ⟨a', m', L, q, code, he, ⟨hd, hm'⟩, hb⟩ => ⟨_, _, _, _, _, _, _, _, _, _, _, _, _, _, _, _, _, _, _, _, _, _, L, q, code, he, did_conv hd (fun _ => by omega) (fun e => by
    rw [hm' e]; exact ⟨fun _ => ⟨rfl, rfl, by show (ae (hs ++ [eU width es rs hs])).size = _; rw [dS]; rfl, by show (ae (hs ++ [eU width es rs hs])).taken = _; rw [dS]; rfl, by
     show (ae (hs ++ [eU width es rs hs])).num = (ae hs).num + 1
     rw [dS, hok.lastAt.1]
     show (hs.length : Int) = ((hs.length - 1 : Nat) : Int) + 1
     have := hok.pos; omega⟩, fun e => absurd rfl e⟩), hb⟩)
 have HB : Hid (Below w.heap.size w w) := Below.refl _ _
 have HOK : Hid (aH w (0) (w.heap.size) (⟨E, R, H, A1, A2, ce, cr, ch, c1, c2⟩) (⟨width, es, rs, hs⟩)) := lH hkk
 have HDP : Hid (∀ w' kd (width2 : Int) (E2 R2 H2 B1 B2 : Option Addr) (ne2 nr2 nh2 ce2 cr2 ch2 d1 d2 n1 n2 : Nat) (es2 : List Ent) (rs2 : List Rcp) (hs2 : List Hd) (k1 k2 : List ByteArray) (h2 : Hd) L q code, DidP w w' kd ⟨width, es, rs, hs⟩ width2 E2 R2 H2 B1 B2 ne2 nr2 nh2 ce2 cr2 ch2 d1 d2 n1 n2 es2 rs2 hs2 k1 k2 h2 L q code ↔ (¬ code = 0 ∧ 0 < kd ∧ nh2 = 0 ∧ ne2 = 0 ∧ q = 0) ∨ (code = 0 ∧ q = 1 ∧ aH w' w.heap.size w'.heap.size ⟨E2, R2, H2, B1, B2, ce2, cr2, ch2, d1, d2⟩ ⟨width2, es2, rs2, hs2⟩ ∧ (es2.length = ne2 ∧ rs2.length = nr2 ∧ hs2.length = nh2 ∧ pk1 width2 es2 hs2 = k1 ∧ pk2 width2 rs2 hs2 = k2 ∧ k1.length = n1 ∧ k2.length = n2 ∧ ae hs2 = h2) ∧ After kd ⟨width, es, rs, hs⟩ ⟨width2, es2, rs2, hs2⟩ ∧ ∃ f tx, Deed ⟨width, es, rs, hs⟩ ⟨width2, es2, rs2, hs2⟩ f tx ∧ Rd w' w.heap.size w'.heap.size L (gM [bV ⟨width, es, rs, hs⟩ f tx]))) := lH (by intros; exact Iff.rfl)
 clear hk hkk f1 f2 f3 f4 hlast hne hnr hnh hl1 hl2 hm1 hm2 hh hok hc hro hrf hx hr hxt hxk hxb
 go_enter Tryz.func22, Tryz.ntmps22
 go_upto_region 1 with fail
 refine aC (fun w1 hw => ?_)
 have hz1 : w.heap.size + 4 ≤ w1.heap.size := zA
 have hbn : Below w.heap.size w w1 := zB
 replace HB := bT HB hbn
 replace HOK := lH (HOK.out.below hbn)
 clear hbn
 have HXb : Hid (aa w1 (w.heap.size) [.int .i64 width, .slice E ne ce, .slice R nr cr, .slice H nh ch, .int .i64 h.size, .slice A1 m1 c1, .int .i64 h.taken, .slice A2 m2 c2, .int .i64 h.num, .int .i64 h.size, .string h.root, .int .i64 h.taken, .string h.troot]) := zG13
 obtain ⟨hkb, hxb, hfb⟩ := HXb.out
 have HXe : Hid (aa w1 (w.heap.size + 1) [.string x.topic, .int .i64 x.index, .int .i64 x.time, .string x.key, .string x.body]) := zG5
 obtain ⟨hke, hxe, hfe⟩ := HXe.out
 have HXr : Hid (aa w1 (w.heap.size + 2) [.string r.reader, .string r.topic, .int .i64 r.index]) := zG3
 obtain ⟨hkr, hxr, hfr⟩ := HXr.out
 have HXq : Hid (aa w1 (w.heap.size + 3) [.int .i64 0, .slice none 0 0, .slice none 0 0, .slice none 0 0, .int .i64 0, .slice none 0 0, .int .i64 0, .slice none 0 0, .int .i64 0, .int .i64 0, .string ⟨#[]⟩, .int .i64 0, .string ⟨#[]⟩]) := zG13
 obtain ⟨hkq, hxq, hfq⟩ := HXq.out
 clear hw
 rcases (show kd = 0 ∨ kd = 1 ∨ kd = 2 by omega) with rfl | rfl | rfl
 ·go_wp2_with fail
  refine af (fun w2 hw => ?_)
  have hz2 : w1.heap.size + 0 ≤ w2.heap.size := zA
  have hbn : Below w1.heap.size w1 w2 := zB
  replace HB := bT HB hbn; replace HOK := lH (HOK.out.below hbn); replace HXb := nB HXb hbn; clear hxb hfb hkb; obtain ⟨hkb, hxb, hfb⟩ := HXb.out; replace HXe := nB HXe hbn; clear hxe hfe hke; obtain ⟨hke, hxe, hfe⟩ := HXe.out; replace HXr := nB HXr hbn; clear hxr hfr hkr; obtain ⟨hkr, hxr, hfr⟩ := HXr.out; replace HXq := nB HXq hbn; clear hxq hfq hkq; obtain ⟨hkq, hxq, hfq⟩ := HXq.out; clear hbn; clear hw
  refine (HPU.out _ HOK.out.base).mono ?_
  rintro e w3 ⟨width2, E2, R2, H2, B1, B2, ne2, nr2, nh2, ce2, cr2, ch2, d1, d2, n1, n2, es2, rs2, hs2, k1, k2, h2, L, rfl, hdp, hb⟩
  have hzw3 : w2.heap.size ≤ w3.heap.size := hb.size
  replace HB := bT HB hb; replace HOK := lH (HOK.out.below hb); replace HXb := nB HXb hb; clear hxb hfb hkb; obtain ⟨hkb, hxb, hfb⟩ := HXb.out; replace HXe := nB HXe hb; clear hxe hfe hke; obtain ⟨hke, hxe, hfe⟩ := HXe.out; replace HXr := nB HXr hb; clear hxr hfr hkr; obtain ⟨hkr, hxr, hfr⟩ := HXr.out; replace HXq := nB HXq hb; clear hxq hfq hkq; obtain ⟨hkq, hxq, hfq⟩ := HXq.out; clear hb
  rcases hdp with ⟨q1, _⟩ | ⟨_, _, hbk, hq, haf, f, tx, hde, hwr⟩
  ·exact absurd rfl q1
  clear HPU HTK HSE; clear hxb hfb hkb HXb; clear hxe hfe hke HXe; clear hxr hfr hkr HXr; clear HOK
  have HOK2 : Hid (aH w3 (w2.heap.size) (w3.heap.size) (⟨E2, R2, H2, B1, B2, ce2, cr2, ch2, d1, d2⟩) (⟨width2, es2, rs2, hs2⟩)) := lH hbk
  have HOW : Hid (Rd w3 (w2.heap.size) (w3.heap.size) (L) (gM [bV ⟨width, es, rs, hs⟩ f tx])) := lH hwr
  have HQ := lH hq
  have HAF := lH haf
  have HDE := lH hde
  clear hbk hwr hq haf hde; go_wp2
  refine ag (fun w4 hw => ?_)
  have hz4 : w3.heap.size + 1 ≤ w4.heap.size := zA
  replace HB : Hid (Below w.heap.size w w4) := zC HB
  replace HOK2 : Hid (aH w4 (w2.heap.size) (w3.heap.size) (⟨E2, R2, H2, B1, B2, ce2, cr2, ch2, d1, d2⟩) (⟨width2, es2, rs2, hs2⟩)) := zLBrkK HOK2
  replace HOW : Hid (Rd w4 (w2.heap.size) (w3.heap.size) (L) (gM [bV ⟨width, es, rs, hs⟩ f tx])) := zLRd HOW
  replace HXq : Hid (aa w4 (w.heap.size + 3) [.int .i64 width2, .slice E2 ne2 ce2, .slice R2 nr2 cr2, .slice H2 nh2 ch2, .int .i64 h2.size, .slice B1 n1 d1, .int .i64 h2.taken, .slice B2 n2 d2, .int .i64 h2.num, .int .i64 h2.size, .string h2.root, .int .i64 h2.taken, .string h2.troot]) := zD HXq
  clear hxq hfq hkq; obtain ⟨hkq, hxq, hfq⟩ := HXq.out
  have HXo : Hid (aa w4 (w3.heap.size) [.int .i64 width2, .slice E2 ne2 ce2, .slice R2 nr2 cr2, .slice H2 nh2 ch2, .int .i64 h2.size, .slice B1 n1 d1, .int .i64 h2.taken, .slice B2 n2 d2, .int .i64 h2.num, .int .i64 h2.size, .string h2.root, .int .i64 h2.taken, .string h2.troot]) := zG13
  obtain ⟨hko, hxo, hfo⟩ := HXo.out; clear hw
  refine bodyPost_ret (v := .tuple #[.agg #[.int .i64 width2, .slice E2 ne2 ce2, .slice R2 nr2 cr2, .slice H2 nh2 ch2, .int .i64 h2.size, .slice B1 n1 d1, .int .i64 h2.taken, .slice B2 n2 d2, .int .i64 h2.num, .int .i64 h2.size, .string h2.root, .int .i64 h2.taken, .string h2.troot], .slice L 1 1, .int .i64 0]) (by simp [results, Tryz.results22, go_sem, hxq]) rfl ?_
  exact ⟨width2, E2, R2, H2, B1, B2, ne2, nr2, nh2, ce2, cr2, ch2, d1, d2, n1, n2, es2, rs2, hs2, k1, k2, h2, L, 1, 0, rfl, .inr ⟨rfl, rfl, HOK2.out.mono (by omega) (by omega) (Nat.le_refl _), HQ.out, HAF.out, f, tx, HDE.out, HOW.out.mono (by omega) (by omega) (Nat.le_refl _)⟩, HB.out⟩
 ·go_wp2_with fail
  refine af (fun w2 hw => ?_)
  have hz2 : w1.heap.size + 0 ≤ w2.heap.size := zA
  have hbn : Below w1.heap.size w1 w2 := zB
  replace HB := bT HB hbn; replace HOK := lH (HOK.out.below hbn); replace HXb := nB HXb hbn; clear hxb hfb hkb; obtain ⟨hkb, hxb, hfb⟩ := HXb.out; replace HXe := nB HXe hbn; clear hxe hfe hke; obtain ⟨hke, hxe, hfe⟩ := HXe.out; replace HXr := nB HXr hbn; clear hxr hfr hkr; obtain ⟨hkr, hxr, hfr⟩ := HXr.out; replace HXq := nB HXq hbn; clear hxq hfq hkq; obtain ⟨hkq, hxq, hfq⟩ := HXq.out; clear hbn; clear hw
  refine (HTK.out _ HOK.out.base).mono ?_
  rintro e w3 ⟨width2, E2, R2, H2, B1, B2, ne2, nr2, nh2, ce2, cr2, ch2, d1, d2, n1, n2, es2, rs2, hs2, k1, k2, h2, L, q, cd, rfl, hdp, hb⟩
  have hzw3 : w2.heap.size ≤ w3.heap.size := hb.size
  replace HB := bT HB hb; replace HOK := lH (HOK.out.below hb); replace HXb := nB HXb hb; clear hxb hfb hkb; obtain ⟨hkb, hxb, hfb⟩ := HXb.out; replace HXe := nB HXe hb; clear hxe hfe hke; obtain ⟨hke, hxe, hfe⟩ := HXe.out; replace HXr := nB HXr hb; clear hxr hfr hkr; obtain ⟨hkr, hxr, hfr⟩ := HXr.out; replace HXq := nB HXq hb; clear hxq hfq hkq; obtain ⟨hkq, hxq, hfq⟩ := HXq.out; clear hb; clear HPU HTK HSE
  clear hxb hfb hkb HXb; clear hxe hfe hke HXe; clear hxr hfr hkr HXr; clear HOK
  rcases hdp with ⟨q1, q2, q3, q4, q5⟩ | ⟨q1, q2, hbk, hq, haf, f, tx, hde, hwr⟩
  ·have HQ := lH (And.intro q1 (And.intro q2 (And.intro q3 (And.intro q4 q5))))
   clear q1 q2 q3 q4 q5; go_wp2
   refine ag (fun w4 hw => ?_)
   have hz4 : w3.heap.size + 0 ≤ w4.heap.size := zA
   replace HB : Hid (Below w.heap.size w w4) := zC HB
   replace HXq : Hid (aa w4 (w.heap.size + 3) [.int .i64 width2, .slice E2 ne2 ce2, .slice R2 nr2 cr2, .slice H2 nh2 ch2, .int .i64 h2.size, .slice B1 n1 d1, .int .i64 h2.taken, .slice B2 n2 d2, .int .i64 h2.num, .int .i64 h2.size, .string h2.root, .int .i64 h2.taken, .string h2.troot]) := zD HXq
   clear hxq hfq hkq; obtain ⟨hkq, hxq, hfq⟩ := HXq.out; clear hw
   refine bodyPost_ret (v := .tuple #[.agg #[.int .i64 width2, .slice E2 ne2 ce2, .slice R2 nr2 cr2, .slice H2 nh2 ch2, .int .i64 h2.size, .slice B1 n1 d1, .int .i64 h2.taken, .slice B2 n2 d2, .int .i64 h2.num, .int .i64 h2.size, .string h2.root, .int .i64 h2.taken, .string h2.troot], .slice L q q, .int .i64 cd]) (by simp [results, Tryz.results22, go_sem, hxq]) rfl ?_
   exact ⟨width2, E2, R2, H2, B1, B2, ne2, nr2, nh2, ce2, cr2, ch2, d1, d2, n1, n2, es2, rs2, hs2, k1, k2, h2, L, q, cd, rfl, .inl HQ.out, HB.out⟩
  have HQ0 := lH (And.intro q1 q2)
  have HOK2 : Hid (aH w3 (w2.heap.size) (w3.heap.size) (⟨E2, R2, H2, B1, B2, ce2, cr2, ch2, d1, d2⟩) (⟨width2, es2, rs2, hs2⟩)) := lH hbk
  have HOW : Hid (Rd w3 (w2.heap.size) (w3.heap.size) (L) (gM [bV ⟨width, es, rs, hs⟩ f tx])) := lH hwr
  have HQ := lH hq
  have HAF := lH haf
  have HDE := lH hde
  clear hbk hwr hq haf hde q1 q2; go_wp2
  refine ag (fun w4 hw => ?_)
  have hz4 : w3.heap.size + 0 ≤ w4.heap.size := zA
  replace HB : Hid (Below w.heap.size w w4) := zC HB
  replace HOK2 : Hid (aH w4 (w2.heap.size) (w3.heap.size) (⟨E2, R2, H2, B1, B2, ce2, cr2, ch2, d1, d2⟩) (⟨width2, es2, rs2, hs2⟩)) := zLBrkK HOK2
  replace HOW : Hid (Rd w4 (w2.heap.size) (w3.heap.size) (L) (gM [bV ⟨width, es, rs, hs⟩ f tx])) := zLRd HOW
  replace HXq : Hid (aa w4 (w.heap.size + 3) [.int .i64 width2, .slice E2 ne2 ce2, .slice R2 nr2 cr2, .slice H2 nh2 ch2, .int .i64 h2.size, .slice B1 n1 d1, .int .i64 h2.taken, .slice B2 n2 d2, .int .i64 h2.num, .int .i64 h2.size, .string h2.root, .int .i64 h2.taken, .string h2.troot]) := zD HXq
  clear hxq hfq hkq; obtain ⟨hkq, hxq, hfq⟩ := HXq.out; clear hw
  refine bodyPost_ret (v := .tuple #[.agg #[.int .i64 width2, .slice E2 ne2 ce2, .slice R2 nr2 cr2, .slice H2 nh2 ch2, .int .i64 h2.size, .slice B1 n1 d1, .int .i64 h2.taken, .slice B2 n2 d2, .int .i64 h2.num, .int .i64 h2.size, .string h2.root, .int .i64 h2.taken, .string h2.troot], .slice L q q, .int .i64 cd]) (by simp [results, Tryz.results22, go_sem, hxq]) rfl ?_
  exact ⟨width2, E2, R2, H2, B1, B2, ne2, nr2, nh2, ce2, cr2, ch2, d1, d2, n1, n2, es2, rs2, hs2, k1, k2, h2, L, q, cd, rfl, .inr ⟨HQ0.out.1, HQ0.out.2, HOK2.out.mono (by omega) (by omega) (Nat.le_refl _), HQ.out, HAF.out, f, tx, HDE.out, HOW.out.mono (by omega) (by omega) (Nat.le_refl _)⟩, HB.out⟩
 go_wp2_with fail
 refine af (fun w2 hw => ?_)
 have hz2 : w1.heap.size + 0 ≤ w2.heap.size := zA
 have hbn : Below w1.heap.size w1 w2 := zB
 replace HB := bT HB hbn
 replace HOK := lH (HOK.out.below hbn)
 replace HXb := nB HXb hbn
 clear hxb hfb hkb
 obtain ⟨hkb, hxb, hfb⟩ := HXb.out
 replace HXe := nB HXe hbn
 clear hxe hfe hke
 obtain ⟨hke, hxe, hfe⟩ := HXe.out
 replace HXr := nB HXr hbn
 clear hxr hfr hkr
 obtain ⟨hkr, hxr, hfr⟩ := HXr.out
 replace HXq := nB HXq hbn
 clear hxq hfq hkq
 obtain ⟨hkq, hxq, hfq⟩ := HXq.out
 clear hbn
 clear hw
 refine (HSE.out _ HOK.out.base).mono ?_
 rintro e w3 ⟨width2, E2, R2, H2, B1, B2, ne2, nr2, nh2, ce2, cr2, ch2, d1, d2, n1, n2, es2, rs2, hs2, k1, k2, h2, L, q, cd, rfl, hdp, hb⟩
 have hzw3 : w2.heap.size ≤ w3.heap.size := hb.size
 replace HB := bT HB hb
 replace HOK := lH (HOK.out.below hb)
 replace HXb := nB HXb hb
 clear hxb hfb hkb
 obtain ⟨hkb, hxb, hfb⟩ := HXb.out
 replace HXe := nB HXe hb
 clear hxe hfe hke
 obtain ⟨hke, hxe, hfe⟩ := HXe.out
 replace HXr := nB HXr hb
 clear hxr hfr hkr
 obtain ⟨hkr, hxr, hfr⟩ := HXr.out
 replace HXq := nB HXq hb
 clear hxq hfq hkq
 obtain ⟨hkq, hxq, hfq⟩ := HXq.out
 clear hb
 clear HPU HTK HSE
 clear hxb hfb hkb HXb
 clear hxe hfe hke HXe
 clear hxr hfr hkr HXr
 clear HOK
 rcases hdp with ⟨q1, q2, q3, q4, q5⟩ | ⟨q1, q2, hbk, hq, haf, f, tx, hde, hwr⟩
 ·have HQ := lH (And.intro q1 (And.intro q2 (And.intro q3 (And.intro q4 q5))))
  clear q1 q2 q3 q4 q5; go_wp2
  refine ag (fun w4 hw => ?_)
  have hz4 : w3.heap.size + 0 ≤ w4.heap.size := zA
  replace HB : Hid (Below w.heap.size w w4) := zC HB
  replace HXq : Hid (aa w4 (w.heap.size + 3) [.int .i64 width2, .slice E2 ne2 ce2, .slice R2 nr2 cr2, .slice H2 nh2 ch2, .int .i64 h2.size, .slice B1 n1 d1, .int .i64 h2.taken, .slice B2 n2 d2, .int .i64 h2.num, .int .i64 h2.size, .string h2.root, .int .i64 h2.taken, .string h2.troot]) := zD HXq
  clear hxq hfq hkq; obtain ⟨hkq, hxq, hfq⟩ := HXq.out; clear hw
  refine bodyPost_ret (v := .tuple #[.agg #[.int .i64 width2, .slice E2 ne2 ce2, .slice R2 nr2 cr2, .slice H2 nh2 ch2, .int .i64 h2.size, .slice B1 n1 d1, .int .i64 h2.taken, .slice B2 n2 d2, .int .i64 h2.num, .int .i64 h2.size, .string h2.root, .int .i64 h2.taken, .string h2.troot], .slice L q q, .int .i64 cd]) (by simp [results, Tryz.results22, go_sem, hxq]) rfl ?_
  exact ⟨width2, E2, R2, H2, B1, B2, ne2, nr2, nh2, ce2, cr2, ch2, d1, d2, n1, n2, es2, rs2, hs2, k1, k2, h2, L, q, cd, rfl, .inl HQ.out, HB.out⟩
 have HQ0 := lH (And.intro q1 q2)
 have HOK2 : Hid (aH w3 (w2.heap.size) (w3.heap.size) (⟨E2, R2, H2, B1, B2, ce2, cr2, ch2, d1, d2⟩) (⟨width2, es2, rs2, hs2⟩)) := lH hbk
 have HOW : Hid (Rd w3 (w2.heap.size) (w3.heap.size) (L) (gM [bV ⟨width, es, rs, hs⟩ f tx])) := lH hwr
 have HQ := lH hq
 have HAF := lH haf
 have HDE := lH hde
 clear hbk hwr hq haf hde q1 q2
 go_wp2
 refine ag (fun w4 hw => ?_)
 have hz4 : w3.heap.size + 0 ≤ w4.heap.size := zA
 replace HB : Hid (Below w.heap.size w w4) := zC HB
 replace HOK2 : Hid (aH w4 (w2.heap.size) (w3.heap.size) (⟨E2, R2, H2, B1, B2, ce2, cr2, ch2, d1, d2⟩) (⟨width2, es2, rs2, hs2⟩)) := zLBrkK HOK2
 replace HOW : Hid (Rd w4 (w2.heap.size) (w3.heap.size) (L) (gM [bV ⟨width, es, rs, hs⟩ f tx])) := zLRd HOW
 replace HXq : Hid (aa w4 (w.heap.size + 3) [.int .i64 width2, .slice E2 ne2 ce2, .slice R2 nr2 cr2, .slice H2 nh2 ch2, .int .i64 h2.size, .slice B1 n1 d1, .int .i64 h2.taken, .slice B2 n2 d2, .int .i64 h2.num, .int .i64 h2.size, .string h2.root, .int .i64 h2.taken, .string h2.troot]) := zD HXq
 clear hxq hfq hkq
 obtain ⟨hkq, hxq, hfq⟩ := HXq.out
 clear hw
 refine bodyPost_ret (v := .tuple #[.agg #[.int .i64 width2, .slice E2 ne2 ce2, .slice R2 nr2 cr2, .slice H2 nh2 ch2, .int .i64 h2.size, .slice B1 n1 d1, .int .i64 h2.taken, .slice B2 n2 d2, .int .i64 h2.num, .int .i64 h2.size, .string h2.root, .int .i64 h2.taken, .string h2.troot], .slice L q q, .int .i64 cd]) (by simp [results, Tryz.results22, go_sem, hxq]) rfl ?_
 exact ⟨width2, E2, R2, H2, B1, B2, ne2, nr2, nh2, ce2, cr2, ch2, d1, d2, n1, n2, es2, rs2, hs2, k1, k2, h2, L, q, cd, rfl, .inr ⟨HQ0.out.1, HQ0.out.2, HOK2.out.mono (by omega) (by omega) (Nat.le_refl _), HQ.out, HAF.out, f, tx, HDE.out, HOW.out.mono (by omega) (by omega) (Nat.le_refl _)⟩, HB.out⟩
theorem big_c (n g : Nat) (B : Option Addr) (w : World) (hn : n ≤ maxLen) : Calls Tryz.prog 8 #[.slice B n g] w fun e w' => e = .returned (.bool (decide (1048576 < n))) ∧ w = w' := by
 unfold maxLen at hn
 go_enter Tryz.func8, Tryz.ntmps8
 rcases Nat.lt_or_ge 1048576 n with h | h
 ·have hI : (1048576 : Int) < n := by omega
  go_wp2
  go_ret
  exact ⟨ak (by first | rfl | (rw [decide_eq_true h]; simp [h]) | simp [h]), rfl⟩
 have hI : ¬ (1048576 : Int) < n := by omega
 go_wp2
 go_ret
 exact ⟨ak (by first | rfl | simp [h] | (rw [decide_eq_false (by omega)]; simp; omega)), rfl⟩
theorem sameTexts_c (A1 A2 : Option Addr) (c1 c2 lo1 hi1 lo2 hi2 n : Nat) (l : List ByteArray) (w : World) (hr1 : Rd w lo1 hi1 A1 (strs l)) (hr2 : Rd w lo2 hi2 A2 (strs l)) (hn : l.length = n) (h1 : n ≤ 1048576) :
  Calls Tryz.prog 21 #[.slice A1 n c1, .slice A2 n c2] w fun e w' => e = .returned (.bool true) ∧ Below w.heap.size w w' := by
 have HN := lH hn
 have HR1 := lH hr1
 have HR2 := lH hr2
 clear hn hr1 hr2
 go_enter Tryz.func21, Tryz.ntmps21
 go_wp2
 go_loopw [5] (fun i wr => ∃ k : Nat, k ≤ n ∧ i = .int .i64 k ∧ Below w.heap.size w wr) (fun i _ => n - (intOf i).toNat)
 case atStart => exact ⟨0, Nat.zero_le _, rfl, Below.refl _ _⟩
 case round =>
  obtain ⟨k, hk, rfl, hb0⟩ := hrel
  have HB0 := lH hb0
  clear hb0
  by_cases hlt : k < n
  ·obtain ⟨b, off, s, rfl, hb, hks, hc⟩ := (HR1.out.below HB0.out).str (k := k) (by rw [HN.out]; exact hlt)
   obtain ⟨b2, off2, t, rfl, hb2, hks2, hc2⟩ := (HR2.out.below HB0.out).str (k := k) (by rw [HN.out]; exact hlt)
   obtain rfl : s = t := Option.some.inj (hks.symm.trans hks2)
   have hI : (k : Int) < n := by omega
   have hne : (s.toList != s.toList) = false := by simp
   clear hks hks2
   go_wp2_with fail
   go_quiet (fail)
   generalize hw5 : wr.drewN _ = w5
   have HB5 : Hid (Below w.heap.size w w5) := by rw [Hid, ← hw5]; exact aj HB0.out (below_drewN _ _) HB0.out.size
   clear hw5 hc hc2; go_wp2
   go_roundw
   case rel => exact ⟨k + 1, by omega, by go_num, HB5.out⟩
   case measure => simp [intOf]; omega
  obtain rfl : k = n := by omega
  go_wp2
  go_ret
  exact ⟨rfl, HB0.out⟩
def dkL (width : Int) (es : List Ent) (rs : List Rcp) (hs : List Hd) (z1 : Int) (l1 : List ByteArray) (z2 : Int) (l2 : List ByteArray) (h : Hd) : List ByteArray := if brkOk width es rs hs z1 l1 z2 l2 h then dU width es rs hs else []
theorem parts_few {width : Int} {es : List Ent} {rs : List Rcp} {hs : List Hd} (hp : aB width es rs hs) : es.length ≤ 1000 ∧ rs.length ≤ 1000 ∧ hs.length ≤ 1000 ∧ 1 ≤ hs.length ∧ ∀ x ∈ hs, x.bulk ≤ 1048576 := by
 have h1 := logOk_len hp.log
 have h2 := gz hp.bf
 have h3 : hs.length ≤ 400 := by
  have h := hp.heads
  rw [dY, Bool.and_eq_true, Bool.and_eq_true] at h
  simpa using h.1.2
 have h4 : 1 ≤ hs.length := by
  have h := hp.roots
  rw [di, Bool.and_eq_true, decide_eq_true_eq] at h
  have := (List.getElem?_eq_some_iff.1 h.1).1
  omega
 refine ⟨by omega, by omega, by omega, h4, fun x hx => ?_⟩
 obtain ⟨k, hk⟩ := List.getElem?_of_mem hx
 have h7 := eO (fA hp.heads hk).2.1
 rw [Hd.bulk]
 omega
def DkPost (w : World) (l : List ByteArray) (b : Bool) (e : Ending) (w' : World) : Prop :=
 (∃ (A : Option Addr) (c : Nat), e = .returned (.tuple #[.agg #[.slice A l.length c], .bool b]) ∧ Own w' w.heap.size w'.heap.size A (strs l)) ∧ Below w.heap.size w w'
theorem implDiskOf_c (width z1 z2 : Int) (E R H A1 A2 : Option Addr) (ne nr nh ce cr ch c1 c2 lo1 hi1 lo2 hi2 lo3 hi3 lo4 hi4 lo5 hi5 m1 m2 : Nat) (es : List Ent) (rs : List Rcp) (hs : List Hd) (l1 l2 : List ByteArray) (h : Hd) (w : World) (hE : Rd w lo1 hi1 E (aQ es)) (hR : Rd w lo2 hi2 R (bf rs)) (hH : Rd w lo3 hi3 H (hds hs)) (hA1 : Rd w lo4 hi4 A1 (strs l1)) (hA2 : Rd w lo5 hi5 A2 (strs l2)) (hne : es.length = ne) (hnr : rs.length = nr) (hnh : hs.length = nh) (hm1 : l1.length = m1) (hm2 : l2.length = m2)
  (b1 : ne ≤ 1048576) (b2 : nr ≤ 1048576) (b3 : nh + dG Hd.bulk hs ≤ 1048576) (b4 : m1 ≤ 1048576) (b5 : m2 ≤ 1048576) (b6 : ne ≤ ce) (b7 : nr ≤ cr) (b8 : nh ≤ ch) (hfe : ∀ x ∈ es, x.fits) (hfr : ∀ x ∈ rs, x.fits) (hfh : ∀ x ∈ hs, x.fits) (hf : h.fits) (hsb : h.bulk ≤ 1048576) :
  Calls Tryz.prog 25 #[.agg #[.int .i64 width, .slice E ne ce, .slice R nr cr, .slice H nh ch, .int .i64 z1, .slice A1 m1 c1, .int .i64 z2, .slice A2 m2 c2, .int .i64 h.num, .int .i64 h.size, .string h.root, .int .i64 h.taken, .string h.troot]] w (DkPost w (dkL width es rs hs z1 l1 z2 l2 h) (brkOk width es rs hs z1 l1 z2 l2 h)) := by
 have HBK := lH (fun W (r0 : Rd W 0 W.heap.size E (aQ es)) (r1 : Rd W 0 W.heap.size R (bf rs)) (r2 : Rd W 0 W.heap.size H (hds hs)) (r3 : Rd W 0 W.heap.size A1 (strs l1)) (r4 : Rd W 0 W.heap.size A2 (strs l2)) => ik width z1 z2 E R H A1 A2 ne nr nh ce cr ch c1 c2 0 W.heap.size 0 W.heap.size 0 W.heap.size 0 W.heap.size 0 W.heap.size m1 m2 es rs hs l1 l2 h W r0 r1 r2 r3 r4 hne hnr hnh hm1 hm2 b1 b2 b3 b4 b5 b6 b7 b8 hfe hfr hfh hf hsb)
 have HD0 : Hid (dkL width es rs hs z1 l1 z2 l2 h = if brkOk width es rs hs z1 l1 z2 l2 h then dU width es rs hs else []) := lH rfl
 have HDL : Hid ((dU width es rs hs).length = 3) := lH rfl
 have HBC := lH (fun (hb : brkOk width es rs hs z1 l1 z2 l2 h = true) W p (q : aa W p [.int .i64 width, .slice E ne ce, .slice R nr cr, .slice H nh ch, .int .i64 z1, .slice A1 m1 c1, .int .i64 z2, .slice A2 m2 c2, .int .i64 h.num, .int .i64 h.size, .string h.root, .int .i64 h.taken, .string h.troot]) (r0 : Rd W 0 W.heap.size E (aQ es)) (r1 : Rd W 0 W.heap.size R (bf rs)) (r2 : Rd W 0 W.heap.size H (hds hs)) =>
  let hpf := parts_few (brkOk_parts hb)
  disk_c width z1 z2 p E R H A1 A2 ne nr nh ce cr ch c1 c2 0 W.heap.size 0 W.heap.size 0 W.heap.size m1 m2 es rs hs h W q r0 r1 r2 hne hnr hnh (by have := hpf.1; omega) (by have := hpf.2.1; omega) (by have := hpf.2.2.1; omega) (by have := hpf.2.2.2.1; omega) b8 hfe hfr hpf.2.2.2.2)
 generalize brkOk width es rs hs z1 l1 z2 l2 h = bk at *
 generalize dkL width es rs hs z1 l1 z2 l2 h = v0 at *
 generalize dU width es rs hs = t0 at *
 have HB : Hid (Below w.heap.size w w) := Below.refl _ _
 have HOE : Hid (Rd w (0) (w.heap.size) (E) (aQ es)) := Rd.base hE
 have HOR : Hid (Rd w (0) (w.heap.size) (R) (bf rs)) := Rd.base hR
 have HOH : Hid (Rd w (0) (w.heap.size) (H) (hds hs)) := Rd.base hH
 have HOX : Hid (Rd w (0) (w.heap.size) (A1) (strs l1)) := Rd.base hA1
 have HOY : Hid (Rd w (0) (w.heap.size) (A2) (strs l2)) := Rd.base hA2
 clear hE hR hH hA1 hA2
 clear hne hnr hnh hm1 hm2 hfe hfr hfh hf
 go_enter Tryz.func25, Tryz.ntmps25
 go_wp2_with fail
 refine af (fun w1 hw => ?_)
 have hz1 : w.heap.size + 2 ≤ w1.heap.size := zA
 have hbn : Below w.heap.size w w1 := zB
 replace HB := bT HB hbn
 replace HOE := lH (HOE.out.below hbn)
 replace HOR := lH (HOR.out.below hbn)
 replace HOH := lH (HOH.out.below hbn)
 replace HOX := lH (HOX.out.below hbn)
 replace HOY := lH (HOY.out.below hbn)
 clear hbn
 have HXb : Hid (aa w1 (w.heap.size) [.int .i64 width, .slice E ne ce, .slice R nr cr, .slice H nh ch, .int .i64 z1, .slice A1 m1 c1, .int .i64 z2, .slice A2 m2 c2, .int .i64 h.num, .int .i64 h.size, .string h.root, .int .i64 h.taken, .string h.troot]) := zG13
 obtain ⟨hkb, hxb, hfb⟩ := HXb.out
 have HXq : Hid (aa w1 (w.heap.size + 1) [.slice none 0 0]) := zG1
 obtain ⟨hkq, hxq, hfq⟩ := HXq.out
 clear hw
 refine (HBK.out _ HOE.out.base HOR.out.base HOH.out.base HOX.out.base HOY.out.base).mono ?_
 rintro e w2 ⟨rfl, hb⟩
 have hzw2 : w1.heap.size ≤ w2.heap.size := hb.size
 replace HB := bT HB hb
 replace HOE := lH (HOE.out.below hb)
 replace HOR := lH (HOR.out.below hb)
 replace HOH := lH (HOH.out.below hb)
 replace HOX := lH (HOX.out.below hb)
 replace HOY := lH (HOY.out.below hb)
 replace HXb := nB HXb hb
 clear hxb hfb hkb
 obtain ⟨hkb, hxb, hfb⟩ := HXb.out
 replace HXq := nB HXq hb
 clear hxq hfq hkq
 obtain ⟨hkq, hxq, hfq⟩ := HXq.out
 clear hb
 clear HOX
 clear HOY
 clear HBK
 rcases bk with _ | _
 ·have HEQ : Hid (v0 = []) := HD0.out
  clear HBC HD0 HDL; go_wp2
  refine ag (fun w3 hw => ?_)
  have hz3 : w2.heap.size + 0 ≤ w3.heap.size := zA
  replace HB : Hid (Below w.heap.size w w3) := zC HB
  replace HOE : Hid (Rd w3 (0) (w.heap.size) (E) (aQ es)) := zLRd HOE
  replace HOR : Hid (Rd w3 (0) (w.heap.size) (R) (bf rs)) := zLRd HOR
  replace HOH : Hid (Rd w3 (0) (w.heap.size) (H) (hds hs)) := zLRd HOH
  replace HXb := nE w3 HXb
  clear hxb hfb hkb; obtain ⟨hkb, hxb, hfb⟩ := HXb.out
  replace HXq : Hid (aa w3 (w.heap.size + 1) [.slice none 0 0]) := zD HXq
  clear hxq hfq hkq; obtain ⟨hkq, hxq, hfq⟩ := HXq.out; clear hw
  refine bodyPost_ret (v := .tuple #[.agg #[.slice none 0 0], .bool false]) (by simp [results, Tryz.results25, go_sem, hxq]) rfl ?_
  rw [HEQ.out]
  exact ⟨⟨none, 0, rfl, Own.nil⟩, HB.out⟩
 have e0 : v0 = t0 := HD0.out
 subst e0
 clear HD0
 go_wp2_with fail
 refine af (fun w3 hw => ?_)
 have hz3 : w2.heap.size + 0 ≤ w3.heap.size := zA
 have hbn : Below w2.heap.size w2 w3 := zB
 replace HB := bT HB hbn
 replace HOE := lH (HOE.out.below hbn)
 replace HOR := lH (HOR.out.below hbn)
 replace HOH := lH (HOH.out.below hbn)
 replace HXb := nB HXb hbn
 clear hxb hfb hkb
 obtain ⟨hkb, hxb, hfb⟩ := HXb.out
 replace HXq := nB HXq hbn
 clear hxq hfq hkq
 obtain ⟨hkq, hxq, hfq⟩ := HXq.out
 clear hbn
 clear hw
 refine (HBC.out (by first | trivial | rfl) _ _ HXb.out HOE.out.base HOR.out.base HOH.out.base).mono ?_
 rintro e w4 ⟨A3, c3, rfl, ho, hb⟩
 have hzw4 : w3.heap.size ≤ w4.heap.size := hb.size
 replace HB := bT HB hb
 replace HOE := lH (HOE.out.below hb)
 replace HOR := lH (HOR.out.below hb)
 replace HOH := lH (HOH.out.below hb)
 replace HXb := nB HXb hb
 clear hxb hfb hkb
 obtain ⟨hkb, hxb, hfb⟩ := HXb.out
 replace HXq := nB HXq hb
 clear hxq hfq hkq
 obtain ⟨hkq, hxq, hfq⟩ := HXq.out
 clear hb
 have HOU : Hid (Own w4 (w3.heap.size) (w4.heap.size) (A3) (strs v0)) := ho
 clear ho HBC
 go_wp2
 refine ag (fun w5 hw => ?_)
 have hz5 : w4.heap.size + 0 ≤ w5.heap.size := zA
 replace HB : Hid (Below w.heap.size w w5) := zC HB
 replace HOE : Hid (Rd w5 (0) (w.heap.size) (E) (aQ es)) := zLRd HOE
 replace HOR : Hid (Rd w5 (0) (w.heap.size) (R) (bf rs)) := zLRd HOR
 replace HOH : Hid (Rd w5 (0) (w.heap.size) (H) (hds hs)) := zLRd HOH
 replace HOU : Hid (Own w5 (w3.heap.size) (w4.heap.size) (A3) (strs v0)) := zLOwn HOU
 replace HXb := nE w5 HXb
 clear hxb hfb hkb
 obtain ⟨hkb, hxb, hfb⟩ := HXb.out
 replace HXq : Hid (aa w5 (w.heap.size + 1) [.slice A3 3 c3]) := zD HXq
 clear hxq hfq hkq
 obtain ⟨hkq, hxq, hfq⟩ := HXq.out
 clear hw
 refine bodyPost_ret (v := .tuple #[.agg #[.slice A3 3 c3], .bool true]) (by simp [results, Tryz.results25, go_sem, hxq]) rfl ?_
 exact ⟨⟨A3, c3, by rw [HDL.out], HOU.out.mono (by omega) (by omega) (by omega)⟩, HB.out⟩
end
end Go.Proofs.YtoccjgcokffkbaaGreat
