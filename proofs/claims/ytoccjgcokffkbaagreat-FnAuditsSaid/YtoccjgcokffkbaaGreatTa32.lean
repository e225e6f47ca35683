/- Part 32 of the proof of FnAudits: lemmas and contracts. -/
import Derived.Test.YtoccjgcokffkbaaGreatTa27
import Derived.Test.YtoccjgcokffkbaaGreatTa30
import Derived.Test.YtoccjgcokffkbaaGreatTa31
import Derived.Deep.DeepCutAuto
namespace Go.Proofs.YtoccjgcokffkbaaGreat
set_option linter.unusedVariables false
set_option linter.unusedSimpArgs false
set_option maxHeartbeats 20000000
section
open Go.RowKit
theorem Rd.strEq {w : World} {lo hi : Nat} {A : Option Addr} {l : List ByteArray} (h : Rd w lo hi A (strs l)) {b off k : Nat} {s : ByteArray} (hA : A = some ⟨b, off, none⟩) (hk : l[k]? = some s) : b < w.heap.size ∧ w.cell? ⟨b, off + k, none⟩ = some (.string s) := by
 subst hA
 obtain ⟨b', off', e, _, h3, h4, h5⟩ := h (fun e => by have h9 := strs_get hk; rw [e] at h9; cases h9)
 cases e
 exact ⟨by omega, h5 k _ (strs_get hk)⟩
theorem Rd.where_ {w : World} {lo hi : Nat} {A : Option Addr} {l : List ByteArray} (h : Rd w lo hi A (strs l)) {k : Nat} (hk : k < l.length) : ∃ b off, A = some ⟨b, off, none⟩ := by
 obtain ⟨b, off, e, _⟩ := h (fun e => by have h9 := strs_get (List.getElem?_eq_getElem hk); rw [e] at h9; cases h9)
 exact ⟨b, off, e⟩
theorem idxStrT (R : Option Addr) (b off nr cr k : Nat) (hR : R = some ⟨b, off, none⟩) (hk : k < nr) (W : World) : (Instr.indexAt 29 (.slice R nr cr) (.int .i64 k)).run Tryz.prog W = .ok (.pointer (some ⟨b, off + k, none⟩)) W := by
 subst hR
 have h1 : (k : Int) < nr := by omega
 go_simp
set_option maxRecDepth 100000 in
theorem walk_FnAudits (n g : Nat) (B : Option Addr) (l0 : List Int) (w : World) (hr : Rd w 0 w.heap.size B (bys l0)) (hl : l0.length = n) (hng : n ≤ g) (hn : n ≤ maxLen) (hb : ∀ x ∈ l0, 0 ≤ x ∧ x ≤ 255) :
  Calls Tryz.prog 3 #[.slice B n g] w fun e w' => e = .returned (.bool true) ∧ Below w.heap.size w w' := by
 by_cases h20 : 1048576 < n
 ·have hd : decide (1048576 < n) = true := decide_eq_true h20
  go_enter Tryz.func3, Tryz.ntmps3
  go_wp2_with fail
  refine (big_c n g B _ hn).mono ?_
  rintro e w1 ⟨rfl, rfl⟩
  rw [hd]
  go_wp2
  go_ret
  exact ⟨rfl, Below.refl _ _⟩
 ·have hd : decide (1048576 < n) = false := decide_eq_false h20
  have HDA := lH (fun W (r : Rd W 0 W.heap.size B (bys l0)) => DrawRightP_c n g B l0 W r hl (by omega) hb)
  have HDD := lH (fun W (r : Rd W 0 W.heap.size B (bys l0)) => DrawDeed_c n g B l0 W r hl (by omega) hb)
  have HB : Hid (Below w.heap.size w w) := Below.refl _ _
  have HOQ : Hid (Rd w (0) (w.heap.size) (B) (bys l0)) := Rd.base hr
  clear hr hl hb hng
  go_enter Tryz.func3, Tryz.ntmps3
  go_wp2_with fail
  refine (big_c n g B _ hn).mono ?_
  rintro e w0_ ⟨rfl, rfl⟩
  rw [hd]
  clear hd hn
  go_wp2_with fail
  refine calls_named (fun w1 hw => ?_)
  have hz1 : w.heap.size + 0 ≤ w1.heap.size := by rw [hw]; first | omega | simp [World.setCell] <;> omega
  have hbn : Below w.heap.size w w1 := by rw [hw]; exact (by repeat with_reducible first | exact bR _ | apply bA | apply bD)
  replace HB := lH (below_then HB.out hbn HB.out.size)
  replace HOQ := lH (HOQ.out.below hbn)
  clear hbn
  clear hw
  refine (HDA.out _ HOQ.out.base).mono ?_
  rintro e w2 ⟨width, E, R, H, A1, A2, ne, nr, nh, ce, cr, ch, c1, c2, m1, m2, es, rs, hs, l1, l2, h, rfl, ⟨hbk, hne, hnr, hnh, hl1, hl2, hm1, hm2, hh, h24⟩, hb⟩
  have hzw2 : w1.heap.size ≤ w2.heap.size := hb.size
  have hzzw2 : w.heap.size ≤ w2.heap.size := by omega
  replace HB := lH (below_then HB.out hb HB.out.size)
  replace HOQ := lH (HOQ.out.below hb)
  clear hb
  have HOK : Hid (BrkK w2 (w1.heap.size) (w2.heap.size) (⟨E, R, H, A1, A2, ce, cr, ch, c1, c2⟩) (⟨width, es, rs, hs⟩)) := lH hbk
  have hok : BrkParts width es rs hs := hbk.ok
  have HAO := lH (fun (r : Rcp) (hrf : r.fits) (c : Int) W (rr : BrkK W 0 W.heap.size ⟨E, R, H, A1, A2, ce, cr, ch, c1, c2⟩ ⟨width, es, rs, hs⟩) => auditB_c width E R H A1 A2 ne nr nh ce cr ch c1 c2 m1 m2 es rs hs l1 l2 h r hrf c W rr hne hnr hnh hl1 hl2 hm1 hm2 hh)
  obtain ⟨f1, f2, f3, g1, g2, g3, g4, f4, g5, g6, g7⟩ := parts_fits hok
  have HTK := lH (fun W (rr : BrkK W 0 W.heap.size ⟨E, R, H, A1, A2, ce, cr, ch, c1, c2⟩ ⟨width, es, rs, hs⟩) => takenOf_c width h.size h.taken E R H A1 A2 ne nr nh ce cr ch c1 c2 0 W.heap.size m1 m2 rs h W rr.rR hnr (by omega) f2)
  have HPK := lH hok
  have HFR := lH f2
  have HNR := lH hnr
  have HNH := lH hnh
  have hpos : 0 < nh := by rw [← hnh]; exact hok.pos
  have hcr : nr ≤ cr := by have := hbk.kR; dsimp only at this; omega
  rw [hnr] at g2
  rw [hnh] at g3
  clear hbk HDA hl1 hl2 hm1 hm2 hh hne hok f1 f2 f3 f4 g1 g4 g5 g6 g7 hnr hnh
  go_wp2_with fail
  refine calls_named (fun w3 hw => ?_)
  have hz3 : w2.heap.size + 1 ≤ w3.heap.size := by rw [hw]; first | omega | simp [World.setCell] <;> omega
  have hzz3 : w.heap.size ≤ w3.heap.size := by omega
  have hbn : Below w2.heap.size w2 w3 := by rw [hw]; exact (by repeat with_reducible first | exact bR _ | apply bA | apply bD)
  replace HB := lH (below_then HB.out hbn HB.out.size)
  replace HOQ := lH (HOQ.out.below hbn)
  replace HOK := lH (HOK.out.below hbn)
  clear hbn
  have HXb : Hid (NewBox w3 (w2.heap.size) [.int .i64 width, .slice E ne ce, .slice R nr cr, .slice H nh ch, .int .i64 h.size, .slice A1 m1 c1, .int .i64 h.taken, .slice A2 m2 c2, .int .i64 h.num, .int .i64 h.size, .string h.root, .int .i64 h.taken, .string h.troot]) := by rw [Hid, hw]; exact ⟨by first | omega | (simp [World.setCell]; done) | (simp [World.setCell]; omega), fun o => by rcases o with _ | _ | _ | _ | _ | _ | _ | _ | _ | _ | _ | _ | _ | o <;> go_simp, fun o => by go_simp⟩
  obtain ⟨hkb, hxb, hfb⟩ := HXb.out
  clear hw
  refine (HTK.out _ HOK.out.base).mono ?_
  rintro e w4 ⟨T, ct, rfl, hto, hb⟩
  have hzw4 : w3.heap.size ≤ w4.heap.size := hb.size
  have hzzw4 : w.heap.size ≤ w4.heap.size := by omega
  replace HB := lH (below_then HB.out hb HB.out.size)
  replace HOQ := lH (HOQ.out.below hb)
  replace HOK := lH (HOK.out.below hb)
  replace HXb := lH (HXb.out.below hb)
  clear hxb hfb hkb
  obtain ⟨hkb, hxb, hfb⟩ := HXb.out
  clear hb
  have HOT : Hid (Rd w4 (w3.heap.size) (w4.heap.size) (T) (strs (takenM width rs))) := lH hto.rd
  clear hto HTK
  go_wp2_with fail
  refine calls_named (fun w5 hw => ?_)
  have hz5 : w4.heap.size + 0 ≤ w5.heap.size := by rw [hw]; first | omega | simp [World.setCell] <;> omega
  have hzz5 : w.heap.size ≤ w5.heap.size := by omega
  have hbn : Below w4.heap.size w4 w5 := by rw [hw]; exact (by repeat with_reducible first | exact bR _ | apply bA | apply bD)
  replace HB := lH (below_then HB.out hbn HB.out.size)
  replace HOQ := lH (HOQ.out.below hbn)
  replace HOK := lH (HOK.out.below hbn)
  replace HOT := lH (HOT.out.below hbn)
  replace HXb := lH (HXb.out.below hbn)
  clear hxb hfb hkb
  obtain ⟨hkb, hxb, hfb⟩ := HXb.out
  clear hbn
  clear hw
  refine (HDD.out _ HOQ.out.base).mono ?_
  rintro e w6 ⟨kd, x0, r, D, rfl, ⟨hkd, hx0, hr0⟩, hb⟩
  have hzw6 : w5.heap.size ≤ w6.heap.size := hb.size
  have hzzw6 : w.heap.size ≤ w6.heap.size := by omega
  replace HB := lH (below_then HB.out hb HB.out.size)
  replace HOQ := lH (HOQ.out.below hb)
  replace HOK := lH (HOK.out.below hb)
  replace HOT := lH (HOT.out.below hb)
  replace HXb := lH (HXb.out.below hb)
  clear hxb hfb hkb
  obtain ⟨hkb, hxb, hfb⟩ := HXb.out
  clear hb
  clear HOQ
  have hrf : r.fits := rcp_fit (by rw [rcpOk, hr0.1, hr0.2.1, inR_true.2 ⟨hr0.2.2.1, by have := hr0.2.2.2; omega⟩]; rfl)
  have HRF := lH hrf
  clear HDD hkd hx0 hr0 hrf
  go_wp2
  refine wp_named (fun w7 hw => ?_)
  have hz7 : w6.heap.size + 2 ≤ w7.heap.size := by rw [hw]; first | omega | simp [World.setCell] <;> omega
  have hzz7 : w.heap.size ≤ w7.heap.size := by omega
  have hbn : Below w6.heap.size w6 w7 := by rw [hw]; exact (by repeat with_reducible first | exact bR _ | apply bA | apply bD)
  replace HB := lH (below_then HB.out hbn HB.out.size)
  replace HOK := lH (HOK.out.below hbn)
  replace HOT := lH (HOT.out.below hbn)
  replace HXb := lH (HXb.out.below hbn)
  clear hxb hfb hkb
  obtain ⟨hkb, hxb, hfb⟩ := HXb.out
  clear hbn
  have HXe : Hid (NewBox w7 (w6.heap.size) [.string x0.topic, .int .i64 x0.index, .int .i64 x0.time, .string x0.key, .string x0.body]) := by rw [Hid, hw]; exact ⟨by first | omega | (simp [World.setCell]; done) | (simp [World.setCell]; omega), fun o => by rcases o with _ | _ | _ | _ | _ | o <;> go_simp, fun o => by go_simp⟩
  obtain ⟨hke, hxe, hfe⟩ := HXe.out
  have HXr : Hid (NewBox w7 (w6.heap.size + 1) [.string r.reader, .string r.topic, .int .i64 r.index]) := by rw [Hid, hw]; exact ⟨by first | omega | (simp [World.setCell]; done) | (simp [World.setCell]; omega), fun o => by rcases o with _ | _ | _ | o <;> go_simp, fun o => by go_simp⟩
  obtain ⟨hkr, hxr, hfr⟩ := HXr.out
  clear hw
  go_loopw [9, 10, 11, 12, 13, 14, 15, 16, 17, 18] (fun i _ _ _ _ _ _ _ _ _ wx => ∃ j : Nat, j ≤ nh ∧ i = .int .i64 j ∧ NewBox wx ((w2.heap.size)) [.int .i64 width, .slice E ne ce, .slice R nr cr, .slice H nh ch, .int .i64 h.size, .slice A1 m1 c1, .int .i64 h.taken, .slice A2 m2 c2, .int .i64 h.num, .int .i64 h.size, .string h.root, .int .i64 h.taken, .string h.troot] ∧ NewBox wx ((w6.heap.size + 1)) [.string r.reader, .string r.topic, .int .i64 r.index] ∧ BrkK wx 0 wx.heap.size ⟨E, R, H, A1, A2, ce, cr, ch, c1, c2⟩ ⟨width, es, rs, hs⟩ ∧ Rd wx 0 wx.heap.size T (strs (takenM width rs)) ∧ Below w.heap.size w wx) (fun i _ _ _ _ _ _ _ _ _ _ => nh - (intOf i).toNat)
  case atStart => exact ⟨0, Nat.zero_le _, rfl, HXb.out, HXr.out, HOK.out.base, HOT.out.base, HB.out⟩
  case round =>
   obtain ⟨wo, rfl⟩ : ∃ wo : World, wo = wr := ⟨_, rfl⟩
   obtain ⟨j, hj, rfl, hbx, hbr, hrk, hrt, hbl⟩ := hrel
   replace HB : Hid (Below w.heap.size w wo) := lH hbl
   replace HXb : Hid (NewBox wo (w2.heap.size) [.int .i64 width, .slice E ne ce, .slice R nr cr, .slice H nh ch, .int .i64 h.size, .slice A1 m1 c1, .int .i64 h.taken, .slice A2 m2 c2, .int .i64 h.num, .int .i64 h.size, .string h.root, .int .i64 h.taken, .string h.troot]) := lH hbx
   clear hxb hfb hkb
   obtain ⟨hkb, hxb, hfb⟩ := HXb.out
   replace HXr : Hid (NewBox wo (w6.heap.size + 1) [.string r.reader, .string r.topic, .int .i64 r.index]) := lH hbr
   clear hxr hfr hkr
   obtain ⟨hkr, hxr, hfr⟩ := HXr.out
   replace HOK : Hid (BrkK wo (0) (wo.heap.size) (⟨E, R, H, A1, A2, ce, cr, ch, c1, c2⟩) (⟨width, es, rs, hs⟩)) := lH hrk
   replace HOT : Hid (Rd wo (0) (wo.heap.size) (T) (strs (takenM width rs))) := lH hrt
   clear hxe hfe hke HXe
   have hzz_wo : w.heap.size ≤ wo.heap.size := HB.out.size
   clear hbx hbr hrk hrt hbl
   by_cases hlt : j < nh
   ·have hI : (j : Int) < nh := by omega
    obtain ⟨b2, off, x, hHe, hb2, hks, hcs⟩ := hd_cells HOK.out.rH (k := j) (by show j < hs.length; rw [HNH.out]; exact hlt)
    obtain ⟨sz, t, hsz, ht, hz1, htl, hz2, hz3⟩ := hd_at HPK.out hks
    clear hz1 hz2 hz3
    rw [HNR.out] at htl
    have c0' := hcs.1
    have c1' := hcs.2.1
    have c2' := hcs.2.2.1
    have c3' := hcs.2.2.2.1
    have c4' := hcs.2.2.2.2
    rw [ht] at c3'
    have hix := idxHd H b2 off nh ch j hHe hlt
    have HAU := lH (fun (k : Nat) (hk : k < t) (y : Rcp) (hy : rs[k]? = some y) => aud_ok HPK.out hks ht hk hy)
    have HAN := lH (fun (y : Rcp) => aud_any HPK.out hks ht y)
    clear hcs hks hsz ht hHe
    go_upto_region 10 with fail
    refine wp_named (fun w8 hw => ?_)
    have hz8 : wo.heap.size + 1 ≤ w8.heap.size := by rw [hw]; first | omega | simp [World.setCell] <;> omega
    have hzz8 : w.heap.size ≤ w8.heap.size := by omega
    have hbn : Below wo.heap.size wo w8 := by rw [hw]; exact (by repeat with_reducible first | exact bR _ | apply bA | apply bD)
    replace HB := lH (below_then HB.out hbn HB.out.size)
    replace HOK := lH (HOK.out.below hbn)
    replace HOT := lH (HOT.out.below hbn)
    replace HXb := lH (HXb.out.below hbn)
    clear hxb hfb hkb
    obtain ⟨hkb, hxb, hfb⟩ := HXb.out
    replace HXr := lH (HXr.out.below hbn)
    clear hxr hfr hkr
    obtain ⟨hkr, hxr, hfr⟩ := HXr.out
    clear hbn
    have HXx : Hid (NewBox w8 (wo.heap.size) [.int .i64 x.num, .int .i64 x.size, .string x.root, .int .i64 (t : Int), .string x.troot]) := by rw [Hid, hw]; exact ⟨by first | omega | (simp [World.setCell]; done) | (simp [World.setCell]; omega), fun o => by rcases o with _ | _ | _ | _ | _ | o <;> go_simp, fun o => by go_simp⟩
    obtain ⟨hkx, hxx, hfx⟩ := HXx.out
    clear hw
    clear c0' c1' c2' c3' c4' hix hb2
    go_wp2
    refine wp_named (fun w9 hw => ?_)
    have hz9 : w8.heap.size + 0 ≤ w9.heap.size := by rw [hw]; first | omega | simp [World.setCell] <;> omega
    have hzz9 : w.heap.size ≤ w9.heap.size := by omega
    have hbn : Below w8.heap.size w8 w9 := by rw [hw]; exact (by repeat with_reducible first | exact bR _ | apply bA | apply bD)
    replace HB := lH (below_then HB.out hbn HB.out.size)
    replace HOK := lH (HOK.out.below hbn)
    replace HOT := lH (HOT.out.below hbn)
    replace HXb := lH (HXb.out.below hbn)
    clear hxb hfb hkb
    obtain ⟨hkb, hxb, hfb⟩ := HXb.out
    replace HXr := lH (HXr.out.below hbn)
    clear hxr hfr hkr
    obtain ⟨hkr, hxr, hfr⟩ := HXr.out
    replace HXx := lH (HXx.out.below hbn)
    clear hxx hfx hkx
    obtain ⟨hkx, hxx, hfx⟩ := HXx.out
    clear hbn
    clear hw
    go_loopw [11, 12, 13, 14, 15] (fun th kk _ _ _ wx => ∃ k : Nat, k ≤ t ∧ kk = .int .i64 k ∧ th = .int .i64 (auI rs r k) ∧ NewBox wx ((wo.heap.size)) [.int .i64 x.num, .int .i64 x.size, .string x.root, .int .i64 (t : Int), .string x.troot] ∧ NewBox wx ((w2.heap.size)) [.int .i64 width, .slice E ne ce, .slice R nr cr, .slice H nh ch, .int .i64 h.size, .slice A1 m1 c1, .int .i64 h.taken, .slice A2 m2 c2, .int .i64 h.num, .int .i64 h.size, .string h.root, .int .i64 h.taken, .string h.troot] ∧ NewBox wx ((w6.heap.size + 1)) [.string r.reader, .string r.topic, .int .i64 r.index] ∧ BrkK wx 0 wx.heap.size ⟨E, R, H, A1, A2, ce, cr, ch, c1, c2⟩ ⟨width, es, rs, hs⟩ ∧ Rd wx 0 wx.heap.size T (strs (takenM width rs)) ∧ Below w.heap.size w wx) (fun _ kk _ _ _ _ => t - (intOf kk).toNat)
    case atStart => exact ⟨0, Nat.zero_le _, rfl, rfl, HXx.out, HXb.out, HXr.out, HOK.out.base, HOT.out.base, HB.out⟩
    case round =>
     obtain ⟨wi, rfl⟩ : ∃ wi : World, wi = wr := ⟨_, rfl⟩
     obtain ⟨k, hk, rfl, rfl, hbh, hbx, hbr, hrk, hrt, hbl⟩ := hrel
     replace HB : Hid (Below w.heap.size w wi) := lH hbl
     replace HXx : Hid (NewBox wi (wo.heap.size) [.int .i64 x.num, .int .i64 x.size, .string x.root, .int .i64 (t : Int), .string x.troot]) := lH hbh
     clear hxx hfx hkx
     obtain ⟨hkx, hxx, hfx⟩ := HXx.out
     replace HXb : Hid (NewBox wi (w2.heap.size) [.int .i64 width, .slice E ne ce, .slice R nr cr, .slice H nh ch, .int .i64 h.size, .slice A1 m1 c1, .int .i64 h.taken, .slice A2 m2 c2, .int .i64 h.num, .int .i64 h.size, .string h.root, .int .i64 h.taken, .string h.troot]) := lH hbx
     clear hxb hfb hkb
     obtain ⟨hkb, hxb, hfb⟩ := HXb.out
     replace HXr : Hid (NewBox wi (w6.heap.size + 1) [.string r.reader, .string r.topic, .int .i64 r.index]) := lH hbr
     clear hxr hfr hkr
     obtain ⟨hkr, hxr, hfr⟩ := HXr.out
     replace HOK : Hid (BrkK wi (0) (wi.heap.size) (⟨E, R, H, A1, A2, ce, cr, ch, c1, c2⟩) (⟨width, es, rs, hs⟩)) := lH hrk
     replace HOT : Hid (Rd wi (0) (wi.heap.size) (T) (strs (takenM width rs))) := lH hrt
     have hzz_wi : w.heap.size ≤ wi.heap.size := HB.out.size
     clear hbh hbx hbr hrk hrt hbl
     by_cases hlt2 : k < t
     ·have hI2 : (k : Int) < t := by omega
      go_upto_region 14 with fail
      refine wp_named (fun w10 hw => ?_)
      have hz10 : wi.heap.size + 0 ≤ w10.heap.size := by rw [hw]; first | omega | simp [World.setCell] <;> omega
      have hzz10 : w.heap.size ≤ w10.heap.size := by omega
      have hbn : Below wi.heap.size wi w10 := by rw [hw]; exact (by repeat with_reducible first | exact bR _ | apply bA | apply bD)
      replace HB := lH (below_then HB.out hbn HB.out.size)
      replace HOK := lH (HOK.out.below hbn)
      replace HOT := lH (HOT.out.below hbn)
      replace HXb := lH (HXb.out.below hbn)
      clear hxb hfb hkb
      obtain ⟨hkb, hxb, hfb⟩ := HXb.out
      replace HXr := lH (HXr.out.below hbn)
      clear hxr hfr hkr
      obtain ⟨hkr, hxr, hfr⟩ := HXr.out
      replace HXx := lH (HXx.out.below hbn)
      clear hxx hfx hkx
      obtain ⟨hkx, hxx, hfx⟩ := HXx.out
      clear hbn
      clear hw
      obtain ⟨b3, of3, y, hRe, hb3, hys, hcs⟩ := rcp_cells HOK.out.rR (k := k) (by show k < rs.length; rw [HNR.out]; omega)
      have hix := idxRcp R b3 of3 nr cr k hRe (by omega)
      have hyf := HFR.out y (List.mem_of_getElem? hys)
      obtain ⟨a1, a2, a3, a4⟩ := HAU.out k hlt2 y hys
      have HAO2 := HAO.out y hyf t
      rw [a1, a2] at HAO2
      have HAO3 := HAO.out
      have hql : (auL width rs hs y t).length ≤ 1048576 := Nat.le_trans (auL_len HPK.out) (by omega)
      generalize auL width rs hs y t = prf at *
      obtain ⟨q, hq⟩ : ∃ q, prf.length = q := ⟨_, rfl⟩
      replace HAO2 := lH (show ∀ W, BrkK W 0 W.heap.size ⟨E, R, H, A1, A2, ce, cr, ch, c1, c2⟩ ⟨width, es, rs, hs⟩ → Calls Tryz.prog 12 #[.agg #[.int .i64 width, .slice E ne ce, .slice R nr cr, .slice H nh ch, .int .i64 h.size, .slice A1 m1 c1, .int .i64 h.taken, .slice A2 m2 c2, .int .i64 h.num, .int .i64 h.size, .string h.root, .int .i64 h.taken, .string h.troot], .agg #[.string y.reader, .string y.topic, .int .i64 y.index], .int .i64 t] W (fun e w' => ∃ A c, e = .returned (.tuple #[.int .i64 k, .slice A q c, .int .i64 0]) ∧ (q ≤ c ∧ Own w' W.heap.size w'.heap.size A (strs prf)) ∧ Below W.heap.size W w') from
       fun W rr => (HAO2 W rr).mono fun e w' ⟨⟨A, c, h1, h2, h3⟩, h4⟩ => ⟨A, c, by rw [← hq]; exact h1, ⟨by rw [← hq]; exact h2, h3⟩, h4⟩)
      have hd0 := hcs.1
      have hd1 := hcs.2.1
      have hd2 := hcs.2.2
      obtain ⟨F, HF⟩ : ∃ F : Facts, Hid (F = fun iq xq tqs dsq uq => match iq with
       | 0 => xq.v = .agg #[.int .i64 width, .slice E ne ce, .slice R nr cr, .slice H nh ch, .int .i64 h.size, .slice A1 m1 c1, .int .i64 h.taken, .slice A2 m2 c2, .int .i64 h.num, .int .i64 h.size, .string h.root, .int .i64 h.taken, .string h.troot]
       | 1 => xq.v = .pointer (some ⟨(w2.heap.size), 2, none⟩)
       | 2 => xq.v = .slice R nr cr
       | 3 => xq.v = .int .i64 (k : Int)
       | 4 => xq.v = .pointer (some ⟨b3, of3 + k * 3, none⟩)
       | 5 => xq.v = .agg #[.string y.reader, .string y.topic, .int .i64 y.index]
       | 6 => xq.v = .pointer (some ⟨(wo.heap.size), 3, none⟩)
       | 7 => xq.v = .int .i64 (t : Int)
       | 8 => ∃ (PA : Option Addr) (pc : Nat), xq.v = .tuple #[.int .i64 (k : Int), .slice PA q pc, .int .i64 0] ∧ (Own uq xq.s xq.e PA (strs prf)) ∧ (q ≤ pc)
       | 9 => (match tqs, dsq with | [], [yq0] => ∃ (PA : Option Addr) (pc : Nat), yq0.v = .tuple #[.int .i64 (k : Int), .slice PA q pc, .int .i64 0] ∧ xq.v = .tuple #[.int .i64 (k : Int), .slice PA q pc, .int .i64 0] | _, _ => False)
       | 10 => (match tqs, dsq with | [], [yq0] => ∃ (PA : Option Addr) (pc : Nat), yq0.v = .tuple #[.int .i64 (k : Int), .slice PA q pc, .int .i64 0] ∧ xq.v = .int .i64 (k : Int) | _, _ => False)
       | 11 => (match tqs, dsq with | [], [yq0] => ∃ (PA : Option Addr) (pc : Nat), yq0.v = .tuple #[.int .i64 (k : Int), .slice PA q pc, .int .i64 0] ∧ xq.v = .slice PA q pc | _, _ => False)
       | 12 => (match tqs, dsq with | [], [yq0] => ∃ (PA : Option Addr) (pc : Nat), yq0.v = .tuple #[.int .i64 (k : Int), .slice PA q pc, .int .i64 0] ∧ xq.v = .int .i64 0 | _, _ => False)
       | 13 => (match tqs, dsq with | [], [yq0] => ∃ (PA : Option Addr) (pc : Nat), yq0.v = .tuple #[.int .i64 (k : Int), .slice PA q pc, .int .i64 0] ∧ xq.v = .int .i64 (k : Int) | _, _ => False)
       | 14 => (match tqs, dsq with | [], [yq0] => ∃ (PA : Option Addr) (pc : Nat), yq0.v = .tuple #[.int .i64 (k : Int), .slice PA q pc, .int .i64 0] ∧ xq.v = .slice PA q pc | _, _ => False)
       | 15 => (match tqs, dsq with | [], [yq0] => ∃ (PA : Option Addr) (pc : Nat), yq0.v = .tuple #[.int .i64 (k : Int), .slice PA q pc, .int .i64 0] ∧ xq.v = .int .i64 0 | _, _ => False)
       | _ => False) := ⟨_, rfl⟩
      refine wp_region_facts [[], [], [], [], [], [], [], [], [], [8], [8], [8], [8], [8], [8], [8]] [[], [], [], [], [], [], [], [], [], [], [], [], [], [], [], []] [some 51, some 52, some 53, some 54, some 55, some 56, some 57, some 58, some 59, some 50, some 60, some 61, some 62, some 13, some 14, some 15] none 0 0 (.inl rfl) F (by kernel_rfl) (by kernel_rfl) (by kernel_rfl) ?_ ⟨?_, ?_, ?_, ?_, ?_, ?_, ?_, ?_, ?_, ?_, ?_, ?_, ?_, ?_, ?_, ?_, trivial⟩ ?_
      ·rw [HF.out]; intro iq xq tqs dsq uq u' hi hf hs hW hx hbk
       have kx : ∀ b, xq.s ≤ b → b < xq.e → u'.heap[b]? = uq.heap[b]? := fun b h1 h2 => hbk b (.inr (.inl ⟨h1, h2⟩))
       have kt : ∀ t ∈ tqs, ∀ b, t.s ≤ b → b < t.e → u'.heap[b]? = uq.heap[b]? := fun t ht b h1 h2 => hbk b (.inr (.inr ⟨t, ht, h1, h2⟩))
       match iq with
       | 0 => exact hf
       | 1 => exact hf
       | 2 => exact hf
       | 3 => exact hf
       | 4 => exact hf
       | 5 => exact hf
       | 6 => exact hf
       | 7 => exact hf
       | 8 => obtain ⟨PA, pc, hv, p0, p1⟩ := hf; exact ⟨PA, pc, hv, p0.keep hs kx, p1⟩
       | 9 => exact hf
       | 10 => exact hf
       | 11 => exact hf
       | 12 => exact hf
       | 13 => exact hf
       | 14 => exact hf
       | 15 => exact hf
      ·intro gh ρ u hc hf1 hg1 hd h0 hb he ha hF
       replace hb : Below w10.heap.size w10 u := hb.drew.below (by decide +kernel)
       have hbz : w10.heap.size ≤ u.heap.size := hb.size
       have r3 : ρ (.tmp 3) = .pointer (some ⟨w2.heap.size, 0, none⟩) := (h0 3 (by decide +kernel)).trans rfl
       have q_b := (HXb.out.below hb).2.1
       have k_b : w2.heap.size < u.heap.size := by have := HXb.out.1; omega
       have q_x := (HXx.out.below hb).2.1
       have k_x : wo.heap.size < u.heap.size := by have := HXx.out.1; omega
       replace hd0 := cell_later hb hd0
       replace hd1 := cell_later hb hd1
       replace hd2 := cell_later hb hd2
       clear  hd h0 he ha hF
       go_simp
       rw [HF.out]
       exact ⟨OnlyL.refl _ _, rfl⟩
      ·intro gh ρ u hc hf1 hg1 hd h0 hb he ha hF
       have r3 : ρ (.tmp 3) = .pointer (some ⟨w2.heap.size, 0, none⟩) := (h0 3 (by decide +kernel)).trans rfl
       clear  hd h0 he ha hF
       go_simp
       rw [HF.out]
       exact ⟨OnlyL.refl _ _, rfl⟩
      ·intro gh ρ u hc hf1 hg1 hd h0 hb he ha hF
       replace hb : Below w10.heap.size w10 u := hb.drew.below (by decide +kernel)
       have hbz : w10.heap.size ≤ u.heap.size := hb.size
       have r52 : ρ (.tmp 52) = .pointer (some ⟨(w2.heap.size), 2, none⟩) := by have h := hF 1 (by decide +kernel) (by decide +kernel); rw [HF.out] at h; exact (hd 1 (by decide +kernel) 52 (by kernel_rfl)).trans h
       have q_b := (HXb.out.below hb).2.1
       have k_b : w2.heap.size < u.heap.size := by have := HXb.out.1; omega
       have q_x := (HXx.out.below hb).2.1
       have k_x : wo.heap.size < u.heap.size := by have := HXx.out.1; omega
       replace hd0 := cell_later hb hd0
       replace hd1 := cell_later hb hd1
       replace hd2 := cell_later hb hd2
       clear  hd h0 he ha hF
       go_simp
       rw [HF.out]
       exact ⟨OnlyL.refl _ _, rfl⟩
      ·intro gh ρ u hc hf1 hg1 hd h0 hb he ha hF
       have r12 : ρ (.tmp 12) = .int .i64 (k : Int) := (h0 12 (by decide +kernel)).trans rfl
       clear  hd h0 he ha hF
       go_simp
       rw [HF.out]
       exact ⟨OnlyL.refl _ _, rfl⟩
      ·intro gh ρ u hc hf1 hg1 hd h0 hb he ha hF
       have r53 : ρ (.tmp 53) = .slice R nr cr := by have h := hF 2 (by decide +kernel) (by decide +kernel); rw [HF.out] at h; exact (hd 2 (by decide +kernel) 53 (by kernel_rfl)).trans h
       have r54 : ρ (.tmp 54) = .int .i64 (k : Int) := by have h := hF 3 (by decide +kernel) (by decide +kernel); rw [HF.out] at h; exact (hd 3 (by decide +kernel) 54 (by kernel_rfl)).trans h
       clear  hd h0 he ha hF
       go_simp
       rw [HF.out]
       exact ⟨OnlyL.refl _ _, rfl⟩
      ·intro gh ρ u hc hf1 hg1 hd h0 hb he ha hF
       replace hb : Below w10.heap.size w10 u := hb.drew.below (by decide +kernel)
       have hbz : w10.heap.size ≤ u.heap.size := hb.size
       have r55 : ρ (.tmp 55) = .pointer (some ⟨b3, of3 + k * 3, none⟩) := by have h := hF 4 (by decide +kernel) (by decide +kernel); rw [HF.out] at h; exact (hd 4 (by decide +kernel) 55 (by kernel_rfl)).trans h
       have q_b := (HXb.out.below hb).2.1
       have k_b : w2.heap.size < u.heap.size := by have := HXb.out.1; omega
       have q_x := (HXx.out.below hb).2.1
       have k_x : wo.heap.size < u.heap.size := by have := HXx.out.1; omega
       replace hd0 := cell_later hb hd0
       replace hd1 := cell_later hb hd1
       replace hd2 := cell_later hb hd2
       clear  hd h0 he ha hF
       go_simp
       rw [HF.out]
       exact ⟨OnlyL.refl _ _, rfl⟩
      ·intro gh ρ u hc hf1 hg1 hd h0 hb he ha hF
       have r10 : ρ (.tmp 10) = .pointer (some ⟨wo.heap.size, 0, none⟩) := (h0 10 (by decide +kernel)).trans rfl
       clear  hd h0 he ha hF
       go_simp
       rw [HF.out]
       exact ⟨OnlyL.refl _ _, rfl⟩
      ·intro gh ρ u hc hf1 hg1 hd h0 hb he ha hF
       replace hb : Below w10.heap.size w10 u := hb.drew.below (by decide +kernel)
       have hbz : w10.heap.size ≤ u.heap.size := hb.size
       have r57 : ρ (.tmp 57) = .pointer (some ⟨(wo.heap.size), 3, none⟩) := by have h := hF 6 (by decide +kernel) (by decide +kernel); rw [HF.out] at h; exact (hd 6 (by decide +kernel) 57 (by kernel_rfl)).trans h
       have q_b := (HXb.out.below hb).2.1
       have k_b : w2.heap.size < u.heap.size := by have := HXb.out.1; omega
       have q_x := (HXx.out.below hb).2.1
       have k_x : wo.heap.size < u.heap.size := by have := HXx.out.1; omega
       replace hd0 := cell_later hb hd0
       replace hd1 := cell_later hb hd1
       replace hd2 := cell_later hb hd2
       clear  hd h0 he ha hF
       go_simp
       rw [HF.out]
       exact ⟨OnlyL.refl _ _, rfl⟩
      ·intro gh ρ u hc hf1 hg1 hd h0 hb he ha hF
       replace hb : Below w10.heap.size w10 u := hb.drew.below (by decide +kernel)
       have hbz : w10.heap.size ≤ u.heap.size := hb.size
       have r51 : ρ (.tmp 51) = .agg #[.int .i64 width, .slice E ne ce, .slice R nr cr, .slice H nh ch, .int .i64 h.size, .slice A1 m1 c1, .int .i64 h.taken, .slice A2 m2 c2, .int .i64 h.num, .int .i64 h.size, .string h.root, .int .i64 h.taken, .string h.troot] := by have h := hF 0 (by decide +kernel) (by decide +kernel); rw [HF.out] at h; exact (hd 0 (by decide +kernel) 51 (by kernel_rfl)).trans h
       have r56 : ρ (.tmp 56) = .agg #[.string y.reader, .string y.topic, .int .i64 y.index] := by have h := hF 5 (by decide +kernel) (by decide +kernel); rw [HF.out] at h; exact (hd 5 (by decide +kernel) 56 (by kernel_rfl)).trans h
       have r58 : ρ (.tmp 58) = .int .i64 (t : Int) := by have h := hF 7 (by decide +kernel) (by decide +kernel); rw [HF.out] at h; exact (hd 7 (by decide +kernel) 58 (by kernel_rfl)).trans h
       clear  hd h0 he ha hF
       go_simp
       have q_b := (HXb.out.below hb)
       have q_x := (HXx.out.below hb)
       refine (HAO2.out _ (HOK.out.below hb).base).mono ?_
       rintro e u1 ⟨PA, pc, rfl, ⟨hpc, ho⟩, hb1⟩
       rw [HF.out]
       exact ⟨_, rfl, OnlyL.of_below hb1, PA, pc, rfl, ho, hpc⟩
      ·intro gh ρ u hc hf1 hg1 hd h0 hb he ha hF
       have f8 : ∃ (PA : Option Addr) (pc : Nat), (gh 8).v = .tuple #[.int .i64 (k : Int), .slice PA q pc, .int .i64 0] ∧ (Own u (gh 8).s (gh 8).e PA (strs prf)) ∧ (q ≤ pc) := by have h := hF 8 (by decide +kernel) (by decide +kernel); rw [HF.out] at h; exact h
       obtain ⟨PA, pc, hv8, g8_0, g8_1⟩ := f8
       have hrt8 := hv8
       have r59 : ρ (.tmp 59) = .tuple #[.int .i64 (k : Int), .slice PA q pc, .int .i64 0] := (hd 8 (by decide +kernel) 59 (by kernel_rfl)).trans hv8
       have HRT8 := lH hrt8
       clear hv8 hrt8 hd h0 he ha hF
       go_simp
       rw [HF.out]
       exact ⟨OnlyL.refl _ _, PA, pc, HRT8.out, rfl⟩
      ·intro gh ρ u hc hf1 hg1 hd h0 hb he ha hF
       have f9 : ∃ (PA : Option Addr) (pc : Nat), (gh 8).v = .tuple #[.int .i64 (k : Int), .slice PA q pc, .int .i64 0] ∧ (gh 9).v = .tuple #[.int .i64 (k : Int), .slice PA q pc, .int .i64 0] := by have h := hF 9 (by decide +kernel) (by decide +kernel); rw [HF.out] at h; exact h
       obtain ⟨PA, pc, hrt8, hv9⟩ := f9
       have r50 : ρ (.tmp 50) = .tuple #[.int .i64 (k : Int), .slice PA q pc, .int .i64 0] := (hd 9 (by decide +kernel) 50 (by kernel_rfl)).trans hv9
       have HRT8 := lH hrt8
       clear hv9 hrt8 hd h0 he ha hF
       go_simp
       rw [HF.out]
       exact ⟨OnlyL.refl _ _, PA, pc, HRT8.out, rfl⟩
      ·intro gh ρ u hc hf1 hg1 hd h0 hb he ha hF
       have f9 : ∃ (PA : Option Addr) (pc : Nat), (gh 8).v = .tuple #[.int .i64 (k : Int), .slice PA q pc, .int .i64 0] ∧ (gh 9).v = .tuple #[.int .i64 (k : Int), .slice PA q pc, .int .i64 0] := by have h := hF 9 (by decide +kernel) (by decide +kernel); rw [HF.out] at h; exact h
       obtain ⟨PA, pc, hrt8, hv9⟩ := f9
       have r50 : ρ (.tmp 50) = .tuple #[.int .i64 (k : Int), .slice PA q pc, .int .i64 0] := (hd 9 (by decide +kernel) 50 (by kernel_rfl)).trans hv9
       have HRT8 := lH hrt8
       clear hv9 hrt8 hd h0 he ha hF
       go_simp
       rw [HF.out]
       exact ⟨OnlyL.refl _ _, PA, pc, HRT8.out, rfl⟩
      ·intro gh ρ u hc hf1 hg1 hd h0 hb he ha hF
       have f9 : ∃ (PA : Option Addr) (pc : Nat), (gh 8).v = .tuple #[.int .i64 (k : Int), .slice PA q pc, .int .i64 0] ∧ (gh 9).v = .tuple #[.int .i64 (k : Int), .slice PA q pc, .int .i64 0] := by have h := hF 9 (by decide +kernel) (by decide +kernel); rw [HF.out] at h; exact h
       obtain ⟨PA, pc, hrt8, hv9⟩ := f9
       have r50 : ρ (.tmp 50) = .tuple #[.int .i64 (k : Int), .slice PA q pc, .int .i64 0] := (hd 9 (by decide +kernel) 50 (by kernel_rfl)).trans hv9
       have HRT8 := lH hrt8
       clear hv9 hrt8 hd h0 he ha hF
       go_simp
       rw [HF.out]
       exact ⟨OnlyL.refl _ _, PA, pc, HRT8.out, rfl⟩
      ·intro gh ρ u hc hf1 hg1 hd h0 hb he ha hF
       have f10 : ∃ (PA : Option Addr) (pc : Nat), (gh 8).v = .tuple #[.int .i64 (k : Int), .slice PA q pc, .int .i64 0] ∧ (gh 10).v = .int .i64 (k : Int) := by have h := hF 10 (by decide +kernel) (by decide +kernel); rw [HF.out] at h; exact h
       obtain ⟨PA, pc, hrt8, hv10⟩ := f10
       have r60 : ρ (.tmp 60) = .int .i64 (k : Int) := (hd 10 (by decide +kernel) 60 (by kernel_rfl)).trans hv10
       have HRT8 := lH hrt8
       clear hv10 hrt8 hd h0 he ha hF
       go_simp
       rw [HF.out]
       exact ⟨OnlyL.refl _ _, PA, pc, HRT8.out, rfl⟩
      ·intro gh ρ u hc hf1 hg1 hd h0 hb he ha hF
       have f11 : ∃ (PA : Option Addr) (pc : Nat), (gh 8).v = .tuple #[.int .i64 (k : Int), .slice PA q pc, .int .i64 0] ∧ (gh 11).v = .slice PA q pc := by have h := hF 11 (by decide +kernel) (by decide +kernel); rw [HF.out] at h; exact h
       obtain ⟨PA, pc, hrt8, hv11⟩ := f11
       have r61 : ρ (.tmp 61) = .slice PA q pc := (hd 11 (by decide +kernel) 61 (by kernel_rfl)).trans hv11
       have HRT8 := lH hrt8
       clear hv11 hrt8 hd h0 he ha hF
       go_simp
       rw [HF.out]
       exact ⟨OnlyL.refl _ _, PA, pc, HRT8.out, rfl⟩
      ·intro gh ρ u hc hf1 hg1 hd h0 hb he ha hF
       have f12 : ∃ (PA : Option Addr) (pc : Nat), (gh 8).v = .tuple #[.int .i64 (k : Int), .slice PA q pc, .int .i64 0] ∧ (gh 12).v = .int .i64 0 := by have h := hF 12 (by decide +kernel) (by decide +kernel); rw [HF.out] at h; exact h
       obtain ⟨PA, pc, hrt8, hv12⟩ := f12
       have r62 : ρ (.tmp 62) = .int .i64 0 := (hd 12 (by decide +kernel) 62 (by kernel_rfl)).trans hv12
       have HRT8 := lH hrt8
       clear hv12 hrt8 hd h0 he ha hF
       go_simp
       rw [HF.out]
       exact ⟨OnlyL.refl _ _, PA, pc, HRT8.out, rfl⟩
      intro gh w11 hB hE hA hF
      replace hB : Below w10.heap.size w10 w11 := hB.below rfl
      have f0 : (gh 0).v = .agg #[.int .i64 width, .slice E ne ce, .slice R nr cr, .slice H nh ch, .int .i64 h.size, .slice A1 m1 c1, .int .i64 h.taken, .slice A2 m2 c2, .int .i64 h.num, .int .i64 h.size, .string h.root, .int .i64 h.taken, .string h.troot] := by have h := hF 0 (by decide +kernel) (by decide +kernel); rw [HF.out] at h; exact h
      have f1 : (gh 1).v = .pointer (some ⟨(w2.heap.size), 2, none⟩) := by have h := hF 1 (by decide +kernel) (by decide +kernel); rw [HF.out] at h; exact h
      have f2 : (gh 2).v = .slice R nr cr := by have h := hF 2 (by decide +kernel) (by decide +kernel); rw [HF.out] at h; exact h
      have f3 : (gh 3).v = .int .i64 (k : Int) := by have h := hF 3 (by decide +kernel) (by decide +kernel); rw [HF.out] at h; exact h
      have f4 : (gh 4).v = .pointer (some ⟨b3, of3 + k * 3, none⟩) := by have h := hF 4 (by decide +kernel) (by decide +kernel); rw [HF.out] at h; exact h
      have f5 : (gh 5).v = .agg #[.string y.reader, .string y.topic, .int .i64 y.index] := by have h := hF 5 (by decide +kernel) (by decide +kernel); rw [HF.out] at h; exact h
      have f6 : (gh 6).v = .pointer (some ⟨(wo.heap.size), 3, none⟩) := by have h := hF 6 (by decide +kernel) (by decide +kernel); rw [HF.out] at h; exact h
      have f7 : (gh 7).v = .int .i64 (t : Int) := by have h := hF 7 (by decide +kernel) (by decide +kernel); rw [HF.out] at h; exact h
      have f8 : ∃ (PA : Option Addr) (pc : Nat), (gh 8).v = .tuple #[.int .i64 (k : Int), .slice PA q pc, .int .i64 0] ∧ (Own w11 (gh 8).s (gh 8).e PA (strs prf)) ∧ (q ≤ pc) := by have h := hF 8 (by decide +kernel) (by decide +kernel); rw [HF.out] at h; exact h
      have f9 : ∃ (PA : Option Addr) (pc : Nat), (gh 8).v = .tuple #[.int .i64 (k : Int), .slice PA q pc, .int .i64 0] ∧ (gh 9).v = .tuple #[.int .i64 (k : Int), .slice PA q pc, .int .i64 0] := by have h := hF 9 (by decide +kernel) (by decide +kernel); rw [HF.out] at h; exact h
      have f10 : ∃ (PA : Option Addr) (pc : Nat), (gh 8).v = .tuple #[.int .i64 (k : Int), .slice PA q pc, .int .i64 0] ∧ (gh 10).v = .int .i64 (k : Int) := by have h := hF 10 (by decide +kernel) (by decide +kernel); rw [HF.out] at h; exact h
      have f11 : ∃ (PA : Option Addr) (pc : Nat), (gh 8).v = .tuple #[.int .i64 (k : Int), .slice PA q pc, .int .i64 0] ∧ (gh 11).v = .slice PA q pc := by have h := hF 11 (by decide +kernel) (by decide +kernel); rw [HF.out] at h; exact h
      have f12 : ∃ (PA : Option Addr) (pc : Nat), (gh 8).v = .tuple #[.int .i64 (k : Int), .slice PA q pc, .int .i64 0] ∧ (gh 12).v = .int .i64 0 := by have h := hF 12 (by decide +kernel) (by decide +kernel); rw [HF.out] at h; exact h
      have f13 : ∃ (PA : Option Addr) (pc : Nat), (gh 8).v = .tuple #[.int .i64 (k : Int), .slice PA q pc, .int .i64 0] ∧ (gh 13).v = .int .i64 (k : Int) := by have h := hF 13 (by decide +kernel) (by decide +kernel); rw [HF.out] at h; exact h
      have f14 : ∃ (PA : Option Addr) (pc : Nat), (gh 8).v = .tuple #[.int .i64 (k : Int), .slice PA q pc, .int .i64 0] ∧ (gh 14).v = .slice PA q pc := by have h := hF 14 (by decide +kernel) (by decide +kernel); rw [HF.out] at h; exact h
      have f15 : ∃ (PA : Option Addr) (pc : Nat), (gh 8).v = .tuple #[.int .i64 (k : Int), .slice PA q pc, .int .i64 0] ∧ (gh 15).v = .int .i64 0 := by have h := hF 15 (by decide +kernel) (by decide +kernel); rw [HF.out] at h; exact h
      obtain ⟨PA, pc, hv8, hoP, hcP⟩ := f8
      have hv0 := f0
      have hv1 := f1
      have hv2 := f2
      have hv3 := f3
      have hv4 := f4
      have hv5 := f5
      have hv6 := f6
      have hv7 := f7
      obtain ⟨PA_9, pc_9, hu8, hv9⟩ := f9
      replace hu8 := hv8.symm.trans hu8
      simp at hu8
      try simp only [and_assoc] at hu8
      obtain ⟨rfl, rfl⟩ := hu8
      obtain ⟨PA_10, pc_10, hu8, hv10⟩ := f10
      replace hu8 := hv8.symm.trans hu8
      simp at hu8
      try simp only [and_assoc] at hu8
      obtain ⟨rfl, rfl⟩ := hu8
      obtain ⟨PA_11, pc_11, hu8, hv11⟩ := f11
      replace hu8 := hv8.symm.trans hu8
      simp at hu8
      try simp only [and_assoc] at hu8
      obtain ⟨rfl, rfl⟩ := hu8
      obtain ⟨PA_12, pc_12, hu8, hv12⟩ := f12
      replace hu8 := hv8.symm.trans hu8
      simp at hu8
      try simp only [and_assoc] at hu8
      obtain ⟨rfl, rfl⟩ := hu8
      obtain ⟨PA_13, pc_13, hu8, hv13⟩ := f13
      replace hu8 := hv8.symm.trans hu8
      simp at hu8
      try simp only [and_assoc] at hu8
      obtain ⟨rfl, rfl⟩ := hu8
      obtain ⟨PA_14, pc_14, hu8, hv14⟩ := f14
      replace hu8 := hv8.symm.trans hu8
      simp at hu8
      try simp only [and_assoc] at hu8
      obtain ⟨rfl, rfl⟩ := hu8
      obtain ⟨PA_15, pc_15, hu8, hv15⟩ := f15
      replace hu8 := hv8.symm.trans hu8
      simp at hu8
      try simp only [and_assoc] at hu8
      obtain ⟨rfl, rfl⟩ := hu8
      obtain ⟨hs8, hse8, he8⟩ := hE 8 (by decide +kernel)
      change w10.heap.size ≤ _ at hs8
      clear hE hA hF
      simp only [putDs, Nat.reduceAdd, hv0, hv1, hv2, hv3, hv4, hv5, hv6, hv7, hv8, hv9, hv10, hv11, hv12, hv13, hv14, hv15]
      clear hv0 hv1 hv2 hv3 hv4 hv5 hv6 hv7 hv8 hv9 hv10 hv11 hv12 hv13 hv14 hv15
      generalize (gh 8).s = s11_8 at *
      generalize (gh 8).e = e11_8 at *
      clear HF
      have hb := hB
      clear hB
      have hzw11 : w10.heap.size ≤ w11.heap.size := hb.size
      have hzzw11 : w.heap.size ≤ w11.heap.size := by omega
      replace HB := lH (below_then HB.out hb HB.out.size)
      replace HOK := lH (HOK.out.below hb)
      replace HOT := lH (HOT.out.below hb)
      replace HXb := lH (HXb.out.below hb)
      clear hxb hfb hkb
      obtain ⟨hkb, hxb, hfb⟩ := HXb.out
      replace HXr := lH (HXr.out.below hb)
      clear hxr hfr hkr
      obtain ⟨hkr, hxr, hfr⟩ := HXr.out
      replace HXx := lH (HXx.out.below hb)
      clear hxx hfx hkx
      obtain ⟨hkx, hxx, hfx⟩ := HXx.out
      clear hb
      have HOP : Hid (Rd w11 (s11_8) (e11_8) (PA) (strs prf)) := lH hoP.rd
      clear hoP hd0 hd1 hd2 HAO2 a1 a2
      try simp only [Act.put, List.setIfInBounds_toArray, List.set_cons_zero, List.set_cons_succ]
      go_upto_region 15 with fail
      refine wp_named (fun w12 hw => ?_)
      have hz12 : w11.heap.size + 0 ≤ w12.heap.size := by rw [hw]; first | omega | simp [World.setCell] <;> omega
      have hzz12 : w.heap.size ≤ w12.heap.size := by omega
      have hbn : Below w11.heap.size w11 w12 := by rw [hw]; exact (by repeat with_reducible first | exact bR _ | apply bA | apply bD)
      replace HB := lH (below_then HB.out hbn HB.out.size)
      replace HOK := lH (HOK.out.below hbn)
      replace HOT := lH (HOT.out.below hbn)
      replace HOP := lH (HOP.out.below hbn)
      replace HXb := lH (HXb.out.below hbn)
      clear hxb hfb hkb
      obtain ⟨hkb, hxb, hfb⟩ := HXb.out
      replace HXr := lH (HXr.out.below hbn)
      clear hxr hfr hkr
      obtain ⟨hkr, hxr, hfr⟩ := HXr.out
      replace HXx := lH (HXx.out.below hbn)
      clear hxx hfx hkx
      obtain ⟨hkx, hxx, hfx⟩ := HXx.out
      clear hbn
      clear hw
      have hlf : (takenM width rs)[k]? = some (rcpHashM width y) := by rw [takenM, List.getElem?_map, hys]; rfl
      obtain ⟨b4, of4, hTe⟩ := HOT.out.where_ (k := k) (by rw [takenM_len, HNR.out]; omega)
      have hit := idxStrT T b4 of4 nr ct k hTe (by omega)
      have tc0 := HOT.out.strEq hTe hlf
      have tc : ∀ v : Later w12, v.v.cell? ⟨b4, of4 + k, none⟩ = some (.string (rcpHashM width y)) := fun v => (later_cell v _ _ tc0.1).trans tc0.2
      have HCK2 := lH (fun v : Later w12 => implCheckInT_c width t k x.troot (rcpHashM width y) PA pc 0 v.v.heap.size q prf v.v (HOP.out.below v.h).base hq (by omega) hcP a3 a4)
      have e1 : ((k : Int) != (k : Int)) = false := by simp
      have t0 : ∀ v : Later w12, v.v.cell? ⟨(w2.heap.size), 0, none⟩ = some (.int .i64 width) := fun v => (later_cell v _ _ hkb).trans (hxb 0)
      have t1 : ∀ v : Later w12, v.v.cell? ⟨(wo.heap.size), 4, none⟩ = some (.string x.troot) := fun v => (later_cell v _ _ hkx).trans (hxx 4)
      have t2 : ∀ v : Later w12, v.v.cell? ⟨(wo.heap.size), 3, none⟩ = some (.int .i64 (t : Int)) := fun v => (later_cell v _ _ hkx).trans (hxx 3)
      clear tc0 hTe hlf a3 a4 hq hql
      refine wp_region_later (by kernel_rfl) (by kernel_rfl) ?_
      repeat (go_big_quiet_step ((first | with_reducible exact later_call (HCK2.out _))))
      refine wpQuiet_nil ?_
      intro wB h9
      have hb9 := later_below h9
      have hzwB : w12.heap.size ≤ wB.heap.size := hb9.size
      have hzzwB : w.heap.size ≤ wB.heap.size := by omega
      replace HB := lH (below_then HB.out hb9 HB.out.size)
      replace HOK := lH (HOK.out.below hb9)
      replace HOT := lH (HOT.out.below hb9)
      replace HOP := lH (HOP.out.below hb9)
      replace HXb := lH (HXb.out.below hb9)
      clear hxb hfb hkb
      obtain ⟨hkb, hxb, hfb⟩ := HXb.out
      replace HXr := lH (HXr.out.below hb9)
      clear hxr hfr hkr
      obtain ⟨hkr, hxr, hfr⟩ := HXr.out
      replace HXx := lH (HXx.out.below hb9)
      clear hxx hfx hkx
      obtain ⟨hkx, hxx, hfx⟩ := HXx.out
      clear h9 hb9 e1 hit tc t0 t1 t2 HCK2 hcP
      clear HOP
      go_upto_region 17 with fail
      refine wp_named (fun w13 hw => ?_)
      have hz13 : wB.heap.size + 0 ≤ w13.heap.size := by rw [hw]; first | omega | simp [World.setCell] <;> omega
      have hzz13 : w.heap.size ≤ w13.heap.size := by omega
      have hbn : Below wB.heap.size wB w13 := by rw [hw]; exact (by repeat with_reducible first | exact bR _ | apply bA | apply bD)
      replace HB := lH (below_then HB.out hbn HB.out.size)
      replace HOK := lH (HOK.out.below hbn)
      replace HOT := lH (HOT.out.below hbn)
      replace HXb := lH (HXb.out.below hbn)
      clear hxb hfb hkb
      obtain ⟨hkb, hxb, hfb⟩ := HXb.out
      replace HXr := lH (HXr.out.below hbn)
      clear hxr hfr hkr
      obtain ⟨hkr, hxr, hfr⟩ := HXr.out
      replace HXx := lH (HXx.out.below hbn)
      clear hxx hfx hkx
      obtain ⟨hkx, hxx, hfx⟩ := HXx.out
      clear hbn
      clear hw
      obtain ⟨b3', of3', y', hRe', hb3', hys', hcs'⟩ := rcp_cells HOK.out.rR (k := k) (by show k < rs.length; rw [HNR.out]; omega)
      obtain rfl : y = y' := Option.some.inj (hys.symm.trans hys')
      have hix2 := idxRcp R b3' of3' nr cr k hRe' (by omega)
      have u0 : ∀ v : Later w13, v.v.cell? ⟨b3', of3' + k * 3, none⟩ = some (.string y.reader) := fun v => (later_cell v _ _ hb3').trans hcs'.1
      have u1 : ∀ v : Later w13, v.v.cell? ⟨b3', of3' + k * 3 + 1, none⟩ = some (.string y.topic) := fun v => (later_cell v _ _ hb3').trans hcs'.2.1
      have u2 : ∀ v : Later w13, v.v.cell? ⟨b3', of3' + k * 3 + 2, none⟩ = some (.int .i64 y.index) := fun v => (later_cell v _ _ hb3').trans hcs'.2.2
      have s0 : ∀ v : Later w13, v.v.cell? ⟨(w2.heap.size), 2, none⟩ = some (.slice R nr cr) := fun v => (later_cell v _ _ hkb).trans (hxb 2)
      have s1 : ∀ v : Later w13, v.v.cell? ⟨(w6.heap.size + 1), 0, none⟩ = some (.string r.reader) := fun v => (later_cell v _ _ hkr).trans (hxr 0)
      have s2 : ∀ v : Later w13, v.v.cell? ⟨(w6.heap.size + 1), 1, none⟩ = some (.string r.topic) := fun v => (later_cell v _ _ hkr).trans (hxr 1)
      have s3 : ∀ v : Later w13, v.v.cell? ⟨(w6.heap.size + 1), 2, none⟩ = some (.int .i64 r.index) := fun v => (later_cell v _ _ hkr).trans (hxr 2)
      have heq := eqlRcp y r hyf HRF.out
      have HYN := lH (fun h : ¬ y = r => auI_no hys h)
      have HYY := lH (fun h : y = r => auI_yes HPK.out (r := y) hys)
      clear hcs hys hys' hcs' hRe hRe' hix hyf
      by_cases hyr : y = r
      ·rw [decide_eq_true hyr] at heq
       have h9 := HYY.out hyr
       rw [hyr] at h9
       have HYY2 := lH h9
       clear HYN hyr h9 HYY
       refine wp_region_later (by kernel_rfl) (by kernel_rfl) ?_
       repeat (go_big_quiet_step (fail))
       refine wpQuiet_nil ?_
       intro wC h9
       have hb9 := later_below h9
       have hzwC : w13.heap.size ≤ wC.heap.size := hb9.size
       have hzzwC : w.heap.size ≤ wC.heap.size := by omega
       replace HB := lH (below_then HB.out hb9 HB.out.size)
       replace HOK := lH (HOK.out.below hb9)
       replace HOT := lH (HOT.out.below hb9)
       replace HXb := lH (HXb.out.below hb9)
       clear hxb hfb hkb
       obtain ⟨hkb, hxb, hfb⟩ := HXb.out
       replace HXr := lH (HXr.out.below hb9)
       clear hxr hfr hkr
       obtain ⟨hkr, hxr, hfr⟩ := HXr.out
       replace HXx := lH (HXx.out.below hb9)
       clear hxx hfx hkx
       obtain ⟨hkx, hxx, hfx⟩ := HXx.out
       clear h9 hb9 heq u0 u1 u2 s0 s1 s2 s3 hix2
       go_wp2
       go_roundw
       case rel => exact ⟨k + 1, by omega, by go_num, by rw [HYY2.out], HXx.out, HXb.out, HXr.out, HOK.out.base, HOT.out.base, HB.out⟩
       case measure => simp [intOf]; omega
      ·rw [decide_eq_false hyr] at heq
       have HYN2 := lH (HYN.out hyr)
       clear HYN hyr HYY
       refine wp_region_later (by kernel_rfl) (by kernel_rfl) ?_
       repeat (go_big_quiet_step (fail))
       refine wpQuiet_nil ?_
       intro wC h9
       have hb9 := later_below h9
       have hzwC : w13.heap.size ≤ wC.heap.size := hb9.size
       have hzzwC : w.heap.size ≤ wC.heap.size := by omega
       replace HB := lH (below_then HB.out hb9 HB.out.size)
       replace HOK := lH (HOK.out.below hb9)
       replace HOT := lH (HOT.out.below hb9)
       replace HXb := lH (HXb.out.below hb9)
       clear hxb hfb hkb
       obtain ⟨hkb, hxb, hfb⟩ := HXb.out
       replace HXr := lH (HXr.out.below hb9)
       clear hxr hfr hkr
       obtain ⟨hkr, hxr, hfr⟩ := HXr.out
       replace HXx := lH (HXx.out.below hb9)
       clear hxx hfx hkx
       obtain ⟨hkx, hxx, hfx⟩ := HXx.out
       clear h9 hb9 heq u0 u1 u2 s0 s1 s2 s3 hix2
       go_wp2
       go_roundw
       case rel => exact ⟨k + 1, by omega, by go_num, by rw [HYN2.out], HXx.out, HXb.out, HXr.out, HOK.out.base, HOT.out.base, HB.out⟩
       case measure => simp [intOf]; omega
     ·obtain rfl : t = k := by omega
      have hI2 : ¬ (t : Int) < t := by omega
      have HAO2 := HAO.out r HRF.out t
      have hql : (auL width rs hs r t).length ≤ 1048576 := Nat.le_trans (auL_len HPK.out) (by omega)
      generalize auL width rs hs r t = prf at *
      rcases HAN.out r with ⟨h1, h2⟩ | ⟨k1, h0, h1, h2, h3⟩
      ·rw [h2] at HAO2
       rw [h1]
       replace HAO2 := lH HAO2
       generalize auZ rs hs r t = az at *
       clear h1 h2
       go_wp2_with fail
       refine calls_named (fun w10 hw => ?_)
       have hz10 : wi.heap.size + 0 ≤ w10.heap.size := by rw [hw]; first | omega | simp [World.setCell] <;> omega
       have hzz10 : w.heap.size ≤ w10.heap.size := by omega
       have hbn : Below wi.heap.size wi w10 := by rw [hw]; exact (by repeat with_reducible first | exact bR _ | apply bA | apply bD)
       replace HB := lH (below_then HB.out hbn HB.out.size)
       replace HOK := lH (HOK.out.below hbn)
       replace HOT := lH (HOT.out.below hbn)
       replace HXb := lH (HXb.out.below hbn)
       clear hxb hfb hkb
       obtain ⟨hkb, hxb, hfb⟩ := HXb.out
       replace HXr := lH (HXr.out.below hbn)
       clear hxr hfr hkr
       obtain ⟨hkr, hxr, hfr⟩ := HXr.out
       replace HXx := lH (HXx.out.below hbn)
       clear hxx hfx hkx
       obtain ⟨hkx, hxx, hfx⟩ := HXx.out
       clear hbn
       clear hw
       refine (HAO2.out _ HOK.out.base).mono ?_
       rintro e w11 ⟨⟨A3, c3, rfl, hcap, ho⟩, hb⟩
       have hzw11 : w10.heap.size ≤ w11.heap.size := hb.size
       have hzzw11 : w.heap.size ≤ w11.heap.size := by omega
       replace HB := lH (below_then HB.out hb HB.out.size)
       replace HOK := lH (HOK.out.below hb)
       replace HOT := lH (HOT.out.below hb)
       replace HXb := lH (HXb.out.below hb)
       clear hxb hfb hkb
       obtain ⟨hkb, hxb, hfb⟩ := HXb.out
       replace HXr := lH (HXr.out.below hb)
       clear hxr hfr hkr
       obtain ⟨hkr, hxr, hfr⟩ := HXr.out
       replace HXx := lH (HXx.out.below hb)
       clear hxx hfx hkx
       obtain ⟨hkx, hxx, hfx⟩ := HXx.out
       clear hb
       clear hcap ho HAO2
       go_wp2
       go_roundw
       case rel => exact ⟨j + 1, by omega, by go_num, HXb.out, HXr.out, HOK.out.base, HOT.out.base, HB.out⟩
       case measure => simp [intOf]; omega
      ·rw [h2, h3] at HAO2
       rw [h1]
       replace HAO2 := lH HAO2
       have e1 : decide ((0 : Int) ≤ (k1 : Int)) = true := decide_eq_true (by omega)
       have e2 : ((k1 : Int) != (k1 : Int)) = false := by simp
       clear h0 h1 h2 h3
       go_wp2_with fail
       refine calls_named (fun w10 hw => ?_)
       have hz10 : wi.heap.size + 0 ≤ w10.heap.size := by rw [hw]; first | omega | simp [World.setCell] <;> omega
       have hzz10 : w.heap.size ≤ w10.heap.size := by omega
       have hbn : Below wi.heap.size wi w10 := by rw [hw]; exact (by repeat with_reducible first | exact bR _ | apply bA | apply bD)
       replace HB := lH (below_then HB.out hbn HB.out.size)
       replace HOK := lH (HOK.out.below hbn)
       replace HOT := lH (HOT.out.below hbn)
       replace HXb := lH (HXb.out.below hbn)
       clear hxb hfb hkb
       obtain ⟨hkb, hxb, hfb⟩ := HXb.out
       replace HXr := lH (HXr.out.below hbn)
       clear hxr hfr hkr
       obtain ⟨hkr, hxr, hfr⟩ := HXr.out
       replace HXx := lH (HXx.out.below hbn)
       clear hxx hfx hkx
       obtain ⟨hkx, hxx, hfx⟩ := HXx.out
       clear hbn
       clear hw
       refine (HAO2.out _ HOK.out.base).mono ?_
       rintro e w11 ⟨⟨A3, c3, rfl, hcap, ho⟩, hb⟩
       have hzw11 : w10.heap.size ≤ w11.heap.size := hb.size
       have hzzw11 : w.heap.size ≤ w11.heap.size := by omega
       replace HB := lH (below_then HB.out hb HB.out.size)
       replace HOK := lH (HOK.out.below hb)
       replace HOT := lH (HOT.out.below hb)
       replace HXb := lH (HXb.out.below hb)
       clear hxb hfb hkb
       obtain ⟨hkb, hxb, hfb⟩ := HXb.out
       replace HXr := lH (HXr.out.below hb)
       clear hxr hfr hkr
       obtain ⟨hkr, hxr, hfr⟩ := HXr.out
       replace HXx := lH (HXx.out.below hb)
       clear hxx hfx hkx
       obtain ⟨hkx, hxx, hfx⟩ := HXx.out
       clear hb
       clear hcap ho HAO2
       go_wp2
       go_roundw
       case rel => exact ⟨j + 1, by omega, by go_num, HXb.out, HXr.out, HOK.out.base, HOT.out.base, HB.out⟩
       case measure => simp [intOf]; omega
   ·obtain rfl : nh = j := by omega
    have hI : ¬ (nh : Int) < nh := by omega
    have hp2 : decide ((0 : Int) < (nh : Int)) = true := decide_eq_true (by omega)
    go_wp2
    go_ret
    exact ⟨rfl, HB.out⟩
end
end Go.Proofs.YtoccjgcokffkbaaGreat
