/- Part 31 of the proof of FnProofs: lemmas and contracts. -/
import Derived.Test.YtoccjgcokffkbaaGreatTq27
import Derived.Test.YtoccjgcokffkbaaGreatTq30
import Derived.Deep.DeepCutAuto
namespace Go.Proofs.YtoccjgcokffkbaaGreat
set_option linter.unusedVariables false
set_option linter.unusedSimpArgs false
set_option maxHeartbeats 20000000
section
open Go.RowKit
theorem Rd.strEq {w : World} {lo hi : Nat} {A : Option Addr} {l : List ByteArray} (h : Rd w lo hi A (strs l)) {b off k : Nat} {s : ByteArray} (hA : A = some ⟨b, off, none⟩) (hk : l[k]? = some s) : b < w.heap.size ∧ w.cell? ⟨b, off + k, none⟩ = some (.string s) := by
 subst hA
 obtain ⟨b', off', e, _, h3, h4, h5⟩ := h (fun e => by have h9 := strs_get hk; rw [e] at h9; cases h9)
 cases e
 exact ⟨by omega, h5 k _ (strs_get hk)⟩
theorem Rd.where_ {w : World} {lo hi : Nat} {A : Option Addr} {l : List ByteArray} (h : Rd w lo hi A (strs l)) {k : Nat} (hk : k < l.length) : ∃ b off, A = some ⟨b, off, none⟩ := by
 obtain ⟨b, off, e, _⟩ := h (fun e => by have h9 := strs_get (List.getElem?_eq_getElem hk); rw [e] at h9; cases h9)
 exact ⟨b, off, e⟩
theorem idxStrT (R : Option Addr) (b off nr cr k : Nat) (hR : R = some ⟨b, off, none⟩) (hk : k < nr) (W : World) : (Instr.indexAt 29 (.slice R nr cr) (.int .i64 k)).run Tryz.prog W = .ok (.pointer (some ⟨b, off + k, none⟩)) W := by
 subst hR
 have h1 : (k : Int) < nr := by omega
 go_simp
set_option maxRecDepth 100000 in
theorem walk_FnProofs (n g : Nat) (B : Option Addr) (l0 : List Int) (w : World) (hr : Rd w 0 w.heap.size B (bys l0)) (hl : l0.length = n) (hng : n ≤ g) (hn : n ≤ maxLen) (hb : ∀ x ∈ l0, 0 ≤ x ∧ x ≤ 255) :
  Calls Tryz.prog 5 #[.slice B n g] w fun e w' => e = .returned (.bool true) ∧ Below w.heap.size w w' := by
 by_cases h20 : 1048576 < n
 ·have hd : decide (1048576 < n) = true := decide_eq_true h20
  go_enter Tryz.func5, Tryz.ntmps5
  go_wp2_with fail
  refine (big_c n g B _ hn).mono ?_
  rintro e w1 ⟨rfl, rfl⟩
  rw [hd]
  go_wp2
  go_ret
  exact ⟨rfl, Below.refl _ _⟩
 ·have hd : decide (1048576 < n) = false := decide_eq_false h20
  have HDA := lH (fun W (r : Rd W 0 W.heap.size B (bys l0)) => DrawRightP_c n g B l0 W r hl (by omega) hb)
  have HB : Hid (Below w.heap.size w w) := Below.refl _ _
  have HOQ : Hid (Rd w (0) (w.heap.size) (B) (bys l0)) := Rd.base hr
  clear hr hl hb hng
  go_enter Tryz.func5, Tryz.ntmps5
  go_wp2_with fail
  refine (big_c n g B _ hn).mono ?_
  rintro e w0_ ⟨rfl, rfl⟩
  rw [hd]
  clear hd hn
  go_wp2_with fail
  refine calls_named (fun w1 hw => ?_)
  have hz1 : w.heap.size + 0 ≤ w1.heap.size := by rw [hw]; first | omega | simp [World.setCell] <;> omega
  have hbn : Below w.heap.size w w1 := by rw [hw]; exact (by repeat with_reducible first | exact bR _ | apply bA | apply bD)
  replace HB := lH (below_then HB.out hbn HB.out.size)
  replace HOQ := lH (HOQ.out.below hbn)
  clear hbn
  clear hw
  refine (HDA.out _ HOQ.out.base).mono ?_
  rintro e w2 ⟨width, E, R, H, A1, A2, ne, nr, nh, ce, cr, ch, c1, c2, m1, m2, es, rs, hs, l1, l2, h, rfl, ⟨hbk, hne, hnr, hnh, hl1, hl2, hm1, hm2, hh, h24⟩, hb⟩
  have hzw2 : w1.heap.size ≤ w2.heap.size := hb.size
  have hzzw2 : w.heap.size ≤ w2.heap.size := by omega
  replace HB := lH (below_then HB.out hb HB.out.size)
  replace HOQ := lH (HOQ.out.below hb)
  clear hb
  have HOK : Hid (BrkK w2 (w1.heap.size) (w2.heap.size) (⟨E, R, H, A1, A2, ce, cr, ch, c1, c2⟩) (⟨width, es, rs, hs⟩)) := lH hbk
  have hok : BrkParts width es rs hs := hbk.ok
  have HLP := lH (fun (a c : Int) W (rr : BrkK W 0 W.heap.size ⟨E, R, H, A1, A2, ce, cr, ch, c1, c2⟩ ⟨width, es, rs, hs⟩) => leafProofB_c width E R H A1 A2 ne nr nh ce cr ch c1 c2 m1 m2 es rs hs l1 l2 h a c W rr hne hnr hnh hl1 hl2 hm1 hm2 hh)
  have HFE := lH (fun (t : ByteArray) (i c : Int) W (rr : BrkK W 0 W.heap.size ⟨E, R, H, A1, A2, ce, cr, ch, c1, c2⟩ ⟨width, es, rs, hs⟩) => fetchB_c width E R H A1 A2 ne nr nh ce cr ch c1 c2 m1 m2 es rs hs l1 l2 h t i c W rr hne hnr hnh hl1 hl2 hm1 hm2 hh)
  have HLO := lH (fun W (rr : BrkK W 0 W.heap.size ⟨E, R, H, A1, A2, ce, cr, ch, c1, c2⟩ ⟨width, es, rs, hs⟩) => leavesOfB_c width E R H A1 A2 ne nr nh ce cr ch c1 c2 m1 m2 es rs hs l1 l2 h W rr hne hnr hnh hl1 hl2 hm1 hm2 hh)
  obtain ⟨f1, f2, f3, g1, g2, g3, g4, f4, g5, g6, g7⟩ := parts_fits hok
  rw [hnh] at g3
  rw [hne] at g1
  have hpos : 0 < nh := by rw [← hnh]; exact hok.pos
  have HPK := lH hok
  have HNH := lH hnh
  have HNE := lH hne
  have HFX := lH f1
  clear hbk HDA hl1 hl2 hm1 hm2 hh hne hnr hok f1 f2 f3 f4 g2 g4 g5 g6 g7 hnh
  clear HOQ
  go_wp2_with fail
  refine calls_named (fun w3 hw => ?_)
  have hz3 : w2.heap.size + 1 ≤ w3.heap.size := by rw [hw]; first | omega | simp [World.setCell] <;> omega
  have hzz3 : w.heap.size ≤ w3.heap.size := by omega
  have hbn : Below w2.heap.size w2 w3 := by rw [hw]; exact (by repeat with_reducible first | exact bR _ | apply bA | apply bD)
  replace HB := lH (below_then HB.out hbn HB.out.size)
  replace HOK := lH (HOK.out.below hbn)
  clear hbn
  have HXb : Hid (NewBox w3 (w2.heap.size) [.int .i64 width, .slice E ne ce, .slice R nr cr, .slice H nh ch, .int .i64 h.size, .slice A1 m1 c1, .int .i64 h.taken, .slice A2 m2 c2, .int .i64 h.num, .int .i64 h.size, .string h.root, .int .i64 h.taken, .string h.troot]) := by rw [Hid, hw]; exact ⟨by first | omega | (simp [World.setCell]; done) | (simp [World.setCell]; omega), fun o => by rcases o with _ | _ | _ | _ | _ | _ | _ | _ | _ | _ | _ | _ | _ | o <;> go_simp, fun o => by go_simp⟩
  obtain ⟨hkb, hxb, hfb⟩ := HXb.out
  clear hw
  refine (HLO.out _ HOK.out.base).mono ?_
  rintro e w4 ⟨T, ct, rfl, hto, hb⟩
  have hzw4 : w3.heap.size ≤ w4.heap.size := hb.size
  have hzzw4 : w.heap.size ≤ w4.heap.size := by omega
  replace HB := lH (below_then HB.out hb HB.out.size)
  replace HOK := lH (HOK.out.below hb)
  replace HXb := lH (HXb.out.below hb)
  clear hxb hfb hkb
  obtain ⟨hkb, hxb, hfb⟩ := HXb.out
  clear hb
  have HOT : Hid (Rd w4 (w3.heap.size) (w4.heap.size) (T) (strs (leavesM width es))) := lH hto.rd
  clear hto HLO
  go_wp2
  refine wp_named (fun w5 hw => ?_)
  have hz5 : w4.heap.size + 0 ≤ w5.heap.size := by rw [hw]; first | omega | simp [World.setCell] <;> omega
  have hzz5 : w.heap.size ≤ w5.heap.size := by omega
  have hbn : Below w4.heap.size w4 w5 := by rw [hw]; exact (by repeat with_reducible first | exact bR _ | apply bA | apply bD)
  replace HB := lH (below_then HB.out hbn HB.out.size)
  replace HOK := lH (HOK.out.below hbn)
  replace HOT := lH (HOT.out.below hbn)
  replace HXb := lH (HXb.out.below hbn)
  clear hxb hfb hkb
  obtain ⟨hkb, hxb, hfb⟩ := HXb.out
  clear hbn
  clear hw
  go_loopw [5, 6, 7, 8, 9, 10, 11, 12, 13, 14, 15] (fun i _ _ _ _ _ _ _ _ _ _ wx => ∃ j : Nat, j ≤ nh ∧ i = .int .i64 j ∧ NewBox wx ((w2.heap.size)) [.int .i64 width, .slice E ne ce, .slice R nr cr, .slice H nh ch, .int .i64 h.size, .slice A1 m1 c1, .int .i64 h.taken, .slice A2 m2 c2, .int .i64 h.num, .int .i64 h.size, .string h.root, .int .i64 h.taken, .string h.troot] ∧ BrkK wx 0 wx.heap.size ⟨E, R, H, A1, A2, ce, cr, ch, c1, c2⟩ ⟨width, es, rs, hs⟩ ∧ Rd wx 0 wx.heap.size T (strs (leavesM width es)) ∧ Below w.heap.size w wx) (fun i _ _ _ _ _ _ _ _ _ _ _ => nh - (intOf i).toNat)
  case atStart => exact ⟨0, Nat.zero_le _, rfl, HXb.out, HOK.out.base, HOT.out.base, HB.out⟩
  case round =>
   obtain ⟨wo, rfl⟩ : ∃ wo : World, wo = wr := ⟨_, rfl⟩
   obtain ⟨j, hj, rfl, hbx, hrk, hrt, hbl⟩ := hrel
   replace HB : Hid (Below w.heap.size w wo) := lH hbl
   replace HXb : Hid (NewBox wo (w2.heap.size) [.int .i64 width, .slice E ne ce, .slice R nr cr, .slice H nh ch, .int .i64 h.size, .slice A1 m1 c1, .int .i64 h.taken, .slice A2 m2 c2, .int .i64 h.num, .int .i64 h.size, .string h.root, .int .i64 h.taken, .string h.troot]) := lH hbx
   clear hxb hfb hkb
   obtain ⟨hkb, hxb, hfb⟩ := HXb.out
   replace HOK : Hid (BrkK wo (0) (wo.heap.size) (⟨E, R, H, A1, A2, ce, cr, ch, c1, c2⟩) (⟨width, es, rs, hs⟩)) := lH hrk
   replace HOT : Hid (Rd wo (0) (wo.heap.size) (T) (strs (leavesM width es))) := lH hrt
   have hzz_wo : w.heap.size ≤ wo.heap.size := HB.out.size
   clear hbx hrk hrt hbl
   by_cases hlt : j < nh
   ·have hI : (j : Int) < nh := by omega
    obtain ⟨b2, off, x, hHe, hb2, hks, hcs⟩ := hd_cells HOK.out.rH (k := j) (by show j < hs.length; rw [HNH.out]; exact hlt)
    obtain ⟨s, t, hsz, ht, hsl, hz1, hz2, hz3⟩ := hd_at HPK.out hks
    clear hz1 hz2 hz3
    rw [HNE.out] at hsl
    have c0' := hcs.1
    have c1' := hcs.2.1
    have c2' := hcs.2.2.1
    have c3' := hcs.2.2.2.1
    have c4' := hcs.2.2.2.2
    rw [hsz] at c1'
    have hix := idxHd H b2 off nh ch j hHe hlt
    have HYE := lH (fun (k : Nat) (hk : k < s) (y : Ent) (hy : es[k]? = some y) => prf_ok HPK.out hks hsz hk hy)
    have HNO := lH (fun (k : Nat) (hk : s ≤ k) => prf_no HPK.out hks hsz hk)
    clear hcs hks hsz ht hHe
    go_upto_region 9 with fail
    refine wp_named (fun w6 hw => ?_)
    have hz6 : wo.heap.size + 1 ≤ w6.heap.size := by rw [hw]; first | omega | simp [World.setCell] <;> omega
    have hzz6 : w.heap.size ≤ w6.heap.size := by omega
    have hbn : Below wo.heap.size wo w6 := by rw [hw]; exact (by repeat with_reducible first | exact bR _ | apply bA | apply bD)
    replace HB := lH (below_then HB.out hbn HB.out.size)
    replace HOK := lH (HOK.out.below hbn)
    replace HOT := lH (HOT.out.below hbn)
    replace HXb := lH (HXb.out.below hbn)
    clear hxb hfb hkb
    obtain ⟨hkb, hxb, hfb⟩ := HXb.out
    clear hbn
    have HXx : Hid (NewBox w6 (wo.heap.size) [.int .i64 x.num, .int .i64 (s : Int), .string x.root, .int .i64 x.taken, .string x.troot]) := by rw [Hid, hw]; exact ⟨by first | omega | (simp [World.setCell]; done) | (simp [World.setCell]; omega), fun o => by rcases o with _ | _ | _ | _ | _ | o <;> go_simp, fun o => by go_simp⟩
    obtain ⟨hkx, hxx, hfx⟩ := HXx.out
    clear hw
    clear c0' c1' c2' c3' c4' hix hb2
    go_wp2
    refine wp_named (fun w7 hw => ?_)
    have hz7 : w6.heap.size + 0 ≤ w7.heap.size := by rw [hw]; first | omega | simp [World.setCell] <;> omega
    have hzz7 : w.heap.size ≤ w7.heap.size := by omega
    have hbn : Below w6.heap.size w6 w7 := by rw [hw]; exact (by repeat with_reducible first | exact bR _ | apply bA | apply bD)
    replace HB := lH (below_then HB.out hbn HB.out.size)
    replace HOK := lH (HOK.out.below hbn)
    replace HOT := lH (HOT.out.below hbn)
    replace HXb := lH (HXb.out.below hbn)
    clear hxb hfb hkb
    obtain ⟨hkb, hxb, hfb⟩ := HXb.out
    replace HXx := lH (HXx.out.below hbn)
    clear hxx hfx hkx
    obtain ⟨hkx, hxx, hfx⟩ := HXx.out
    clear hbn
    clear hw
    go_loopw [7, 8, 9, 10, 11, 12, 13, 14, 15] (fun kk _ _ _ _ _ _ _ _ wx => ∃ k : Nat, k ≤ ne ∧ kk = .int .i64 k ∧ NewBox wx ((wo.heap.size)) [.int .i64 x.num, .int .i64 (s : Int), .string x.root, .int .i64 x.taken, .string x.troot] ∧ NewBox wx ((w2.heap.size)) [.int .i64 width, .slice E ne ce, .slice R nr cr, .slice H nh ch, .int .i64 h.size, .slice A1 m1 c1, .int .i64 h.taken, .slice A2 m2 c2, .int .i64 h.num, .int .i64 h.size, .string h.root, .int .i64 h.taken, .string h.troot] ∧ BrkK wx 0 wx.heap.size ⟨E, R, H, A1, A2, ce, cr, ch, c1, c2⟩ ⟨width, es, rs, hs⟩ ∧ Rd wx 0 wx.heap.size T (strs (leavesM width es)) ∧ Below w.heap.size w wx) (fun kk _ _ _ _ _ _ _ _ _ => ne - (intOf kk).toNat)
    case atStart => exact ⟨0, Nat.zero_le _, rfl, HXx.out, HXb.out, HOK.out.base, HOT.out.base, HB.out⟩
    case round =>
     obtain ⟨wi, rfl⟩ : ∃ wi : World, wi = wr := ⟨_, rfl⟩
     obtain ⟨k, hk, rfl, hbh, hbx, hrk, hrt, hbl⟩ := hrel
     replace HB : Hid (Below w.heap.size w wi) := lH hbl
     replace HXx : Hid (NewBox wi (wo.heap.size) [.int .i64 x.num, .int .i64 (s : Int), .string x.root, .int .i64 x.taken, .string x.troot]) := lH hbh
     clear hxx hfx hkx
     obtain ⟨hkx, hxx, hfx⟩ := HXx.out
     replace HXb : Hid (NewBox wi (w2.heap.size) [.int .i64 width, .slice E ne ce, .slice R nr cr, .slice H nh ch, .int .i64 h.size, .slice A1 m1 c1, .int .i64 h.taken, .slice A2 m2 c2, .int .i64 h.num, .int .i64 h.size, .string h.root, .int .i64 h.taken, .string h.troot]) := lH hbx
     clear hxb hfb hkb
     obtain ⟨hkb, hxb, hfb⟩ := HXb.out
     replace HOK : Hid (BrkK wi (0) (wi.heap.size) (⟨E, R, H, A1, A2, ce, cr, ch, c1, c2⟩) (⟨width, es, rs, hs⟩)) := lH hrk
     replace HOT : Hid (Rd wi (0) (wi.heap.size) (T) (strs (leavesM width es))) := lH hrt
     have hzz_wi : w.heap.size ≤ wi.heap.size := HB.out.size
     clear hbh hbx hrk hrt hbl
     by_cases hlt2 : k < ne
     ·have hI2 : (k : Int) < ne := by omega
      obtain ⟨b3, of3, y, hEe, hb3, hys, hcs⟩ := ent_cells HOK.out.rE (k := k) (by show k < es.length; rw [HNE.out]; exact hlt2)
      have d0' := hcs.1
      have d1' := hcs.2.1
      have d2' := hcs.2.2.1
      have d3' := hcs.2.2.2.1
      have d4' := hcs.2.2.2.2
      have hix := idxEnt E b3 of3 ne ce k hEe hlt2
      have HLP2 := HLP.out k s
      have HFE2 := HFE.out y.topic y.index s
      rw [leaf_at HPK.out.log hys] at HFE2
      have hql : (lfL width es hs k s).length ≤ 512 := lfL_len (hp := HPK.out)
      clear hcs hEe
      by_cases hks : k < s
      ·have hI3 : ¬ (s : Int) ≤ k := by omega
       obtain ⟨a1, a2, a3, a4⟩ := HYE.out k hks y hys
       have hyf := HFX.out y (List.mem_of_getElem? hys)
       have hlf : (leavesM width es)[k]? = some (leafHashM width y) := by rw [leavesM, List.getElem?_map, hys]; rfl
       have HLF := lH hlf
       rw [feZ, if_pos a1] at HFE2
       rw [a1, a2] at HLP2 HFE2
       generalize lfL width es hs k s = prf at *
       obtain ⟨q, hq⟩ : ∃ q, prf.length = q := ⟨_, rfl⟩
       rw [hq] at hql
       replace HLP2 := lH (show ∀ W, BrkK W 0 W.heap.size ⟨E, R, H, A1, A2, ce, cr, ch, c1, c2⟩ ⟨width, es, rs, hs⟩ → Calls Tryz.prog 19 #[.agg #[.int .i64 width, .slice E ne ce, .slice R nr cr, .slice H nh ch, .int .i64 h.size, .slice A1 m1 c1, .int .i64 h.taken, .slice A2 m2 c2, .int .i64 h.num, .int .i64 h.size, .string h.root, .int .i64 h.taken, .string h.troot], .int .i64 k, .int .i64 s] W (fun e w' => ∃ A c, e = .returned (.tuple #[.agg #[.string y.topic, .int .i64 y.index, .int .i64 y.time, .string y.key, .string y.body], .slice A q c, .int .i64 0]) ∧ (q ≤ c ∧ Own w' W.heap.size w'.heap.size A (strs prf)) ∧ Below W.heap.size W w') from
        fun W rr => (HLP2 W rr).mono fun e w' ⟨⟨A, c, h1, h2, h3⟩, h4⟩ => ⟨A, c, by rw [← hq]; exact h1, ⟨by rw [← hq]; exact h2, h3⟩, h4⟩)
       replace HFE2 := lH (show ∀ W, BrkK W 0 W.heap.size ⟨E, R, H, A1, A2, ce, cr, ch, c1, c2⟩ ⟨width, es, rs, hs⟩ → Calls Tryz.prog 20 #[.agg #[.int .i64 width, .slice E ne ce, .slice R nr cr, .slice H nh ch, .int .i64 h.size, .slice A1 m1 c1, .int .i64 h.taken, .slice A2 m2 c2, .int .i64 h.num, .int .i64 h.size, .string h.root, .int .i64 h.taken, .string h.troot], .string y.topic, .int .i64 y.index, .int .i64 s] W (fun e w' => ∃ A c, e = .returned (.tuple #[.agg #[.string y.topic, .int .i64 y.index, .int .i64 y.time, .string y.key, .string y.body], .int .i64 k, .slice A q c, .int .i64 0]) ∧ (q ≤ c ∧ Own w' W.heap.size w'.heap.size A (strs prf)) ∧ Below W.heap.size W w') from
        fun W rr => (HFE2 W rr).mono fun e w' ⟨⟨A, c, h1, h2, h3⟩, h4⟩ => ⟨A, c, by rw [← hq]; exact h1, ⟨by rw [← hq]; exact h2, h3⟩, h4⟩)
       have HYF := lH hyf
       have HA3 := lH a3
       have HA4 := lH a4
       have HQ := lH hq
       clear a1 a2 a3 a4 hys hyf hlf hq
       go_wp2_with fail
       refine calls_named (fun w8 hw => ?_)
       have hz8 : wi.heap.size + 1 ≤ w8.heap.size := by rw [hw]; first | omega | simp [World.setCell] <;> omega
       have hzz8 : w.heap.size ≤ w8.heap.size := by omega
       have hbn : Below wi.heap.size wi w8 := by rw [hw]; exact (by repeat with_reducible first | exact bR _ | apply bA | apply bD)
       replace HB := lH (below_then HB.out hbn HB.out.size)
       replace HOK := lH (HOK.out.below hbn)
       replace HOT := lH (HOT.out.below hbn)
       replace HXb := lH (HXb.out.below hbn)
       clear hxb hfb hkb
       obtain ⟨hkb, hxb, hfb⟩ := HXb.out
       replace HXx := lH (HXx.out.below hbn)
       clear hxx hfx hkx
       obtain ⟨hkx, hxx, hfx⟩ := HXx.out
       clear hbn
       have HXe : Hid (NewBox w8 (wi.heap.size) [.string y.topic, .int .i64 y.index, .int .i64 y.time, .string y.key, .string y.body]) := by rw [Hid, hw]; exact ⟨by first | omega | (simp [World.setCell]; done) | (simp [World.setCell]; omega), fun o => by rcases o with _ | _ | _ | _ | _ | o <;> go_simp, fun o => by go_simp⟩
       obtain ⟨hke, hxe, hfe⟩ := HXe.out
       clear hw
       refine (HLP2.out _ HOK.out.base).mono ?_
       rintro e w9 ⟨A3, c3, rfl, ⟨k3, o3⟩, hb⟩
       have hzw9 : w8.heap.size ≤ w9.heap.size := hb.size
       have hzzw9 : w.heap.size ≤ w9.heap.size := by omega
       replace HB := lH (below_then HB.out hb HB.out.size)
       replace HOK := lH (HOK.out.below hb)
       replace HOT := lH (HOT.out.below hb)
       replace HXb := lH (HXb.out.below hb)
       clear hxb hfb hkb
       obtain ⟨hkb, hxb, hfb⟩ := HXb.out
       replace HXx := lH (HXx.out.below hb)
       clear hxx hfx hkx
       obtain ⟨hkx, hxx, hfx⟩ := HXx.out
       replace HXe := lH (HXe.out.below hb)
       clear hxe hfe hke
       obtain ⟨hke, hxe, hfe⟩ := HXe.out
       clear hb
       clear d0' d1' d2' d3' d4' hix hb3 HLP2
       have HOP : Hid (Rd w9 (w8.heap.size) (w9.heap.size) (A3) (strs prf)) := lH o3.rd
       clear o3
       go_wp2_with fail
       refine calls_named (fun w10 hw => ?_)
       have hz10 : w9.heap.size + 1 ≤ w10.heap.size := by rw [hw]; first | omega | simp [World.setCell] <;> omega
       have hzz10 : w.heap.size ≤ w10.heap.size := by omega
       have hbn : Below w9.heap.size w9 w10 := by rw [hw]; exact (by repeat with_reducible first | exact bR _ | apply bA | apply bD)
       replace HB := lH (below_then HB.out hbn HB.out.size)
       replace HOK := lH (HOK.out.below hbn)
       replace HOT := lH (HOT.out.below hbn)
       replace HOP := lH (HOP.out.below hbn)
       replace HXb := lH (HXb.out.below hbn)
       clear hxb hfb hkb
       obtain ⟨hkb, hxb, hfb⟩ := HXb.out
       replace HXx := lH (HXx.out.below hbn)
       clear hxx hfx hkx
       obtain ⟨hkx, hxx, hfx⟩ := HXx.out
       replace HXe := lH (HXe.out.below hbn)
       clear hxe hfe hke
       obtain ⟨hke, hxe, hfe⟩ := HXe.out
       clear hbn
       have HXu : Hid (NewBox w10 (w9.heap.size) [.string y.topic, .int .i64 y.index, .int .i64 y.time, .string y.key, .string y.body]) := by rw [Hid, hw]; exact ⟨by first | omega | (simp [World.setCell]; done) | (simp [World.setCell]; omega), fun o => by rcases o with _ | _ | _ | _ | _ | o <;> go_simp, fun o => by go_simp⟩
       obtain ⟨hku, hxu, hfu⟩ := HXu.out
       clear hw
       refine (HFE2.out _ HOK.out.base).mono ?_
       rintro e w11 ⟨A4, c4, rfl, ⟨k4, o4⟩, hb⟩
       have hzw11 : w10.heap.size ≤ w11.heap.size := hb.size
       have hzzw11 : w.heap.size ≤ w11.heap.size := by omega
       replace HB := lH (below_then HB.out hb HB.out.size)
       replace HOK := lH (HOK.out.below hb)
       replace HOT := lH (HOT.out.below hb)
       replace HOP := lH (HOP.out.below hb)
       replace HXb := lH (HXb.out.below hb)
       clear hxb hfb hkb
       obtain ⟨hkb, hxb, hfb⟩ := HXb.out
       replace HXx := lH (HXx.out.below hb)
       clear hxx hfx hkx
       obtain ⟨hkx, hxx, hfx⟩ := HXx.out
       replace HXe := lH (HXe.out.below hb)
       clear hxe hfe hke
       obtain ⟨hke, hxe, hfe⟩ := HXe.out
       replace HXu := lH (HXu.out.below hb)
       clear hxu hfu hku
       obtain ⟨hku, hxu, hfu⟩ := HXu.out
       clear hb
       have HOM : Hid (Rd w11 (w10.heap.size) (w11.heap.size) (A4) (strs prf)) := lH o4.rd
       clear o4 HFE2
       go_upto_region 18 with fail
       refine wp_named (fun w12 hw => ?_)
       have hz12 : w11.heap.size + 1 ≤ w12.heap.size := by rw [hw]; first | omega | simp [World.setCell] <;> omega
       have hzz12 : w.heap.size ≤ w12.heap.size := by omega
       have hbn : Below w11.heap.size w11 w12 := by rw [hw]; exact (by repeat with_reducible first | exact bR _ | apply bA | apply bD)
       replace HB := lH (below_then HB.out hbn HB.out.size)
       replace HOK := lH (HOK.out.below hbn)
       replace HOT := lH (HOT.out.below hbn)
       replace HOP := lH (HOP.out.below hbn)
       replace HOM := lH (HOM.out.below hbn)
       replace HXb := lH (HXb.out.below hbn)
       clear hxb hfb hkb
       obtain ⟨hkb, hxb, hfb⟩ := HXb.out
       replace HXx := lH (HXx.out.below hbn)
       clear hxx hfx hkx
       obtain ⟨hkx, hxx, hfx⟩ := HXx.out
       replace HXe := lH (HXe.out.below hbn)
       clear hxe hfe hke
       obtain ⟨hke, hxe, hfe⟩ := HXe.out
       replace HXu := lH (HXu.out.below hbn)
       clear hxu hfu hku
       obtain ⟨hku, hxu, hfu⟩ := HXu.out
       clear hbn
       have HXv : Hid (NewBox w12 (w11.heap.size) [.string y.topic, .int .i64 y.index, .int .i64 y.time, .string y.key, .string y.body]) := by rw [Hid, hw]; exact ⟨by first | omega | (simp [World.setCell]; done) | (simp [World.setCell]; omega), fun o => by rcases o with _ | _ | _ | _ | _ | o <;> go_simp, fun o => by go_simp⟩
       obtain ⟨hkv, hxv, hfv⟩ := HXv.out
       clear hw
       obtain ⟨b4, of4, hTe⟩ := HOT.out.where_ (k := k) (by rw [leavesM_len, HNE.out]; omega)
       have hit := idxStrT T b4 of4 ne ct k hTe (by omega)
       have tc0 := HOT.out.strEq hTe HLF.out
       have tc : ∀ v : Later w12, v.v.cell? ⟨b4, of4 + k, none⟩ = some (.string (leafHashM width y)) := fun v => (later_cell v _ _ tc0.1).trans tc0.2
       have HSA := lH (fun v : Later w12 => sameTexts_c A3 A4 c3 c4 0 v.v.heap.size 0 v.v.heap.size q prf v.v (HOP.out.below v.h).base (HOM.out.below v.h).base HQ.out (by omega))
       have HCK2 := lH (fun v : Later w12 => implCheckInT_c width s k x.root (leafHashM width y) A3 c3 0 v.v.heap.size q prf v.v (HOP.out.below v.h).base HQ.out (by omega) k3 HA3.out HA4.out)
       have heq := neqEnt y HYF.out
       have e1 : ((k : Int) != (k : Int)) = false := by simp
       have t0 : ∀ v : Later w12, v.v.cell? ⟨(w2.heap.size), 0, none⟩ = some (.int .i64 width) := fun v => (later_cell v _ _ hkb).trans (hxb 0)
       have t1 : ∀ v : Later w12, v.v.cell? ⟨(wo.heap.size), 2, none⟩ = some (.string x.root) := fun v => (later_cell v _ _ hkx).trans (hxx 2)
       have t2 : ∀ v : Later w12, v.v.cell? ⟨(wo.heap.size), 1, none⟩ = some (.int .i64 (s : Int)) := fun v => (later_cell v _ _ hkx).trans (hxx 1)
       have p0 : ∀ v : Later w12, v.v.cell? ⟨(wi.heap.size), 0, none⟩ = some (.string y.topic) := fun v => (later_cell v _ _ hke).trans (hxe 0)
       have p1 : ∀ v : Later w12, v.v.cell? ⟨(wi.heap.size), 1, none⟩ = some (.int .i64 y.index) := fun v => (later_cell v _ _ hke).trans (hxe 1)
       have p2 : ∀ v : Later w12, v.v.cell? ⟨(wi.heap.size), 2, none⟩ = some (.int .i64 y.time) := fun v => (later_cell v _ _ hke).trans (hxe 2)
       have p3 : ∀ v : Later w12, v.v.cell? ⟨(wi.heap.size), 3, none⟩ = some (.string y.key) := fun v => (later_cell v _ _ hke).trans (hxe 3)
       have p4 : ∀ v : Later w12, v.v.cell? ⟨(wi.heap.size), 4, none⟩ = some (.string y.body) := fun v => (later_cell v _ _ hke).trans (hxe 4)
       have m0 : ∀ v : Later w12, v.v.cell? ⟨(w9.heap.size), 0, none⟩ = some (.string y.topic) := fun v => (later_cell v _ _ hku).trans (hxu 0)
       have m1 : ∀ v : Later w12, v.v.cell? ⟨(w9.heap.size), 1, none⟩ = some (.int .i64 y.index) := fun v => (later_cell v _ _ hku).trans (hxu 1)
       have m2 : ∀ v : Later w12, v.v.cell? ⟨(w9.heap.size), 2, none⟩ = some (.int .i64 y.time) := fun v => (later_cell v _ _ hku).trans (hxu 2)
       have m3 : ∀ v : Later w12, v.v.cell? ⟨(w9.heap.size), 3, none⟩ = some (.string y.key) := fun v => (later_cell v _ _ hku).trans (hxu 3)
       have m4 : ∀ v : Later w12, v.v.cell? ⟨(w9.heap.size), 4, none⟩ = some (.string y.body) := fun v => (later_cell v _ _ hku).trans (hxu 4)
       have r0 : ∀ v : Later w12, v.v.cell? ⟨(w11.heap.size), 0, none⟩ = some (.string y.topic) := fun v => (later_cell v _ _ hkv).trans (hxv 0)
       have r1 : ∀ v : Later w12, v.v.cell? ⟨(w11.heap.size), 1, none⟩ = some (.int .i64 y.index) := fun v => (later_cell v _ _ hkv).trans (hxv 1)
       have r2 : ∀ v : Later w12, v.v.cell? ⟨(w11.heap.size), 2, none⟩ = some (.int .i64 y.time) := fun v => (later_cell v _ _ hkv).trans (hxv 2)
       have r3 : ∀ v : Later w12, v.v.cell? ⟨(w11.heap.size), 3, none⟩ = some (.string y.key) := fun v => (later_cell v _ _ hkv).trans (hxv 3)
       have r4 : ∀ v : Later w12, v.v.cell? ⟨(w11.heap.size), 4, none⟩ = some (.string y.body) := fun v => (later_cell v _ _ hkv).trans (hxv 4)
       clear tc0 hTe
       refine wp_region_later (by kernel_rfl) (by kernel_rfl) ?_
       repeat (go_big_quiet_step ((first | with_reducible exact later_call (HSA.out _) | with_reducible exact later_call (HCK2.out _))))
       refine wpQuiet_nil ?_
       intro wB h9
       have hb9 := later_below h9
       have hzwB : w12.heap.size ≤ wB.heap.size := hb9.size
       have hzzwB : w.heap.size ≤ wB.heap.size := by omega
       replace HB := lH (below_then HB.out hb9 HB.out.size)
       replace HOK := lH (HOK.out.below hb9)
       replace HOT := lH (HOT.out.below hb9)
       replace HOP := lH (HOP.out.below hb9)
       replace HOM := lH (HOM.out.below hb9)
       replace HXb := lH (HXb.out.below hb9)
       clear hxb hfb hkb
       obtain ⟨hkb, hxb, hfb⟩ := HXb.out
       replace HXx := lH (HXx.out.below hb9)
       clear hxx hfx hkx
       obtain ⟨hkx, hxx, hfx⟩ := HXx.out
       replace HXe := lH (HXe.out.below hb9)
       clear hxe hfe hke
       obtain ⟨hke, hxe, hfe⟩ := HXe.out
       replace HXu := lH (HXu.out.below hb9)
       clear hxu hfu hku
       obtain ⟨hku, hxu, hfu⟩ := HXu.out
       replace HXv := lH (HXv.out.below hb9)
       clear hxv hfv hkv
       obtain ⟨hkv, hxv, hfv⟩ := HXv.out
       clear h9 hb9 e1 heq hit tc t0 t1 t2 p0 p1 p2 p3 p4 m0 m1 m2 m3 m4 r0 r1 r2 r3 r4 HSA HCK2 k3 k4
       clear HOP
       clear HOM
       clear hxe hfe hke HXe
       clear hxu hfu hku HXu
       clear hxv hfv hkv HXv
       go_wp2
       go_roundw
       case rel => exact ⟨k + 1, by omega, by go_num, HXx.out, HXb.out, HOK.out.base, HOT.out.base, HB.out⟩
       case measure => simp [intOf]; omega
      ·have hI3 : (s : Int) ≤ k := by omega
       obtain ⟨a1, a2, a3⟩ := HNO.out k (by omega)
       rw [feZ, if_neg (by rw [a1]; decide)] at HFE2
       rw [a1, a2, a3] at HLP2 HFE2
       replace HLP2 := lH HLP2
       replace HFE2 := lH HFE2
       clear a1 a2 a3 hys hql
       go_wp2_with fail
       refine calls_named (fun w8 hw => ?_)
       have hz8 : wi.heap.size + 1 ≤ w8.heap.size := by rw [hw]; first | omega | simp [World.setCell] <;> omega
       have hzz8 : w.heap.size ≤ w8.heap.size := by omega
       have hbn : Below wi.heap.size wi w8 := by rw [hw]; exact (by repeat with_reducible first | exact bR _ | apply bA | apply bD)
       replace HB := lH (below_then HB.out hbn HB.out.size)
       replace HOK := lH (HOK.out.below hbn)
       replace HOT := lH (HOT.out.below hbn)
       replace HXb := lH (HXb.out.below hbn)
       clear hxb hfb hkb
       obtain ⟨hkb, hxb, hfb⟩ := HXb.out
       replace HXx := lH (HXx.out.below hbn)
       clear hxx hfx hkx
       obtain ⟨hkx, hxx, hfx⟩ := HXx.out
       clear hbn
       have HXe : Hid (NewBox w8 (wi.heap.size) [.string y.topic, .int .i64 y.index, .int .i64 y.time, .string y.key, .string y.body]) := by rw [Hid, hw]; exact ⟨by first | omega | (simp [World.setCell]; done) | (simp [World.setCell]; omega), fun o => by rcases o with _ | _ | _ | _ | _ | o <;> go_simp, fun o => by go_simp⟩
       obtain ⟨hke, hxe, hfe⟩ := HXe.out
       clear hw
       refine (HLP2.out _ HOK.out.base).mono ?_
       rintro e w9 ⟨⟨A3, c3, rfl, k3, o3⟩, hb⟩
       have hzw9 : w8.heap.size ≤ w9.heap.size := hb.size
       have hzzw9 : w.heap.size ≤ w9.heap.size := by omega
       replace HB := lH (below_then HB.out hb HB.out.size)
       replace HOK := lH (HOK.out.below hb)
       replace HOT := lH (HOT.out.below hb)
       replace HXb := lH (HXb.out.below hb)
       clear hxb hfb hkb
       obtain ⟨hkb, hxb, hfb⟩ := HXb.out
       replace HXx := lH (HXx.out.below hb)
       clear hxx hfx hkx
       obtain ⟨hkx, hxx, hfx⟩ := HXx.out
       replace HXe := lH (HXe.out.below hb)
       clear hxe hfe hke
       obtain ⟨hke, hxe, hfe⟩ := HXe.out
       clear hb
       clear d0' d1' d2' d3' d4' hix hb3 HLP2 k3 o3
       go_wp2_with fail
       refine calls_named (fun w10 hw => ?_)
       have hz10 : w9.heap.size + 1 ≤ w10.heap.size := by rw [hw]; first | omega | simp [World.setCell] <;> omega
       have hzz10 : w.heap.size ≤ w10.heap.size := by omega
       have hbn : Below w9.heap.size w9 w10 := by rw [hw]; exact (by repeat with_reducible first | exact bR _ | apply bA | apply bD)
       replace HB := lH (below_then HB.out hbn HB.out.size)
       replace HOK := lH (HOK.out.below hbn)
       replace HOT := lH (HOT.out.below hbn)
       replace HXb := lH (HXb.out.below hbn)
       clear hxb hfb hkb
       obtain ⟨hkb, hxb, hfb⟩ := HXb.out
       replace HXx := lH (HXx.out.below hbn)
       clear hxx hfx hkx
       obtain ⟨hkx, hxx, hfx⟩ := HXx.out
       replace HXe := lH (HXe.out.below hbn)
       clear hxe hfe hke
       obtain ⟨hke, hxe, hfe⟩ := HXe.out
       clear hbn
       have HXu : Hid (NewBox w10 (w9.heap.size) [.string noEnt.topic, .int .i64 noEnt.index, .int .i64 noEnt.time, .string noEnt.key, .string noEnt.body]) := by rw [Hid, hw]; exact ⟨by first | omega | (simp [World.setCell]; done) | (simp [World.setCell]; omega), fun o => by rcases o with _ | _ | _ | _ | _ | o <;> go_simp, fun o => by go_simp⟩
       obtain ⟨hku, hxu, hfu⟩ := HXu.out
       clear hw
       refine (HFE2.out _ HOK.out.base).mono ?_
       rintro e w11 ⟨⟨A4, c4, rfl, k4, o4⟩, hb⟩
       have hzw11 : w10.heap.size ≤ w11.heap.size := hb.size
       have hzzw11 : w.heap.size ≤ w11.heap.size := by omega
       replace HB := lH (below_then HB.out hb HB.out.size)
       replace HOK := lH (HOK.out.below hb)
       replace HOT := lH (HOT.out.below hb)
       replace HXb := lH (HXb.out.below hb)
       clear hxb hfb hkb
       obtain ⟨hkb, hxb, hfb⟩ := HXb.out
       replace HXx := lH (HXx.out.below hb)
       clear hxx hfx hkx
       obtain ⟨hkx, hxx, hfx⟩ := HXx.out
       replace HXe := lH (HXe.out.below hb)
       clear hxe hfe hke
       obtain ⟨hke, hxe, hfe⟩ := HXe.out
       replace HXu := lH (HXu.out.below hb)
       clear hxu hfu hku
       obtain ⟨hku, hxu, hfu⟩ := HXu.out
       clear hb
       clear o4 k4 HFE2
       go_upto_region 15 with fail
       refine wp_named (fun w12 hw => ?_)
       have hz12 : w11.heap.size + 1 ≤ w12.heap.size := by rw [hw]; first | omega | simp [World.setCell] <;> omega
       have hzz12 : w.heap.size ≤ w12.heap.size := by omega
       have hbn : Below w11.heap.size w11 w12 := by rw [hw]; exact (by repeat with_reducible first | exact bR _ | apply bA | apply bD)
       replace HB := lH (below_then HB.out hbn HB.out.size)
       replace HOK := lH (HOK.out.below hbn)
       replace HOT := lH (HOT.out.below hbn)
       replace HXb := lH (HXb.out.below hbn)
       clear hxb hfb hkb
       obtain ⟨hkb, hxb, hfb⟩ := HXb.out
       replace HXx := lH (HXx.out.below hbn)
       clear hxx hfx hkx
       obtain ⟨hkx, hxx, hfx⟩ := HXx.out
       replace HXe := lH (HXe.out.below hbn)
       clear hxe hfe hke
       obtain ⟨hke, hxe, hfe⟩ := HXe.out
       replace HXu := lH (HXu.out.below hbn)
       clear hxu hfu hku
       obtain ⟨hku, hxu, hfu⟩ := HXu.out
       clear hbn
       have HXv : Hid (NewBox w12 (w11.heap.size) [.string noEnt.topic, .int .i64 noEnt.index, .int .i64 noEnt.time, .string noEnt.key, .string noEnt.body]) := by rw [Hid, hw]; exact ⟨by first | omega | (simp [World.setCell]; done) | (simp [World.setCell]; omega), fun o => by rcases o with _ | _ | _ | _ | _ | o <;> go_simp, fun o => by go_simp⟩
       obtain ⟨hkv, hxv, hfv⟩ := HXv.out
       clear hw
       clear hxe hfe hke HXe
       clear hxu hfu hku HXu
       clear hxv hfv hkv HXv
       go_wp2
       go_roundw
       case rel => exact ⟨k + 1, by omega, by go_num, HXx.out, HXb.out, HOK.out.base, HOT.out.base, HB.out⟩
       case measure => simp [intOf]; omega
     ·have hI2 : ¬ (k : Int) < ne := by omega
      go_wp2
      go_roundw
      case rel => exact ⟨j + 1, by omega, by go_num, HXb.out, HOK.out.base, HOT.out.base, HB.out⟩
      case measure => simp [intOf]; omega
   ·obtain rfl : nh = j := by omega
    have hI : ¬ (nh : Int) < nh := by omega
    have hp2 : decide ((0 : Int) < (nh : Int)) = true := decide_eq_true (by omega)
    go_wp2
    go_ret
    exact ⟨rfl, HB.out⟩
end
end Go.Proofs.YtoccjgcokffkbaaGreat
