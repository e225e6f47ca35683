/- Part 31 of the proof of FnLater: lemmas and contracts. -/
import Derived.Test.YtoccjgcokffkbaaGreatTl27
import Derived.Test.YtoccjgcokffkbaaGreatTl30
import Derived.Deep.DeepCutAuto
namespace Go.Proofs.YtoccjgcokffkbaaGreat
set_option linter.unusedVariables false
set_option linter.unusedSimpArgs false
set_option maxHeartbeats 20000000
section
open Go.RowKit
theorem neqHdT (a : Hd) (ha : a.fits) (W : World) : (binOp .neq 33 (.agg #[.int .i64 a.num, .int .i64 a.size, .string a.root, .int .i64 a.taken, .string a.troot]) (.agg #[.int .i64 a.num, .int .i64 a.size, .string a.root, .int .i64 a.taken, .string a.troot])).run Tryz.prog W = .ok (.bool false) W := by
 have h := neqHd a a ha ha W
 rw [decide_eq_true rfl] at h
 exact h
set_option maxRecDepth 100000 in
theorem walk_FnLater (n g : Nat) (B : Option Addr) (l0 : List Int) (w : World) (hr : Rd w 0 w.heap.size B (bys l0)) (hl : l0.length = n) (hng : n ≤ g) (hn : n ≤ maxLen) (hb : ∀ x ∈ l0, 0 ≤ x ∧ x ≤ 255) :
  Calls Tryz.prog 4 #[.slice B n g] w fun e w' => e = .returned (.bool true) ∧ Below w.heap.size w w' := by
 by_cases h20 : 1048576 < n
 ·have hd : decide (1048576 < n) = true := decide_eq_true h20
  go_enter Tryz.func4, Tryz.ntmps4
  go_wp2_with fail
  refine (big_c n g B _ hn).mono ?_
  rintro e w1 ⟨rfl, rfl⟩
  rw [hd]
  go_wp2
  go_ret
  exact ⟨rfl, Below.refl _ _⟩
 ·have hd : decide (1048576 < n) = false := decide_eq_false h20
  have HDA := lH (fun W (r : Rd W 0 W.heap.size B (bys l0)) => DrawRightP_c n g B l0 W r hl (by omega) hb)
  have HB : Hid (Below w.heap.size w w) := Below.refl _ _
  have HOQ : Hid (Rd w (0) (w.heap.size) (B) (bys l0)) := Rd.base hr
  clear hr hl hb hng
  go_enter Tryz.func4, Tryz.ntmps4
  go_wp2_with fail
  refine (big_c n g B _ hn).mono ?_
  rintro e w0_ ⟨rfl, rfl⟩
  rw [hd]
  clear hd hn
  go_wp2_with fail
  refine calls_named (fun w1 hw => ?_)
  have hz1 : w.heap.size + 0 ≤ w1.heap.size := by rw [hw]; first | omega | simp [World.setCell] <;> omega
  have hbn : Below w.heap.size w w1 := by rw [hw]; exact (by repeat with_reducible first | exact bR _ | apply bA | apply bD)
  replace HB := lH (below_then HB.out hbn HB.out.size)
  replace HOQ := lH (HOQ.out.below hbn)
  clear hbn
  clear hw
  refine (HDA.out _ HOQ.out.base).mono ?_
  rintro e w2 ⟨width, E, R, H, A1, A2, ne, nr, nh, ce, cr, ch, c1, c2, m1, m2, es, rs, hs, l1, l2, h, rfl, ⟨hbk, hne, hnr, hnh, hl1, hl2, hm1, hm2, hh, h24⟩, hb⟩
  have hzw2 : w1.heap.size ≤ w2.heap.size := hb.size
  have hzzw2 : w.heap.size ≤ w2.heap.size := by omega
  replace HB := lH (below_then HB.out hb HB.out.size)
  replace HOQ := lH (HOQ.out.below hb)
  clear hb
  have HOK : Hid (BrkK w2 (w1.heap.size) (w2.heap.size) (⟨E, R, H, A1, A2, ce, cr, ch, c1, c2⟩) (⟨width, es, rs, hs⟩)) := lH hbk
  have hok : BrkParts width es rs hs := hbk.ok
  have HHF := lH (fun (x : Hd) (i : Nat) (hx : hs[i]? = some x) W (rr : BrkK W 0 W.heap.size ⟨E, R, H, A1, A2, ce, cr, ch, c1, c2⟩ ⟨width, es, rs, hs⟩) => headFromB_c width E R H A1 A2 ne nr nh ce cr ch c1 c2 m1 m2 es rs hs l1 l2 h x i hx W rr hne hnr hnh hl1 hl2 hm1 hm2 hh)
  have HBT := lH (fun (x y : Hd) (i k : Nat) (hx : hs[i]? = some x) (hy : hs[k]? = some y) (hik : i ≤ k) W (rr : BrkK W 0 W.heap.size ⟨E, R, H, A1, A2, ce, cr, ch, c1, c2⟩ ⟨width, es, rs, hs⟩) => betweenB_c width E R H A1 A2 ne nr nh ce cr ch c1 c2 m1 m2 es rs hs l1 l2 h x y i k hx hy hik W rr hne hnr hnh hl1 hl2 hm1 hm2 hh)
  obtain ⟨f1, f2, f3, g1, g2, g3, g4, f4, g5, g6, g7⟩ := parts_fits hok
  rw [hnh] at g3
  rw [hh] at f4
  have hpos : 0 < nh := by rw [← hnh]; exact hok.pos
  have HLA := fun W (rr : BrkK W 0 W.heap.size ⟨E, R, H, A1, A2, ce, cr, ch, c1, c2⟩ ⟨width, es, rs, hs⟩) => lawLast_c width h.size h.taken E R H A1 A2 ne nr nh ce cr ch c1 c2 0 W.heap.size m1 m2 hs h W rr.rH hnh hpos (by omega)
  have HOKT : Hid (∀ (i k : Nat) (x y : Hd), hs[i]? = some x → hs[k]? = some y → i ≤ k → ckBe width x.size x.root y.size y.root (btL1 width es h x.size y.size x.taken y.taken) = true ∧ ckBe width x.taken x.troot y.taken y.troot (btL2 width rs h x.size y.size x.taken y.taken) = true ∧ (btL1 width es h x.size y.size x.taken y.taken).length ≤ 512 ∧ (btL2 width rs h x.size y.size x.taken y.taken).length ≤ 512) := lH (fun i k x y hx hy hik => by
   have q := btw_ok hok hx hy hik
   rw [hh] at q
   exact q.2.2)
  have HLAT : Hid (hs[nh - 1]? = some h) := lH (by rw [← hh, ← hnh]; exact lastHd_get hok.pos)
  rw [hh] at HLA
  replace HLA := lH HLA
  have HNH := lH hnh
  have HF4 := lH f4
  clear hbk HDA hl1 hl2 hm1 hm2 hh hne hnr hok f1 f2 f3 f4 g1 g2 g4 g5 g6 g7 hnh
  clear HOQ
  go_wp2_with fail
  refine calls_named (fun w3 hw => ?_)
  have hz3 : w2.heap.size + 1 ≤ w3.heap.size := by rw [hw]; first | omega | simp [World.setCell] <;> omega
  have hzz3 : w.heap.size ≤ w3.heap.size := by omega
  have hbn : Below w2.heap.size w2 w3 := by rw [hw]; exact (by repeat with_reducible first | exact bR _ | apply bA | apply bD)
  replace HB := lH (below_then HB.out hbn HB.out.size)
  replace HOK := lH (HOK.out.below hbn)
  clear hbn
  have HXb : Hid (NewBox w3 (w2.heap.size) [.int .i64 width, .slice E ne ce, .slice R nr cr, .slice H nh ch, .int .i64 h.size, .slice A1 m1 c1, .int .i64 h.taken, .slice A2 m2 c2, .int .i64 h.num, .int .i64 h.size, .string h.root, .int .i64 h.taken, .string h.troot]) := by rw [Hid, hw]; exact ⟨by first | omega | (simp [World.setCell]; done) | (simp [World.setCell]; omega), fun o => by rcases o with _ | _ | _ | _ | _ | _ | _ | _ | _ | _ | _ | _ | _ | o <;> go_simp, fun o => by go_simp⟩
  obtain ⟨hkb, hxb, hfb⟩ := HXb.out
  clear hw
  refine (HLA.out _ HOK.out.base).mono ?_
  rintro e w4 ⟨rfl, hb⟩
  have hzw4 : w3.heap.size ≤ w4.heap.size := hb.size
  have hzzw4 : w.heap.size ≤ w4.heap.size := by omega
  replace HB := lH (below_then HB.out hb HB.out.size)
  replace HOK := lH (HOK.out.below hb)
  replace HXb := lH (HXb.out.below hb)
  clear hxb hfb hkb
  obtain ⟨hkb, hxb, hfb⟩ := HXb.out
  clear hb
  clear HLA
  go_wp2
  refine wp_named (fun w5 hw => ?_)
  have hz5 : w4.heap.size + 1 ≤ w5.heap.size := by rw [hw]; first | omega | simp [World.setCell] <;> omega
  have hzz5 : w.heap.size ≤ w5.heap.size := by omega
  have hbn : Below w4.heap.size w4 w5 := by rw [hw]; exact (by repeat with_reducible first | exact bR _ | apply bA | apply bD)
  replace HB := lH (below_then HB.out hbn HB.out.size)
  replace HOK := lH (HOK.out.below hbn)
  replace HXb := lH (HXb.out.below hbn)
  clear hxb hfb hkb
  obtain ⟨hkb, hxb, hfb⟩ := HXb.out
  clear hbn
  have HXz : Hid (NewBox w5 (w4.heap.size) [.int .i64 h.num, .int .i64 h.size, .string h.root, .int .i64 h.taken, .string h.troot]) := by rw [Hid, hw]; exact ⟨by first | omega | (simp [World.setCell]; done) | (simp [World.setCell]; omega), fun o => by rcases o with _ | _ | _ | _ | _ | o <;> go_simp, fun o => by go_simp⟩
  obtain ⟨hkz, hxz, hfz⟩ := HXz.out
  clear hw
  go_loopw [5, 6, 7, 8, 9, 10, 11, 12, 13, 14, 15] (fun i _ _ _ _ _ _ _ _ _ _ wx => ∃ j : Nat, j ≤ nh ∧ i = .int .i64 j ∧ NewBox wx ((w2.heap.size)) [.int .i64 width, .slice E ne ce, .slice R nr cr, .slice H nh ch, .int .i64 h.size, .slice A1 m1 c1, .int .i64 h.taken, .slice A2 m2 c2, .int .i64 h.num, .int .i64 h.size, .string h.root, .int .i64 h.taken, .string h.troot] ∧ NewBox wx ((w4.heap.size)) [.int .i64 h.num, .int .i64 h.size, .string h.root, .int .i64 h.taken, .string h.troot] ∧ BrkK wx 0 wx.heap.size ⟨E, R, H, A1, A2, ce, cr, ch, c1, c2⟩ ⟨width, es, rs, hs⟩ ∧ Below w.heap.size w wx) (fun i _ _ _ _ _ _ _ _ _ _ _ => nh - (intOf i).toNat)
  case atStart => exact ⟨0, Nat.zero_le _, rfl, HXb.out, HXz.out, HOK.out.base, HB.out⟩
  case round =>
   obtain ⟨wo, rfl⟩ : ∃ wo : World, wo = wr := ⟨_, rfl⟩
   obtain ⟨j, hj, rfl, hbx, hbz, hrk, hbl⟩ := hrel
   replace HB : Hid (Below w.heap.size w wo) := lH hbl
   replace HXb : Hid (NewBox wo (w2.heap.size) [.int .i64 width, .slice E ne ce, .slice R nr cr, .slice H nh ch, .int .i64 h.size, .slice A1 m1 c1, .int .i64 h.taken, .slice A2 m2 c2, .int .i64 h.num, .int .i64 h.size, .string h.root, .int .i64 h.taken, .string h.troot]) := lH hbx
   clear hxb hfb hkb
   obtain ⟨hkb, hxb, hfb⟩ := HXb.out
   replace HXz : Hid (NewBox wo (w4.heap.size) [.int .i64 h.num, .int .i64 h.size, .string h.root, .int .i64 h.taken, .string h.troot]) := lH hbz
   clear hxz hfz hkz
   obtain ⟨hkz, hxz, hfz⟩ := HXz.out
   replace HOK : Hid (BrkK wo (0) (wo.heap.size) (⟨E, R, H, A1, A2, ce, cr, ch, c1, c2⟩) (⟨width, es, rs, hs⟩)) := lH hrk
   have hzz_wo : w.heap.size ≤ wo.heap.size := HB.out.size
   clear hbx hbz hrk hbl
   by_cases hlt : j < nh
   ·have hI : (j : Int) < nh := by omega
    obtain ⟨b2, off, x, hHe, hb2, hks, hcs⟩ := hd_cells HOK.out.rH (k := j) (by show j < hs.length; rw [HNH.out]; exact hlt)
    have c0' := hcs.1
    have c1' := hcs.2.1
    have c2' := hcs.2.2.1
    have c3' := hcs.2.2.2.1
    have c4' := hcs.2.2.2.2
    have hix := idxHd H b2 off nh ch j hHe hlt
    have HKS := lH hks
    have HHF2 := HHF.out x j hks
    obtain ⟨q1, q2, q3, q4⟩ := HOKT.out j (nh - 1) x h hks HLAT.out (by omega)
    clear hcs hHe hks
    generalize btL1 width es h x.size h.size x.taken h.taken = p1 at *
    generalize btL2 width rs h x.size h.size x.taken h.taken = p2 at *
    obtain ⟨n1, hn1⟩ : ∃ n, p1.length = n := ⟨_, rfl⟩
    obtain ⟨n2, hn2⟩ : ∃ n, p2.length = n := ⟨_, rfl⟩
    rw [hn1] at q3
    rw [hn2] at q4
    replace HHF2 := lH (show ∀ W, BrkK W 0 W.heap.size ⟨E, R, H, A1, A2, ce, cr, ch, c1, c2⟩ ⟨width, es, rs, hs⟩ → Calls Tryz.prog 15 #[.agg #[.int .i64 width, .slice E ne ce, .slice R nr cr, .slice H nh ch, .int .i64 h.size, .slice A1 m1 c1, .int .i64 h.taken, .slice A2 m2 c2, .int .i64 h.num, .int .i64 h.size, .string h.root, .int .i64 h.taken, .string h.troot], .int .i64 x.size, .int .i64 x.taken] W (fun e w' => ∃ A3 c3 A4 c4, e = .returned (.tuple #[.agg #[.int .i64 h.num, .int .i64 h.size, .string h.root, .int .i64 h.taken, .string h.troot], .slice A3 n1 c3, .slice A4 n2 c4, .int .i64 0]) ∧ (Own w' W.heap.size w'.heap.size A3 (strs p1) ∧ Own w' W.heap.size w'.heap.size A4 (strs p2) ∧ n1 ≤ c3 ∧ n2 ≤ c4) ∧ Below W.heap.size W w') by
     rw [← hn1, ← hn2]; exact HHF2)
    go_wp2_with fail
    refine calls_named (fun w6 hw => ?_)
    have hz6 : wo.heap.size + 1 ≤ w6.heap.size := by rw [hw]; first | omega | simp [World.setCell] <;> omega
    have hzz6 : w.heap.size ≤ w6.heap.size := by omega
    have hbn : Below wo.heap.size wo w6 := by rw [hw]; exact (by repeat with_reducible first | exact bR _ | apply bA | apply bD)
    replace HB := lH (below_then HB.out hbn HB.out.size)
    replace HOK := lH (HOK.out.below hbn)
    replace HXb := lH (HXb.out.below hbn)
    clear hxb hfb hkb
    obtain ⟨hkb, hxb, hfb⟩ := HXb.out
    replace HXz := lH (HXz.out.below hbn)
    clear hxz hfz hkz
    obtain ⟨hkz, hxz, hfz⟩ := HXz.out
    clear hbn
    have HXx : Hid (NewBox w6 (wo.heap.size) [.int .i64 x.num, .int .i64 x.size, .string x.root, .int .i64 x.taken, .string x.troot]) := by rw [Hid, hw]; exact ⟨by first | omega | (simp [World.setCell]; done) | (simp [World.setCell]; omega), fun o => by rcases o with _ | _ | _ | _ | _ | o <;> go_simp, fun o => by go_simp⟩
    obtain ⟨hkx, hxx, hfx⟩ := HXx.out
    clear hw
    refine (HHF2.out _ HOK.out.base).mono ?_
    rintro e w7 ⟨A3, c3, A4, c4, rfl, ⟨o1, o2, k1, k2⟩, hb⟩
    have hzw7 : w6.heap.size ≤ w7.heap.size := hb.size
    have hzzw7 : w.heap.size ≤ w7.heap.size := by omega
    replace HB := lH (below_then HB.out hb HB.out.size)
    replace HOK := lH (HOK.out.below hb)
    replace HXb := lH (HXb.out.below hb)
    clear hxb hfb hkb
    obtain ⟨hkb, hxb, hfb⟩ := HXb.out
    replace HXz := lH (HXz.out.below hb)
    clear hxz hfz hkz
    obtain ⟨hkz, hxz, hfz⟩ := HXz.out
    replace HXx := lH (HXx.out.below hb)
    clear hxx hfx hkx
    obtain ⟨hkx, hxx, hfx⟩ := HXx.out
    clear hb
    clear c0' c1' c2' c3' c4' hix hb2 HHF2
    have HOP : Hid (Rd w7 (w6.heap.size) (w7.heap.size) (A3) (strs p1)) := lH o1.rd
    have HOM : Hid (Rd w7 (w6.heap.size) (w7.heap.size) (A4) (strs p2)) := lH o2.rd
    clear o1 o2
    go_upto_region 10 with fail
    refine wp_named (fun w8 hw => ?_)
    have hz8 : w7.heap.size + 1 ≤ w8.heap.size := by rw [hw]; first | omega | simp [World.setCell] <;> omega
    have hzz8 : w.heap.size ≤ w8.heap.size := by omega
    have hbn : Below w7.heap.size w7 w8 := by rw [hw]; exact (by repeat with_reducible first | exact bR _ | apply bA | apply bD)
    replace HB := lH (below_then HB.out hbn HB.out.size)
    replace HOK := lH (HOK.out.below hbn)
    replace HOP := lH (HOP.out.below hbn)
    replace HOM := lH (HOM.out.below hbn)
    replace HXb := lH (HXb.out.below hbn)
    clear hxb hfb hkb
    obtain ⟨hkb, hxb, hfb⟩ := HXb.out
    replace HXz := lH (HXz.out.below hbn)
    clear hxz hfz hkz
    obtain ⟨hkz, hxz, hfz⟩ := HXz.out
    replace HXx := lH (HXx.out.below hbn)
    clear hxx hfx hkx
    obtain ⟨hkx, hxx, hfx⟩ := HXx.out
    clear hbn
    have HXy : Hid (NewBox w8 (w7.heap.size) [.int .i64 h.num, .int .i64 h.size, .string h.root, .int .i64 h.taken, .string h.troot]) := by rw [Hid, hw]; exact ⟨by first | omega | (simp [World.setCell]; done) | (simp [World.setCell]; omega), fun o => by rcases o with _ | _ | _ | _ | _ | o <;> go_simp, fun o => by go_simp⟩
    obtain ⟨hky, hxy, hfy⟩ := HXy.out
    clear hw
    have HC1 := lH (fun W (r : Rd W 0 W.heap.size A3 (strs p1)) => checkBetweenT_c width x.size x.root h.size h.root A3 c3 0 W.heap.size n1 p1 W r hn1 (by omega) k1 q1)
    have HC2 := lH (fun W (r : Rd W 0 W.heap.size A4 (strs p2)) => checkBetweenT_c width x.taken x.troot h.taken h.troot A4 c4 0 W.heap.size n2 p2 W r hn2 (by omega) k2 q2)
    have heq := neqHdT h HF4.out
    clear q1 q2 q3 q4 hn1 hn2 k1 k2
    go_wp2_with fail
    refine calls_named (fun w9 hw => ?_)
    have hz9 : w8.heap.size + 0 ≤ w9.heap.size := by rw [hw]; first | omega | simp [World.setCell] <;> omega
    have hzz9 : w.heap.size ≤ w9.heap.size := by omega
    have hbn : Below w8.heap.size w8 w9 := by rw [hw]; exact (by repeat with_reducible first | exact bR _ | apply bA | apply bD)
    replace HB := lH (below_then HB.out hbn HB.out.size)
    replace HOK := lH (HOK.out.below hbn)
    replace HOP := lH (HOP.out.below hbn)
    replace HOM := lH (HOM.out.below hbn)
    replace HXb := lH (HXb.out.below hbn)
    clear hxb hfb hkb
    obtain ⟨hkb, hxb, hfb⟩ := HXb.out
    replace HXz := lH (HXz.out.below hbn)
    clear hxz hfz hkz
    obtain ⟨hkz, hxz, hfz⟩ := HXz.out
    replace HXx := lH (HXx.out.below hbn)
    clear hxx hfx hkx
    obtain ⟨hkx, hxx, hfx⟩ := HXx.out
    replace HXy := lH (HXy.out.below hbn)
    clear hxy hfy hky
    obtain ⟨hky, hxy, hfy⟩ := HXy.out
    clear hbn
    clear hw
    refine (HC1.out _ HOP.out.base).mono ?_
    rintro e w10 ⟨rfl, hb⟩
    have hzw10 : w9.heap.size ≤ w10.heap.size := hb.size
    have hzzw10 : w.heap.size ≤ w10.heap.size := by omega
    replace HB := lH (below_then HB.out hb HB.out.size)
    replace HOK := lH (HOK.out.below hb)
    replace HOP := lH (HOP.out.below hb)
    replace HOM := lH (HOM.out.below hb)
    replace HXb := lH (HXb.out.below hb)
    clear hxb hfb hkb
    obtain ⟨hkb, hxb, hfb⟩ := HXb.out
    replace HXz := lH (HXz.out.below hb)
    clear hxz hfz hkz
    obtain ⟨hkz, hxz, hfz⟩ := HXz.out
    replace HXx := lH (HXx.out.below hb)
    clear hxx hfx hkx
    obtain ⟨hkx, hxx, hfx⟩ := HXx.out
    replace HXy := lH (HXy.out.below hb)
    clear hxy hfy hky
    obtain ⟨hky, hxy, hfy⟩ := HXy.out
    clear hb
    go_wp2_with fail
    refine calls_named (fun w11 hw => ?_)
    have hz11 : w10.heap.size + 0 ≤ w11.heap.size := by rw [hw]; first | omega | simp [World.setCell] <;> omega
    have hzz11 : w.heap.size ≤ w11.heap.size := by omega
    have hbn : Below w10.heap.size w10 w11 := by rw [hw]; exact (by repeat with_reducible first | exact bR _ | apply bA | apply bD)
    replace HB := lH (below_then HB.out hbn HB.out.size)
    replace HOK := lH (HOK.out.below hbn)
    replace HOP := lH (HOP.out.below hbn)
    replace HOM := lH (HOM.out.below hbn)
    replace HXb := lH (HXb.out.below hbn)
    clear hxb hfb hkb
    obtain ⟨hkb, hxb, hfb⟩ := HXb.out
    replace HXz := lH (HXz.out.below hbn)
    clear hxz hfz hkz
    obtain ⟨hkz, hxz, hfz⟩ := HXz.out
    replace HXx := lH (HXx.out.below hbn)
    clear hxx hfx hkx
    obtain ⟨hkx, hxx, hfx⟩ := HXx.out
    replace HXy := lH (HXy.out.below hbn)
    clear hxy hfy hky
    obtain ⟨hky, hxy, hfy⟩ := HXy.out
    clear hbn
    clear hw
    refine (HC2.out _ HOM.out.base).mono ?_
    rintro e w12 ⟨rfl, hb⟩
    have hzw12 : w11.heap.size ≤ w12.heap.size := hb.size
    have hzzw12 : w.heap.size ≤ w12.heap.size := by omega
    replace HB := lH (below_then HB.out hb HB.out.size)
    replace HOK := lH (HOK.out.below hb)
    replace HOP := lH (HOP.out.below hb)
    replace HOM := lH (HOM.out.below hb)
    replace HXb := lH (HXb.out.below hb)
    clear hxb hfb hkb
    obtain ⟨hkb, hxb, hfb⟩ := HXb.out
    replace HXz := lH (HXz.out.below hb)
    clear hxz hfz hkz
    obtain ⟨hkz, hxz, hfz⟩ := HXz.out
    replace HXx := lH (HXx.out.below hb)
    clear hxx hfx hkx
    obtain ⟨hkx, hxx, hfx⟩ := HXx.out
    replace HXy := lH (HXy.out.below hb)
    clear hxy hfy hky
    obtain ⟨hky, hxy, hfy⟩ := HXy.out
    clear hb
    clear heq HC1 HC2
    clear HOP
    clear HOM
    clear hxy hfy hky HXy
    go_wp2
    refine wp_named (fun w13 hw => ?_)
    have hz13 : w12.heap.size + 0 ≤ w13.heap.size := by rw [hw]; first | omega | simp [World.setCell] <;> omega
    have hzz13 : w.heap.size ≤ w13.heap.size := by omega
    have hbn : Below w12.heap.size w12 w13 := by rw [hw]; exact (by repeat with_reducible first | exact bR _ | apply bA | apply bD)
    replace HB := lH (below_then HB.out hbn HB.out.size)
    replace HOK := lH (HOK.out.below hbn)
    replace HXb := lH (HXb.out.below hbn)
    clear hxb hfb hkb
    obtain ⟨hkb, hxb, hfb⟩ := HXb.out
    replace HXz := lH (HXz.out.below hbn)
    clear hxz hfz hkz
    obtain ⟨hkz, hxz, hfz⟩ := HXz.out
    replace HXx := lH (HXx.out.below hbn)
    clear hxx hfx hkx
    obtain ⟨hkx, hxx, hfx⟩ := HXx.out
    clear hbn
    clear hw
    go_loopw [11, 12, 13, 14, 15] (fun kk _ _ _ _ wx => ∃ k : Nat, k ≤ nh ∧ j ≤ k ∧ kk = .int .i64 k ∧ NewBox wx ((wo.heap.size)) [.int .i64 x.num, .int .i64 x.size, .string x.root, .int .i64 x.taken, .string x.troot] ∧ NewBox wx ((w2.heap.size)) [.int .i64 width, .slice E ne ce, .slice R nr cr, .slice H nh ch, .int .i64 h.size, .slice A1 m1 c1, .int .i64 h.taken, .slice A2 m2 c2, .int .i64 h.num, .int .i64 h.size, .string h.root, .int .i64 h.taken, .string h.troot] ∧ BrkK wx 0 wx.heap.size ⟨E, R, H, A1, A2, ce, cr, ch, c1, c2⟩ ⟨width, es, rs, hs⟩ ∧ NewBox wx ((w4.heap.size)) [.int .i64 h.num, .int .i64 h.size, .string h.root, .int .i64 h.taken, .string h.troot] ∧ Below w.heap.size w wx) (fun kk _ _ _ _ _ => nh - (intOf kk).toNat)
    case atStart => exact ⟨j, by omega, Nat.le_refl _, rfl, HXx.out, HXb.out, HOK.out.base, HXz.out, HB.out⟩
    case round =>
     obtain ⟨wi, rfl⟩ : ∃ wi : World, wi = wr := ⟨_, rfl⟩
     obtain ⟨k, hk, hjk, rfl, hbh, hbx, hrk, hbz, hbl⟩ := hrel
     replace HB : Hid (Below w.heap.size w wi) := lH hbl
     replace HXx : Hid (NewBox wi (wo.heap.size) [.int .i64 x.num, .int .i64 x.size, .string x.root, .int .i64 x.taken, .string x.troot]) := lH hbh
     clear hxx hfx hkx
     obtain ⟨hkx, hxx, hfx⟩ := HXx.out
     replace HXb : Hid (NewBox wi (w2.heap.size) [.int .i64 width, .slice E ne ce, .slice R nr cr, .slice H nh ch, .int .i64 h.size, .slice A1 m1 c1, .int .i64 h.taken, .slice A2 m2 c2, .int .i64 h.num, .int .i64 h.size, .string h.root, .int .i64 h.taken, .string h.troot]) := lH hbx
     clear hxb hfb hkb
     obtain ⟨hkb, hxb, hfb⟩ := HXb.out
     replace HXz : Hid (NewBox wi (w4.heap.size) [.int .i64 h.num, .int .i64 h.size, .string h.root, .int .i64 h.taken, .string h.troot]) := lH hbz
     clear hxz hfz hkz
     obtain ⟨hkz, hxz, hfz⟩ := HXz.out
     replace HOK : Hid (BrkK wi (0) (wi.heap.size) (⟨E, R, H, A1, A2, ce, cr, ch, c1, c2⟩) (⟨width, es, rs, hs⟩)) := lH hrk
     have hzz_wi : w.heap.size ≤ wi.heap.size := HB.out.size
     clear hbh hbx hrk hbz hbl
     by_cases hlt2 : k < nh
     ·have hI2 : (k : Int) < nh := by omega
      obtain ⟨b2, off, y, hHe, hb2, hks, hcs⟩ := hd_cells HOK.out.rH (k := k) (by show k < hs.length; rw [HNH.out]; exact hlt2)
      have c0' := hcs.1
      have c1' := hcs.2.1
      have c2' := hcs.2.2.1
      have c3' := hcs.2.2.2.1
      have c4' := hcs.2.2.2.2
      have hix := idxHd H b2 off nh ch k hHe hlt2
      have HBT2 := HBT.out x y j k HKS.out hks hjk
      obtain ⟨q1, q2, q3, q4⟩ := HOKT.out j k x y HKS.out hks hjk
      clear hcs hHe hks
      generalize btL1 width es h x.size y.size x.taken y.taken = p1 at *
      generalize btL2 width rs h x.size y.size x.taken y.taken = p2 at *
      obtain ⟨n1, hn1⟩ : ∃ n, p1.length = n := ⟨_, rfl⟩
      obtain ⟨n2, hn2⟩ : ∃ n, p2.length = n := ⟨_, rfl⟩
      rw [hn1] at q3
      rw [hn2] at q4
      replace HBT2 := lH (show ∀ W, BrkK W 0 W.heap.size ⟨E, R, H, A1, A2, ce, cr, ch, c1, c2⟩ ⟨width, es, rs, hs⟩ → Calls Tryz.prog 17 #[.agg #[.int .i64 width, .slice E ne ce, .slice R nr cr, .slice H nh ch, .int .i64 h.size, .slice A1 m1 c1, .int .i64 h.taken, .slice A2 m2 c2, .int .i64 h.num, .int .i64 h.size, .string h.root, .int .i64 h.taken, .string h.troot], .int .i64 x.size, .int .i64 y.size, .int .i64 x.taken, .int .i64 y.taken] W (fun e w' => ∃ A3 c3 A4 c4, e = .returned (.tuple #[.slice A3 n1 c3, .slice A4 n2 c4, .int .i64 0]) ∧ (Own w' W.heap.size w'.heap.size A3 (strs p1) ∧ Own w' W.heap.size w'.heap.size A4 (strs p2) ∧ n1 ≤ c3 ∧ n2 ≤ c4) ∧ Below W.heap.size W w') by
       rw [← hn1, ← hn2]; exact HBT2)
      go_wp2_with fail
      refine calls_named (fun w14 hw => ?_)
      have hz14 : wi.heap.size + 1 ≤ w14.heap.size := by rw [hw]; first | omega | simp [World.setCell] <;> omega
      have hzz14 : w.heap.size ≤ w14.heap.size := by omega
      have hbn : Below wi.heap.size wi w14 := by rw [hw]; exact (by repeat with_reducible first | exact bR _ | apply bA | apply bD)
      replace HB := lH (below_then HB.out hbn HB.out.size)
      replace HOK := lH (HOK.out.below hbn)
      replace HXb := lH (HXb.out.below hbn)
      clear hxb hfb hkb
      obtain ⟨hkb, hxb, hfb⟩ := HXb.out
      replace HXz := lH (HXz.out.below hbn)
      clear hxz hfz hkz
      obtain ⟨hkz, hxz, hfz⟩ := HXz.out
      replace HXx := lH (HXx.out.below hbn)
      clear hxx hfx hkx
      obtain ⟨hkx, hxx, hfx⟩ := HXx.out
      clear hbn
      have HXy : Hid (NewBox w14 (wi.heap.size) [.int .i64 y.num, .int .i64 y.size, .string y.root, .int .i64 y.taken, .string y.troot]) := by rw [Hid, hw]; exact ⟨by first | omega | (simp [World.setCell]; done) | (simp [World.setCell]; omega), fun o => by rcases o with _ | _ | _ | _ | _ | o <;> go_simp, fun o => by go_simp⟩
      obtain ⟨hky, hxy, hfy⟩ := HXy.out
      clear hw
      refine (HBT2.out _ HOK.out.base).mono ?_
      rintro e w15 ⟨A3, c3, A4, c4, rfl, ⟨o1, o2, k1, k2⟩, hb⟩
      have hzw15 : w14.heap.size ≤ w15.heap.size := hb.size
      have hzzw15 : w.heap.size ≤ w15.heap.size := by omega
      replace HB := lH (below_then HB.out hb HB.out.size)
      replace HOK := lH (HOK.out.below hb)
      replace HXb := lH (HXb.out.below hb)
      clear hxb hfb hkb
      obtain ⟨hkb, hxb, hfb⟩ := HXb.out
      replace HXz := lH (HXz.out.below hb)
      clear hxz hfz hkz
      obtain ⟨hkz, hxz, hfz⟩ := HXz.out
      replace HXx := lH (HXx.out.below hb)
      clear hxx hfx hkx
      obtain ⟨hkx, hxx, hfx⟩ := HXx.out
      replace HXy := lH (HXy.out.below hb)
      clear hxy hfy hky
      obtain ⟨hky, hxy, hfy⟩ := HXy.out
      clear hb
      clear c0' c1' c2' c3' c4' hix hb2 HBT2
      have HOP : Hid (Rd w15 (w14.heap.size) (w15.heap.size) (A3) (strs p1)) := lH o1.rd
      have HOM : Hid (Rd w15 (w14.heap.size) (w15.heap.size) (A4) (strs p2)) := lH o2.rd
      clear o1 o2
      go_upto_region 17 with fail
      refine wp_named (fun w16 hw => ?_)
      have hz16 : w15.heap.size + 0 ≤ w16.heap.size := by rw [hw]; first | omega | simp [World.setCell] <;> omega
      have hzz16 : w.heap.size ≤ w16.heap.size := by omega
      have hbn : Below w15.heap.size w15 w16 := by rw [hw]; exact (by repeat with_reducible first | exact bR _ | apply bA | apply bD)
      replace HB := lH (below_then HB.out hbn HB.out.size)
      replace HOK := lH (HOK.out.below hbn)
      replace HOP := lH (HOP.out.below hbn)
      replace HOM := lH (HOM.out.below hbn)
      replace HXb := lH (HXb.out.below hbn)
      clear hxb hfb hkb
      obtain ⟨hkb, hxb, hfb⟩ := HXb.out
      replace HXz := lH (HXz.out.below hbn)
      clear hxz hfz hkz
      obtain ⟨hkz, hxz, hfz⟩ := HXz.out
      replace HXx := lH (HXx.out.below hbn)
      clear hxx hfx hkx
      obtain ⟨hkx, hxx, hfx⟩ := HXx.out
      replace HXy := lH (HXy.out.below hbn)
      clear hxy hfy hky
      obtain ⟨hky, hxy, hfy⟩ := HXy.out
      clear hbn
      clear hw
      have HC1 := lH (fun W (r : Rd W 0 W.heap.size A3 (strs p1)) => checkBetweenT_c width x.size x.root y.size y.root A3 c3 0 W.heap.size n1 p1 W r hn1 (by omega) k1 q1)
      have HC2 := lH (fun W (r : Rd W 0 W.heap.size A4 (strs p2)) => checkBetweenT_c width x.taken x.troot y.taken y.troot A4 c4 0 W.heap.size n2 p2 W r hn2 (by omega) k2 q2)
      clear q1 q2 q3 q4 hn1 hn2 k1 k2
      go_wp2_with fail
      refine calls_named (fun w17 hw => ?_)
      have hz17 : w16.heap.size + 0 ≤ w17.heap.size := by rw [hw]; first | omega | simp [World.setCell] <;> omega
      have hzz17 : w.heap.size ≤ w17.heap.size := by omega
      have hbn : Below w16.heap.size w16 w17 := by rw [hw]; exact (by repeat with_reducible first | exact bR _ | apply bA | apply bD)
      replace HB := lH (below_then HB.out hbn HB.out.size)
      replace HOK := lH (HOK.out.below hbn)
      replace HOP := lH (HOP.out.below hbn)
      replace HOM := lH (HOM.out.below hbn)
      replace HXb := lH (HXb.out.below hbn)
      clear hxb hfb hkb
      obtain ⟨hkb, hxb, hfb⟩ := HXb.out
      replace HXz := lH (HXz.out.below hbn)
      clear hxz hfz hkz
      obtain ⟨hkz, hxz, hfz⟩ := HXz.out
      replace HXx := lH (HXx.out.below hbn)
      clear hxx hfx hkx
      obtain ⟨hkx, hxx, hfx⟩ := HXx.out
      replace HXy := lH (HXy.out.below hbn)
      clear hxy hfy hky
      obtain ⟨hky, hxy, hfy⟩ := HXy.out
      clear hbn
      clear hw
      refine (HC1.out _ HOP.out.base).mono ?_
      rintro e w18 ⟨rfl, hb⟩
      have hzw18 : w17.heap.size ≤ w18.heap.size := hb.size
      have hzzw18 : w.heap.size ≤ w18.heap.size := by omega
      replace HB := lH (below_then HB.out hb HB.out.size)
      replace HOK := lH (HOK.out.below hb)
      replace HOP := lH (HOP.out.below hb)
      replace HOM := lH (HOM.out.below hb)
      replace HXb := lH (HXb.out.below hb)
      clear hxb hfb hkb
      obtain ⟨hkb, hxb, hfb⟩ := HXb.out
      replace HXz := lH (HXz.out.below hb)
      clear hxz hfz hkz
      obtain ⟨hkz, hxz, hfz⟩ := HXz.out
      replace HXx := lH (HXx.out.below hb)
      clear hxx hfx hkx
      obtain ⟨hkx, hxx, hfx⟩ := HXx.out
      replace HXy := lH (HXy.out.below hb)
      clear hxy hfy hky
      obtain ⟨hky, hxy, hfy⟩ := HXy.out
      clear hb
      go_wp2_with fail
      refine calls_named (fun w19 hw => ?_)
      have hz19 : w18.heap.size + 0 ≤ w19.heap.size := by rw [hw]; first | omega | simp [World.setCell] <;> omega
      have hzz19 : w.heap.size ≤ w19.heap.size := by omega
      have hbn : Below w18.heap.size w18 w19 := by rw [hw]; exact (by repeat with_reducible first | exact bR _ | apply bA | apply bD)
      replace HB := lH (below_then HB.out hbn HB.out.size)
      replace HOK := lH (HOK.out.below hbn)
      replace HOP := lH (HOP.out.below hbn)
      replace HOM := lH (HOM.out.below hbn)
      replace HXb := lH (HXb.out.below hbn)
      clear hxb hfb hkb
      obtain ⟨hkb, hxb, hfb⟩ := HXb.out
      replace HXz := lH (HXz.out.below hbn)
      clear hxz hfz hkz
      obtain ⟨hkz, hxz, hfz⟩ := HXz.out
      replace HXx := lH (HXx.out.below hbn)
      clear hxx hfx hkx
      obtain ⟨hkx, hxx, hfx⟩ := HXx.out
      replace HXy := lH (HXy.out.below hbn)
      clear hxy hfy hky
      obtain ⟨hky, hxy, hfy⟩ := HXy.out
      clear hbn
      clear hw
      refine (HC2.out _ HOM.out.base).mono ?_
      rintro e w20 ⟨rfl, hb⟩
      have hzw20 : w19.heap.size ≤ w20.heap.size := hb.size
      have hzzw20 : w.heap.size ≤ w20.heap.size := by omega
      replace HB := lH (below_then HB.out hb HB.out.size)
      replace HOK := lH (HOK.out.below hb)
      replace HOP := lH (HOP.out.below hb)
      replace HOM := lH (HOM.out.below hb)
      replace HXb := lH (HXb.out.below hb)
      clear hxb hfb hkb
      obtain ⟨hkb, hxb, hfb⟩ := HXb.out
      replace HXz := lH (HXz.out.below hb)
      clear hxz hfz hkz
      obtain ⟨hkz, hxz, hfz⟩ := HXz.out
      replace HXx := lH (HXx.out.below hb)
      clear hxx hfx hkx
      obtain ⟨hkx, hxx, hfx⟩ := HXx.out
      replace HXy := lH (HXy.out.below hb)
      clear hxy hfy hky
      obtain ⟨hky, hxy, hfy⟩ := HXy.out
      clear hb
      clear HC1 HC2
      clear HOP
      clear HOM
      go_wp2
      go_roundw
      case rel => exact ⟨k + 1, by omega, by omega, by go_num, HXx.out, HXb.out, HOK.out.base, HXz.out, HB.out⟩
      case measure => simp [intOf]; omega
     ·have hI2 : ¬ (k : Int) < nh := by omega
      go_wp2
      go_roundw
      case rel => exact ⟨j + 1, by omega, by go_num, HXb.out, HXz.out, HOK.out.base, HB.out⟩
      case measure => simp [intOf]; omega
   ·obtain rfl : nh = j := by omega
    have hI : ¬ (nh : Int) < nh := by omega
    have hp2 : decide ((0 : Int) < (nh : Int)) = true := decide_eq_true (by omega)
    go_wp2
    go_ret
    exact ⟨rfl, HB.out⟩
end
end Go.Proofs.YtoccjgcokffkbaaGreat
