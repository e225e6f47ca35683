/- Part 26 of the proof of FnDeeds: lemmas and contracts. -/
import Derived.Test.YtoccjgcokffkbaaGreatTd22
import Derived.Test.YtoccjgcokffkbaaGreatTd25
import Derived.Deep.RegionLaw
namespace Go.Proofs.YtoccjgcokffkbaaGreat
set_option linter.unusedVariables false
set_option linter.unusedSimpArgs false
set_option maxHeartbeats 20000000
section
open Go.RowKit
set_option maxRecDepth 100000 in
theorem rcpContains_c (A : Option Addr) (c lo hi n : Nat) (l : List Rcp) (r : Rcp) (w : World) (hr : Rd w lo hi A (bf l)) (hn : l.length = n) (hl : n ≤ 1048576) (hf : ∀ x ∈ l, x.fits) (hrf : r.fits) :
  Calls Tryz.prog 140 #[.slice A n c, .agg #[.string r.reader, .string r.topic, .int .i64 r.index]] w fun e w' => e = .returned (.bool (decide (0 ≤ dV r l 0))) ∧ Below w.heap.size w w' := by
 have HI := lH (fun W (q : Rd W 0 W.heap.size A (bf l)) => rcpIndex_c A c 0 W.heap.size n l r W q hn hl hf hrf)
 generalize dV r l 0 = z at *
 have HB : Hid (Below w.heap.size w w) := Below.refl _ _
 have HOA : Hid (Rd w (0) (w.heap.size) (A) (bf l)) := Rd.base hr
 clear hr hn hf hrf
 go_enter Tryz.func140, Tryz.ntmps140
 go_wp2_with fail
 refine af (fun w1 hw => ?_)
 have hz1 : w.heap.size + 1 ≤ w1.heap.size := zA
 have hbn : Below w.heap.size w w1 := zB
 replace HB := bT HB hbn
 replace HOA := lH (HOA.out.below hbn)
 clear hbn
 have HXv : Hid (aa w1 (w.heap.size) [.string r.reader, .string r.topic, .int .i64 r.index]) := zG3
 obtain ⟨hkv, hxv, hfv⟩ := HXv.out
 clear hw
 refine (HI.out _ HOA.out.base).mono ?_
 rintro e w2 ⟨rfl, hb⟩
 have hzw2 : w1.heap.size ≤ w2.heap.size := hb.size
 replace HB := bT HB hb
 replace HOA := lH (HOA.out.below hb)
 replace HXv := nB HXv hb
 clear hxv hfv hkv
 obtain ⟨hkv, hxv, hfv⟩ := HXv.out
 clear hb
 go_wp2
 go_ret
 exact ⟨rfl, HB.out⟩
def TakeR (w' : World) (p lo : Nat) (width : Int) (E R H A1 A2 : Option Addr) (ne nr nh ce cr ch c1 c2 m1 m2 : Nat) (es : List Ent) (rs : List Rcp) (hs : List Hd) (h : Hd) (r : Rcp) (code : Int) (L : Option Addr) (q : Nat) : Prop :=
 (¬ code = 0 ∧ L = none ∧ q = 0) ∨ (code = 0 ∧ q = 1 ∧ (dJ es h.size.toNat r = true ∧ r ∉ rs ∧ nr < 512) ∧ ∃ g cap : Nat,
   aa w' p [.int .i64 width, .slice E ne ce, .slice (some ⟨g, 0, none⟩) (nr + 1) cap, .slice H nh ch, .int .i64 h.size, .slice A1 m1 c1, .int .i64 h.taken, .slice A2 m2 c2, .int .i64 h.num, .int .i64 h.size, .string h.root, .int .i64 h.taken, .string h.troot] ∧
   aG w' lo w'.heap.size ⟨E, some ⟨g, 0, none⟩, H, A1, A2, ce, cap, ch, c1, c2⟩ ⟨width, es, rs ++ [r], hs⟩ ∧ Rd w' lo w'.heap.size L (wris [dZ ⟨width, es, rs, hs⟩ 2 (aK r)]))
set_option maxRecDepth 100000 in
theorem take_c (width : Int) (E R H A1 A2 : Option Addr) (ne nr nh ce cr ch c1 c2 m1 m2 : Nat) (es : List Ent) (rs : List Rcp) (hs : List Hd) (l1 l2 : List ByteArray) (h : Hd) (p lo : Nat) (r : Rcp) (w : World) (hbx : aa w p [.int .i64 width, .slice E ne ce, .slice R nr cr, .slice H nh ch, .int .i64 h.size, .slice A1 m1 c1, .int .i64 h.taken, .slice A2 m2 c2, .int .i64 h.num, .int .i64 h.size, .string h.root, .int .i64 h.taken, .string h.troot]) (hcp : bW w lo p ⟨E, R, H, A1, A2, ce, cr, ch, c1, c2⟩ ⟨es, rs, hs, l1, l2⟩) (hok : aB width es rs hs) (hne : es.length = ne) (hnr : rs.length = nr) (hnh : hs.length = nh) (hl1 : pk1 width es hs = l1) (hl2 : pk2 width rs hs = l2) (hm1 : l1.length = m1) (hm2 : l2.length = m2) (hh : ae hs = h) (hlp : lo ≤ p) (hch : nh ≤ ch) (hrf : r.fits) (hro : bX r = true) :
  Calls Tryz.prog 84 #[.pointer (some ⟨p, 0, none⟩), .agg #[.string r.reader, .string r.topic, .int .i64 r.index]] w fun e w' => ∃ (code : Int) (L : Option Addr) (q : Nat), e = .returned (.tuple #[.slice L q q, .int .i64 code]) ∧ TakeR w' p lo width E R H A1 A2 ne nr nh ce cr ch c1 c2 m1 m2 es rs hs h r code L q ∧ Only lo (p + 1) w w' := by
 obtain ⟨f1, f2, f3, g1, g2, g3, g4, f4, g5, g6, g7⟩ := bN hok
 have hlast := hok.last
 rw [hh] at hlast
 rw [hne] at g1 hlast
 rw [hnr] at g2 hlast
 rw [hnh] at g3 g4
 have hpos : 1 ≤ nh := by rw [← hnh]; exact hok.pos
 obtain ⟨sz, hsz⟩ : ∃ n : Nat, h.size = n := ⟨h.size.toNat, by omega⟩
 have hszn : h.size.toNat = sz := by omega
 obtain ⟨r0, r0n⟩ := file_recs hok 2
 have hli := leafIn_eq es sz r
 have hpos2 := rcpPos_ge (r := r) rs 0
 have htake := fun (q2 : dJ es sz r = true) (q3 : r ∉ rs) (q4 : nr < 512) => hok.take hro (by show dJ es (ae hs).size.toNat r = true; rw [hh, hsz, Int.toNat_natCast]; exact q2) q3 (by omega)
 have hpk2 : pk2 width (rs ++ [r]) hs = l2 := by rw [pk2_more hok, hl2]
 have HRO := fun W => implReceiptOk_c r W hrf
 rw [hro] at HRO
 replace HRO := lH HRO
 have HTX := lH (fun W => gN r W hrf)
 have hts := dO r
 have HLF := fun W (q : Rd W 0 W.heap.size E (aR es)) => leafOf_c E ce 0 W.heap.size ne es r.topic r.index W q hne (by omega)
 have HCO := fun W (q : Rd W 0 W.heap.size R (bf rs)) => rcpContains_c R cr 0 W.heap.size nr rs r W q hnr (by omega) f2 hrf
 have HLA := fun W (bx : aa W p [.int .i64 width, .slice E ne ce, .slice R nr cr, .slice H nh ch, .int .i64 h.size, .slice A1 m1 c1, .int .i64 h.taken, .slice A2 m2 c2, .int .i64 h.num, .int .i64 h.size, .string h.root, .int .i64 h.taken, .string h.troot]) (q : Rd W 0 W.heap.size H (hds hs)) => last_c p nh ch 0 W.heap.size H hs W bx.1 (bx.2.1 3) q hnh hpos (by omega)
 rw [hh] at HLA
 have HWR := lH (fun W (bx : aa W p [.int .i64 width, .slice E ne ce, .slice R nr cr, .slice H nh ch, .int .i64 h.size, .slice A1 m1 c1, .int .i64 h.taken, .slice A2 m2 c2, .int .i64 h.num, .int .i64 h.size, .string h.root, .int .i64 h.taken, .string h.troot]) (q0 : Rd W 0 W.heap.size E (aR es)) (q1 : Rd W 0 W.heap.size R (bf rs)) (q2 : Rd W 0 W.heap.size H (hds hs)) tx htx =>
  writeBehind_c width h.size h.taken p 2 E R H A1 A2 ne nr nh ce cr ch c1 c2 0 W.heap.size 0 W.heap.size 0 W.heap.size m1 m2 es rs hs h tx W bx q0 q1 q2 hne hnr hnh (by omega) (by omega) (by omega) hpos hch f1 f2 (fun x hx => by have h1 := f3 x hx; have h2 : x.bulk ≤ dW Hd.bulk hs := sumBy_mem Hd.bulk hx; omega) (by omega) r0 r0n htx)
 have HTK := lH htake
 have HOK := lH hok
 have HNE := lH hne
 have HNR := lH hnr
 have HNH := lH hnh
 have HL1 := lH hl1
 have HP2 := lH hpos2
 have HPK := lH hpk2
 have HM1 := lH hm1
 have HM2 := lH hm2
 have HLI := lH hli
 have HSZ := lH hszn
 have HDW : Hid (dZ ⟨width, es, rs, hs⟩ 2 (aK r) = ⟨((2 : Nat) : Int), (dB (bB width es rs hs 2)).size, bJ (aK r)⟩) := lH rfl
 have HTR : Hid (∀ w' code L q, TakeR w' p lo width E R H A1 A2 ne nr nh ce cr ch c1 c2 m1 m2 es rs hs h r code L q ↔ (¬ code = 0 ∧ L = none ∧ q = 0) ∨ (code = 0 ∧ q = 1 ∧ (dJ es h.size.toNat r = true ∧ r ∉ rs ∧ nr < 512) ∧ ∃ g cap : Nat,
  aa w' p [.int .i64 width, .slice E ne ce, .slice (some ⟨g, 0, none⟩) (nr + 1) cap, .slice H nh ch, .int .i64 h.size, .slice A1 m1 c1, .int .i64 h.taken, .slice A2 m2 c2, .int .i64 h.num, .int .i64 h.size, .string h.root, .int .i64 h.taken, .string h.troot] ∧
  aG w' lo w'.heap.size ⟨E, some ⟨g, 0, none⟩, H, A1, A2, ce, cap, ch, c1, c2⟩ ⟨width, es, rs ++ [r], hs⟩ ∧ Rd w' lo w'.heap.size L (wris [dZ ⟨width, es, rs, hs⟩ 2 (aK r)]))) := lH (fun _ _ _ _ => Iff.rfl)
 generalize dZ ⟨width, es, rs, hs⟩ 2 (aK r) = dw at *
 generalize (dB (bB width es rs hs 2)).size = fsz at *
 generalize aN (fK r.topic r.index) es 0 = lf at *
 generalize dV r rs 0 = rp at *
 replace HLF := lH HLF
 replace HCO := lH HCO
 replace HLA := lH HLA
 clear f1 f2 f3 f4 g4 hne hnr hnh hl1 hl2 hm1 hm2 hh hok r0 r0n hli hpos2 htake hpk2 hrf hro hszn
 generalize aK r = tx at *
 have hfld := hdField1 h.num h.size h.taken h.root h.troot
 rw [hsz] at hfld
 have hsw : IntKind.i64.wrap ((sz : Int) - 1) = (sz : Int) - 1 := by rw [IntKind.wrap_i64]; omega
 have hpw : p < w.heap.size := hbx.1
 obtain ⟨i0, ii0, iz0, iz1, iz2⟩ := info_parts gL
 have HB : Hid (Only (lo) (p + 1) w w) := Only.refl _ _ _
 replace HB : Hid (Only (lo) (p + 1) w w) := (Only.refl _ _ _)
 have HXb : Hid (aa w (p) [.int .i64 width, .slice E ne ce, .slice R nr cr, .slice H nh ch, .int .i64 h.size, .slice A1 m1 c1, .int .i64 h.taken, .slice A2 m2 c2, .int .i64 h.num, .int .i64 h.size, .string h.root, .int .i64 h.taken, .string h.troot]) := hbx
 obtain ⟨hkb, hxb, hfb⟩ := HXb.out
 have HOC : Hid (bW w (lo) (p) (⟨E, R, H, A1, A2, ce, cr, ch, c1, c2⟩) (⟨es, rs, hs, l1, l2⟩)) := lH hcp
 clear hbx hcp
 go_enter Tryz.func84, Tryz.ntmps84
 go_wp2_with fail
 refine af (fun w1 hw => ?_)
 have hz1 : w.heap.size + 1 ≤ w1.heap.size := zA
 have hbn : Below w.heap.size w w1 := zB
 replace HB := lH (HB.out.trans (Only.of_below hbn))
 replace HOC := lH (HOC.out.below hbn)
 replace HXb := nB HXb hbn
 clear hxb hfb hkb
 obtain ⟨hkb, hxb, hfb⟩ := HXb.out
 clear hbn
 have HXr : Hid (aa w1 (w.heap.size) [.string r.reader, .string r.topic, .int .i64 r.index]) := zG3
 obtain ⟨hkr, hxr, hfr⟩ := HXr.out
 clear hw
 refine (HRO.out _).mono ?_
 rintro e w2 ⟨rfl, hb⟩
 have hzw2 : w1.heap.size ≤ w2.heap.size := hb.size
 replace HB := lH (HB.out.trans (Only.of_below hb))
 replace HOC := lH (HOC.out.below hb)
 replace HXb := nB HXb hb
 clear hxb hfb hkb
 obtain ⟨hkb, hxb, hfb⟩ := HXb.out
 replace HXr := nB HXr hb
 clear hxr hfr hkr
 obtain ⟨hkr, hxr, hfr⟩ := HXr.out
 clear hb
 clear HRO
 go_upto_region 3 with fail
 refine aD (fun w3 hw => ?_)
 have hz3 : w2.heap.size + 0 ≤ w3.heap.size := zA
 have hbn : Below w2.heap.size w2 w3 := zB
 replace HB := lH (HB.out.trans (Only.of_below hbn))
 replace HOC := lH (HOC.out.below hbn)
 replace HXb := nB HXb hbn
 clear hxb hfb hkb
 obtain ⟨hkb, hxb, hfb⟩ := HXb.out
 replace HXr := nB HXr hbn
 clear hxr hfr hkr
 obtain ⟨hkr, hxr, hfr⟩ := HXr.out
 clear hbn
 clear hw
 have HA1 := lH (fun v : Later w3 => HLF.out v.v ((HOC.out.below v.h).e.rd (Nat.le_trans (Nat.le_of_lt hkb) v.h.size)).base)
 have HA2 := fun v : Later w3 => HLA.out v.v (HXb.out.below v.h) ((HOC.out.below v.h).h.rd (Nat.le_trans (Nat.le_of_lt hkb) v.h.size)).base
 rw [hsz] at HA2
 replace HA2 := lH HA2
 have HA3 := fun v : Later w3 => (show Calls Tryz.prog 73 #[.int .i64 lf, .int .i64 0, .int .i64 ((sz : Int) - 1)] v.v (fun e w' => e = .returned (.bool (inR lf 0 ((sz : Int) - 1))) ∧ Below v.v.heap.size v.v w') from (eP lf 0 ((sz : Int) - 1) v.v).mono fun e w' ⟨q1, q2⟩ => ⟨q1, q2 ▸ Below.refl _ _⟩)
 rw [← HLI.out] at HA3
 replace HA3 := lH HA3
 have t1 : ∀ v : Later w3, v.v.cell? ⟨(p), 1, none⟩ = some (.slice E ne ce) := fun v => (ag v _ _ hkb).trans (hxb 1)
 have u1 : ∀ v : Later w3, v.v.cell? ⟨(w.heap.size), 1, none⟩ = some (.string r.topic) := fun v => (ag v _ _ hkr).trans (hxr 1)
 have u2 : ∀ v : Later w3, v.v.cell? ⟨(w.heap.size), 2, none⟩ = some (.int .i64 r.index) := fun v => (ag v _ _ hkr).trans (hxr 2)
 clear HLF HLA
 refine aA (by kernel_rfl) (by kernel_rfl) ?_
 repeat (go_big_quiet_step ((first | with_reducible exact aC (HA1.out _) | with_reducible exact aC (HA2.out _) | with_reducible exact aC (HA3.out _))))
 refine wpQuiet_nil ?_
 intro wA h9
 have hb9 := aP h9
 have hzwA : w3.heap.size ≤ wA.heap.size := hb9.size
 replace HB := lH (HB.out.trans (Only.of_below hb9))
 replace HOC := lH (HOC.out.below hb9)
 replace HXb := nB HXb hb9
 clear hxb hfb hkb
 obtain ⟨hkb, hxb, hfb⟩ := HXb.out
 replace HXr := nB HXr hb9
 clear hxr hfr hkr
 obtain ⟨hkr, hxr, hfr⟩ := HXr.out
 clear h9 hb9 HA1 HA2 HA3 t1 u1 u2 hfld hsw
 rcases hq : dJ es sz r with _ | _
 ·clear hq
  go_wp2
  refine ai (fun w4 hw => ?_)
  have hz4 : wA.heap.size + 0 ≤ w4.heap.size := zA
  have hbn : Below wA.heap.size wA w4 := zB
  replace HB := lH (HB.out.trans (Only.of_below hbn))
  replace HOC := lH (HOC.out.below hbn); replace HXb := nB HXb hbn; clear hxb hfb hkb; obtain ⟨hkb, hxb, hfb⟩ := HXb.out; replace HXr := nB HXr hbn; clear hxr hfr hkr; obtain ⟨hkr, hxr, hfr⟩ := HXr.out; clear hbn; clear hw
  refine bodyPost_ret (v := .tuple #[.slice none 0 0, .int .i64 3]) (by simp [results, Tryz.results84, go_sem]) rfl ?_
  exact ⟨3, none, 0, rfl, (HTR.out _ _ _ _).2 (.inl ⟨by decide, rfl, rfl⟩), HB.out⟩
 have HQ1 := lH hq
 clear hq
 go_upto_region 5 with fail
 refine aD (fun w4 hw => ?_)
 have hz4 : wA.heap.size + 0 ≤ w4.heap.size := zA
 have hbn : Below wA.heap.size wA w4 := zB
 replace HB := lH (HB.out.trans (Only.of_below hbn))
 replace HOC := lH (HOC.out.below hbn)
 replace HXb := nB HXb hbn
 clear hxb hfb hkb
 obtain ⟨hkb, hxb, hfb⟩ := HXb.out
 replace HXr := nB HXr hbn
 clear hxr hfr hkr
 obtain ⟨hkr, hxr, hfr⟩ := HXr.out
 clear hbn
 clear hw
 have HA1 := lH (fun v : Later w4 => HCO.out v.v ((HOC.out.below v.h).r.rd (Nat.le_trans (Nat.le_of_lt hkb) v.h.size)).base)
 have t1 : ∀ v : Later w4, v.v.cell? ⟨(p), 2, none⟩ = some (.slice R nr cr) := fun v => (ag v _ _ hkb).trans (hxb 2)
 have u0 : ∀ v : Later w4, v.v.cell? ⟨(w.heap.size), 0, none⟩ = some (.string r.reader) := fun v => (ag v _ _ hkr).trans (hxr 0)
 have u1 : ∀ v : Later w4, v.v.cell? ⟨(w.heap.size), 1, none⟩ = some (.string r.topic) := fun v => (ag v _ _ hkr).trans (hxr 1)
 have u2 : ∀ v : Later w4, v.v.cell? ⟨(w.heap.size), 2, none⟩ = some (.int .i64 r.index) := fun v => (ag v _ _ hkr).trans (hxr 2)
 refine aA (by kernel_rfl) (by kernel_rfl) ?_
 repeat (go_big_quiet_step ((with_reducible exact aC (HA1.out _))))
 refine wpQuiet_nil ?_
 intro wB h9
 have hb9 := aP h9
 have hzwB : w4.heap.size ≤ wB.heap.size := hb9.size
 replace HB := lH (HB.out.trans (Only.of_below hb9))
 replace HOC := lH (HOC.out.below hb9)
 replace HXb := nB HXb hb9
 clear hxb hfb hkb
 obtain ⟨hkb, hxb, hfb⟩ := HXb.out
 replace HXr := nB HXr hb9
 clear hxr hfr hkr
 obtain ⟨hkr, hxr, hfr⟩ := HXr.out
 clear h9 hb9 HA1 t1 u0 u1 u2 HCO
 rcases hd : decide (0 ≤ rp) with _ | _
 ·have hrp : ¬ 0 ≤ rp := of_decide_eq_false hd
  clear hd
  by_cases h5 : 512 ≤ nr
  ·have h6 : (512 : Int) ≤ (nr : Int) := by omega
   go_wp2
   refine ai (fun w5 hw => ?_)
   have hz5 : wB.heap.size + 0 ≤ w5.heap.size := zA
   have hbn : Below wB.heap.size wB w5 := zB
   replace HB := lH (HB.out.trans (Only.of_below hbn))
   replace HOC := lH (HOC.out.below hbn); replace HXb := nB HXb hbn; clear hxb hfb hkb; obtain ⟨hkb, hxb, hfb⟩ := HXb.out; replace HXr := nB HXr hbn; clear hxr hfr hkr; obtain ⟨hkr, hxr, hfr⟩ := HXr.out; clear hbn; clear hw
   refine bodyPost_ret (v := .tuple #[.slice none 0 0, .int .i64 5]) (by simp [results, Tryz.results84, go_sem]) rfl ?_
   exact ⟨5, none, 0, rfl, (HTR.out _ _ _ _).2 (.inl ⟨by decide, rfl, rfl⟩), HB.out⟩
  have h6 : ¬ (512 : Int) ≤ (nr : Int) := by omega
  have hni : r ∉ rs := by
   rcases HP2.out with ⟨_, h7⟩ | ⟨k, _, h7, _⟩
   ·exact h7
   omega
  have HPO := lH (HTK.out HQ1.out hni (by omega))
  have HNI := lH hni
  clear hni HTK HP2
  go_upto_region 9 with fail
  refine aD (fun w5 hw => ?_)
  have hz5 : wB.heap.size + 0 ≤ w5.heap.size := zA
  have hbn : Below wB.heap.size wB w5 := zB
  replace HB := lH (HB.out.trans (Only.of_below hbn))
  replace HOC := lH (HOC.out.below hbn); replace HXb := nB HXb hbn; clear hxb hfb hkb; obtain ⟨hkb, hxb, hfb⟩ := HXb.out; replace HXr := nB HXr hbn; clear hxr hfr hkr; obtain ⟨hkr, hxr, hfr⟩ := HXr.out; clear hbn; clear hw; clear h6
  go_wp2_with fail
  refine af (fun w6 hw => ?_)
  have hz6 : w5.heap.size + 0 ≤ w6.heap.size := zA
  have hbn : Below w5.heap.size w5 w6 := zB
  replace HB := lH (HB.out.trans (Only.of_below hbn))
  replace HOC := lH (HOC.out.below hbn); replace HXb := nB HXb hbn; clear hxb hfb hkb; obtain ⟨hkb, hxb, hfb⟩ := HXb.out; replace HXr := nB HXr hbn; clear hxr hfr hkr; obtain ⟨hkr, hxr, hfr⟩ := HXr.out; clear hbn; clear hw
  refine (HTX.out _).mono ?_
  rintro e w7 ⟨rfl, hb⟩
  have hzw7 : w6.heap.size ≤ w7.heap.size := hb.size
  replace HB := lH (HB.out.trans (Only.of_below hb))
  replace HOC := lH (HOC.out.below hb); replace HXb := nB HXb hb; clear hxb hfb hkb; obtain ⟨hkb, hxb, hfb⟩ := HXb.out; replace HXr := nB HXr hb; clear hxr hfr hkr; obtain ⟨hkr, hxr, hfr⟩ := HXr.out; clear hb; clear HTX
  go_wp2_with fail
  refine af (fun w8 hw => ?_)
  have hz8 : w7.heap.size + 0 ≤ w8.heap.size := zA
  have hbn : Below w7.heap.size w7 w8 := zB
  replace HB := lH (HB.out.trans (Only.of_below hbn))
  replace HOC := lH (HOC.out.below hbn); replace HXb := nB HXb hbn; clear hxb hfb hkb; obtain ⟨hkb, hxb, hfb⟩ := HXb.out; replace HXr := nB HXr hbn; clear hxr hfr hkr; obtain ⟨hkr, hxr, hfr⟩ := HXr.out; clear hbn; clear hw
  refine (HWR.out _ HXb.out (HOC.out.e.rd (Nat.le_of_lt hkb)).base (HOC.out.r.rd (Nat.le_of_lt hkb)).base (HOC.out.h.rd (Nat.le_of_lt hkb)).base tx (by omega)).mono ?_
  rintro e w9 ⟨qq, rfl, hwr, hb⟩
  have hzw9 : w8.heap.size ≤ w9.heap.size := hb.size
  replace HB := lH (HB.out.trans (Only.of_below hb))
  replace HOC := lH (HOC.out.below hb); replace HXb := nB HXb hb; clear hxb hfb hkb; obtain ⟨hkb, hxb, hfb⟩ := HXb.out; replace HXr := nB HXr hb; clear hxr hfr hkr; obtain ⟨hkr, hxr, hfr⟩ := HXr.out; clear hb
  have HOW : Hid (Rd w9 (w8.heap.size) (w9.heap.size) (some ⟨qq, 0, none⟩) (wris [⟨((2 : Nat) : Int), fsz, bJ tx⟩])) := lH hwr
  have hpz9 : p + 1 ≤ w8.heap.size := by omega
  clear hwr HWR
  go_upto_region 11 with fail
  refine aD (fun w10 hw => ?_)
  have hz10 : w9.heap.size + 0 ≤ w10.heap.size := zA
  have hbn : Below w9.heap.size w9 w10 := zB
  replace HB := lH (HB.out.trans (Only.of_below hbn))
  replace HOC := lH (HOC.out.below hbn); replace HOW := lH (HOW.out.below hbn); replace HXb := nB HXb hbn; clear hxb hfb hkb; obtain ⟨hkb, hxb, hfb⟩ := HXb.out; replace HXr := nB HXr hbn; clear hxr hfr hkr; obtain ⟨hkr, hxr, hfr⟩ := HXr.out; clear hbn; clear hw
  have hCE : aI w10 lo p ((41, 5), .slice E ne ce, ne) (aR es) := by have h7 := HOC.out.e; dsimp only at h7; rwa [HNE.out] at h7
  have hCR : aI w10 lo p ((43, 3), .slice R nr cr, nr) (bf rs) := by have h7 := HOC.out.r; dsimp only at h7; rwa [HNR.out] at h7
  have hCH : aI w10 lo p ((33, 5), .slice H nh ch, nh) (hds hs) := by have h7 := HOC.out.h; dsimp only at h7; rwa [HNH.out] at h7
  have hC1 : aI w10 lo p ((9, 1), .slice A1 m1 c1, m1) (strs l1) := by have h7 := HOC.out.a1; dsimp only at h7; rwa [HM1.out] at h7
  have hC2 : aI w10 lo p ((9, 1), .slice A2 m2 c2, m2) (strs l2) := by have h7 := HOC.out.a2; dsimp only at h7; rwa [HM2.out] at h7
  have HCE := lH hCE
  have HCR := lH hCR
  have HCH := lH hCH
  have HC1 := lH hC1
  have HC2 := lH hC2
  clear hCE hCR hCH hC1 hC2
  have hpo : (.slice R nr cr : Value).ownBlock ≠ some p := fun e => by have := HCR.out.2 p e; omega
  have HPO2 := lH hpo
  clear hpo
  have hp2 : w10.cell? ⟨p, 2, none⟩ = some (.slice R nr cr) := HXb.out.cell (o := 2) rfl
  have hpf2 : w10.frozen? ⟨p, 2, none⟩ = false := HXb.out.2.2 2
  have hpz2 : p < w10.heap.size := hkb
  have hr0 := hxr; have hrf := hfr
  go_region_law
   ((refine step_append_lies _ (by rfl) _ _ _ (by rfl) lo 43 i0 _ 3 40 Tryz.underlying27 ii0 iz0 iz1 iz2 rfl (by omega) (.slice R nr cr) nr (bf rs) (by rfl) ((HCR.out.1.alloc _).drew)
       ⟨w10.heap.size, 0, none⟩ 1 1 (bf [r]) (by rfl) (by rfl) (World.news_of_block (heap_alloc_new w10 _)) (rcps_one _)
       (by omega) (by unfold maxLen; omega) (by omega) (by simp; omega) (w10.heap.size + 1) (by simp) ?_; intro gg cap w4 hown4 hgrow hat hlt
     have hp4 : w4.cell? ⟨p, 2, none⟩ = some (.slice R nr cr) := (World.cell?_of_block (hgrow.block p (by simp; omega) (Ne.symm HPO2.out))).trans (by go_simp)
     have hpf4 : w4.frozen? ⟨p, 2, none⟩ = false := (World.frozen?_of_block (hgrow.block p (by simp; omega) (Ne.symm HPO2.out))).trans (by go_simp)
     ))
  all_goals
   go_wp2
   go_ret2
   rw [← rcps_app] at hown4
   obtain ⟨q1, q2, q3⟩ := grew_row ((HCR.out.alloc _).drew) hlp (by simp; omega) hown4 hgrow (hat.imp id (fun h => by simp; omega)) 2 (.slice (some ⟨gg, 0, none⟩) (nr + 1) cap)
   have q4 := grew_box ((HXb.out.alloc _).drew) ((HCR.out.alloc _).drew) hgrow 2 (.slice (some ⟨gg, 0, none⟩) (nr + 1) cap)
   obtain ⟨w9, hw9⟩ : ∃ x, x = w4.setCell ⟨p, 2, none⟩ (.slice (some ⟨gg, 0, none⟩) (nr + 1) cap) := ⟨_, rfl⟩
   have hgw : gg < w9.heap.size := by rw [hw9]; simpa [World.setCell] using q3.2.2
   rw [← hw9] at q1 q2 q4 ⊢
   have hz9 : w10.heap.size ≤ w9.heap.size := Nat.le_trans (by simp) q2.on.size
   have q5 := ((HCE.out.alloc _).drew).grew q2 (by omega) (HCE.out.eO HCR.out (by decide))
   have q6 := ((HCH.out.alloc _).drew).grew q2 (by omega) (HCH.out.eO HCR.out (by decide))
   have q7 := ((HC1.out.alloc _).drew).grew q2 (by omega) (HC1.out.eO HCR.out (by decide))
   have q8 := ((HC2.out.alloc _).drew).grew q2 (by omega) (HC2.out.eO HCR.out (by decide))
   have hbk := brk_rows (lo := lo) HPO.out HNE.out (by rw [List.length_append, HNR.out] <;> rfl) HNH.out q5 q1 q6 (by rw [HL1.out]; exact (q7.rd (by omega)).mono (by omega) (by omega) (Nat.le_refl _)) (by rw [HPK.out]; exact (q8.rd (by omega)).mono (by omega) (by omega) (Nat.le_refl _)) (q7.own (by omega)).2.1 (q8.own (by omega)).2.1 (by omega) (by omega) (by omega)
   exact ⟨0, some ⟨qq, 0, none⟩, 1, rfl, (HTR.out _ _ _ _).2 (.inr ⟨rfl, rfl, ⟨by rw [HSZ.out]; exact HQ1.out, HNI.out, by omega⟩, gg, cap, q4, hbk, by rw [HDW.out]; exact (((HOW.out.alloc _).drew).only q2.on (by omega)).mono (by omega) (by omega) (Nat.le_refl _)⟩), ((HB.out.alloc _).drew).trans q2.on⟩
 clear hd
 go_wp2
 refine ai (fun w5 hw => ?_)
 have hz5 : wB.heap.size + 0 ≤ w5.heap.size := zA
 have hbn : Below wB.heap.size wB w5 := zB
 replace HB := lH (HB.out.trans (Only.of_below hbn))
 replace HOC := lH (HOC.out.below hbn)
 replace HXb := nB HXb hbn
 clear hxb hfb hkb
 obtain ⟨hkb, hxb, hfb⟩ := HXb.out
 replace HXr := nB HXr hbn
 clear hxr hfr hkr
 obtain ⟨hkr, hxr, hfr⟩ := HXr.out
 clear hbn
 clear hw
 refine bodyPost_ret (v := .tuple #[.slice none 0 0, .int .i64 4]) (by simp [results, Tryz.results84, go_sem]) rfl ?_
 exact ⟨4, none, 0, rfl, (HTR.out _ _ _ _).2 (.inl ⟨by decide, rfl, rfl⟩), HB.out⟩
def DoneR (w w' : World) (m : Bm) (a' : Bk) (m' : Bm) (f : Nat) (tx : ByteArray) (L : Option Addr) (q : Nat) (code : Int) : Prop := (¬ code = 0 ∧ m' = zeroBm ∧ q = 0) ∨ (code = 0 ∧ q = 1 ∧ Done w w' m a' m' f tx L)
set_option maxRecDepth 100000 in
theorem takeB_c (width : Int) (E R H A1 A2 : Option Addr) (ne nr nh ce cr ch c1 c2 m1 m2 : Nat) (es : List Ent) (rs : List Rcp) (hs : List Hd) (l1 l2 : List ByteArray) (h : Hd) (r : Rcp) (w : World) (hk : aG w 0 w.heap.size ⟨E, R, H, A1, A2, ce, cr, ch, c1, c2⟩ ⟨width, es, rs, hs⟩) (hne : es.length = ne) (hnr : rs.length = nr) (hnh : hs.length = nh) (hl1 : pk1 width es hs = l1) (hl2 : pk2 width rs hs = l2) (hm1 : l1.length = m1) (hm2 : l2.length = m2) (hh : ae hs = h) (hrf : r.fits) (hro : bX r = true) :
  Calls Tryz.prog 48 #[.agg #[.int .i64 width, .slice E ne ce, .slice R nr cr, .slice H nh ch, .int .i64 h.size, .slice A1 m1 c1, .int .i64 h.taken, .slice A2 m2 c2, .int .i64 h.num, .int .i64 h.size, .string h.root, .int .i64 h.taken, .string h.troot], .agg #[.string r.reader, .string r.topic, .int .i64 r.index]] w fun e w' => ∃ (a' : Bk) (m' : Bm) (L : Option Addr) (q : Nat) (code : Int), e = .returned (.tuple #[.agg #[.int .i64 m'.width, .slice a'.E m'.es.length a'.ce, .slice a'.R m'.rs.length a'.cr, .slice a'.H m'.hs.length a'.ch, .int .i64 (ae m'.hs).size, .slice a'.A1 (pk1 m'.width m'.es m'.hs).length a'.c1, .int .i64 (ae m'.hs).taken, .slice a'.A2 (pk2 m'.width m'.rs m'.hs).length a'.c2, .int .i64 (ae m'.hs).num, .int .i64 (ae m'.hs).size, .string (ae m'.hs).root, .int .i64 (ae m'.hs).taken, .string (ae m'.hs).troot], .slice L q q, .int .i64 code]) ∧ (DoneR w w' ⟨width, es, rs, hs⟩ a' m' 2 (aK r) L q code ∧ (code = 0 → m' = ⟨width, es, rs ++ [r], hs⟩)) ∧ Below w.heap.size w w' := by
 have hkk := hk
 obtain ⟨f1, f2, f3, g1, g2, g3, g4, f4, g5, g6, g7⟩ := bN hk.ok
 have hlast := hk.ok.last
 have hpos := hk.ok.pos
 dsimp only at f1 f2 f3 g1 g2 g3 g4 f4 g5 g6 g7 hlast hpos
 rw [hne] at g1 hlast
 rw [hnr] at g2 hlast
 rw [hnh] at g3 g4 hpos
 rw [hh] at f4 g5 hlast
 rw [hl1, hm1] at g6
 rw [hl2, hm2] at g7
 have hok : aB width es rs hs := hk.ok
 have hbo := hok.ok
 rw [hh, hl1, hl2] at hbo
 have HBK := fun W (r : aG W 0 W.heap.size ⟨E, R, H, A1, A2, ce, cr, ch, c1, c2⟩ ⟨width, es, rs, hs⟩) => eZ width h.size h.taken E R H A1 A2 ne nr nh ce cr ch c1 c2 0 W.heap.size 0 W.heap.size 0 W.heap.size 0 W.heap.size 0 W.heap.size m1 m2 es rs hs l1 l2 h W r.rE r.rR r.rH (hl1 ▸ r.r1) (hl2 ▸ r.r2) hne hnr hnh hm1 hm2 (by omega) (by omega) (by omega) (by omega) (by omega) (by have := r.kE; dsimp only at this; omega) (by have := r.kR; dsimp only at this; omega) (by have := r.kH; dsimp only at this; omega) f1 f2 f3 f4 (by omega)
 rw [hbo] at HBK
 replace HBK := lH HBK
 have HCP := lH (fun W (r : aG W 0 W.heap.size ⟨E, R, H, A1, A2, ce, cr, ch, c1, c2⟩ ⟨width, es, rs, hs⟩) => copyBroker_c width h.size h.taken E R H A1 A2 ne nr nh ce cr ch c1 c2 m1 m2 es rs hs l1 l2 h W r.rE r.rR r.rH (hl1 ▸ r.r1) (hl2 ▸ r.r2) hne hnr hnh hm1 hm2 (by omega) (by omega) (by omega) (by omega) (by omega) r.nE r.nR r.nH r.n1 r.n2)
 have HPU := lH (fun W p lo (a3 : Bk) (bx : aa W p [.int .i64 width, .slice a3.E ne a3.ce, .slice a3.R nr a3.cr, .slice a3.H nh a3.ch, .int .i64 h.size, .slice a3.A1 m1 a3.c1, .int .i64 h.taken, .slice a3.A2 m2 a3.c2, .int .i64 h.num, .int .i64 h.size, .string h.root, .int .i64 h.taken, .string h.troot]) (cp : bW W lo p a3 ⟨es, rs, hs, l1, l2⟩) (hlp : lo ≤ p) => take_c width a3.E a3.R a3.H a3.A1 a3.A2 ne nr nh a3.ce a3.cr a3.ch a3.c1 a3.c2 m1 m2 es rs hs l1 l2 h p lo r W bx cp hok hne hnr hnh hl1 hl2 hm1 hm2 hh hlp (by have h7 := (cp.h.own (Nat.le_of_lt bx.1)).1; dsimp only at h7; omega) hrf hro)
 have hde := fun (q1 : dJ es h.size.toNat r = true) (q2 : r ∉ rs) (q3 : nr < 512) => deed_take hok hro (by rw [hh]; exact q1) q2 (by omega)
 have HDE := lH hde
 have HNE := lH hne
 have HNR := lH hnr
 have HNH := lH hnh
 have HHH := lH hh
 have HM1 : Hid ((pk1 width es hs).length = m1) := lH (by rw [hl1, hm1])
 have HM2 : Hid ((pk2 width (rs ++ [r]) hs).length = m2) := lH (by rw [pk2_more hok, hl2, hm2])
 have HLEN : Hid ((rs ++ [r]).length = nr + 1) := lH (by rw [List.length_append, hnr]; rfl)
 have HB : Hid (Below w.heap.size w w) := Below.refl _ _
 have HOB : Hid (aG w (0) (w.heap.size) (⟨E, R, H, A1, A2, ce, cr, ch, c1, c2⟩) (⟨width, es, rs, hs⟩)) := lH hkk
 clear hk hkk f1 f2 f3 f4 hlast hne hnr hnh hl1 hl2 hm1 hm2 hh hok hbo hde hrf hro
 go_enter Tryz.func48, Tryz.ntmps48
 go_wp2_with fail
 refine af (fun w1 hw => ?_)
 have hz1 : w.heap.size + 3 ≤ w1.heap.size := zA
 have hbn : Below w.heap.size w w1 := zB
 replace HB := bT HB hbn
 replace HOB := lH (HOB.out.below hbn)
 clear hbn
 have HXb : Hid (aa w1 (w.heap.size) [.int .i64 width, .slice E ne ce, .slice R nr cr, .slice H nh ch, .int .i64 h.size, .slice A1 m1 c1, .int .i64 h.taken, .slice A2 m2 c2, .int .i64 h.num, .int .i64 h.size, .string h.root, .int .i64 h.taken, .string h.troot]) := zG13
 obtain ⟨hkb, hxb, hfb⟩ := HXb.out
 have HXr : Hid (aa w1 (w.heap.size + 1) [.string r.reader, .string r.topic, .int .i64 r.index]) := zG3
 obtain ⟨hkr, hxr, hfr⟩ := HXr.out
 have HXq : Hid (aa w1 (w.heap.size + 2) [.int .i64 0, .slice none 0 0, .slice none 0 0, .slice none 0 0, .int .i64 0, .slice none 0 0, .int .i64 0, .slice none 0 0, .int .i64 0, .int .i64 0, .string ⟨#[]⟩, .int .i64 0, .string ⟨#[]⟩]) := zG13
 obtain ⟨hkq, hxq, hfq⟩ := HXq.out
 clear hw
 refine (HBK.out _ HOB.out.base).mono ?_
 rintro e w2 ⟨rfl, hb⟩
 have hzw2 : w1.heap.size ≤ w2.heap.size := hb.size
 replace HB := bT HB hb
 replace HOB := lH (HOB.out.below hb)
 replace HXb := nB HXb hb
 clear hxb hfb hkb
 obtain ⟨hkb, hxb, hfb⟩ := HXb.out
 replace HXr := nB HXr hb
 clear hxr hfr hkr
 obtain ⟨hkr, hxr, hfr⟩ := HXr.out
 replace HXq := nB HXq hb
 clear hxq hfq hkq
 obtain ⟨hkq, hxq, hfq⟩ := HXq.out
 clear hb
 go_wp2_with fail
 refine af (fun w3 hw => ?_)
 have hz3 : w2.heap.size + 0 ≤ w3.heap.size := zA
 have hbn : Below w2.heap.size w2 w3 := zB
 replace HB := bT HB hbn
 replace HOB := lH (HOB.out.below hbn)
 replace HXb := nB HXb hbn
 clear hxb hfb hkb
 obtain ⟨hkb, hxb, hfb⟩ := HXb.out
 replace HXr := nB HXr hbn
 clear hxr hfr hkr
 obtain ⟨hkr, hxr, hfr⟩ := HXr.out
 replace HXq := nB HXq hbn
 clear hxq hfq hkq
 obtain ⟨hkq, hxq, hfq⟩ := HXq.out
 clear hbn
 clear hw
 refine (HCP.out _ HOB.out.base).mono ?_
 rintro e w4 ⟨a3, rfl, ⟨hcp, hap⟩, hb⟩
 have hzw4 : w3.heap.size ≤ w4.heap.size := hb.size
 replace HB := bT HB hb
 replace HOB := lH (HOB.out.below hb)
 replace HXb := nB HXb hb
 clear hxb hfb hkb
 obtain ⟨hkb, hxb, hfb⟩ := HXb.out
 replace HXr := nB HXr hb
 clear hxr hfr hkr
 obtain ⟨hkr, hxr, hfr⟩ := HXr.out
 replace HXq := nB HXq hb
 clear hxq hfq hkq
 obtain ⟨hkq, hxq, hfq⟩ := HXq.out
 clear hb
 have HOC : Hid (bW w4 (w3.heap.size) (w4.heap.size) (a3) (⟨es, rs, hs, l1, l2⟩)) := lH hcp
 obtain ⟨lo5, hlo5⟩ : ∃ n, n = w3.heap.size := ⟨_, rfl⟩
 have hlo6 : lo5 ≤ w3.heap.size ∧ w3.heap.size ≤ lo5 := by omega
 rw [← hlo5] at HOC
 clear hcp hap HCP HBK hlo5
 clear HOB
 clear hxb hfb hkb HXb
 go_wp2_with fail
 refine af (fun w5 hw => ?_)
 have hz5 : w4.heap.size + 1 ≤ w5.heap.size := zA
 have hbn : Below w4.heap.size w4 w5 := zB
 replace HB := bT HB hbn
 replace HOC := lH (HOC.out.below hbn)
 replace HXr := nB HXr hbn
 clear hxr hfr hkr
 obtain ⟨hkr, hxr, hfr⟩ := HXr.out
 replace HXq := nB HXq hbn
 clear hxq hfq hkq
 obtain ⟨hkq, hxq, hfq⟩ := HXq.out
 clear hbn
 have HXo : Hid (aa w5 (w4.heap.size) [.int .i64 width, .slice a3.E ne a3.ce, .slice a3.R nr a3.cr, .slice a3.H nh a3.ch, .int .i64 h.size, .slice a3.A1 m1 a3.c1, .int .i64 h.taken, .slice a3.A2 m2 a3.c2, .int .i64 h.num, .int .i64 h.size, .string h.root, .int .i64 h.taken, .string h.troot]) := zG13
 obtain ⟨hko, hxo, hfo⟩ := HXo.out
 clear hw
 refine (HPU.out _ _ lo5 a3 HXo.out HOC.out (by omega)).mono ?_
 rintro e w6 ⟨cd, L, ql, rfl, htr, hb⟩
 have hzw6 : w5.heap.size ≤ w6.heap.size := hb.size
 replace HB := lH (au HB.out hb (by omega) HB.out.size)
 replace HXr := lH (HXr.out.only hb (by first | omega | (simp; omega)))
 clear hxr hfr hkr
 obtain ⟨hkr, hxr, hfr⟩ := HXr.out
 replace HXq := lH (HXq.out.only hb (by first | omega | (simp; omega)))
 clear hxq hfq hkq
 obtain ⟨hkq, hxq, hfq⟩ := HXq.out
 clear hxo hfo hko HXo
 clear hb
 clear HOC HPU
 rcases htr with ⟨q1, rfl, rfl⟩ | ⟨rfl, rfl, ⟨q1, q2, q3⟩, gg, cap, hnb, hbk, hwr⟩
 ·have hcq : (cd != 0) = true := bne_iff_ne.2 q1
  have HQ := lH q1
  clear q1; go_wp2
  refine ai (fun w7 hw => ?_)
  have hz7 : w6.heap.size + 0 ≤ w7.heap.size := zA
  replace HB : Hid (Below w.heap.size w w7) := zC HB
  replace HXr : Hid (aa w7 (w.heap.size + 1) [.string r.reader, .string r.topic, .int .i64 r.index]) := zE HXr
  clear hxr hfr hkr; obtain ⟨hkr, hxr, hfr⟩ := HXr.out
  replace HXq : Hid (aa w7 (w.heap.size + 2) [.int .i64 0, .slice none 0 0, .slice none 0 0, .slice none 0 0, .int .i64 0, .slice none 0 0, .int .i64 0, .slice none 0 0, .int .i64 0, .int .i64 0, .string ⟨#[]⟩, .int .i64 0, .string ⟨#[]⟩]) := zD HXq
  clear hxq hfq hkq; obtain ⟨hkq, hxq, hfq⟩ := HXq.out; clear hw
  refine bodyPost_ret (v := .tuple #[.agg #[.int .i64 0, .slice none 0 0, .slice none 0 0, .slice none 0 0, .int .i64 0, .slice none 0 0, .int .i64 0, .slice none 0 0, .int .i64 0, .int .i64 0, .string ⟨#[]⟩, .int .i64 0, .string ⟨#[]⟩], .slice none 0 0, .int .i64 cd]) (by simp [results, Tryz.results48, go_sem, hxq]) rfl ?_
  exact ⟨zeroBk, zeroBm, none, 0, cd, rfl, ⟨.inl ⟨HQ.out, rfl, rfl⟩, fun e => absurd e HQ.out⟩, HB.out⟩
 have HDD := lH (HDE.out q1 q2 q3)
 clear q1 q2 q3 HDE
 have HXo : Hid (aa w6 (w4.heap.size) [.int .i64 width, .slice a3.E ne a3.ce, .slice (some ⟨gg, 0, none⟩) (nr + 1) cap, .slice a3.H nh a3.ch, .int .i64 h.size, .slice a3.A1 m1 a3.c1, .int .i64 h.taken, .slice a3.A2 m2 a3.c2, .int .i64 h.num, .int .i64 h.size, .string h.root, .int .i64 h.taken, .string h.troot]) := hnb
 obtain ⟨hko, hxo, hfo⟩ := HXo.out
 have HOK : Hid (aG w6 (lo5) (w6.heap.size) (⟨a3.E, some ⟨gg, 0, none⟩, a3.H, a3.A1, a3.A2, a3.ce, cap, a3.ch, a3.c1, a3.c2⟩) (⟨width, es, rs ++ [r], hs⟩)) := lH hbk
 have HOW : Hid (Rd w6 (lo5) (w6.heap.size) (L) (wris [dZ ⟨width, es, rs, hs⟩ 2 (aK r)])) := lH hwr
 clear hbk hwr hnb
 go_wp2
 refine ai (fun w7 hw => ?_)
 have hz7 : w6.heap.size + 0 ≤ w7.heap.size := zA
 replace HB : Hid (Below w.heap.size w w7) := zC HB
 replace HOK : Hid (aG w7 (lo5) (w6.heap.size) (⟨a3.E, some ⟨gg, 0, none⟩, a3.H, a3.A1, a3.A2, a3.ce, cap, a3.ch, a3.c1, a3.c2⟩) (⟨width, es, rs ++ [r], hs⟩)) := zLBrkK HOK
 replace HOW : Hid (Rd w7 (lo5) (w6.heap.size) (L) (wris [dZ ⟨width, es, rs, hs⟩ 2 (aK r)])) := zLRd HOW
 replace HXr : Hid (aa w7 (w.heap.size + 1) [.string r.reader, .string r.topic, .int .i64 r.index]) := zE HXr
 clear hxr hfr hkr
 obtain ⟨hkr, hxr, hfr⟩ := HXr.out
 replace HXq : Hid (aa w7 (w.heap.size + 2) [.int .i64 width, .slice a3.E ne a3.ce, .slice (some ⟨gg, 0, none⟩) (nr + 1) cap, .slice a3.H nh a3.ch, .int .i64 h.size, .slice a3.A1 m1 a3.c1, .int .i64 h.taken, .slice a3.A2 m2 a3.c2, .int .i64 h.num, .int .i64 h.size, .string h.root, .int .i64 h.taken, .string h.troot]) := zD HXq
 clear hxq hfq hkq
 obtain ⟨hkq, hxq, hfq⟩ := HXq.out
 replace HXo : Hid (aa w7 (w4.heap.size) [.int .i64 width, .slice a3.E ne a3.ce, .slice (some ⟨gg, 0, none⟩) (nr + 1) cap, .slice a3.H nh a3.ch, .int .i64 h.size, .slice a3.A1 m1 a3.c1, .int .i64 h.taken, .slice a3.A2 m2 a3.c2, .int .i64 h.num, .int .i64 h.size, .string h.root, .int .i64 h.taken, .string h.troot]) := zE HXo
 clear hxo hfo hko
 obtain ⟨hko, hxo, hfo⟩ := HXo.out
 clear hw
 refine bodyPost_ret (v := .tuple #[.agg #[.int .i64 width, .slice a3.E ne a3.ce, .slice (some ⟨gg, 0, none⟩) (nr + 1) cap, .slice a3.H nh a3.ch, .int .i64 h.size, .slice a3.A1 m1 a3.c1, .int .i64 h.taken, .slice a3.A2 m2 a3.c2, .int .i64 h.num, .int .i64 h.size, .string h.root, .int .i64 h.taken, .string h.troot], .slice L 1 1, .int .i64 0]) (by simp [results, Tryz.results48, go_sem, hxq]) rfl ?_
 exact ⟨⟨a3.E, some ⟨gg, 0, none⟩, a3.H, a3.A1, a3.A2, a3.ce, cap, a3.ch, a3.c1, a3.c2⟩, ⟨width, es, rs ++ [r], hs⟩, L, 1, 0, by dsimp only; rw [HLEN.out, HNE.out, HNH.out, HM1.out, HM2.out, HHH.out], ⟨.inr ⟨rfl, rfl, HDD.out, HOK.out.mono (by omega) (by omega) (Nat.le_refl _), HOW.out.mono (by omega) (by omega) (Nat.le_refl _)⟩, fun _ => rfl⟩, HB.out⟩
end
end Go.Proofs.YtoccjgcokffkbaaGreat
