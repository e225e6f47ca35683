/- Part 25 of the proof of FnWrites: lemmas and contracts. -/
import Derived.Test.YtoccjgcokffkbaaGreatTw17
namespace Go.Proofs.YtoccjgcokffkbaaGreat
set_option linter.unusedVariables false
set_option linter.unusedSimpArgs false
set_option maxHeartbeats 20000000
set_option maxRecDepth 100000
section
open Go.RowKit
theorem row_made0 (w : World) (e : TypeId) (size : Nat) : (w.alloc (.cells #[] e)).ownsRow w.heap.size e size (.slice (some ⟨w.heap.size, 0, none⟩) 0 0) 0 [] := World.ownsRow_made w #[] 0 (Nat.le_refl _) (Nat.zero_le _) (by simp)
theorem made_only {w w' : World} {e : TypeId} (hg : (w.alloc (.cells #[] e)).grownBy w' (Value.slice (some ⟨w.heap.size, 0, none⟩) 0 0).ownBlock) : Below w.heap.size w w' := by
 have h := bJ (row_made0 w e 1) hg
 exact au ((Below.refl _ _).alloc (Nat.le_refl _) _) h (Nat.le_refl _) (by simp)
theorem l12CopyP_c (width z1 z2 : Int) (E R H A1 A2 : Option Addr) (ne nr nh ce cr ch c1 c2 m1 m2 : Nat) (es : List Ent) (rs : List Rcp) (hs : List Hd) (l1 l2 : List ByteArray) (h : Hd) (w : World)
  (hE : Rd w 0 w.heap.size E (aQ es)) (hR : Rd w 0 w.heap.size R (bf rs)) (hH : Rd w 0 w.heap.size H (hds hs)) (hA1 : Rd w 0 w.heap.size A1 (strs l1)) (hA2 : Rd w 0 w.heap.size A2 (strs l2))
  (hne : es.length = ne) (hnr : rs.length = nr) (hnh : hs.length = nh) (hm1 : l1.length = m1) (hm2 : l2.length = m2) (b1 : ne ≤ 1000) (b2 : nr ≤ 1000) (b3 : nh ≤ 1000) (b4 : m1 ≤ 1000) (b5 : m2 ≤ 1000)
  (nE : E = none → ce = 0) (nR : R = none → cr = 0) (nH : H = none → ch = 0) (n1 : A1 = none → c1 = 0) (n2 : A2 = none → c2 = 0) :
  Calls Tryz.prog 102 #[.agg #[.int .i64 width, .slice E ne ce, .slice R nr cr, .slice H nh ch, .int .i64 z1, .slice A1 m1 c1, .int .i64 z2, .slice A2 m2 c2, .int .i64 h.num, .int .i64 h.size, .string h.root, .int .i64 h.taken, .string h.troot]] w fun e w' => ∃ a : Bk, e = .returned (.agg #[.int .i64 width, .slice a.E ne a.ce, .slice a.R nr a.cr, .slice a.H nh a.ch, .int .i64 z1, .slice a.A1 m1 a.c1, .int .i64 z2, .slice a.A2 m2 a.c2, .int .i64 h.num, .int .i64 h.size, .string h.root, .int .i64 h.taken, .string h.troot]) ∧
   bY w' w.heap.size w'.heap.size a ⟨es, rs, hs, l1, l2⟩ ∧ Below w.heap.size w w' := by
 have HB : Hid (Below w.heap.size w w) := Below.refl _ _
 have HOE : Hid (Rd w (0) (w.heap.size) (E) (aQ es)) := Rd.base hE
 have HOR : Hid (Rd w (0) (w.heap.size) (R) (bf rs)) := Rd.base hR
 have HOH : Hid (Rd w (0) (w.heap.size) (H) (hds hs)) := Rd.base hH
 have HOX : Hid (Rd w (0) (w.heap.size) (A1) (strs l1)) := Rd.base hA1
 have HOY : Hid (Rd w (0) (w.heap.size) (A2) (strs l2)) := Rd.base hA2
 clear hE hR hH hA1 hA2
 have HNE := lH hne
 have HNR := lH hnr
 have HNH := lH hnh
 have HM1 := lH hm1
 have HM2 := lH hm2
 have HCE := lH nE
 have HCR := lH nR
 have HCH := lH nH
 have HC1 := lH n1
 have HC2 := lH n2
 clear hne hnr hnh hm1 hm2 nE nR nH n1 n2
 go_enter Tryz.func102, Tryz.ntmps102
 go_upto_region 2 with fail
 refine aC (fun w1 hw => ?_)
 have hz1 : w.heap.size + 3 ≤ w1.heap.size := zA
 have hbn : Below w.heap.size w w1 := zB
 replace HB := bT HB hbn
 replace HOE := lH (HOE.out.below hbn)
 replace HOR := lH (HOR.out.below hbn)
 replace HOH := lH (HOH.out.below hbn)
 replace HOX := lH (HOX.out.below hbn)
 replace HOY := lH (HOY.out.below hbn)
 clear hbn
 have HXb : Hid (aa w1 (w.heap.size) [.int .i64 width, .slice E ne ce, .slice R nr cr, .slice H nh ch, .int .i64 z1, .slice A1 m1 c1, .int .i64 z2, .slice A2 m2 c2, .int .i64 h.num, .int .i64 h.size, .string h.root, .int .i64 h.taken, .string h.troot]) := zG13
 obtain ⟨hkb, hxb, hfb⟩ := HXb.out
 have HXq : Hid (aa w1 (w.heap.size + 1) [.int .i64 0, .slice none 0 0, .slice none 0 0, .slice none 0 0, .int .i64 0, .slice none 0 0, .int .i64 0, .slice none 0 0, .int .i64 0, .int .i64 0, .string ⟨#[]⟩, .int .i64 0, .string ⟨#[]⟩]) := zG13
 obtain ⟨hkq, hxq, hfq⟩ := HXq.out
 have HXs : Hid (aa w1 (w.heap.size + 2) [.int .i64 z1, .slice A1 m1 c1, .int .i64 z2, .slice A2 m2 c2, .int .i64 h.num, .int .i64 h.size, .string h.root, .int .i64 h.taken, .string h.troot]) := zG9
 obtain ⟨hks, hxs, hfs⟩ := HXs.out
 clear hw
 go_wp2_with (at_builtin; refine appStr rfl _ _ rfl w1.heap.size _ 0 [] rfl (row_made0 w1 _ _) A1 m1 c1 _ _ l1 rfl HM1.out (HOX.out.alloc _) HC1.out (by omega) (by simp) ?_)
 intro v2 w2_ hown2 hg2
 have hb2 := made_only hg2
 try simp only [Nat.zero_add, List.nil_append] at hown2
 obtain ⟨B1, d1, rfl, _, _, _⟩ := az hown2
 have hzw2_ : w1.heap.size ≤ w2_.heap.size := hb2.size
 replace HB := bT HB hb2
 replace HOE := lH (HOE.out.below hb2)
 replace HOR := lH (HOR.out.below hb2)
 replace HOH := lH (HOH.out.below hb2)
 replace HOX := lH (HOX.out.below hb2)
 replace HOY := lH (HOY.out.below hb2)
 replace HXb := nB HXb hb2
 clear hxb hfb hkb
 obtain ⟨hkb, hxb, hfb⟩ := HXb.out
 replace HXq := nB HXq hb2
 clear hxq hfq hkq
 obtain ⟨hkq, hxq, hfq⟩ := HXq.out
 replace HXs := nB HXs hb2
 clear hxs hfs hks
 obtain ⟨hks, hxs, hfs⟩ := HXs.out
 have hlo1 : w.heap.size ≤ w1.heap.size := by omega
 have HOP : Hid (aJ w2_ (w1.heap.size) (w2_.heap.size) (((9, 1), .slice B1 m1 d1, m1)) (strs l1)) := lH (aJ.of hown2)
 clear hown2 hg2 hb2
 clear HOX
 go_upto_region 3 with fail
 refine aC (fun w2 hw => ?_)
 have hz2 : w2_.heap.size + 0 ≤ w2.heap.size := zA
 replace HB : Hid (Below w.heap.size w w2) := zC HB
 replace HOE : Hid (Rd w2 (0) (w.heap.size) (E) (aQ es)) := zLRd HOE
 replace HOR : Hid (Rd w2 (0) (w.heap.size) (R) (bf rs)) := zLRd HOR
 replace HOH : Hid (Rd w2 (0) (w.heap.size) (H) (hds hs)) := zLRd HOH
 replace HOY : Hid (Rd w2 (0) (w.heap.size) (A2) (strs l2)) := zLRd HOY
 replace HOP : Hid (aJ w2 (w1.heap.size) (w2_.heap.size) (((9, 1), .slice B1 m1 d1, m1)) (strs l1)) := zLRowT HOP
 replace HXb := nE w2 HXb
 clear hxb hfb hkb
 obtain ⟨hkb, hxb, hfb⟩ := HXb.out
 replace HXq := nE w2 HXq
 clear hxq hfq hkq
 obtain ⟨hkq, hxq, hfq⟩ := HXq.out
 replace HXs : Hid (aa w2 (w.heap.size + 2) [.int .i64 z1, .slice B1 m1 d1, .int .i64 z2, .slice A2 m2 c2, .int .i64 h.num, .int .i64 h.size, .string h.root, .int .i64 h.taken, .string h.troot]) := zD HXs
 clear hxs hfs hks
 obtain ⟨hks, hxs, hfs⟩ := HXs.out
 clear hw
 have hlo2 : w2_.heap.size ≤ w2.heap.size := by omega
 obtain ⟨p2, hp2, hp2'⟩ : ∃ n, n ≤ w2.heap.size ∧ w2.heap.size ≤ n := ⟨_, Nat.le_refl _, Nat.le_refl _⟩
 go_wp2_with (at_builtin; refine appStr rfl _ _ rfl w2.heap.size _ 0 [] rfl (row_made0 w2 _ _) A2 m2 c2 _ _ l2 rfl HM2.out (HOY.out.alloc _) HC2.out (by omega) (by simp) ?_)
 intro v3 w3_ hown3 hg3
 have hb3 := made_only hg3
 try simp only [Nat.zero_add, List.nil_append] at hown3
 obtain ⟨B2, d2, rfl, _, _, _⟩ := az hown3
 have hzw3_ : w2.heap.size ≤ w3_.heap.size := hb3.size
 replace HB := bT HB hb3
 replace HOE := lH (HOE.out.below hb3)
 replace HOR := lH (HOR.out.below hb3)
 replace HOH := lH (HOH.out.below hb3)
 replace HOY := lH (HOY.out.below hb3)
 replace HOP := lH (HOP.out.below hb3)
 replace HXb := nB HXb hb3
 clear hxb hfb hkb
 obtain ⟨hkb, hxb, hfb⟩ := HXb.out
 replace HXq := nB HXq hb3
 clear hxq hfq hkq
 obtain ⟨hkq, hxq, hfq⟩ := HXq.out
 replace HXs := nB HXs hb3
 clear hxs hfs hks
 obtain ⟨hks, hxs, hfs⟩ := HXs.out
 have HOQ : Hid (aJ w3_ (p2) (w3_.heap.size) (((9, 1), .slice B2 m2 d2, m2)) (strs l2)) := lH ((aJ.of hown3).mono hp2 (Nat.le_refl _))
 clear hown3 hg3 hb3
 clear HOY
 go_upto_region 4 with fail
 refine aC (fun w3 hw => ?_)
 have hz3 : w3_.heap.size + 0 ≤ w3.heap.size := zA
 replace HB : Hid (Below w.heap.size w w3) := zC HB
 replace HOE : Hid (Rd w3 (0) (w.heap.size) (E) (aQ es)) := zLRd HOE
 replace HOR : Hid (Rd w3 (0) (w.heap.size) (R) (bf rs)) := zLRd HOR
 replace HOH : Hid (Rd w3 (0) (w.heap.size) (H) (hds hs)) := zLRd HOH
 replace HOP : Hid (aJ w3 (w1.heap.size) (w2_.heap.size) (((9, 1), .slice B1 m1 d1, m1)) (strs l1)) := zLRowT HOP
 replace HOQ : Hid (aJ w3 (p2) (w3_.heap.size) (((9, 1), .slice B2 m2 d2, m2)) (strs l2)) := zLRowT HOQ
 replace HXb := nE w3 HXb
 clear hxb hfb hkb
 obtain ⟨hkb, hxb, hfb⟩ := HXb.out
 replace HXq := nE w3 HXq
 clear hxq hfq hkq
 obtain ⟨hkq, hxq, hfq⟩ := HXq.out
 replace HXs : Hid (aa w3 (w.heap.size + 2) [.int .i64 z1, .slice B1 m1 d1, .int .i64 z2, .slice B2 m2 d2, .int .i64 h.num, .int .i64 h.size, .string h.root, .int .i64 h.taken, .string h.troot]) := zD HXs
 clear hxs hfs hks
 obtain ⟨hks, hxs, hfs⟩ := HXs.out
 clear hw
 obtain ⟨F, HF⟩ : ∃ F : Facts, Hid (F = fun iq xq tqs dsq uq => match iq with
  | 0 => xq.v = .pointer (some ⟨(w.heap.size), 0, none⟩)
  | 1 => xq.v = .int .i64 width
  | 2 => xq.v = .slice (some ⟨xq.s, 0, none⟩) 0 0 ∧ bM (inG xq []) uq 41 5 (.slice (some ⟨xq.s, 0, none⟩) 0 0) 0 []
  | 3 => xq.v = .pointer (some ⟨(w.heap.size), 1, none⟩)
  | 4 => xq.v = .pointer (some ⟨(w.heap.size), 1, none⟩)
  | 5 => xq.v = .slice E ne ce
  | 6 => (match tqs, dsq with | [tq0], [] => ∃ (E3 : Option Addr) (e3 : Nat), xq.v = .slice E3 ne e3 ∧ bM (inG xq [tq0]) uq 41 5 (.slice E3 ne e3) (ne) (aQ es) | _, _ => False)
  | 7 => (match tqs, dsq with | [], [yq0] => ∃ (E3 : Option Addr) (e3 : Nat), yq0.v = .slice E3 ne e3 ∧ xq.v = .agg #[.slice E3 ne e3] | _, _ => False)
  | 8 => xq.v = .slice (some ⟨xq.s, 0, none⟩) 0 0 ∧ bM (inG xq []) uq 43 3 (.slice (some ⟨xq.s, 0, none⟩) 0 0) 0 []
  | 9 => xq.v = .pointer (some ⟨(w.heap.size), 2, none⟩)
  | 10 => xq.v = .slice R nr cr
  | 11 => (match tqs, dsq with | [tq0], [] => ∃ (R3 : Option Addr) (r3 : Nat), xq.v = .slice R3 nr r3 ∧ bM (inG xq [tq0]) uq 43 3 (.slice R3 nr r3) (nr) (bf rs) | _, _ => False)
  | 12 => xq.v = .slice (some ⟨xq.s, 0, none⟩) 0 0 ∧ bM (inG xq []) uq 33 5 (.slice (some ⟨xq.s, 0, none⟩) 0 0) 0 []
  | 13 => xq.v = .pointer (some ⟨(w.heap.size), 3, none⟩)
  | 14 => xq.v = .slice H nh ch
  | 15 => (match tqs, dsq with | [tq0], [] => ∃ (H3 : Option Addr) (h3 : Nat), xq.v = .slice H3 nh h3 ∧ bM (inG xq [tq0]) uq 33 5 (.slice H3 nh h3) (nh) (hds hs) | _, _ => False)
  | 16 => xq.v = .agg #[.int .i64 z1, .slice B1 m1 d1, .int .i64 z2, .slice B2 m2 d2, .int .i64 h.num, .int .i64 h.size, .string h.root, .int .i64 h.taken, .string h.troot]
  | 17 => (match tqs, dsq with | [], [yq0, yq1, yq2] => ∃ (E3 : Option Addr) (e3 : Nat), yq0.v = .slice E3 ne e3 ∧ ∃ (R3 : Option Addr) (r3 : Nat), yq1.v = .slice R3 nr r3 ∧ ∃ (H3 : Option Addr) (h3 : Nat), yq2.v = .slice H3 nh h3 ∧ xq.v = .agg #[.int .i64 width, .slice E3 ne e3, .slice R3 nr r3, .slice H3 nh h3, .int .i64 z1, .slice B1 m1 d1, .int .i64 z2, .slice B2 m2 d2, .int .i64 h.num, .int .i64 h.size, .string h.root, .int .i64 h.taken, .string h.troot] | _, _ => False)
  | 18 => (match tqs, dsq with | [], [yq0, yq1, yq2] => ∃ (E3 : Option Addr) (e3 : Nat), yq0.v = .slice E3 ne e3 ∧ ∃ (R3 : Option Addr) (r3 : Nat), yq1.v = .slice R3 nr r3 ∧ ∃ (H3 : Option Addr) (h3 : Nat), yq2.v = .slice H3 nh h3 ∧ aa uq (w.heap.size + 1) [.int .i64 width, .slice E3 ne e3, .slice R3 nr r3, .slice H3 nh h3, .int .i64 z1, .slice B1 m1 d1, .int .i64 z2, .slice B2 m2 d2, .int .i64 h.num, .int .i64 h.size, .string h.root, .int .i64 h.taken, .string h.troot] | _, _ => False)
  | _ => False) := ⟨_, rfl⟩
 refine aX [[], [], [], [], [], [], [], [6], [], [], [], [], [], [], [], [], [], [6, 11, 15], [6, 11, 15]] [[], [], [], [], [], [], [2], [], [], [], [], [8], [], [], [], [12], [], [], []] [some 20, some 21, some 22, some 23, some 24, some 25, some 26, some 27, some 28, some 29, some 30, some 31, some 32, some 33, some 34, some 35, some 36, some 37, none] (some 18) (w.heap.size + 1) (w.heap.size + 1 + 1) (.inr (by omega)) F (by kernel_rfl) (by kernel_rfl) (by kernel_rfl) ?_ ⟨?_, ?_, ?_, ?_, ?_, ?_, ?_, ?_, ?_, ?_, ?_, ?_, ?_, ?_, ?_, ?_, ?_, ?_, ?_, trivial⟩ ?_
 ·rw [HF.out]; intro iq xq tqs dsq uq u' hi hf hs hW hx hbk
  have kx : ∀ b, xq.s ≤ b → b < xq.e → u'.heap[b]? = uq.heap[b]? := fun b h1 h2 => hbk b (.inr (.inl ⟨h1, h2⟩))
  have kt : ∀ t ∈ tqs, ∀ b, t.s ≤ b → b < t.e → u'.heap[b]? = uq.heap[b]? := fun t ht b h1 h2 => hbk b (.inr (.inr ⟨t, ht, h1, h2⟩))
  match iq with
  | 0 | 1 => exact hf
  | 2 => exact ⟨hf.1, hf.2.keep (fun k hk => hk.elim (fun h => kx k h.1 h.2) (fun ⟨t, ht, _⟩ => by cases ht))⟩
  | 3 | 4 | 5 => exact hf
  | 6 => match tqs, dsq, hf with | [tq0], [], hf => obtain ⟨E3, e3, hv, p0⟩ := hf; exact ⟨E3, e3, hv, p0.keep (fun k hk => hk.elim (fun h => kx k h.1 h.2) (fun ⟨t, ht, h⟩ => kt t ht k h.1 h.2))⟩
  | 7 => exact hf
  | 8 => exact ⟨hf.1, hf.2.keep (fun k hk => hk.elim (fun h => kx k h.1 h.2) (fun ⟨t, ht, _⟩ => by cases ht))⟩
  | 9 | 10 => exact hf
  | 11 => match tqs, dsq, hf with | [tq0], [], hf => obtain ⟨R3, r3, hv, p0⟩ := hf; exact ⟨R3, r3, hv, p0.keep (fun k hk => hk.elim (fun h => kx k h.1 h.2) (fun ⟨t, ht, h⟩ => kt t ht k h.1 h.2))⟩
  | 12 => exact ⟨hf.1, hf.2.keep (fun k hk => hk.elim (fun h => kx k h.1 h.2) (fun ⟨t, ht, _⟩ => by cases ht))⟩
  | 13 | 14 => exact hf
  | 15 => match tqs, dsq, hf with | [tq0], [], hf => obtain ⟨H3, h3, hv, p0⟩ := hf; exact ⟨H3, h3, hv, p0.keep (fun k hk => hk.elim (fun h => kx k h.1 h.2) (fun ⟨t, ht, h⟩ => kt t ht k h.1 h.2))⟩
  | 16 | 17 => exact hf
  | 18 => match tqs, dsq, hf with | [], [yq0, yq1, yq2], hf => obtain ⟨E3, e3, hvr6, R3, r3, hvr11, H3, h3, hvr15, hb⟩ := hf; exact ⟨E3, e3, hvr6, R3, r3, hvr11, H3, h3, hvr15, hb.keep hs (hbk _ (.inl ⟨hkq, .inr (.inr rfl)⟩))⟩
 ·intro gh ρ u _ _ _ hd h0 hb he ha hF
  have r1 : ρ (.tmp 1) = .pointer (some ⟨w.heap.size, 0, none⟩) := (h0 1 (by decide +kernel)).trans rfl
  clear hd h0 he ha hF; go_simp; exact fE HF rfl
 ·intro gh ρ u _ _ _ hd h0 hb he ha hF
  first | replace hb := hb.drew.below (by decide +kernel) | replace hb := hb.drew.only
  have hbz : w3.heap.size ≤ u.heap.size := hb.size
  have r20 : ρ (.tmp 20) = .pointer (some ⟨(w.heap.size), 0, none⟩) := fH (hd 0) 20 (fG HF (hF 0))
  first | have q_b := (HXb.out.below hb).2.1 | have q_b := (HXb.out.only hb (by omega)).2.1
  have k_b : w.heap.size < u.heap.size := by have := HXb.out.1; omega
  first | have q_s := (HXs.out.below hb).2.1 | have q_s := (HXs.out.only hb (by omega)).2.1
  have k_s : w.heap.size + 2 < u.heap.size := by have := HXs.out.1; omega
  clear hd h0 he ha hF; go_simp; exact fE HF rfl
 ·intro gh ρ u _ _ _ hd h0 hb he ha hF
  first | replace hb := hb.drew.below (by decide +kernel) | replace hb := hb.drew.only
  have hbz : w3.heap.size ≤ u.heap.size := hb.size
  clear hd h0 he ha hF; go_simp
  rw [HF.out]
  exact ⟨aS.of_below ((Below.refl _ _).alloc (Nat.le_refl _) _), rfl, bM.made _ _ _ _ (.inl ⟨Nat.le_refl _, by simp⟩)⟩
 ·intro gh ρ u _ _ _ hd h0 hb he ha hF
  have r1 : ρ (.tmp 1) = .pointer (some ⟨w.heap.size, 0, none⟩) := (h0 1 (by decide +kernel)).trans rfl
  clear hd h0 he ha hF; go_simp; exact fE HF rfl
 ·intro gh ρ u _ _ _ hd h0 hb he ha hF
  have r23 : ρ (.tmp 23) = .pointer (some ⟨(w.heap.size), 1, none⟩) := fH (hd 3) 23 (fG HF (hF 3))
  clear hd h0 he ha hF; go_simp; exact fE HF rfl
 ·intro gh ρ u _ _ _ hd h0 hb he ha hF
  first | replace hb := hb.drew.below (by decide +kernel) | replace hb := hb.drew.only
  have hbz : w3.heap.size ≤ u.heap.size := hb.size
  have r24 : ρ (.tmp 24) = .pointer (some ⟨(w.heap.size), 1, none⟩) := fH (hd 4) 24 (fG HF (hF 4))
  first | have q_b := (HXb.out.below hb).2.1 | have q_b := (HXb.out.only hb (by omega)).2.1
  have k_b : w.heap.size < u.heap.size := by have := HXb.out.1; omega
  first | have q_s := (HXs.out.below hb).2.1 | have q_s := (HXs.out.only hb (by omega)).2.1
  have k_s : w.heap.size + 2 < u.heap.size := by have := HXs.out.1; omega
  clear hd h0 he ha hF; go_simp; exact fE HF rfl
 ·intro gh ρ u _ _ _ hd h0 hb he ha hF
  first | replace hb := hb.drew.below (by decide +kernel) | replace hb := hb.drew.only
  have hbz : w3.heap.size ≤ u.heap.size := hb.size
  have f2 : (gh 2).v = .slice (some ⟨(gh 2).s, 0, none⟩) 0 0 ∧ bM (inG (gh 2) []) u 41 5 (.slice (some ⟨(gh 2).s, 0, none⟩) 0 0) 0 [] := fG HF (hF 2)
  obtain ⟨hv2, hrow2⟩ := f2
  have r22 : ρ (.tmp 22) = .slice (some ⟨(gh 2).s, 0, none⟩) 0 0 := (hd 2 (by decide +kernel) 22 (by kernel_rfl)).trans hv2
  have r25 : ρ (.tmp 25) = .slice E ne ce := fH (hd 5) 25 (fG HF (hF 5))
  clear hv2 hd h0 he ha hF
  refine gappEnt _ _ rfl _ (0) ([]) r22 hrow2 E ne ce _ _ es r25 HNE.out (HOE.out.below hb) HCE.out (by omega) ?_
  intro A' c' u' hrow hlt hg
  rw [HF.out]
  have hS : ∀ k, inG (gh 2) [] k → ∃ z ∈ ([2] : List Nat), (gh z).s ≤ k ∧ k < (gh z).e := by
   rintro k (h | ⟨t, ht, h⟩)
   ·exact ⟨2, by decide, h⟩
   cases ht
  refine ⟨⟨hg.os, hg.tape, hg.output, hg.size, fun k hk hd' _ => hg.block k hk (fun e => ?_)⟩, A', c', by rw [Nat.zero_add], ?_⟩
  ·obtain ⟨z, hz, h1, h2⟩ := hS k (hrow2.at_ k e.symm); have := hd' (gh z) (List.mem_map.2 ⟨z, hz, rfl⟩); omega
  rw [Nat.zero_add, List.nil_append] at hrow; rw [Nat.zero_add] at hlt; exact bM.widen hrow (fun k hk => .inr (let ⟨z, hz, h⟩ := hS k hk; ⟨gh z, List.mem_map.2 ⟨z, hz, rfl⟩, h⟩)) (fun e => .inl ⟨Nat.le_refl _, hlt _ e⟩)
 ·intro gh ρ u _ _ _ hd h0 hb he ha hF
  have f6 : ∃ (E3 : Option Addr) (e3 : Nat), (gh 6).v = .slice E3 ne e3 ∧ bM (inG (gh 6) [(gh 2)]) u 41 5 (.slice E3 ne e3) (ne) (aQ es) := fG HF (hF 6)
  obtain ⟨E3, e3, hv6, hrow6⟩ := f6; have hrt6 := hv6
  have r26 : ρ (.tmp 26) = .slice E3 ne e3 := (hd 6 (by decide +kernel) 26 (by kernel_rfl)).trans hv6
  have HRT6 := lH hrt6
  clear hv6 hrt6 hd h0 he ha hF; go_simp
  rw [HF.out]
  exact ⟨aS.refl _ _, E3, e3, HRT6.out, rfl⟩
 ·intro gh ρ u _ _ _ hd h0 hb he ha hF
  first | replace hb := hb.drew.below (by decide +kernel) | replace hb := hb.drew.only
  have hbz : w3.heap.size ≤ u.heap.size := hb.size
  clear hd h0 he ha hF; go_simp
  rw [HF.out]
  exact ⟨aS.of_below ((Below.refl _ _).alloc (Nat.le_refl _) _), rfl, bM.made _ _ _ _ (.inl ⟨Nat.le_refl _, by simp⟩)⟩
 ·intro gh ρ u _ _ _ hd h0 hb he ha hF
  have r1 : ρ (.tmp 1) = .pointer (some ⟨w.heap.size, 0, none⟩) := (h0 1 (by decide +kernel)).trans rfl
  clear hd h0 he ha hF; go_simp; exact fE HF rfl
 ·intro gh ρ u _ _ _ hd h0 hb he ha hF
  first | replace hb := hb.drew.below (by decide +kernel) | replace hb := hb.drew.only
  have hbz : w3.heap.size ≤ u.heap.size := hb.size
  have r29 : ρ (.tmp 29) = .pointer (some ⟨(w.heap.size), 2, none⟩) := fH (hd 9) 29 (fG HF (hF 9))
  first | have q_b := (HXb.out.below hb).2.1 | have q_b := (HXb.out.only hb (by omega)).2.1
  have k_b : w.heap.size < u.heap.size := by have := HXb.out.1; omega
  first | have q_s := (HXs.out.below hb).2.1 | have q_s := (HXs.out.only hb (by omega)).2.1
  have k_s : w.heap.size + 2 < u.heap.size := by have := HXs.out.1; omega
  clear hd h0 he ha hF; go_simp; exact fE HF rfl
 ·intro gh ρ u _ _ _ hd h0 hb he ha hF
  first | replace hb := hb.drew.below (by decide +kernel) | replace hb := hb.drew.only
  have hbz : w3.heap.size ≤ u.heap.size := hb.size
  have f8 : (gh 8).v = .slice (some ⟨(gh 8).s, 0, none⟩) 0 0 ∧ bM (inG (gh 8) []) u 43 3 (.slice (some ⟨(gh 8).s, 0, none⟩) 0 0) 0 [] := fG HF (hF 8)
  obtain ⟨hv8, hrow8⟩ := f8
  have r28 : ρ (.tmp 28) = .slice (some ⟨(gh 8).s, 0, none⟩) 0 0 := (hd 8 (by decide +kernel) 28 (by kernel_rfl)).trans hv8
  have r30 : ρ (.tmp 30) = .slice R nr cr := fH (hd 10) 30 (fG HF (hF 10))
  clear hv8 hd h0 he ha hF
  refine gappRcp _ _ rfl _ (0) ([]) r28 hrow8 R nr cr _ _ rs r30 HNR.out (HOR.out.below hb) HCR.out (by omega) ?_
  intro A' c' u' hrow hlt hg
  rw [HF.out]
  have hS : ∀ k, inG (gh 8) [] k → ∃ z ∈ ([8] : List Nat), (gh z).s ≤ k ∧ k < (gh z).e := by
   rintro k (h | ⟨t, ht, h⟩)
   ·exact ⟨8, by decide, h⟩
   cases ht
  refine ⟨⟨hg.os, hg.tape, hg.output, hg.size, fun k hk hd' _ => hg.block k hk (fun e => ?_)⟩, A', c', by rw [Nat.zero_add], ?_⟩
  ·obtain ⟨z, hz, h1, h2⟩ := hS k (hrow8.at_ k e.symm); have := hd' (gh z) (List.mem_map.2 ⟨z, hz, rfl⟩); omega
  rw [Nat.zero_add, List.nil_append] at hrow; rw [Nat.zero_add] at hlt; exact bM.widen hrow (fun k hk => .inr (let ⟨z, hz, h⟩ := hS k hk; ⟨gh z, List.mem_map.2 ⟨z, hz, rfl⟩, h⟩)) (fun e => .inl ⟨Nat.le_refl _, hlt _ e⟩)
 ·intro gh ρ u _ _ _ hd h0 hb he ha hF
  first | replace hb := hb.drew.below (by decide +kernel) | replace hb := hb.drew.only
  have hbz : w3.heap.size ≤ u.heap.size := hb.size
  clear hd h0 he ha hF; go_simp
  rw [HF.out]
  exact ⟨aS.of_below ((Below.refl _ _).alloc (Nat.le_refl _) _), rfl, bM.made _ _ _ _ (.inl ⟨Nat.le_refl _, by simp⟩)⟩
 ·intro gh ρ u _ _ _ hd h0 hb he ha hF
  have r1 : ρ (.tmp 1) = .pointer (some ⟨w.heap.size, 0, none⟩) := (h0 1 (by decide +kernel)).trans rfl
  clear hd h0 he ha hF; go_simp; exact fE HF rfl
 ·intro gh ρ u _ _ _ hd h0 hb he ha hF
  first | replace hb := hb.drew.below (by decide +kernel) | replace hb := hb.drew.only
  have hbz : w3.heap.size ≤ u.heap.size := hb.size
  have r33 : ρ (.tmp 33) = .pointer (some ⟨(w.heap.size), 3, none⟩) := fH (hd 13) 33 (fG HF (hF 13))
  first | have q_b := (HXb.out.below hb).2.1 | have q_b := (HXb.out.only hb (by omega)).2.1
  have k_b : w.heap.size < u.heap.size := by have := HXb.out.1; omega
  first | have q_s := (HXs.out.below hb).2.1 | have q_s := (HXs.out.only hb (by omega)).2.1
  have k_s : w.heap.size + 2 < u.heap.size := by have := HXs.out.1; omega
  clear hd h0 he ha hF; go_simp; exact fE HF rfl
 ·intro gh ρ u _ _ _ hd h0 hb he ha hF
  first | replace hb := hb.drew.below (by decide +kernel) | replace hb := hb.drew.only
  have hbz : w3.heap.size ≤ u.heap.size := hb.size
  have f12 : (gh 12).v = .slice (some ⟨(gh 12).s, 0, none⟩) 0 0 ∧ bM (inG (gh 12) []) u 33 5 (.slice (some ⟨(gh 12).s, 0, none⟩) 0 0) 0 [] := fG HF (hF 12)
  obtain ⟨hv12, hrow12⟩ := f12
  have r32 : ρ (.tmp 32) = .slice (some ⟨(gh 12).s, 0, none⟩) 0 0 := (hd 12 (by decide +kernel) 32 (by kernel_rfl)).trans hv12
  have r34 : ρ (.tmp 34) = .slice H nh ch := fH (hd 14) 34 (fG HF (hF 14))
  clear hv12 hd h0 he ha hF
  refine gappHd _ _ rfl _ (0) ([]) r32 hrow12 H nh ch _ _ hs r34 HNH.out (HOH.out.below hb) HCH.out (by omega) ?_
  intro A' c' u' hrow hlt hg
  rw [HF.out]
  have hS : ∀ k, inG (gh 12) [] k → ∃ z ∈ ([12] : List Nat), (gh z).s ≤ k ∧ k < (gh z).e := by
   rintro k (h | ⟨t, ht, h⟩)
   ·exact ⟨12, by decide, h⟩
   cases ht
  refine ⟨⟨hg.os, hg.tape, hg.output, hg.size, fun k hk hd' _ => hg.block k hk (fun e => ?_)⟩, A', c', by rw [Nat.zero_add], ?_⟩
  ·obtain ⟨z, hz, h1, h2⟩ := hS k (hrow12.at_ k e.symm); have := hd' (gh z) (List.mem_map.2 ⟨z, hz, rfl⟩); omega
  rw [Nat.zero_add, List.nil_append] at hrow; rw [Nat.zero_add] at hlt; exact bM.widen hrow (fun k hk => .inr (let ⟨z, hz, h⟩ := hS k hk; ⟨gh z, List.mem_map.2 ⟨z, hz, rfl⟩, h⟩)) (fun e => .inl ⟨Nat.le_refl _, hlt _ e⟩)
 ·intro gh ρ u _ _ _ hd h0 hb he ha hF
  first | replace hb := hb.drew.below (by decide +kernel) | replace hb := hb.drew.only
  have hbz : w3.heap.size ≤ u.heap.size := hb.size
  have r3 : ρ (.tmp 3) = .pointer (some ⟨w.heap.size + 2, 0, none⟩) := (h0 3 (by decide +kernel)).trans rfl
  first | have q_b := (HXb.out.below hb).2.1 | have q_b := (HXb.out.only hb (by omega)).2.1
  have k_b : w.heap.size < u.heap.size := by have := HXb.out.1; omega
  first | have q_s := (HXs.out.below hb).2.1 | have q_s := (HXs.out.only hb (by omega)).2.1
  have k_s : w.heap.size + 2 < u.heap.size := by have := HXs.out.1; omega
  clear hd h0 he ha hF; go_simp; exact fE HF rfl
 ·intro gh ρ u _ _ _ hd h0 hb he ha hF
  have r21 : ρ (.tmp 21) = .int .i64 width := fH (hd 1) 21 (fG HF (hF 1))
  have f7 : ∃ (E3 : Option Addr) (e3 : Nat), (gh 6).v = .slice E3 ne e3 ∧ (gh 7).v = .agg #[.slice E3 ne e3] := fG HF (hF 7)
  obtain ⟨E3, e3, hrt6, hv7⟩ := f7
  have r27 : ρ (.tmp 27) = .agg #[.slice E3 ne e3] := (hd 7 (by decide +kernel) 27 (by kernel_rfl)).trans hv7
  have f11 : ∃ (R3 : Option Addr) (r3 : Nat), (gh 11).v = .slice R3 nr r3 ∧ bM (inG (gh 11) [(gh 8)]) u 43 3 (.slice R3 nr r3) (nr) (bf rs) := fG HF (hF 11)
  obtain ⟨R3, r3, hv11, hrow11⟩ := f11; have hrt11 := hv11
  have r31 : ρ (.tmp 31) = .slice R3 nr r3 := (hd 11 (by decide +kernel) 31 (by kernel_rfl)).trans hv11
  have f15 : ∃ (H3 : Option Addr) (h3 : Nat), (gh 15).v = .slice H3 nh h3 ∧ bM (inG (gh 15) [(gh 12)]) u 33 5 (.slice H3 nh h3) (nh) (hds hs) := fG HF (hF 15)
  obtain ⟨H3, h3, hv15, hrow15⟩ := f15; have hrt15 := hv15
  have r35 : ρ (.tmp 35) = .slice H3 nh h3 := (hd 15 (by decide +kernel) 35 (by kernel_rfl)).trans hv15
  have r36 : ρ (.tmp 36) = .agg #[.int .i64 z1, .slice B1 m1 d1, .int .i64 z2, .slice B2 m2 d2, .int .i64 h.num, .int .i64 h.size, .string h.root, .int .i64 h.taken, .string h.troot] := fH (hd 16) 36 (fG HF (hF 16))
  have HRT6 := lH hrt6
  have HRT11 := lH hrt11
  have HRT15 := lH hrt15
  clear hv7 hv11 hv15 hrt6 hrt11 hrt15 hd h0 he ha hF; go_simp
  rw [HF.out]
  exact ⟨aS.refl _ _, E3, e3, HRT6.out, R3, r3, HRT11.out, H3, h3, HRT15.out, rfl⟩
 ·intro gh ρ u _ _ _ hd h0 hb he ha hF
  first | replace hb := hb.drew.below (by decide +kernel) | replace hb := hb.drew.only
  have hbz : w3.heap.size ≤ u.heap.size := hb.size
  have r2 : ρ (.tmp 2) = .pointer (some ⟨w.heap.size + 1, 0, none⟩) := (h0 2 (by decide +kernel)).trans rfl
  have f17 : ∃ (E3 : Option Addr) (e3 : Nat), (gh 6).v = .slice E3 ne e3 ∧ ∃ (R3 : Option Addr) (r3 : Nat), (gh 11).v = .slice R3 nr r3 ∧ ∃ (H3 : Option Addr) (h3 : Nat), (gh 15).v = .slice H3 nh h3 ∧ (gh 17).v = .agg #[.int .i64 width, .slice E3 ne e3, .slice R3 nr r3, .slice H3 nh h3, .int .i64 z1, .slice B1 m1 d1, .int .i64 z2, .slice B2 m2 d2, .int .i64 h.num, .int .i64 h.size, .string h.root, .int .i64 h.taken, .string h.troot] := fG HF (hF 17)
  obtain ⟨E3, e3, hrt6, R3, r3, hrt11, H3, h3, hrt15, hv17⟩ := f17
  have r37 : ρ (.tmp 37) = .agg #[.int .i64 width, .slice E3 ne e3, .slice R3 nr r3, .slice H3 nh h3, .int .i64 z1, .slice B1 m1 d1, .int .i64 z2, .slice B2 m2 d2, .int .i64 h.num, .int .i64 h.size, .string h.root, .int .i64 h.taken, .string h.troot] := (hd 17 (by decide +kernel) 37 (by kernel_rfl)).trans hv17
  have HRT6 := lH hrt6
  have HRT11 := lH hrt11
  have HRT15 := lH hrt15
  obtain ⟨hzk, hzc, hzf⟩ := HXq.out.below hb
  clear hv17 hrt6 hrt11 hrt15 hd h0 he ha hF; go_simp
  rw [HF.out]
  refine ⟨?_, E3, e3, HRT6.out, R3, r3, HRT11.out, H3, h3, HRT15.out, ?_⟩
  ·refine aS.of_z (lo := w.heap.size + 1) (hi := w.heap.size + 1 + 1) ?_ rfl; (iterate 13 refine Only.setCell ?_ (by exact Nat.le_refl _) (by exact Nat.lt_succ_self _) _); exact Only.refl _ _ _
  show aa _ (w.heap.size + 1) _
  exact ⟨by simpa [World.setCell] using hzk, fun o => by rcases o with _ | _ | _ | _ | _ | _ | _ | _ | _ | _ | _ | _ | _ | o <;> go_simp, fun o => by go_simp⟩
 intro gh w4 hB hE hA hF
 replace hB : Only (w.heap.size + 1) (w.heap.size + 1 + 1) w3 w4 := hB.only
 have f0 : (gh 0).v = .pointer (some ⟨(w.heap.size), 0, none⟩) := fG HF (hF 0)
 have f1 : (gh 1).v = .int .i64 width := fG HF (hF 1)
 have f3 : (gh 3).v = .pointer (some ⟨(w.heap.size), 1, none⟩) := fG HF (hF 3)
 have f4 : (gh 4).v = .pointer (some ⟨(w.heap.size), 1, none⟩) := fG HF (hF 4)
 have f5 : (gh 5).v = .slice E ne ce := fG HF (hF 5)
 have f6 : ∃ (E3 : Option Addr) (e3 : Nat), (gh 6).v = .slice E3 ne e3 ∧ bM (inG (gh 6) [(gh 2)]) w4 41 5 (.slice E3 ne e3) (ne) (aQ es) := fG HF (hF 6)
 have f7 : ∃ (E3 : Option Addr) (e3 : Nat), (gh 6).v = .slice E3 ne e3 ∧ (gh 7).v = .agg #[.slice E3 ne e3] := fG HF (hF 7)
 have f9 : (gh 9).v = .pointer (some ⟨(w.heap.size), 2, none⟩) := fG HF (hF 9)
 have f10 : (gh 10).v = .slice R nr cr := fG HF (hF 10)
 have f11 : ∃ (R3 : Option Addr) (r3 : Nat), (gh 11).v = .slice R3 nr r3 ∧ bM (inG (gh 11) [(gh 8)]) w4 43 3 (.slice R3 nr r3) (nr) (bf rs) := fG HF (hF 11)
 have f13 : (gh 13).v = .pointer (some ⟨(w.heap.size), 3, none⟩) := fG HF (hF 13)
 have f14 : (gh 14).v = .slice H nh ch := fG HF (hF 14)
 have f15 : ∃ (H3 : Option Addr) (h3 : Nat), (gh 15).v = .slice H3 nh h3 ∧ bM (inG (gh 15) [(gh 12)]) w4 33 5 (.slice H3 nh h3) (nh) (hds hs) := fG HF (hF 15)
 have f16 : (gh 16).v = .agg #[.int .i64 z1, .slice B1 m1 d1, .int .i64 z2, .slice B2 m2 d2, .int .i64 h.num, .int .i64 h.size, .string h.root, .int .i64 h.taken, .string h.troot] := fG HF (hF 16)
 have f17 : ∃ (E3 : Option Addr) (e3 : Nat), (gh 6).v = .slice E3 ne e3 ∧ ∃ (R3 : Option Addr) (r3 : Nat), (gh 11).v = .slice R3 nr r3 ∧ ∃ (H3 : Option Addr) (h3 : Nat), (gh 15).v = .slice H3 nh h3 ∧ (gh 17).v = .agg #[.int .i64 width, .slice E3 ne e3, .slice R3 nr r3, .slice H3 nh h3, .int .i64 z1, .slice B1 m1 d1, .int .i64 z2, .slice B2 m2 d2, .int .i64 h.num, .int .i64 h.size, .string h.root, .int .i64 h.taken, .string h.troot] := fG HF (hF 17)
 have f18 : ∃ (E3 : Option Addr) (e3 : Nat), (gh 6).v = .slice E3 ne e3 ∧ ∃ (R3 : Option Addr) (r3 : Nat), (gh 11).v = .slice R3 nr r3 ∧ ∃ (H3 : Option Addr) (h3 : Nat), (gh 15).v = .slice H3 nh h3 ∧ aa w4 (w.heap.size + 1) [.int .i64 width, .slice E3 ne e3, .slice R3 nr r3, .slice H3 nh h3, .int .i64 z1, .slice B1 m1 d1, .int .i64 z2, .slice B2 m2 d2, .int .i64 h.num, .int .i64 h.size, .string h.root, .int .i64 h.taken, .string h.troot] := fG HF (hF 18)
 obtain ⟨E3, e3, hv6, hrow6⟩ := f6
 obtain ⟨R3, r3, hv11, hrow11⟩ := f11
 obtain ⟨H3, h3, hv15, hrow15⟩ := f15
 have hv0 := f0
 have hv1 := f1
 have hv3 := f3
 have hv4 := f4
 have hv5 := f5
 obtain ⟨E3_7, e3_7, hu6, hv7⟩ := f7
 replace hu6 := hv6.symm.trans hu6
 simp at hu6
 try simp only [and_assoc] at hu6
 obtain ⟨rfl, rfl⟩ := hu6
 have hv9 := f9
 have hv10 := f10
 have hv13 := f13
 have hv14 := f14
 have hv16 := f16
 obtain ⟨E3_17, e3_17, hu6, R3_17, r3_17, hu11, H3_17, h3_17, hu15, hv17⟩ := f17
 replace hu6 := hv6.symm.trans hu6
 simp at hu6
 try simp only [and_assoc] at hu6
 obtain ⟨rfl, rfl⟩ := hu6
 replace hu11 := hv11.symm.trans hu11
 simp at hu11
 try simp only [and_assoc] at hu11
 obtain ⟨rfl, rfl⟩ := hu11
 replace hu15 := hv15.symm.trans hu15
 simp at hu15
 try simp only [and_assoc] at hu15
 obtain ⟨rfl, rfl⟩ := hu15
 obtain ⟨E3_18, e3_18, hu6, R3_18, r3_18, hu11, H3_18, h3_18, hu15, hx18⟩ := f18
 replace hu6 := hv6.symm.trans hu6
 simp at hu6
 try simp only [and_assoc] at hu6
 obtain ⟨rfl, rfl⟩ := hu6
 replace hu11 := hv11.symm.trans hu11
 simp at hu11
 try simp only [and_assoc] at hu11
 obtain ⟨rfl, rfl⟩ := hu11
 replace hu15 := hv15.symm.trans hu15
 simp at hu15
 try simp only [and_assoc] at hu15
 obtain ⟨rfl, rfl⟩ := hu15
 obtain ⟨hs2, hse2, he2⟩ := hE 2 (by decide +kernel)
 obtain ⟨hs6, hse6, he6⟩ := hE 6 (by decide +kernel)
 obtain ⟨hs8, hse8, he8⟩ := hE 8 (by decide +kernel)
 obtain ⟨hs11, hse11, he11⟩ := hE 11 (by decide +kernel)
 obtain ⟨hs12, hse12, he12⟩ := hE 12 (by decide +kernel)
 obtain ⟨hs15, hse15, he15⟩ := hE 15 (by decide +kernel)
 have hdj4_2_6 := hA 2 (by decide +kernel) 6 (by decide +kernel) (by decide)
 have hdj4_2_8 := hA 2 (by decide +kernel) 8 (by decide +kernel) (by decide)
 have hdj4_2_11 := hA 2 (by decide +kernel) 11 (by decide +kernel) (by decide)
 have hdj4_2_12 := hA 2 (by decide +kernel) 12 (by decide +kernel) (by decide)
 have hdj4_2_15 := hA 2 (by decide +kernel) 15 (by decide +kernel) (by decide)
 have hdj4_6_8 := hA 6 (by decide +kernel) 8 (by decide +kernel) (by decide)
 have hdj4_6_11 := hA 6 (by decide +kernel) 11 (by decide +kernel) (by decide)
 have hdj4_6_12 := hA 6 (by decide +kernel) 12 (by decide +kernel) (by decide)
 have hdj4_6_15 := hA 6 (by decide +kernel) 15 (by decide +kernel) (by decide)
 have hdj4_8_11 := hA 8 (by decide +kernel) 11 (by decide +kernel) (by decide)
 have hdj4_8_12 := hA 8 (by decide +kernel) 12 (by decide +kernel) (by decide)
 have hdj4_8_15 := hA 8 (by decide +kernel) 15 (by decide +kernel) (by decide)
 have hdj4_11_12 := hA 11 (by decide +kernel) 12 (by decide +kernel) (by decide)
 have hdj4_11_15 := hA 11 (by decide +kernel) 15 (by decide +kernel) (by decide)
 have hdj4_12_15 := hA 12 (by decide +kernel) 15 (by decide +kernel) (by decide)
 change w3.heap.size ≤ _ at hs2 hs6 hs8 hs11 hs12 hs15
 have hS : ∀ k, inG (gh 6) [gh 2] k → w3.heap.size ≤ k ∧ k < w4.heap.size := by
  rintro k (h | ⟨t, ht, h⟩)
  ·omega
  simp only [List.mem_cons, List.not_mem_nil, or_false] at ht
  rcases ht with rfl <;> omega
 have hrwE := hrow6.row
 obtain ⟨hrcE, hrnE, hroE⟩ := hrow6.own hS (Nat.le_refl _)
 have hrkE : ∀ k, (.slice E3 ne e3 : Value).ownBlock = some k → ((gh 6).s ≤ k ∧ k < (gh 6).e) ∨ ((gh 2).s ≤ k ∧ k < (gh 2).e) := fun k hk => (hrow6.at_ k hk).elim Or.inl (fun ⟨t, ht, h⟩ => Or.inr (by simp only [List.mem_cons, List.not_mem_nil, or_false] at ht; subst ht; exact h))
 clear hS hrow6
 have hS : ∀ k, inG (gh 11) [gh 8] k → w3.heap.size ≤ k ∧ k < w4.heap.size := by
  rintro k (h | ⟨t, ht, h⟩)
  ·omega
  simp only [List.mem_cons, List.not_mem_nil, or_false] at ht
  rcases ht with rfl <;> omega
 have hrwR := hrow11.row
 obtain ⟨hrcR, hrnR, hroR⟩ := hrow11.own hS (Nat.le_refl _)
 have hrkR : ∀ k, (.slice R3 nr r3 : Value).ownBlock = some k → ((gh 11).s ≤ k ∧ k < (gh 11).e) ∨ ((gh 8).s ≤ k ∧ k < (gh 8).e) := fun k hk => (hrow11.at_ k hk).elim Or.inl (fun ⟨t, ht, h⟩ => Or.inr (by simp only [List.mem_cons, List.not_mem_nil, or_false] at ht; subst ht; exact h))
 clear hS hrow11
 have hS : ∀ k, inG (gh 15) [gh 12] k → w3.heap.size ≤ k ∧ k < w4.heap.size := by
  rintro k (h | ⟨t, ht, h⟩)
  ·omega
  simp only [List.mem_cons, List.not_mem_nil, or_false] at ht
  rcases ht with rfl <;> omega
 have hrwH := hrow15.row
 obtain ⟨hrcH, hrnH, hroH⟩ := hrow15.own hS (Nat.le_refl _)
 have hrkH : ∀ k, (.slice H3 nh h3 : Value).ownBlock = some k → ((gh 15).s ≤ k ∧ k < (gh 15).e) ∨ ((gh 12).s ≤ k ∧ k < (gh 12).e) := fun k hk => (hrow15.at_ k hk).elim Or.inl (fun ⟨t, ht, h⟩ => Or.inr (by simp only [List.mem_cons, List.not_mem_nil, or_false] at ht; subst ht; exact h))
 clear hS hrow15
 clear hE hA hF
 generalize (gh 8).v = vq8 at *
 generalize (gh 2).v = vq2 at *
 generalize (gh 12).v = vq12 at *
 simp only [dQ, Nat.reduceAdd, hv0, hv1, hv3, hv4, hv5, hv6, hv7, hv9, hv10, hv11, hv13, hv14, hv15, hv16, hv17]
 clear hv0 hv1 hv3 hv4 hv5 hv6 hv7 hv9 hv10 hv11 hv13 hv14 hv15 hv16 hv17
 generalize (gh 2).s = s4_2 at *
 generalize (gh 2).e = e4_2 at *
 generalize (gh 6).s = s4_6 at *
 generalize (gh 6).e = e4_6 at *
 generalize (gh 8).s = s4_8 at *
 generalize (gh 8).e = e4_8 at *
 generalize (gh 11).s = s4_11 at *
 generalize (gh 11).e = e4_11 at *
 generalize (gh 12).s = s4_12 at *
 generalize (gh 12).e = e4_12 at *
 generalize (gh 15).s = s4_15 at *
 generalize (gh 15).e = e4_15 at *
 clear HF
 have hb := hB
 clear hB
 have hzw4 : w3.heap.size ≤ w4.heap.size := hb.size
 replace HB := lH (au HB.out hb (by omega) HB.out.size)
 replace HOE := lH (HOE.out.only hb (by first | omega | (simp; omega)))
 replace HOR := lH (HOR.out.only hb (by first | omega | (simp; omega)))
 replace HOH := lH (HOH.out.only hb (by first | omega | (simp; omega)))
 replace HOP := lH (HOP.out.only hb (by first | omega | (simp; omega)))
 replace HOQ := lH (HOQ.out.only hb (by first | omega | (simp; omega)))
 replace HXb := nO HXb hb
 clear hxb hfb hkb
 obtain ⟨hkb, hxb, hfb⟩ := HXb.out
 clear hxq hfq hkq HXq
 replace HXs := nO HXs hb
 clear hxs hfs hks
 obtain ⟨hks, hxs, hfs⟩ := HXs.out
 clear hb
 have HXq : Hid (aa w4 (w.heap.size + 1) [.int .i64 width, .slice E3 ne e3, .slice R3 nr r3, .slice H3 nh h3, .int .i64 z1, .slice B1 m1 d1, .int .i64 z2, .slice B2 m2 d2, .int .i64 h.num, .int .i64 h.size, .string h.root, .int .i64 h.taken, .string h.troot]) := hx18
 obtain ⟨hkq, hxq, hfq⟩ := HXq.out
 clear hx18
 have he3 := aJ.of0 (lo := w.heap.size) (hi := w4.heap.size) hrwE (fun k hk => by have := hrkE k hk; omega)
 have hr3 := aJ.of0 (lo := w.heap.size) (hi := w4.heap.size) hrwR (fun k hk => by have := hrkR k hk; omega)
 have hh3 := aJ.of0 (lo := w.heap.size) (hi := w4.heap.size) hrwH (fun k hk => by have := hrkH k hk; omega)
 have h13 := aJ.mono (lo' := w.heap.size) (hi' := w4.heap.size) HOP.out (by omega) (by omega)
 have h23 := aJ.mono (lo' := w.heap.size) (hi' := w4.heap.size) HOQ.out (by omega) (by omega)
 have hall : bY w4 w.heap.size w4.heap.size ⟨E3, R3, H3, B1, B2, e3, r3, h3, d1, d2⟩ ⟨es, rs, hs, l1, l2⟩ := by
  have qP := HOP.out.at_; have qQ := HOQ.out.at_
  dsimp only at qP qQ
  obtain rfl := HNE.out
  obtain rfl := HNR.out
  obtain rfl := HNH.out
  obtain rfl := HM1.out
  obtain rfl := HM2.out
  exact ⟨he3, hr3, hh3, h13, h23, fun k a b => by have := hrkE k a; have := hrkR k b; omega, fun k a b => by have := hrkE k a; have := hrkH k b; omega, fun k a b => by have := hrkR k a; have := hrkH k b; omega,
   fun k a b => by have := qP k a; have := hrkR k b; omega, fun k a b => by have := qQ k a; have := hrkR k b; omega, fun k a b => by have := qP k a; have := hrkH k b; omega, fun k a b => by have := qQ k a; have := hrkH k b; omega⟩
 have HALL := lH hall
 clear hall he3 hr3 hh3 h13 h23 hrwE hrwR hrwH hrcE hrcR hrcH hrnE hrnR hrnH hroE hroR hroH hrkE hrkR hrkH
 go_wp2
 refine bodyPost_ret (v := .agg #[.int .i64 width, .slice E3 ne e3, .slice R3 nr r3, .slice H3 nh h3, .int .i64 z1, .slice B1 m1 d1, .int .i64 z2, .slice B2 m2 d2, .int .i64 h.num, .int .i64 h.size, .string h.root, .int .i64 h.taken, .string h.troot]) (by simp [results, Tryz.results102, go_sem, hxq]) rfl ?_
 exact ⟨⟨E3, R3, H3, B1, B2, e3, r3, h3, d1, d2⟩, rfl, HALL.out, HB.out⟩
end
end Go.Proofs.YtoccjgcokffkbaaGreat
