/- Part 18 of the proof of FnDeeds: lemmas and contracts. -/
import Derived.Test.YtoccjgcokffkbaaGreatTd17
namespace Go.Proofs.YtoccjgcokffkbaaGreat
set_option linter.unusedVariables false
set_option linter.unusedSimpArgs false
set_option maxHeartbeats 20000000
section
open Go.RowKit
theorem cloneRcp_nil {l : List Rcp} (h : bf l = []) : l = [] := by
 have := congrArg List.length h; rw [rcps_len] at this; exact List.eq_nil_of_length_eq_zero (by simp at this; omega)
theorem cloneRcp_len {l : List Rcp} {n : Nat} (h : l.length = n) : (bf l).length = n * 3 := by rw [rcps_len, h]
theorem cloneRcp_one (l : List Rcp) : ∀ u ∈ bf l, u.oneCell' = true := rcps_one l
theorem cloneHd_nil {l : List Hd} (h : hds l = []) : l = [] := by
 have := congrArg List.length h; rw [hds_len] at this; exact List.eq_nil_of_length_eq_zero (by simp at this; omega)
theorem cloneHd_len {l : List Hd} {n : Nat} (h : l.length = n) : (hds l).length = n * 5 := by rw [hds_len, h]
theorem cloneHd_one (l : List Hd) : ∀ u ∈ hds l, u.oneCell' = true := hds_one l
set_option maxRecDepth 100000 in
theorem cloneRcpR_c (A : Option Addr) (c lo hi n : Nat) (l : List Rcp) (w : World) (hr : Rd w lo hi A (bf l)) (hn : l.length = n) (hl : n ≤ 1048576) (hA : A = none → c = 0) :
  Calls Tryz.prog 133 #[.slice A n c] w fun e w' => ∃ (A' : Option Addr) (c' : Nat), e = .returned (.slice A' n c') ∧ w'.ownsRow w.heap.size 43 3 (.slice A' n c') n (bf l) ∧ Below w.heap.size w w' := by
 rcases A with _ | ad
 ·have hl0 : l = [] := by
   by_cases h : bf l = []
   ·exact cloneRcp_nil h
   obtain ⟨b, off, h1, _⟩ := hr h; cases h1
  subst hl0
  obtain rfl : 0 = n := hn
  obtain rfl := hA rfl
  have hnil := fun (W : World) (a : Option Addr) (n c : Nat) => Lib.run_eql_slice_nil (P := Tryz.prog) W 27 _ a n c 0 0 Tryz.underlying27
  go_enter Tryz.func133, Tryz.ntmps133
  go_wp2
  go_ret
  first
   | exact ⟨none, 0, rfl, World.ownsRow_nil _ _ _ _, Below.refl _ _⟩
   | exact ⟨none, ⟨0, rfl, World.ownsRow_nil _ _ _ _⟩, Below.refl _ _⟩
   | exact ⟨none, ⟨0, rfl⟩, World.ownsRow_nil _ _ _ _, Below.refl _ _⟩
 have hnews : ∀ (W : World), Below w.heap.size w W → ∀ (j : Nat) (u : Value), (bf l)[j]? = some u → W.cell? (ad.add j) = some u := by
  intro W hW j u hu
  obtain ⟨b, off, h1, _, h3, h4, h5⟩ := hr (by intro e; rw [e] at hu; simp at hu)
  cases h1
  rw [Addr.add_lit]
  exact (hW.cell (p := ⟨b, off + j, none⟩) (show b < w.heap.size by omega)).trans (h5 j u hu)
 obtain ⟨i0, hi0, hz0, hz1, hz2⟩ := info_parts gL
 have hlen : (bf l).length = n * 3 := cloneRcp_len hn
 have hone := cloneRcp_one l
 clear hr hA
 have hnil := fun (W : World) (a : Option Addr) (n c : Nat) => Lib.run_eql_slice_nil (P := Tryz.prog) W 27 _ a n c 0 0 Tryz.underlying27
 go_enter Tryz.func133, Tryz.ntmps133
 go_wp2_with (at_builtin; refine wpList_append_own _ rfl _ _ 27 rfl w.heap.size 43 i0 (.agg #[.string ByteArray.empty, .string ByteArray.empty, .int .i64 0]) 3 40 Tryz.underlying27 hi0 hz0 hz1 hz2 rfl (by decide) _ 0 [] rfl (World.ownsRow_made w #[] 0 (Nat.le_refl _) (Nat.zero_le _) rfl) ad n c (bf l) rfl hlen (hnews _ ((Below.refl _ _).alloc (Nat.le_refl _) _)) hone (by unfold maxLen; omega) (by omega) (by simp) ?_)
 intro v' w1 hown hg _
 try simp only [Nat.zero_add, List.nil_append] at hown
 obtain ⟨A', c', rfl, h1, h2, h3⟩ := ay hown
 have hb := ((Below.refl w.heap.size w).alloc (Nat.le_refl _) (.cells #[] 43)).grown hg (by first | omega | (simp; done) | (simp; omega)) (fun j hj => by cases hj; exact Nat.le_refl _)
 have HR := lH (show w1.ownsRow w.heap.size 43 3 (.slice A' n c') n (bf l) ∧ Below w.heap.size w w1 from ⟨hown, hb⟩)
 clear hown hg h1 h2 h3 hb hnews hone hi0 hz0 hz1 hz2
 go_wp2
 go_ret
 exact ⟨_, _, rfl, HR.out⟩
set_option maxRecDepth 100000 in
theorem cloneHdR_c (A : Option Addr) (c lo hi n : Nat) (l : List Hd) (w : World) (hr : Rd w lo hi A (hds l)) (hn : l.length = n) (hl : n ≤ 1048576) (hA : A = none → c = 0) :
  Calls Tryz.prog 134 #[.slice A n c] w fun e w' => ∃ (A' : Option Addr) (c' : Nat), e = .returned (.slice A' n c') ∧ w'.ownsRow w.heap.size 33 5 (.slice A' n c') n (hds l) ∧ Below w.heap.size w w' := by
 rcases A with _ | ad
 ·have hl0 : l = [] := by
   by_cases h : hds l = []
   ·exact cloneHd_nil h
   obtain ⟨b, off, h1, _⟩ := hr h; cases h1
  subst hl0
  obtain rfl : 0 = n := hn
  obtain rfl := hA rfl
  have hnil := fun (W : World) (a : Option Addr) (n c : Nat) => Lib.run_eql_slice_nil (P := Tryz.prog) W 28 _ a n c 0 0 Tryz.underlying28
  go_enter Tryz.func134, Tryz.ntmps134
  go_wp2
  go_ret
  first
   | exact ⟨none, 0, rfl, World.ownsRow_nil _ _ _ _, Below.refl _ _⟩
   | exact ⟨none, ⟨0, rfl, World.ownsRow_nil _ _ _ _⟩, Below.refl _ _⟩
   | exact ⟨none, ⟨0, rfl⟩, World.ownsRow_nil _ _ _ _, Below.refl _ _⟩
 have hnews : ∀ (W : World), Below w.heap.size w W → ∀ (j : Nat) (u : Value), (hds l)[j]? = some u → W.cell? (ad.add j) = some u := by
  intro W hW j u hu
  obtain ⟨b, off, h1, _, h3, h4, h5⟩ := hr (by intro e; rw [e] at hu; simp at hu)
  cases h1
  rw [Addr.add_lit]
  exact (hW.cell (p := ⟨b, off + j, none⟩) (show b < w.heap.size by omega)).trans (h5 j u hu)
 obtain ⟨i0, hi0, hz0, hz1, hz2⟩ := info_parts info_Head
 have hlen : (hds l).length = n * 5 := cloneHd_len hn
 have hone := cloneHd_one l
 clear hr hA
 have hnil := fun (W : World) (a : Option Addr) (n c : Nat) => Lib.run_eql_slice_nil (P := Tryz.prog) W 28 _ a n c 0 0 Tryz.underlying28
 go_enter Tryz.func134, Tryz.ntmps134
 go_wp2_with (at_builtin; refine wpList_append_own _ rfl _ _ 28 rfl w.heap.size 33 i0 (.agg #[.int .i64 0, .int .i64 0, .string ByteArray.empty, .int .i64 0, .string ByteArray.empty]) 5 56 Tryz.underlying28 hi0 hz0 hz1 hz2 rfl (by decide) _ 0 [] rfl (World.ownsRow_made w #[] 0 (Nat.le_refl _) (Nat.zero_le _) rfl) ad n c (hds l) rfl hlen (hnews _ ((Below.refl _ _).alloc (Nat.le_refl _) _)) hone (by unfold maxLen; omega) (by omega) (by simp) ?_)
 intro v' w1 hown hg _
 try simp only [Nat.zero_add, List.nil_append] at hown
 obtain ⟨A', c', rfl, h1, h2, h3⟩ := ay hown
 have hb := ((Below.refl w.heap.size w).alloc (Nat.le_refl _) (.cells #[] 33)).grown hg (by first | omega | (simp; done) | (simp; omega)) (fun j hj => by cases hj; exact Nat.le_refl _)
 have HR := lH (show w1.ownsRow w.heap.size 33 5 (.slice A' n c') n (hds l) ∧ Below w.heap.size w w1 from ⟨hown, hb⟩)
 clear hown hg h1 h2 h3 hb hnews hone hi0 hz0 hz1 hz2
 go_wp2
 go_ret
 exact ⟨_, _, rfl, HR.out⟩
set_option maxRecDepth 100000 in
theorem copyBroker_c (width z1 z2 : Int) (E R H A1 A2 : Option Addr) (ne nr nh ce cr ch c1 c2 m1 m2 : Nat) (es : List Ent) (rs : List Rcp) (hs : List Hd) (l1 l2 : List ByteArray) (h : Hd) (w : World)
  (hE : Rd w 0 w.heap.size E (aR es)) (hR : Rd w 0 w.heap.size R (bf rs)) (hH : Rd w 0 w.heap.size H (hds hs)) (hA1 : Rd w 0 w.heap.size A1 (strs l1)) (hA2 : Rd w 0 w.heap.size A2 (strs l2))
  (hne : es.length = ne) (hnr : rs.length = nr) (hnh : hs.length = nh) (hm1 : l1.length = m1) (hm2 : l2.length = m2) (b1 : ne ≤ 1000) (b2 : nr ≤ 1000) (b3 : nh ≤ 1000) (b4 : m1 ≤ 1000) (b5 : m2 ≤ 1000)
  (nE : E = none → ce = 0) (nR : R = none → cr = 0) (nH : H = none → ch = 0) (n1 : A1 = none → c1 = 0) (n2 : A2 = none → c2 = 0) :
  Calls Tryz.prog 82 #[.agg #[.int .i64 width, .slice E ne ce, .slice R nr cr, .slice H nh ch, .int .i64 z1, .slice A1 m1 c1, .int .i64 z2, .slice A2 m2 c2, .int .i64 h.num, .int .i64 h.size, .string h.root, .int .i64 h.taken, .string h.troot]] w fun e w' => ∃ a : Bk, e = .returned (.agg #[.int .i64 width, .slice a.E ne a.ce, .slice a.R nr a.cr, .slice a.H nh a.ch, .int .i64 z1, .slice a.A1 m1 a.c1, .int .i64 z2, .slice a.A2 m2 a.c2, .int .i64 h.num, .int .i64 h.size, .string h.root, .int .i64 h.taken, .string h.troot]) ∧
   (bW w' w.heap.size w'.heap.size a ⟨es, rs, hs, l1, l2⟩ ∧ Apart (.slice a.A1 m1 a.c1) (.slice a.A2 m2 a.c2)) ∧ Below w.heap.size w w' := by
 have HC1 := lH (fun W (r : Rd W 0 W.heap.size E (aR es)) => copyLog_c E ce 0 W.heap.size ne es W r hne (by omega) nE)
 have HC2 := lH (fun W (r : Rd W 0 W.heap.size R (bf rs)) => cloneRcpR_c R cr 0 W.heap.size nr rs W r hnr (by omega) nR)
 have HC3 := lH (fun W (r : Rd W 0 W.heap.size H (hds hs)) => cloneHdR_c H ch 0 W.heap.size nh hs W r hnh (by omega) nH)
 have HC4 := lH (fun W (r1 : Rd W 0 W.heap.size A1 (strs l1)) (r2 : Rd W 0 W.heap.size A2 (strs l2)) => copySeal_c z1 z2 A1 A2 c1 c2 0 W.heap.size 0 W.heap.size m1 m2 l1 l2 h W r1 r2 hm1 hm2 (by omega) (by omega) n1 n2)
 have HNE := lH hne
 have HNR := lH hnr
 have HNH := lH hnh
 have HM1 := lH hm1
 have HM2 := lH hm2
 have HB : Hid (Below w.heap.size w w) := Below.refl _ _
 have HOE : Hid (Rd w (0) (w.heap.size) (E) (aR es)) := Rd.base hE
 have HOR : Hid (Rd w (0) (w.heap.size) (R) (bf rs)) := Rd.base hR
 have HOH : Hid (Rd w (0) (w.heap.size) (H) (hds hs)) := Rd.base hH
 have HOX : Hid (Rd w (0) (w.heap.size) (A1) (strs l1)) := Rd.base hA1
 have HOY : Hid (Rd w (0) (w.heap.size) (A2) (strs l2)) := Rd.base hA2
 clear hE hR hH hA1 hA2 hne hnr hnh hm1 hm2 nE nR nH n1 n2
 go_enter Tryz.func82, Tryz.ntmps82
 go_wp2_with fail
 refine aD (fun w1 hw => ?_)
 have hz1 : w.heap.size + 2 ≤ w1.heap.size := zA
 have hbn : Below w.heap.size w w1 := zB
 replace HB := bT HB hbn
 replace HOE := lH (HOE.out.below hbn)
 replace HOR := lH (HOR.out.below hbn)
 replace HOH := lH (HOH.out.below hbn)
 replace HOX := lH (HOX.out.below hbn)
 replace HOY := lH (HOY.out.below hbn)
 clear hbn
 have HXb : Hid (aa w1 (w.heap.size) [.int .i64 width, .slice E ne ce, .slice R nr cr, .slice H nh ch, .int .i64 z1, .slice A1 m1 c1, .int .i64 z2, .slice A2 m2 c2, .int .i64 h.num, .int .i64 h.size, .string h.root, .int .i64 h.taken, .string h.troot]) := zG13
 obtain ⟨hkb, hxb, hfb⟩ := HXb.out
 have HXq : Hid (aa w1 (w.heap.size + 1) [.int .i64 0, .slice none 0 0, .slice none 0 0, .slice none 0 0, .int .i64 0, .slice none 0 0, .int .i64 0, .slice none 0 0, .int .i64 0, .int .i64 0, .string ⟨#[]⟩, .int .i64 0, .string ⟨#[]⟩]) := zG13
 obtain ⟨hkq, hxq, hfq⟩ := HXq.out
 clear hw
 obtain ⟨F, HF⟩ : ∃ F : Facts, Hid (F = fun iq xq tqs dsq uq => match iq with
  | 0 => xq.v = .pointer (some ⟨(w.heap.size), 0, none⟩)
  | 1 => xq.v = .int .i64 width
  | 2 => xq.v = .pointer (some ⟨(w.heap.size), 1, none⟩)
  | 3 => xq.v = .agg #[.slice E ne ce]
  | 4 => ∃ (E3 : Option Addr) (e3 : Nat), xq.v = .agg #[.slice E3 ne e3] ∧ (aI uq xq.s xq.e ((41, 5), .slice E3 ne e3, ne) (aR es))
  | 5 => xq.v = .pointer (some ⟨(w.heap.size), 2, none⟩)
  | 6 => xq.v = .slice R nr cr
  | 7 => ∃ (R3 : Option Addr) (r3 : Nat), xq.v = .slice R3 nr r3 ∧ (aI uq xq.s xq.e ((43, 3), .slice R3 nr r3, nr) (bf rs))
  | 8 => xq.v = .pointer (some ⟨(w.heap.size), 3, none⟩)
  | 9 => xq.v = .slice H nh ch
  | 10 => ∃ (H3 : Option Addr) (h3 : Nat), xq.v = .slice H3 nh h3 ∧ (aI uq xq.s xq.e ((33, 5), .slice H3 nh h3, nh) (hds hs))
  | 11 => xq.v = .pointer (some ⟨(w.heap.size), 4, none⟩)
  | 12 => xq.v = .agg #[.int .i64 z1, .slice A1 m1 c1, .int .i64 z2, .slice A2 m2 c2, .int .i64 h.num, .int .i64 h.size, .string h.root, .int .i64 h.taken, .string h.troot]
  | 13 => ∃ (B1 : Option Addr) (d1 : Nat) (B2 : Option Addr) (d2 : Nat), xq.v = .agg #[.int .i64 z1, .slice B1 m1 d1, .int .i64 z2, .slice B2 m2 d2, .int .i64 h.num, .int .i64 h.size, .string h.root, .int .i64 h.taken, .string h.troot] ∧ (aI uq xq.s xq.e ((9, 1), .slice B1 m1 d1, m1) (strs l1)) ∧ (aI uq xq.s xq.e ((9, 1), .slice B2 m2 d2, m2) (strs l2)) ∧ (Apart (.slice B1 m1 d1) (.slice B2 m2 d2))
  | 14 => (match tqs, dsq with | [], [yq0, yq1, yq2, yq3] => ∃ (E3 : Option Addr) (e3 : Nat), yq0.v = .agg #[.slice E3 ne e3] ∧ ∃ (R3 : Option Addr) (r3 : Nat), yq1.v = .slice R3 nr r3 ∧ ∃ (H3 : Option Addr) (h3 : Nat), yq2.v = .slice H3 nh h3 ∧ ∃ (B1 : Option Addr) (d1 : Nat) (B2 : Option Addr) (d2 : Nat), yq3.v = .agg #[.int .i64 z1, .slice B1 m1 d1, .int .i64 z2, .slice B2 m2 d2, .int .i64 h.num, .int .i64 h.size, .string h.root, .int .i64 h.taken, .string h.troot] ∧ xq.v = .agg #[.int .i64 width, .slice E3 ne e3, .slice R3 nr r3, .slice H3 nh h3, .int .i64 z1, .slice B1 m1 d1, .int .i64 z2, .slice B2 m2 d2, .int .i64 h.num, .int .i64 h.size, .string h.root, .int .i64 h.taken, .string h.troot] | _, _ => False)
  | 15 => (match tqs, dsq with | [], [yq0, yq1, yq2, yq3] => ∃ (E3 : Option Addr) (e3 : Nat), yq0.v = .agg #[.slice E3 ne e3] ∧ ∃ (R3 : Option Addr) (r3 : Nat), yq1.v = .slice R3 nr r3 ∧ ∃ (H3 : Option Addr) (h3 : Nat), yq2.v = .slice H3 nh h3 ∧ ∃ (B1 : Option Addr) (d1 : Nat) (B2 : Option Addr) (d2 : Nat), yq3.v = .agg #[.int .i64 z1, .slice B1 m1 d1, .int .i64 z2, .slice B2 m2 d2, .int .i64 h.num, .int .i64 h.size, .string h.root, .int .i64 h.taken, .string h.troot] ∧ aa uq (w.heap.size + 1) [.int .i64 width, .slice E3 ne e3, .slice R3 nr r3, .slice H3 nh h3, .int .i64 z1, .slice B1 m1 d1, .int .i64 z2, .slice B2 m2 d2, .int .i64 h.num, .int .i64 h.size, .string h.root, .int .i64 h.taken, .string h.troot] | _, _ => False)
  | _ => False) := ⟨_, rfl⟩
 refine bq [[], [], [], [], [], [], [], [], [], [], [], [], [], [], [4, 7, 10, 13], [4, 7, 10, 13]] [[], [], [], [], [], [], [], [], [], [], [], [], [], [], [], []] [some 3, some 4, some 5, some 6, some 7, some 8, some 9, some 10, some 11, some 12, some 13, some 14, some 15, some 16, some 17, none] (some 15) (w.heap.size + 1) (w.heap.size + 1 + 1) (.inr (by omega)) F (by kernel_rfl) (by kernel_rfl) (by kernel_rfl) ?_ ⟨?_, ?_, ?_, ?_, ?_, ?_, ?_, ?_, ?_, ?_, ?_, ?_, ?_, ?_, ?_, ?_, trivial⟩ ?_
 ·rw [HF.out]; intro iq xq tqs dsq uq u' hi hf hs hW hx hbk
  have kx : ∀ b, xq.s ≤ b → b < xq.e → u'.heap[b]? = uq.heap[b]? := fun b h1 h2 => hbk b (.inr (.inl ⟨h1, h2⟩))
  have kt : ∀ t ∈ tqs, ∀ b, t.s ≤ b → b < t.e → u'.heap[b]? = uq.heap[b]? := fun t ht b h1 h2 => hbk b (.inr (.inr ⟨t, ht, h1, h2⟩))
  match iq with
  | 0 | 1 => exact hf
  | 2 | 3 => exact hf
  | 4 => obtain ⟨E3, e3, hv, p0⟩ := hf; exact ⟨E3, e3, hv, p0.keep (fun k _ h1 h2 => kx k h1 h2)⟩
  | 5 | 6 => exact hf
  | 7 => obtain ⟨R3, r3, hv, p0⟩ := hf; exact ⟨R3, r3, hv, p0.keep (fun k _ h1 h2 => kx k h1 h2)⟩
  | 8 | 9 => exact hf
  | 10 => obtain ⟨H3, h3, hv, p0⟩ := hf; exact ⟨H3, h3, hv, p0.keep (fun k _ h1 h2 => kx k h1 h2)⟩
  | 11 | 12 => exact hf
  | 13 => obtain ⟨B1, d1, B2, d2, hv, p0, p1, p2⟩ := hf; exact ⟨B1, d1, B2, d2, hv, p0.keep (fun k _ h1 h2 => kx k h1 h2), p1.keep (fun k _ h1 h2 => kx k h1 h2), p2⟩
  | 14 => exact hf
  | 15 => match tqs, dsq, hf with | [], [yq0, yq1, yq2, yq3], hf => obtain ⟨E3, e3, hvr4, R3, r3, hvr7, H3, h3, hvr10, B1, d1, B2, d2, hvr13, hb⟩ := hf; exact ⟨E3, e3, hvr4, R3, r3, hvr7, H3, h3, hvr10, B1, d1, B2, d2, hvr13, hb.keep hs (hbk _ (.inl ⟨hkq, .inr (.inr rfl)⟩))⟩
 ·intro gh ρ u hc hf1 hg1 hd h0 hb he ha hF
  have r1 : ρ (.tmp 1) = .pointer (some ⟨w.heap.size, 0, none⟩) := (h0 1 (by decide +kernel)).trans rfl
  clear hd h0 he ha hF; go_simp; exact fE HF rfl
 ·intro gh ρ u hc hf1 hg1 hd h0 hb he ha hF
  first | (replace hb : Below w1.heap.size w1 u := hb.drew.below (by decide +kernel)) | (replace hb : Only (w.heap.size + 1) (w.heap.size + 1 + 1) w1 u := hb.drew.only)
  have hbz : w1.heap.size ≤ u.heap.size := hb.size
  have r3 : ρ (.tmp 3) = .pointer (some ⟨(w.heap.size), 0, none⟩) := (hd 0 (by decide +kernel) 3 (by kernel_rfl)).trans (fG HF (hF 0))
  have q_b : ∀ o, u.cell? ⟨w.heap.size, o, none⟩ = [.int .i64 width, .slice E ne ce, .slice R nr cr, .slice H nh ch, .int .i64 z1, .slice A1 m1 c1, .int .i64 z2, .slice A2 m2 c2, .int .i64 h.num, .int .i64 h.size, .string h.root, .int .i64 h.taken, .string h.troot][o]? := by first | exact (HXb.out.below hb).2.1 | exact (HXb.out.only hb (by omega)).2.1
  have k_b : w.heap.size < u.heap.size := by have := HXb.out.1; omega
  clear hd h0 he ha hF; go_simp; exact fE HF rfl
 ·intro gh ρ u hc hf1 hg1 hd h0 hb he ha hF
  have r1 : ρ (.tmp 1) = .pointer (some ⟨w.heap.size, 0, none⟩) := (h0 1 (by decide +kernel)).trans rfl
  clear hd h0 he ha hF; go_simp; exact fE HF rfl
 ·intro gh ρ u hc hf1 hg1 hd h0 hb he ha hF
  first | (replace hb : Below w1.heap.size w1 u := hb.drew.below (by decide +kernel)) | (replace hb : Only (w.heap.size + 1) (w.heap.size + 1 + 1) w1 u := hb.drew.only)
  have hbz : w1.heap.size ≤ u.heap.size := hb.size
  have r5 : ρ (.tmp 5) = .pointer (some ⟨(w.heap.size), 1, none⟩) := (hd 2 (by decide +kernel) 5 (by kernel_rfl)).trans (fG HF (hF 2))
  have q_b : ∀ o, u.cell? ⟨w.heap.size, o, none⟩ = [.int .i64 width, .slice E ne ce, .slice R nr cr, .slice H nh ch, .int .i64 z1, .slice A1 m1 c1, .int .i64 z2, .slice A2 m2 c2, .int .i64 h.num, .int .i64 h.size, .string h.root, .int .i64 h.taken, .string h.troot][o]? := by first | exact (HXb.out.below hb).2.1 | exact (HXb.out.only hb (by omega)).2.1
  have k_b : w.heap.size < u.heap.size := by have := HXb.out.1; omega
  clear hd h0 he ha hF; go_simp; exact fE HF rfl
 ·intro gh ρ u hc hf1 hg1 hd h0 hb he ha hF
  first | (replace hb : Below w1.heap.size w1 u := hb.drew.below (by decide +kernel)) | (replace hb : Only (w.heap.size + 1) (w.heap.size + 1 + 1) w1 u := hb.drew.only)
  have hbz : w1.heap.size ≤ u.heap.size := hb.size
  have r6 : ρ (.tmp 6) = .agg #[.slice E ne ce] := (hd 3 (by decide +kernel) 6 (by kernel_rfl)).trans (fG HF (hF 3))
  clear hd h0 he ha hF; go_simp
  have q_b := (HXb.out.below hb)
  refine (HC1.out _ (HOE.out.below hb).base).mono ?_
  rintro e u1 ⟨E3, e3, rfl, ho, hb1⟩
  rw [HF.out]
  exact ⟨_, rfl, aX.of_below hb1, E3, e3, rfl, aI.of ho⟩
 ·intro gh ρ u hc hf1 hg1 hd h0 hb he ha hF
  have r1 : ρ (.tmp 1) = .pointer (some ⟨w.heap.size, 0, none⟩) := (h0 1 (by decide +kernel)).trans rfl
  clear hd h0 he ha hF; go_simp; exact fE HF rfl
 ·intro gh ρ u hc hf1 hg1 hd h0 hb he ha hF
  first | (replace hb : Below w1.heap.size w1 u := hb.drew.below (by decide +kernel)) | (replace hb : Only (w.heap.size + 1) (w.heap.size + 1 + 1) w1 u := hb.drew.only)
  have hbz : w1.heap.size ≤ u.heap.size := hb.size
  have r8 : ρ (.tmp 8) = .pointer (some ⟨(w.heap.size), 2, none⟩) := (hd 5 (by decide +kernel) 8 (by kernel_rfl)).trans (fG HF (hF 5))
  have q_b : ∀ o, u.cell? ⟨w.heap.size, o, none⟩ = [.int .i64 width, .slice E ne ce, .slice R nr cr, .slice H nh ch, .int .i64 z1, .slice A1 m1 c1, .int .i64 z2, .slice A2 m2 c2, .int .i64 h.num, .int .i64 h.size, .string h.root, .int .i64 h.taken, .string h.troot][o]? := by first | exact (HXb.out.below hb).2.1 | exact (HXb.out.only hb (by omega)).2.1
  have k_b : w.heap.size < u.heap.size := by have := HXb.out.1; omega
  clear hd h0 he ha hF; go_simp; exact fE HF rfl
 ·intro gh ρ u hc hf1 hg1 hd h0 hb he ha hF
  first | (replace hb : Below w1.heap.size w1 u := hb.drew.below (by decide +kernel)) | (replace hb : Only (w.heap.size + 1) (w.heap.size + 1 + 1) w1 u := hb.drew.only)
  have hbz : w1.heap.size ≤ u.heap.size := hb.size
  have r9 : ρ (.tmp 9) = .slice R nr cr := (hd 6 (by decide +kernel) 9 (by kernel_rfl)).trans (fG HF (hF 6))
  clear hd h0 he ha hF; go_simp
  have q_b := (HXb.out.below hb)
  refine (HC2.out _ (HOR.out.below hb).base).mono ?_
  rintro e u1 ⟨R3, r3, rfl, ho, hb1⟩
  rw [HF.out]
  exact ⟨_, rfl, aX.of_below hb1, R3, r3, rfl, aI.of ho⟩
 ·intro gh ρ u hc hf1 hg1 hd h0 hb he ha hF
  have r1 : ρ (.tmp 1) = .pointer (some ⟨w.heap.size, 0, none⟩) := (h0 1 (by decide +kernel)).trans rfl
  clear hd h0 he ha hF; go_simp; exact fE HF rfl
 ·intro gh ρ u hc hf1 hg1 hd h0 hb he ha hF
  first | (replace hb : Below w1.heap.size w1 u := hb.drew.below (by decide +kernel)) | (replace hb : Only (w.heap.size + 1) (w.heap.size + 1 + 1) w1 u := hb.drew.only)
  have hbz : w1.heap.size ≤ u.heap.size := hb.size
  have r11 : ρ (.tmp 11) = .pointer (some ⟨(w.heap.size), 3, none⟩) := (hd 8 (by decide +kernel) 11 (by kernel_rfl)).trans (fG HF (hF 8))
  have q_b : ∀ o, u.cell? ⟨w.heap.size, o, none⟩ = [.int .i64 width, .slice E ne ce, .slice R nr cr, .slice H nh ch, .int .i64 z1, .slice A1 m1 c1, .int .i64 z2, .slice A2 m2 c2, .int .i64 h.num, .int .i64 h.size, .string h.root, .int .i64 h.taken, .string h.troot][o]? := by first | exact (HXb.out.below hb).2.1 | exact (HXb.out.only hb (by omega)).2.1
  have k_b : w.heap.size < u.heap.size := by have := HXb.out.1; omega
  clear hd h0 he ha hF; go_simp; exact fE HF rfl
 ·intro gh ρ u hc hf1 hg1 hd h0 hb he ha hF
  first | (replace hb : Below w1.heap.size w1 u := hb.drew.below (by decide +kernel)) | (replace hb : Only (w.heap.size + 1) (w.heap.size + 1 + 1) w1 u := hb.drew.only)
  have hbz : w1.heap.size ≤ u.heap.size := hb.size
  have r12 : ρ (.tmp 12) = .slice H nh ch := (hd 9 (by decide +kernel) 12 (by kernel_rfl)).trans (fG HF (hF 9))
  clear hd h0 he ha hF; go_simp
  have q_b := (HXb.out.below hb)
  refine (HC3.out _ (HOH.out.below hb).base).mono ?_
  rintro e u1 ⟨H3, h3, rfl, ho, hb1⟩
  rw [HF.out]
  exact ⟨_, rfl, aX.of_below hb1, H3, h3, rfl, aI.of ho⟩
 ·intro gh ρ u hc hf1 hg1 hd h0 hb he ha hF
  have r1 : ρ (.tmp 1) = .pointer (some ⟨w.heap.size, 0, none⟩) := (h0 1 (by decide +kernel)).trans rfl
  clear hd h0 he ha hF; go_simp; exact fE HF rfl
 ·intro gh ρ u hc hf1 hg1 hd h0 hb he ha hF
  first | (replace hb : Below w1.heap.size w1 u := hb.drew.below (by decide +kernel)) | (replace hb : Only (w.heap.size + 1) (w.heap.size + 1 + 1) w1 u := hb.drew.only)
  have hbz : w1.heap.size ≤ u.heap.size := hb.size
  have r14 : ρ (.tmp 14) = .pointer (some ⟨(w.heap.size), 4, none⟩) := (hd 11 (by decide +kernel) 14 (by kernel_rfl)).trans (fG HF (hF 11))
  have q_b : ∀ o, u.cell? ⟨w.heap.size, o, none⟩ = [.int .i64 width, .slice E ne ce, .slice R nr cr, .slice H nh ch, .int .i64 z1, .slice A1 m1 c1, .int .i64 z2, .slice A2 m2 c2, .int .i64 h.num, .int .i64 h.size, .string h.root, .int .i64 h.taken, .string h.troot][o]? := by first | exact (HXb.out.below hb).2.1 | exact (HXb.out.only hb (by omega)).2.1
  have k_b : w.heap.size < u.heap.size := by have := HXb.out.1; omega
  clear hd h0 he ha hF; go_simp; exact fE HF rfl
 ·intro gh ρ u hc hf1 hg1 hd h0 hb he ha hF
  first | (replace hb : Below w1.heap.size w1 u := hb.drew.below (by decide +kernel)) | (replace hb : Only (w.heap.size + 1) (w.heap.size + 1 + 1) w1 u := hb.drew.only)
  have hbz : w1.heap.size ≤ u.heap.size := hb.size
  have r15 : ρ (.tmp 15) = .agg #[.int .i64 z1, .slice A1 m1 c1, .int .i64 z2, .slice A2 m2 c2, .int .i64 h.num, .int .i64 h.size, .string h.root, .int .i64 h.taken, .string h.troot] := (hd 12 (by decide +kernel) 15 (by kernel_rfl)).trans (fG HF (hF 12))
  clear hd h0 he ha hF; go_simp
  have q_b := (HXb.out.below hb)
  refine (HC4.out _ (HOX.out.below hb).base (HOY.out.below hb).base).mono ?_
  rintro e u1 ⟨B1, d1, B2, d2, rfl, ho1, ho2, hap, hb1⟩
  rw [HF.out]
  exact ⟨_, rfl, aX.of_below hb1, B1, d1, B2, d2, rfl, aI.of ho1, aI.of ho2, hap⟩
 ·intro gh ρ u hc hf1 hg1 hd h0 hb he ha hF
  have r4 : ρ (.tmp 4) = .int .i64 width := (hd 1 (by decide +kernel) 4 (by kernel_rfl)).trans (fG HF (hF 1))
  have f4 : ∃ (E3 : Option Addr) (e3 : Nat), (gh 4).v = .agg #[.slice E3 ne e3] ∧ (aI u (gh 4).s (gh 4).e ((41, 5), .slice E3 ne e3, ne) (aR es)) := fG HF (hF 4)
  obtain ⟨E3, e3, hv4, g4_0⟩ := f4; have hrt4 := hv4
  have r7 : ρ (.tmp 7) = .agg #[.slice E3 ne e3] := (hd 4 (by decide +kernel) 7 (by kernel_rfl)).trans hv4
  have f7 : ∃ (R3 : Option Addr) (r3 : Nat), (gh 7).v = .slice R3 nr r3 ∧ (aI u (gh 7).s (gh 7).e ((43, 3), .slice R3 nr r3, nr) (bf rs)) := fG HF (hF 7)
  obtain ⟨R3, r3, hv7, g7_0⟩ := f7; have hrt7 := hv7
  have r10 : ρ (.tmp 10) = .slice R3 nr r3 := (hd 7 (by decide +kernel) 10 (by kernel_rfl)).trans hv7
  have f10 : ∃ (H3 : Option Addr) (h3 : Nat), (gh 10).v = .slice H3 nh h3 ∧ (aI u (gh 10).s (gh 10).e ((33, 5), .slice H3 nh h3, nh) (hds hs)) := fG HF (hF 10)
  obtain ⟨H3, h3, hv10, g10_0⟩ := f10; have hrt10 := hv10
  have r13 : ρ (.tmp 13) = .slice H3 nh h3 := (hd 10 (by decide +kernel) 13 (by kernel_rfl)).trans hv10
  have f13 : ∃ (B1 : Option Addr) (d1 : Nat) (B2 : Option Addr) (d2 : Nat), (gh 13).v = .agg #[.int .i64 z1, .slice B1 m1 d1, .int .i64 z2, .slice B2 m2 d2, .int .i64 h.num, .int .i64 h.size, .string h.root, .int .i64 h.taken, .string h.troot] ∧ (aI u (gh 13).s (gh 13).e ((9, 1), .slice B1 m1 d1, m1) (strs l1)) ∧ (aI u (gh 13).s (gh 13).e ((9, 1), .slice B2 m2 d2, m2) (strs l2)) ∧ (Apart (.slice B1 m1 d1) (.slice B2 m2 d2)) := fG HF (hF 13)
  obtain ⟨B1, d1, B2, d2, hv13, g13_0, g13_1, g13_2⟩ := f13; have hrt13 := hv13
  have r16 : ρ (.tmp 16) = .agg #[.int .i64 z1, .slice B1 m1 d1, .int .i64 z2, .slice B2 m2 d2, .int .i64 h.num, .int .i64 h.size, .string h.root, .int .i64 h.taken, .string h.troot] := (hd 13 (by decide +kernel) 16 (by kernel_rfl)).trans hv13
  have HRT4 := lH hrt4
  have HRT7 := lH hrt7
  have HRT10 := lH hrt10
  have HRT13 := lH hrt13
  clear hv4 hv7 hv10 hv13 hrt4 hrt7 hrt10 hrt13 hd h0 he ha hF; go_simp
  rw [HF.out]
  exact ⟨aX.refl _ _, E3, e3, HRT4.out, R3, r3, HRT7.out, H3, h3, HRT10.out, B1, d1, B2, d2, HRT13.out, rfl⟩
 ·intro gh ρ u hc hf1 hg1 hd h0 hb he ha hF
  first | (replace hb : Below w1.heap.size w1 u := hb.drew.below (by decide +kernel)) | (replace hb : Only (w.heap.size + 1) (w.heap.size + 1 + 1) w1 u := hb.drew.only)
  have hbz : w1.heap.size ≤ u.heap.size := hb.size
  have r2 : ρ (.tmp 2) = .pointer (some ⟨w.heap.size + 1, 0, none⟩) := (h0 2 (by decide +kernel)).trans rfl
  have f14 : ∃ (E3 : Option Addr) (e3 : Nat), (gh 4).v = .agg #[.slice E3 ne e3] ∧ ∃ (R3 : Option Addr) (r3 : Nat), (gh 7).v = .slice R3 nr r3 ∧ ∃ (H3 : Option Addr) (h3 : Nat), (gh 10).v = .slice H3 nh h3 ∧ ∃ (B1 : Option Addr) (d1 : Nat) (B2 : Option Addr) (d2 : Nat), (gh 13).v = .agg #[.int .i64 z1, .slice B1 m1 d1, .int .i64 z2, .slice B2 m2 d2, .int .i64 h.num, .int .i64 h.size, .string h.root, .int .i64 h.taken, .string h.troot] ∧ (gh 14).v = .agg #[.int .i64 width, .slice E3 ne e3, .slice R3 nr r3, .slice H3 nh h3, .int .i64 z1, .slice B1 m1 d1, .int .i64 z2, .slice B2 m2 d2, .int .i64 h.num, .int .i64 h.size, .string h.root, .int .i64 h.taken, .string h.troot] := fG HF (hF 14)
  obtain ⟨E3, e3, hrt4, R3, r3, hrt7, H3, h3, hrt10, B1, d1, B2, d2, hrt13, hv14⟩ := f14
  have r17 : ρ (.tmp 17) = .agg #[.int .i64 width, .slice E3 ne e3, .slice R3 nr r3, .slice H3 nh h3, .int .i64 z1, .slice B1 m1 d1, .int .i64 z2, .slice B2 m2 d2, .int .i64 h.num, .int .i64 h.size, .string h.root, .int .i64 h.taken, .string h.troot] := (hd 14 (by decide +kernel) 17 (by kernel_rfl)).trans hv14
  have HRT4 := lH hrt4
  have HRT7 := lH hrt7
  have HRT10 := lH hrt10
  have HRT13 := lH hrt13
  obtain ⟨hzk, hzc, hzf⟩ := HXq.out.below hb
  clear hv14 hrt4 hrt7 hrt10 hrt13 hd h0 he ha hF; go_simp
  rw [HF.out]
  refine ⟨?_, E3, e3, HRT4.out, R3, r3, HRT7.out, H3, h3, HRT10.out, B1, d1, B2, d2, HRT13.out, ?_⟩
  ·refine aX.of_z (lo := w.heap.size + 1) (hi := w.heap.size + 1 + 1) ?_ rfl; (iterate 13 refine Only.setCell ?_ (by exact Nat.le_refl _) (by exact Nat.lt_succ_self _) _); exact Only.refl _ _ _
  show aa _ (w.heap.size + 1) _
  exact ⟨by simpa [World.setCell] using hzk, fun o => by rcases o with _ | _ | _ | _ | _ | _ | _ | _ | _ | _ | _ | _ | _ | o <;> go_simp, fun o => by go_simp⟩
 intro gh w2 hB hE hA hF
 replace hB : Only (w.heap.size + 1) (w.heap.size + 1 + 1) w1 w2 := hB.only
 have f0 : (gh 0).v = .pointer (some ⟨(w.heap.size), 0, none⟩) := fG HF (hF 0)
 have f1 : (gh 1).v = .int .i64 width := fG HF (hF 1)
 have f2 : (gh 2).v = .pointer (some ⟨(w.heap.size), 1, none⟩) := fG HF (hF 2)
 have f3 : (gh 3).v = .agg #[.slice E ne ce] := fG HF (hF 3)
 have f4 : ∃ (E3 : Option Addr) (e3 : Nat), (gh 4).v = .agg #[.slice E3 ne e3] ∧ (aI w2 (gh 4).s (gh 4).e ((41, 5), .slice E3 ne e3, ne) (aR es)) := fG HF (hF 4)
 have f5 : (gh 5).v = .pointer (some ⟨(w.heap.size), 2, none⟩) := fG HF (hF 5)
 have f6 : (gh 6).v = .slice R nr cr := fG HF (hF 6)
 have f7 : ∃ (R3 : Option Addr) (r3 : Nat), (gh 7).v = .slice R3 nr r3 ∧ (aI w2 (gh 7).s (gh 7).e ((43, 3), .slice R3 nr r3, nr) (bf rs)) := fG HF (hF 7)
 have f8 : (gh 8).v = .pointer (some ⟨(w.heap.size), 3, none⟩) := fG HF (hF 8)
 have f9 : (gh 9).v = .slice H nh ch := fG HF (hF 9)
 have f10 : ∃ (H3 : Option Addr) (h3 : Nat), (gh 10).v = .slice H3 nh h3 ∧ (aI w2 (gh 10).s (gh 10).e ((33, 5), .slice H3 nh h3, nh) (hds hs)) := fG HF (hF 10)
 have f11 : (gh 11).v = .pointer (some ⟨(w.heap.size), 4, none⟩) := fG HF (hF 11)
 have f12 : (gh 12).v = .agg #[.int .i64 z1, .slice A1 m1 c1, .int .i64 z2, .slice A2 m2 c2, .int .i64 h.num, .int .i64 h.size, .string h.root, .int .i64 h.taken, .string h.troot] := fG HF (hF 12)
 have f13 : ∃ (B1 : Option Addr) (d1 : Nat) (B2 : Option Addr) (d2 : Nat), (gh 13).v = .agg #[.int .i64 z1, .slice B1 m1 d1, .int .i64 z2, .slice B2 m2 d2, .int .i64 h.num, .int .i64 h.size, .string h.root, .int .i64 h.taken, .string h.troot] ∧ (aI w2 (gh 13).s (gh 13).e ((9, 1), .slice B1 m1 d1, m1) (strs l1)) ∧ (aI w2 (gh 13).s (gh 13).e ((9, 1), .slice B2 m2 d2, m2) (strs l2)) ∧ (Apart (.slice B1 m1 d1) (.slice B2 m2 d2)) := fG HF (hF 13)
 have f14 : ∃ (E3 : Option Addr) (e3 : Nat), (gh 4).v = .agg #[.slice E3 ne e3] ∧ ∃ (R3 : Option Addr) (r3 : Nat), (gh 7).v = .slice R3 nr r3 ∧ ∃ (H3 : Option Addr) (h3 : Nat), (gh 10).v = .slice H3 nh h3 ∧ ∃ (B1 : Option Addr) (d1 : Nat) (B2 : Option Addr) (d2 : Nat), (gh 13).v = .agg #[.int .i64 z1, .slice B1 m1 d1, .int .i64 z2, .slice B2 m2 d2, .int .i64 h.num, .int .i64 h.size, .string h.root, .int .i64 h.taken, .string h.troot] ∧ (gh 14).v = .agg #[.int .i64 width, .slice E3 ne e3, .slice R3 nr r3, .slice H3 nh h3, .int .i64 z1, .slice B1 m1 d1, .int .i64 z2, .slice B2 m2 d2, .int .i64 h.num, .int .i64 h.size, .string h.root, .int .i64 h.taken, .string h.troot] := fG HF (hF 14)
 have f15 : ∃ (E3 : Option Addr) (e3 : Nat), (gh 4).v = .agg #[.slice E3 ne e3] ∧ ∃ (R3 : Option Addr) (r3 : Nat), (gh 7).v = .slice R3 nr r3 ∧ ∃ (H3 : Option Addr) (h3 : Nat), (gh 10).v = .slice H3 nh h3 ∧ ∃ (B1 : Option Addr) (d1 : Nat) (B2 : Option Addr) (d2 : Nat), (gh 13).v = .agg #[.int .i64 z1, .slice B1 m1 d1, .int .i64 z2, .slice B2 m2 d2, .int .i64 h.num, .int .i64 h.size, .string h.root, .int .i64 h.taken, .string h.troot] ∧ aa w2 (w.heap.size + 1) [.int .i64 width, .slice E3 ne e3, .slice R3 nr r3, .slice H3 nh h3, .int .i64 z1, .slice B1 m1 d1, .int .i64 z2, .slice B2 m2 d2, .int .i64 h.num, .int .i64 h.size, .string h.root, .int .i64 h.taken, .string h.troot] := fG HF (hF 15)
 obtain ⟨E3, e3, hv4, hrE⟩ := f4
 obtain ⟨R3, r3, hv7, hrR⟩ := f7
 obtain ⟨H3, h3, hv10, hrH⟩ := f10
 obtain ⟨B1, d1, B2, d2, hv13, hr1, hr2, hap⟩ := f13
 have hv0 := f0
 have hv1 := f1
 have hv2 := f2
 have hv3 := f3
 have hv5 := f5
 have hv6 := f6
 have hv8 := f8
 have hv9 := f9
 have hv11 := f11
 have hv12 := f12
 obtain ⟨E3_14, e3_14, hu4, R3_14, r3_14, hu7, H3_14, h3_14, hu10, B1_14, d1_14, B2_14, d2_14, hu13, hv14⟩ := f14
 replace hu4 := hv4.symm.trans hu4
 simp at hu4
 try simp only [and_assoc] at hu4
 obtain ⟨rfl, rfl⟩ := hu4
 replace hu7 := hv7.symm.trans hu7
 simp at hu7
 try simp only [and_assoc] at hu7
 obtain ⟨rfl, rfl⟩ := hu7
 replace hu10 := hv10.symm.trans hu10
 simp at hu10
 try simp only [and_assoc] at hu10
 obtain ⟨rfl, rfl⟩ := hu10
 replace hu13 := hv13.symm.trans hu13
 simp at hu13
 try simp only [and_assoc] at hu13
 obtain ⟨rfl, rfl, rfl, rfl⟩ := hu13
 obtain ⟨E3_15, e3_15, hu4, R3_15, r3_15, hu7, H3_15, h3_15, hu10, B1_15, d1_15, B2_15, d2_15, hu13, hx15⟩ := f15
 replace hu4 := hv4.symm.trans hu4
 simp at hu4
 try simp only [and_assoc] at hu4
 obtain ⟨rfl, rfl⟩ := hu4
 replace hu7 := hv7.symm.trans hu7
 simp at hu7
 try simp only [and_assoc] at hu7
 obtain ⟨rfl, rfl⟩ := hu7
 replace hu10 := hv10.symm.trans hu10
 simp at hu10
 try simp only [and_assoc] at hu10
 obtain ⟨rfl, rfl⟩ := hu10
 replace hu13 := hv13.symm.trans hu13
 simp at hu13
 try simp only [and_assoc] at hu13
 obtain ⟨rfl, rfl, rfl, rfl⟩ := hu13
 obtain ⟨hs4, hse4, he4⟩ := hE 4 (by decide +kernel)
 obtain ⟨hs7, hse7, he7⟩ := hE 7 (by decide +kernel)
 obtain ⟨hs10, hse10, he10⟩ := hE 10 (by decide +kernel)
 obtain ⟨hs13, hse13, he13⟩ := hE 13 (by decide +kernel)
 have hdj2_4_7 := hA 4 (by decide +kernel) 7 (by decide +kernel) (by decide)
 have hdj2_4_10 := hA 4 (by decide +kernel) 10 (by decide +kernel) (by decide)
 have hdj2_4_13 := hA 4 (by decide +kernel) 13 (by decide +kernel) (by decide)
 have hdj2_7_10 := hA 7 (by decide +kernel) 10 (by decide +kernel) (by decide)
 have hdj2_7_13 := hA 7 (by decide +kernel) 13 (by decide +kernel) (by decide)
 have hdj2_10_13 := hA 10 (by decide +kernel) 13 (by decide +kernel) (by decide)
 change w1.heap.size ≤ _ at hs4 hs7 hs10 hs13
 clear hE hA hF
 simp only [dY, Nat.reduceAdd, hv0, hv1, hv2, hv3, hv4, hv5, hv6, hv7, hv8, hv9, hv10, hv11, hv12, hv13, hv14]
 clear hv0 hv1 hv2 hv3 hv4 hv5 hv6 hv7 hv8 hv9 hv10 hv11 hv12 hv13 hv14
 generalize (gh 4).s = s2_4 at *
 generalize (gh 4).e = e2_4 at *
 generalize (gh 7).s = s2_7 at *
 generalize (gh 7).e = e2_7 at *
 generalize (gh 10).s = s2_10 at *
 generalize (gh 10).e = e2_10 at *
 generalize (gh 13).s = s2_13 at *
 generalize (gh 13).e = e2_13 at *
 clear HF
 have hb := hB
 clear hB
 have hzw2 : w1.heap.size ≤ w2.heap.size := hb.size
 replace HB := lH (au HB.out hb (by omega) HB.out.size)
 replace HOE := lH (HOE.out.only hb (by first | omega | (simp; omega)))
 replace HOR := lH (HOR.out.only hb (by first | omega | (simp; omega)))
 replace HOH := lH (HOH.out.only hb (by first | omega | (simp; omega)))
 replace HOX := lH (HOX.out.only hb (by first | omega | (simp; omega)))
 replace HOY := lH (HOY.out.only hb (by first | omega | (simp; omega)))
 replace HXb := lH (HXb.out.only hb (by first | omega | (simp; omega)))
 clear hxb hfb hkb
 obtain ⟨hkb, hxb, hfb⟩ := HXb.out
 clear hxq hfq hkq HXq
 clear hb
 have HXq : Hid (aa w2 (w.heap.size + 1) [.int .i64 width, .slice E3 ne e3, .slice R3 nr r3, .slice H3 nh h3, .int .i64 z1, .slice B1 m1 d1, .int .i64 z2, .slice B2 m2 d2, .int .i64 h.num, .int .i64 h.size, .string h.root, .int .i64 h.taken, .string h.troot]) := hx15
 obtain ⟨hkq, hxq, hfq⟩ := HXq.out
 clear hx15
 have qE := hrE.at_
 have qR := hrR.at_
 have qH := hrH.at_
 have q1 := hr1.at_
 have q2 := hr2.at_
 dsimp only at qE qR qH q1 q2
 have hall : bW w2 w.heap.size w2.heap.size ⟨E3, R3, H3, B1, B2, e3, r3, h3, d1, d2⟩ ⟨es, rs, hs, l1, l2⟩ := by
  have hrE := hrE.mono (lo' := w.heap.size) (hi' := w2.heap.size) (by omega) (by omega)
  have hrR := hrR.mono (lo' := w.heap.size) (hi' := w2.heap.size) (by omega) (by omega)
  have hrH := hrH.mono (lo' := w.heap.size) (hi' := w2.heap.size) (by omega) (by omega)
  have hr1 := hr1.mono (lo' := w.heap.size) (hi' := w2.heap.size) (by omega) (by omega)
  have hr2 := hr2.mono (lo' := w.heap.size) (hi' := w2.heap.size) (by omega) (by omega)
  obtain rfl := HNE.out
  obtain rfl := HNR.out
  obtain rfl := HNH.out
  obtain rfl := HM1.out
  obtain rfl := HM2.out
  exact ⟨hrE, hrR, hrH, hr1, hr2, fun k a b => by have := qE k a; have := qR k b; omega, fun k a b => by have := qE k a; have := qH k b; omega, fun k a b => by have := qR k a; have := qH k b; omega,
   fun k a b => by have := q1 k a; have := qR k b; omega, fun k a b => by have := q2 k a; have := qR k b; omega, fun k a b => by have := q1 k a; have := qH k b; omega, fun k a b => by have := q2 k a; have := qH k b; omega⟩
 have HALL := lH hall
 have HAP := lH hap
 clear hall qE qR qH q1 q2 hrE hrR hrH hr1 hr2 hap
 go_wp2
 refine bodyPost_ret (v := .agg #[.int .i64 width, .slice E3 ne e3, .slice R3 nr r3, .slice H3 nh h3, .int .i64 z1, .slice B1 m1 d1, .int .i64 z2, .slice B2 m2 d2, .int .i64 h.num, .int .i64 h.size, .string h.root, .int .i64 h.taken, .string h.troot]) (by simp [results, Tryz.results82, go_sem, hxq]) rfl ?_
 exact ⟨⟨E3, R3, H3, B1, B2, e3, r3, h3, d1, d2⟩, rfl, ⟨HALL.out, HAP.out⟩, HB.out⟩
theorem aI.eO {w : World} {lo hi lo' hi' s1 s2 n1 n2 : Nat} {e1 e2 : TypeId} {v1 v2 : Value} {x1 x2 : List Value} (h1 : aI w lo hi ((e1, s1), v1, n1) x1) (h2 : aI w lo' hi' ((e2, s2), v2, n2) x2) (hne : e1 ≠ e2) : Ap v1 v2 := by
 intro k a b
 rcases h1.1.2 with ⟨q, _⟩ | ⟨g, cap, cur, q, _, r, _⟩
 ·have q : v1 = _ := q
  rw [q] at a; cases a
 rcases h2.1.2 with ⟨q', _⟩ | ⟨g', cap', cur', q', _, r', _⟩
 ·have q' : v2 = _ := q'
  rw [q'] at b; cases b
 have q : v1 = _ := q
 have q' : v2 = _ := q'
 rw [q] at a
 rw [q'] at b
 injection a with a
 injection b with b
 have a' : g = k := a
 have b' : g' = k := b
 subst a'
 subst b'
 rw [r] at r'
 injection r' with r'
 injection r' with _ h4
 exact hne h4
structure Grew (w w' : World) (lo p : Nat) (v0 : Value) : Prop where
 on : Only lo (p + 1) w w'
 keep : ∀ k, k < w.heap.size → k ≠ p → v0.ownBlock ≠ some k → w'.heap[k]? = w.heap[k]?
theorem aI.grew {w w' : World} {lo p lo' hi' : Nat} {v0 : Value} {a : (TypeId × Nat) × Value × Nat} {xs : List Value} (h : aI w lo' hi' a xs) (hg : Grew w w' lo p v0) (hp : hi' ≤ p ∨ p < lo') (hap : Ap a.2.1 v0) : aI w' lo' hi' a xs :=
 h.keepB fun k hk hl => hg.keep k hl (fun e => by have := h.at_ k hk; omega) (hap k hk)
section
variable {w w1 : World} {lo p n cap g n0 size : Nat} {T : TypeId} {v0 : Value} {xs ys : List Value}
theorem grew_row (h0 : aI w lo p ((T, size), v0, n0) xs) (hl : lo ≤ p) (hp : p < w.heap.size) (hrow : w1.ownsRow lo T size (.slice (some ⟨g, 0, none⟩) n cap) n ys) (hgr : w.grownBy w1 v0.ownBlock) (hat : v0.ownBlock = some g ∨ w.heap.size ≤ g) (o : Nat) (u : Value) :
  aI (w1.setCell ⟨p, o, none⟩ u) g (g + 1) ((T, size), .slice (some ⟨g, 0, none⟩) n cap, n) ys ∧ Grew w (w1.setCell ⟨p, o, none⟩ u) lo p v0 ∧ (lo ≤ g ∧ (g < p ∨ w.heap.size ≤ g) ∧ g < w1.heap.size) := by
 have hat0 := h0.at_
 have hg1 := hrow.lt g rfl
 have hgp : g < p ∨ w.heap.size ≤ g := hat.imp (fun e => (hat0 g e).2) id
 have r1 : (w1.setCell ⟨p, o, none⟩ u).ownsRow lo T size (.slice (some ⟨g, 0, none⟩) n cap) n ys := hrow.kept (row := some p) ⟨rfl, rfl, rfl, by simp [World.setCell], fun k hk hn => Below.heap_setCell _ _ _ _ (fun e => hn (congrArg some e))⟩ (.inr (fun e => by
  injection e with e
  have e' : g = p := e
  omega))
 have hblk : ∀ k, k < w.heap.size → k ≠ p → v0.ownBlock ≠ some k → (w1.setCell ⟨p, o, none⟩ u).heap[k]? = w.heap[k]? := fun k hk h1 h2 => (Below.heap_setCell _ _ _ _ (fun e => h1 e)).trans (hgr.block k hk (fun e => h2 e.symm))
 refine ⟨⟨⟨r1.1, ?_⟩, fun k hk => by have hk' : g = k := (by injection hk); show k < g + 1; omega⟩, ⟨⟨hgr.os, hgr.tape, hgr.output, by simpa [World.setCell] using hgr.size, fun k hk hd => hblk k hk (by omega) (fun e => by have := hat0 k e; omega)⟩, hblk⟩, hg1.1, hgp, hg1.2⟩
 rcases r1.2 with ⟨e, _⟩ | ⟨g', cap', cur, e, h5, h6⟩
 ·cases e
 cases e; exact .inr ⟨g, cap, cur, rfl, Nat.le_refl _, h6⟩
theorem grew_box {cs : List Value} (hx : aa w p cs) (h0 : aI w lo p ((T, size), v0, n0) xs) (hgr : w.grownBy w1 v0.ownBlock) (o : Nat) (u : Value) : aa (w1.setCell ⟨p, o, none⟩ u) p (cs.set o u) :=
 (hx.keep hgr.size (hgr.block p hx.1 (fun e => by have := h0.at_ p e.symm; omega))).set1 o u
end
theorem hds_take (l : List Hd) (k : Nat) : hds l = hds (l.take k) ++ hds (l.drop k) := by rw [hds, hds, hds, ← List.flatMap_append, List.take_append_drop]
theorem Rd.hdsTake {w : World} {lo hi : Nat} {A : Option Addr} {l : List Hd} (h : Rd w lo hi A (hds l)) (k : Nat) : Rd w lo hi A (hds (l.take k)) := by
 rw [hds_take l k] at h; exact h.pre
theorem rng_box {w : World} {base o m : Nat} {n : Int} {v : Value} {l : List ByteArray} (cs : Array Value) (T : TypeId) (hT : T ≠ 9) (h : w.ownsRow base 9 1 v m (strs l)) (h0 : cs.toList[o]? = some (.int .i64 n)) (h1 : cs.toList[o + 1]? = some v) :
  cB (w.alloc (.cells cs T)) base w.heap.size o n v m l := by
 have hx := aa.new w cs T
 exact ⟨⟨_, T, heap_alloc_new w _, hT⟩, hx.cell (o := o) h0, hx.cell (o := o + 1) h1, h.alloc _⟩
set_option maxRecDepth 100000 in
theorem implSealNew_c (width : Int) (w : World) : Calls Tryz.prog 147 #[.int .i64 width] w fun e w' => e = .returned (.tuple #[.agg #[.int .i64 0, .slice none 0 0, .int .i64 0, .slice none 0 0, .int .i64 0, .int .i64 0, .string (aQ width), .int .i64 0, .string (aQ width)], .bool (inR width 1 32)]) ∧ Below w.heap.size w w' := by
 have HN := lH (fun h => emptyT_no (width := width) h)
 have HE := lH (fun W => implHeadNew_c width W)
 generalize aQ width = em at *
 generalize inR width 1 32 = q1 at *
 have HB : Hid (Below w.heap.size w w) := Below.refl _ _
 go_enter Tryz.func147, Tryz.ntmps147
 go_wp2_with fail
 refine af (fun w1 hw => ?_)
 have hz1 : w.heap.size + 1 ≤ w1.heap.size := zA
 have hbn : Below w.heap.size w w1 := zB
 replace HB := bT HB hbn
 clear hbn
 have HXr : Hid (aa w1 (w.heap.size) [.int .i64 0, .slice none 0 0, .int .i64 0, .slice none 0 0, .int .i64 0, .int .i64 0, .string ⟨#[]⟩, .int .i64 0, .string ⟨#[]⟩]) := zG9
 obtain ⟨hkr, hxr, hfr⟩ := HXr.out
 clear hw
 refine (HE.out _).mono ?_
 rintro e w2 ⟨rfl, hb⟩
 have hzw2 : w1.heap.size ≤ w2.heap.size := hb.size
 replace HB := bT HB hb
 replace HXr := nB HXr hb
 clear hxr hfr hkr
 obtain ⟨hkr, hxr, hfr⟩ := HXr.out
 clear hb
 rcases q1 with _ | _
 ·obtain rfl := HN.out rfl
  go_wp2
  refine ai (fun w3 hw => ?_)
  have hz3 : w2.heap.size + 1 ≤ w3.heap.size := zA
  replace HB : Hid (Below w.heap.size w w3) := zC HB
  replace HXr : Hid (aa w3 (w.heap.size) [.int .i64 0, .slice none 0 0, .int .i64 0, .slice none 0 0, .int .i64 0, .int .i64 0, .string ⟨#[]⟩, .int .i64 0, .string ⟨#[]⟩]) := zD HXr
  clear hxr hfr hkr; obtain ⟨hkr, hxr, hfr⟩ := HXr.out
  have HXh : Hid (aa w3 (w2.heap.size) [.int .i64 0, .int .i64 0, .string ⟨#[]⟩, .int .i64 0, .string ⟨#[]⟩]) := zG5
  obtain ⟨hkh, hxh, hfh⟩ := HXh.out; clear hw
  refine bodyPost_ret (v := .tuple #[.agg #[.int .i64 0, .slice none 0 0, .int .i64 0, .slice none 0 0, .int .i64 0, .int .i64 0, .string ⟨#[]⟩, .int .i64 0, .string ⟨#[]⟩], .bool false]) (by simp [results, Tryz.results147, go_sem, hxr]) rfl ?_
  exact ⟨rfl, HB.out⟩
 go_wp2
 refine ai (fun w3 hw => ?_)
 have hz3 : w2.heap.size + 1 ≤ w3.heap.size := zA
 replace HB : Hid (Below w.heap.size w w3) := zC HB
 replace HXr : Hid (aa w3 (w.heap.size) [.int .i64 0, .slice none 0 0, .int .i64 0, .slice none 0 0, .int .i64 0, .int .i64 0, .string em, .int .i64 0, .string em]) := zD HXr
 clear hxr hfr hkr
 obtain ⟨hkr, hxr, hfr⟩ := HXr.out
 have HXh : Hid (aa w3 (w2.heap.size) [.int .i64 0, .int .i64 0, .string em, .int .i64 0, .string em]) := zG5
 obtain ⟨hkh, hxh, hfh⟩ := HXh.out
 clear hw
 refine bodyPost_ret (v := .tuple #[.agg #[.int .i64 0, .slice none 0 0, .int .i64 0, .slice none 0 0, .int .i64 0, .int .i64 0, .string em, .int .i64 0, .string em], .bool true]) (by simp [results, Tryz.results147, go_sem, hxr]) rfl ?_
 exact ⟨rfl, HB.out⟩
set_option maxRecDepth 100000 in
theorem specSealNew_c (width : Int) (w : World) : Calls Tryz.prog 97 #[.int .i64 width] w fun e w' => e = .returned (.tuple #[.agg #[.int .i64 0, .slice none 0 0, .int .i64 0, .slice none 0 0, .int .i64 0, .int .i64 0, .string (aQ width), .int .i64 0, .string (aQ width)], .bool (inR width 1 32)]) ∧ Below w.heap.size w w' := by
 have HN := lH (fun h => emptyT_no (width := width) h)
 have HE := lH (fun W => specHeadNew_c width W)
 generalize aQ width = em at *
 generalize inR width 1 32 = q1 at *
 have HB : Hid (Below w.heap.size w w) := Below.refl _ _
 go_enter Tryz.func97, Tryz.ntmps97
 go_wp2_with fail
 refine af (fun w1 hw => ?_)
 have hz1 : w.heap.size + 1 ≤ w1.heap.size := zA
 have hbn : Below w.heap.size w w1 := zB
 replace HB := bT HB hbn
 clear hbn
 have HXr : Hid (aa w1 (w.heap.size) [.int .i64 0, .slice none 0 0, .int .i64 0, .slice none 0 0, .int .i64 0, .int .i64 0, .string ⟨#[]⟩, .int .i64 0, .string ⟨#[]⟩]) := zG9
 obtain ⟨hkr, hxr, hfr⟩ := HXr.out
 clear hw
 refine (HE.out _).mono ?_
 rintro e w2 ⟨rfl, hb⟩
 have hzw2 : w1.heap.size ≤ w2.heap.size := hb.size
 replace HB := bT HB hb
 replace HXr := nB HXr hb
 clear hxr hfr hkr
 obtain ⟨hkr, hxr, hfr⟩ := HXr.out
 clear hb
 rcases q1 with _ | _
 ·obtain rfl := HN.out rfl
  go_wp2
  refine ai (fun w3 hw => ?_)
  have hz3 : w2.heap.size + 1 ≤ w3.heap.size := zA
  replace HB : Hid (Below w.heap.size w w3) := zC HB
  replace HXr : Hid (aa w3 (w.heap.size) [.int .i64 0, .slice none 0 0, .int .i64 0, .slice none 0 0, .int .i64 0, .int .i64 0, .string ⟨#[]⟩, .int .i64 0, .string ⟨#[]⟩]) := zD HXr
  clear hxr hfr hkr; obtain ⟨hkr, hxr, hfr⟩ := HXr.out
  have HXh : Hid (aa w3 (w2.heap.size) [.int .i64 0, .int .i64 0, .string ⟨#[]⟩, .int .i64 0, .string ⟨#[]⟩]) := zG5
  obtain ⟨hkh, hxh, hfh⟩ := HXh.out; clear hw
  refine bodyPost_ret (v := .tuple #[.agg #[.int .i64 0, .slice none 0 0, .int .i64 0, .slice none 0 0, .int .i64 0, .int .i64 0, .string ⟨#[]⟩, .int .i64 0, .string ⟨#[]⟩], .bool false]) (by simp [results, Tryz.results97, go_sem, hxr]) rfl ?_
  exact ⟨rfl, HB.out⟩
 go_wp2
 refine ai (fun w3 hw => ?_)
 have hz3 : w2.heap.size + 1 ≤ w3.heap.size := zA
 replace HB : Hid (Below w.heap.size w w3) := zC HB
 replace HXr : Hid (aa w3 (w.heap.size) [.int .i64 0, .slice none 0 0, .int .i64 0, .slice none 0 0, .int .i64 0, .int .i64 0, .string em, .int .i64 0, .string em]) := zD HXr
 clear hxr hfr hkr
 obtain ⟨hkr, hxr, hfr⟩ := HXr.out
 have HXh : Hid (aa w3 (w2.heap.size) [.int .i64 0, .int .i64 0, .string em, .int .i64 0, .string em]) := zG5
 obtain ⟨hkh, hxh, hfh⟩ := HXh.out
 clear hw
 refine bodyPost_ret (v := .tuple #[.agg #[.int .i64 0, .slice none 0 0, .int .i64 0, .slice none 0 0, .int .i64 0, .int .i64 0, .string em, .int .i64 0, .string em], .bool true]) (by simp [results, Tryz.results97, go_sem, hxr]) rfl ?_
 exact ⟨rfl, HB.out⟩
end
end Go.Proofs.YtoccjgcokffkbaaGreat
