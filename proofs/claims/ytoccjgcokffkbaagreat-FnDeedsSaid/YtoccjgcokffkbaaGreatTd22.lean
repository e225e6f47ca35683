/- Part 22 of the proof of FnDeeds: lemmas and contracts. -/
import Derived.Test.YtoccjgcokffkbaaGreatTd21
import Derived.Shelf.Abstract
namespace Go.Proofs.YtoccjgcokffkbaaGreat
set_option linter.unusedVariables false
set_option linter.unusedSimpArgs false
set_option maxHeartbeats 20000000
section
open Go.RowKit
set_option maxRecDepth 100000 in
theorem publish_c (width : Int) (E R H A1 A2 : Option Addr) (ne nr nh ce cr ch c1 c2 m1 m2 : Nat) (es : List Ent) (rs : List Rcp) (hs : List Hd) (l1 l2 : List ByteArray) (h : Hd) (p lo : Nat) (t : ByteArray) (ti : Int) (k b : ByteArray) (w : World) (hbx : aa w p [.int .i64 width, .slice E ne ce, .slice R nr cr, .slice H nh ch, .int .i64 h.size, .slice A1 m1 c1, .int .i64 h.taken, .slice A2 m2 c2, .int .i64 h.num, .int .i64 h.size, .string h.root, .int .i64 h.taken, .string h.troot]) (hcp : bW w lo p ⟨E, R, H, A1, A2, ce, cr, ch, c1, c2⟩ ⟨es, rs, hs, l1, l2⟩) (hok : aB width es rs hs) (hne : es.length = ne) (hnr : rs.length = nr) (hnh : hs.length = nh) (hl1 : pk1 width es hs = l1) (hl2 : pk2 width rs hs = l2) (hm1 : l1.length = m1) (hm2 : l2.length = m2) (hh : ae hs = h) (hlp : lo ≤ p) (hE0 : E = none → ce = 0) (hch : nh ≤ ch)
  (ht : t.size ≤ 1048576) (hks : k.size ≤ 1048576) (hbs : b.size ≤ 1048576) (hc : bK es t ti k b = 0) :
  Calls Tryz.prog 83 #[.pointer (some ⟨p, 0, none⟩), .string t, .int .i64 ti, .string k, .string b] w fun e w' => ∃ g cap q : Nat, e = .returned (.tuple #[.slice (some ⟨q, 0, none⟩) 1 1, .int .i64 ne, .int .i64 0]) ∧
   (aa w' p [.int .i64 width, .slice (some ⟨g, 0, none⟩) (ne + 1) cap, .slice R nr cr, .slice H nh ch, .int .i64 h.size, .slice A1 m1 c1, .int .i64 h.taken, .slice A2 m2 c2, .int .i64 h.num, .int .i64 h.size, .string h.root, .int .i64 h.taken, .string h.troot] ∧
    aG w' lo w'.heap.size ⟨some ⟨g, 0, none⟩, R, H, A1, A2, cap, cr, ch, c1, c2⟩ ⟨width, es ++ [aY es t ti k b], rs, hs⟩ ∧ Rd w' lo w'.heap.size (some ⟨q, 0, none⟩) (wris [dZ ⟨width, es, rs, hs⟩ 0 (aJ (aY es t ti k b))])) ∧ Only lo (p + 1) w w' := by
 obtain ⟨f1, f2, f3, g1, g2, g3, g4, f4, g5, g6, g7⟩ := bN hok
 rw [hne] at g1
 rw [hnr] at g2
 rw [hnh] at g3 g4
 rw [hl1, hm1] at g6
 rw [hl2, hm2] at g7
 have hpos : 1 ≤ nh := by rw [← hnh]; exact hok.pos
 have hpub := hok.publish hc
 have hfx := ent_fit (newEnt_ok hc)
 have hxk : pk1 width (es ++ [aY es t ti k b]) hs = l1 := by rw [pk1_more hok, hl1]
 have hlen : (es ++ [aY es t ti k b]).length = ne + 1 := by rw [List.length_append, hne]; rfl
 have hlast1 : (es ++ [aY es t ti k b])[ne]? = some (aY es t ti k b) := by rw [← hne, List.getElem?_append_right (Nat.le_refl _), Nat.sub_self]; rfl
 obtain ⟨r0, r0n⟩ := file_recs hok 0
 have HAE := lH (fun W hp hpf hown hpb hb => addEntry_yes p 1 lo E ce ne es t ti k b W hp hpf hown hpb hne (by omega) ht hks hbs hc hb)
 obtain ⟨x, hx⟩ : ∃ x, aY es t ti k b = x := ⟨_, rfl⟩
 rw [hx] at hpub hfx hxk hlen hlast1 HAE ⊢
 have HTX := lH (fun W => implLeafText_c x W hfx)
 have hts := dF x
 have HCL := lH (fun W (r : Rd W 0 W.heap.size E (aR es)) => copyLog_c E ce 0 W.heap.size ne es W r hne (by omega) hE0)
 have hch1 : (1 : Int) ≤ (ch : Int) := by omega
 have hh1 : (hs.take 1).length = 1 := by rw [List.length_take, hnh]; omega
 have HWR := lH (fun W q E9 e9 (bx : aa W q [.int .i64 width, .slice E9 ne e9, .slice none 0 0, .slice H 1 ch, .int .i64 0, .slice none 0 0, .int .i64 0, .slice none 0 0, .int .i64 0, .int .i64 0, .string ⟨#[]⟩, .int .i64 0, .string ⟨#[]⟩]) (r1 : Rd W 0 W.heap.size E9 (aR es)) (r2 : Rd W 0 W.heap.size H (hds (hs.take 1))) tx htx =>
  writeBehind_c width 0 0 q 0 E9 none H none none ne 0 1 e9 0 ch 0 0 0 W.heap.size 0 W.heap.size 0 W.heap.size 0 0 es [] (hs.take 1) noHd tx W bx r1 (Rd.nil) r2 hne rfl hh1 (by omega) (by omega) (by omega) (by omega) (by omega) f1 (fun x hx => by cases hx) (fun x hx => by have h1 := f3 x (List.mem_of_mem_take hx); have h2 : x.bulk ≤ dW Hd.bulk hs := sumBy_mem Hd.bulk (List.mem_of_mem_take hx); omega) (by omega) r0 r0n htx)
 have HPB := lH hpub
 have HOK := lH hok
 have HNE := lH hne
 have HNR := lH hnr
 have HNH := lH hnh
 have HXK := lH hxk
 have HL2 := lH hl2
 have HLEN := lH hlen
 have HLA := lH hlast1
 have HM1 := lH hm1
 have HM2 := lH hm2
 have HDW : Hid (dZ ⟨width, es, rs, hs⟩ 0 (aJ x) = ⟨((0 : Nat) : Int), (dB (bB width es rs hs 0)).size, bJ (aJ x)⟩) := lH rfl
 have HFL : Hid (bB width es [] (hs.take 1) 0 = bB width es rs hs 0) := lH rfl
 rw [HFL.out] at HWR
 generalize dZ ⟨width, es, rs, hs⟩ 0 (aJ x) = dw at *
 generalize (dB (bB width es rs hs 0)).size = fsz at *
 clear hx hc f1 f2 f3 f4 g4 hne hnr hnh hl1 hl2 hm1 hm2 hh hpub hfx hxk hlen hlast1 hok hE0 r0 r0n hh1 HFL
 generalize aJ x = tx at *
 generalize aV x = ek at *
 have hpw : p < w.heap.size := hbx.1
 have HB : Hid (Only (lo) (p + 1) w w) := Only.refl _ _ _
 replace HB : Hid (Only (lo) (p + 1) w w) := (Only.refl _ _ _)
 have HXb : Hid (aa w (p) [.int .i64 width, .slice E ne ce, .slice R nr cr, .slice H nh ch, .int .i64 h.size, .slice A1 m1 c1, .int .i64 h.taken, .slice A2 m2 c2, .int .i64 h.num, .int .i64 h.size, .string h.root, .int .i64 h.taken, .string h.troot]) := hbx
 obtain ⟨hkb, hxb, hfb⟩ := HXb.out
 have HOC : Hid (bW w (lo) (p) (⟨E, R, H, A1, A2, ce, cr, ch, c1, c2⟩) (⟨es, rs, hs, l1, l2⟩)) := lH hcp
 clear hbx hcp
 go_enter Tryz.func83, Tryz.ntmps83
 go_upto_region 1 with fail
 refine aD (fun w1 hw => ?_)
 have hz1 : w.heap.size + 0 ≤ w1.heap.size := zA
 have hbn : Below w.heap.size w w1 := zB
 replace HB := lH (HB.out.trans (Only.of_below hbn))
 replace HOC := lH (HOC.out.below hbn)
 replace HXb := nB HXb hbn
 clear hxb hfb hkb
 obtain ⟨hkb, hxb, hfb⟩ := HXb.out
 clear hbn
 clear hw
 obtain ⟨F, HF⟩ : ∃ F : Facts, Hid (F = fun iq xq tqs dsq uq => match iq with
  | 0 => xq.v = .pointer (some ⟨p, 0, none⟩)
  | 1 => xq.v = .pointer (some ⟨p, 0, none⟩)
  | 2 => xq.v = .pointer (some ⟨p, 1, none⟩)
  | 3 => xq.v = .agg #[.slice E ne ce]
  | 4 => ∃ (E9 : Option Addr) (e9 : Nat), xq.v = .agg #[.slice E9 ne e9] ∧ (Own uq xq.s xq.e E9 (aR es))
  | 5 => xq.v = .pointer (some ⟨p, 0, none⟩)
  | 6 => xq.v = .pointer (some ⟨p, 0, none⟩)
  | 7 => xq.v = .pointer (some ⟨p, 3, none⟩)
  | 8 => xq.v = .slice H nh ch
  | 9 => xq.v = .slice H 1 ch
  | 10 => xq.v = .pointer (some ⟨p, 0, none⟩)
  | 11 => xq.v = .pointer (some ⟨p, 0, none⟩)
  | 12 => xq.v = .pointer (some ⟨p, 0, none⟩)
  | 13 => xq.v = .int .i64 width
  | 14 => (match tqs, dsq with | [], [yq0] => ∃ (E9 : Option Addr) (e9 : Nat), yq0.v = .agg #[.slice E9 ne e9] ∧ xq.v = .agg #[.int .i64 width, .slice E9 ne e9, .slice none 0 0, .slice H 1 ch, .int .i64 0, .slice none 0 0, .int .i64 0, .slice none 0 0, .int .i64 0, .int .i64 0, .string ⟨#[]⟩, .int .i64 0, .string ⟨#[]⟩] | _, _ => False)
  | 15 => xq.v = .pointer (some ⟨xq.s, 0, none⟩) ∧ xq.s < xq.e ∧ aa uq xq.s [.int .i64 0, .slice none 0 0, .slice none 0 0, .slice none 0 0, .int .i64 0, .slice none 0 0, .int .i64 0, .slice none 0 0, .int .i64 0, .int .i64 0, .string ⟨#[]⟩, .int .i64 0, .string ⟨#[]⟩]
  | 16 => (match tqs, dsq with | [tq0], [yq0] => tq0.v = .pointer (some ⟨tq0.s, 0, none⟩) ∧ tq0.s < tq0.e ∧ ∃ (E9 : Option Addr) (e9 : Nat), yq0.v = .agg #[.slice E9 ne e9] ∧ aa uq tq0.s [.int .i64 width, .slice E9 ne e9, .slice none 0 0, .slice H 1 ch, .int .i64 0, .slice none 0 0, .int .i64 0, .slice none 0 0, .int .i64 0, .int .i64 0, .string ⟨#[]⟩, .int .i64 0, .string ⟨#[]⟩] | _, _ => False)
  | _ => False) := ⟨_, rfl⟩
 refine bq [[], [], [], [], [], [], [], [], [], [], [], [], [], [], [4], [], [4]] [[], [], [], [], [], [], [], [], [], [], [], [], [], [], [], [], [15]] [some 18, some 19, some 20, some 21, some 22, some 23, some 24, some 25, some 26, some 27, some 28, some 29, some 30, some 31, some 32, some 13, none] none 0 0 (.inl rfl) F (by kernel_rfl) (by kernel_rfl) (by kernel_rfl) ?_ ⟨?_, ?_, ?_, ?_, ?_, ?_, ?_, ?_, ?_, ?_, ?_, ?_, ?_, ?_, ?_, ?_, ?_, trivial⟩ ?_
 ·rw [HF.out]; intro iq xq tqs dsq uq u' hi hf hs hW hx hbk
  have kx : ∀ b, xq.s ≤ b → b < xq.e → u'.heap[b]? = uq.heap[b]? := fun b h1 h2 => hbk b (.inr (.inl ⟨h1, h2⟩))
  have kt : ∀ t ∈ tqs, ∀ b, t.s ≤ b → b < t.e → u'.heap[b]? = uq.heap[b]? := fun t ht b h1 h2 => hbk b (.inr (.inr ⟨t, ht, h1, h2⟩))
  match iq with
  | 0 | 1 => exact hf
  | 2 | 3 => exact hf
  | 4 => obtain ⟨E9, e9, hv, p0⟩ := hf; exact ⟨E9, e9, hv, p0.keep hs kx⟩
  | 5 | 6 => exact hf
  | 7 | 8 => exact hf
  | 9 | 10 => exact hf
  | 11 | 12 => exact hf
  | 13 | 14 => exact hf
  | 15 => exact ⟨hf.1, hf.2.1, hf.2.2.keep hs (kx _ (Nat.le_refl _) hf.2.1)⟩
  | 16 => match tqs, dsq, hf with | [tq0], [yq0], hf => obtain ⟨h1, h2, E9, e9, hvr4, hb⟩ := hf; exact ⟨h1, h2, E9, e9, hvr4, hb.keep hs (kt tq0 List.mem_cons_self _ (Nat.le_refl _) h2)⟩
 ·intro gh ρ u hc hf1 hg1 hd h0 hb he ha hF
  have r0 : ρ (.tmp 0) = .pointer (some ⟨p, 0, none⟩) := (h0 0 (by decide +kernel)).trans rfl
  clear hd h0 he ha hF; go_simp; exact fE HF rfl
 ·intro gh ρ u hc hf1 hg1 hd h0 hb he ha hF
  have r18 : ρ (.tmp 18) = .pointer (some ⟨p, 0, none⟩) := (hd 0 (by decide +kernel) 18 (by kernel_rfl)).trans (fG HF (hF 0))
  clear hd h0 he ha hF; go_simp; exact fE HF rfl
 ·intro gh ρ u hc hf1 hg1 hd h0 hb he ha hF
  have r19 : ρ (.tmp 19) = .pointer (some ⟨p, 0, none⟩) := (hd 1 (by decide +kernel) 19 (by kernel_rfl)).trans (fG HF (hF 1))
  clear hd h0 he ha hF; go_simp; exact fE HF rfl
 ·intro gh ρ u hc hf1 hg1 hd h0 hb he ha hF
  replace hb := hb.drew.below (by decide +kernel)
  have hbz := hb.size
  have r20 : ρ (.tmp 20) = .pointer (some ⟨p, 1, none⟩) := (hd 2 (by decide +kernel) 20 (by kernel_rfl)).trans (fG HF (hF 2))
  obtain ⟨k_b, q_b, -⟩ := HXb.out.below hb
  clear hd h0 he ha hF; go_simp; exact fE HF rfl
 ·intro gh ρ u hc hf1 hg1 hd h0 hb he ha hF
  replace hb := hb.drew.below (by decide +kernel)
  have hbz := hb.size
  have r21 : ρ (.tmp 21) = .agg #[.slice E ne ce] := (hd 3 (by decide +kernel) 21 (by kernel_rfl)).trans (fG HF (hF 3))
  clear hd h0 he ha hF; go_simp
  have q_b := (HXb.out.below hb)
  refine (HCL.out _ ((HOC.out.below hb).e.rd (by omega)).base).mono ?_
  rintro e u1 ⟨E9, e9, rfl, ho, hb1⟩
  rw [HF.out]
  exact ⟨_, rfl, aX.of_below hb1, E9, e9, rfl, Own.bg ho⟩
 ·intro gh ρ u hc hf1 hg1 hd h0 hb he ha hF
  have r0 : ρ (.tmp 0) = .pointer (some ⟨p, 0, none⟩) := (h0 0 (by decide +kernel)).trans rfl
  clear hd h0 he ha hF; go_simp; exact fE HF rfl
 ·intro gh ρ u hc hf1 hg1 hd h0 hb he ha hF
  have r23 : ρ (.tmp 23) = .pointer (some ⟨p, 0, none⟩) := (hd 5 (by decide +kernel) 23 (by kernel_rfl)).trans (fG HF (hF 5))
  clear hd h0 he ha hF; go_simp; exact fE HF rfl
 ·intro gh ρ u hc hf1 hg1 hd h0 hb he ha hF
  have r24 : ρ (.tmp 24) = .pointer (some ⟨p, 0, none⟩) := (hd 6 (by decide +kernel) 24 (by kernel_rfl)).trans (fG HF (hF 6))
  clear hd h0 he ha hF; go_simp; exact fE HF rfl
 ·intro gh ρ u hc hf1 hg1 hd h0 hb he ha hF
  replace hb := hb.drew.below (by decide +kernel)
  have hbz := hb.size
  have r25 : ρ (.tmp 25) = .pointer (some ⟨p, 3, none⟩) := (hd 7 (by decide +kernel) 25 (by kernel_rfl)).trans (fG HF (hF 7))
  obtain ⟨k_b, q_b, -⟩ := HXb.out.below hb
  clear hd h0 he ha hF; go_simp; exact fE HF rfl
 ·intro gh ρ u hc hf1 hg1 hd h0 hb he ha hF
  have r26 : ρ (.tmp 26) = .slice H nh ch := (hd 8 (by decide +kernel) 26 (by kernel_rfl)).trans (fG HF (hF 8))
  clear hd h0 he ha hF; go_simp; exact fE HF rfl
 ·intro gh ρ u hc hf1 hg1 hd h0 hb he ha hF
  have r0 : ρ (.tmp 0) = .pointer (some ⟨p, 0, none⟩) := (h0 0 (by decide +kernel)).trans rfl
  clear hd h0 he ha hF; go_simp; exact fE HF rfl
 ·intro gh ρ u hc hf1 hg1 hd h0 hb he ha hF
  have r28 : ρ (.tmp 28) = .pointer (some ⟨p, 0, none⟩) := (hd 10 (by decide +kernel) 28 (by kernel_rfl)).trans (fG HF (hF 10))
  clear hd h0 he ha hF; go_simp; exact fE HF rfl
 ·intro gh ρ u hc hf1 hg1 hd h0 hb he ha hF
  have r29 : ρ (.tmp 29) = .pointer (some ⟨p, 0, none⟩) := (hd 11 (by decide +kernel) 29 (by kernel_rfl)).trans (fG HF (hF 11))
  clear hd h0 he ha hF; go_simp; exact fE HF rfl
 ·intro gh ρ u hc hf1 hg1 hd h0 hb he ha hF
  replace hb := hb.drew.below (by decide +kernel)
  have hbz := hb.size
  have r30 : ρ (.tmp 30) = .pointer (some ⟨p, 0, none⟩) := (hd 12 (by decide +kernel) 30 (by kernel_rfl)).trans (fG HF (hF 12))
  obtain ⟨k_b, q_b, -⟩ := HXb.out.below hb
  clear hd h0 he ha hF; go_simp; exact fE HF rfl
 ·intro gh ρ u hc hf1 hg1 hd h0 hb he ha hF
  have f4 : ∃ (E9 : Option Addr) (e9 : Nat), (gh 4).v = .agg #[.slice E9 ne e9] ∧ (Own u (gh 4).s (gh 4).e E9 (aR es)) := fG HF (hF 4)
  obtain ⟨E9, e9, hv4, g4_0⟩ := f4; have hrt4 := hv4
  have r22 : ρ (.tmp 22) = .agg #[.slice E9 ne e9] := (hd 4 (by decide +kernel) 22 (by kernel_rfl)).trans hv4
  have r27 : ρ (.tmp 27) = .slice H 1 ch := (hd 9 (by decide +kernel) 27 (by kernel_rfl)).trans (fG HF (hF 9))
  have r31 : ρ (.tmp 31) = .int .i64 width := (hd 13 (by decide +kernel) 31 (by kernel_rfl)).trans (fG HF (hF 13))
  have HRT4 := lH hrt4
  clear hv4 hrt4 hd h0 he ha hF; go_simp
  rw [HF.out]
  exact ⟨aX.refl _ _, E9, e9, HRT4.out, rfl⟩
 ·intro gh ρ u hc hf1 hg1 hd h0 hb he ha hF
  replace hb := hb.drew.below (by decide +kernel)
  have hbz := hb.size; clear hd h0 he ha hF; go_simp
  rw [HF.out]
  exact ⟨aX.of_below ((Below.refl _ _).alloc (Nat.le_refl _) _), rfl, by simp, aa.new _ _ _⟩
 ·intro gh ρ u hc hf1 hg1 hd h0 hb he ha hF
  replace hb := hb.drew.below (by decide +kernel)
  have hbz := hb.size
  have f15 : (gh 15).v = .pointer (some ⟨(gh 15).s, 0, none⟩) ∧ (gh 15).s < (gh 15).e ∧ aa u (gh 15).s [.int .i64 0, .slice none 0 0, .slice none 0 0, .slice none 0 0, .int .i64 0, .slice none 0 0, .int .i64 0, .slice none 0 0, .int .i64 0, .int .i64 0, .string ⟨#[]⟩, .int .i64 0, .string ⟨#[]⟩] := fG HF (hF 15)
  obtain ⟨hv15, hpl, hpz, hpc, hpf⟩ := f15
  have r13 : ρ (.tmp 13) = .pointer (some ⟨(gh 15).s, 0, none⟩) := (hd 15 (by decide +kernel) 13 (by kernel_rfl)).trans hv15
  have HP := lH hv15
  have f14 : ∃ (E9 : Option Addr) (e9 : Nat), (gh 4).v = .agg #[.slice E9 ne e9] ∧ (gh 14).v = .agg #[.int .i64 width, .slice E9 ne e9, .slice none 0 0, .slice H 1 ch, .int .i64 0, .slice none 0 0, .int .i64 0, .slice none 0 0, .int .i64 0, .int .i64 0, .string ⟨#[]⟩, .int .i64 0, .string ⟨#[]⟩] := fG HF (hF 14)
  obtain ⟨E9, e9, hrt4, hv14⟩ := f14
  have r32 : ρ (.tmp 32) = .agg #[.int .i64 width, .slice E9 ne e9, .slice none 0 0, .slice H 1 ch, .int .i64 0, .slice none 0 0, .int .i64 0, .slice none 0 0, .int .i64 0, .int .i64 0, .string ⟨#[]⟩, .int .i64 0, .string ⟨#[]⟩] := (hd 14 (by decide +kernel) 32 (by kernel_rfl)).trans hv14
  have HRT4 := lH hrt4
  obtain ⟨_, _, _⟩ := he 15 (by decide +kernel)
  clear hv15 hv14 hrt4 hd h0 he ha hF; go_simp
  rw [HF.out]
  refine ⟨?_, HP.out, hpl, E9, e9, HRT4.out, ?_⟩
  ·refine aX.of_only (t := gh 15) ?_; (iterate 13 refine Only.setCell ?_ (by exact Nat.le_refl _) (by exact hpl) _); exact Only.refl _ _ _
  show aa _ (gh 15).s _
  exact ⟨by simpa [World.setCell] using hpz, fun o => by rcases o with _ | _ | _ | _ | _ | _ | _ | _ | _ | _ | _ | _ | _ | o <;> go_simp, fun o => by go_simp⟩
 intro gh w2 hB hE hA hF
 replace hB : Below w1.heap.size w1 w2 := hB.below rfl
 have f0 : (gh 0).v = .pointer (some ⟨p, 0, none⟩) := fG HF (hF 0)
 have f1 : (gh 1).v = .pointer (some ⟨p, 0, none⟩) := fG HF (hF 1)
 have f2 : (gh 2).v = .pointer (some ⟨p, 1, none⟩) := fG HF (hF 2)
 have f3 : (gh 3).v = .agg #[.slice E ne ce] := fG HF (hF 3)
 have f4 : ∃ (E9 : Option Addr) (e9 : Nat), (gh 4).v = .agg #[.slice E9 ne e9] ∧ (Own w2 (gh 4).s (gh 4).e E9 (aR es)) := fG HF (hF 4)
 have f5 : (gh 5).v = .pointer (some ⟨p, 0, none⟩) := fG HF (hF 5)
 have f6 : (gh 6).v = .pointer (some ⟨p, 0, none⟩) := fG HF (hF 6)
 have f7 : (gh 7).v = .pointer (some ⟨p, 3, none⟩) := fG HF (hF 7)
 have f8 : (gh 8).v = .slice H nh ch := fG HF (hF 8)
 have f9 : (gh 9).v = .slice H 1 ch := fG HF (hF 9)
 have f10 : (gh 10).v = .pointer (some ⟨p, 0, none⟩) := fG HF (hF 10)
 have f11 : (gh 11).v = .pointer (some ⟨p, 0, none⟩) := fG HF (hF 11)
 have f12 : (gh 12).v = .pointer (some ⟨p, 0, none⟩) := fG HF (hF 12)
 have f13 : (gh 13).v = .int .i64 width := fG HF (hF 13)
 have f14 : ∃ (E9 : Option Addr) (e9 : Nat), (gh 4).v = .agg #[.slice E9 ne e9] ∧ (gh 14).v = .agg #[.int .i64 width, .slice E9 ne e9, .slice none 0 0, .slice H 1 ch, .int .i64 0, .slice none 0 0, .int .i64 0, .slice none 0 0, .int .i64 0, .int .i64 0, .string ⟨#[]⟩, .int .i64 0, .string ⟨#[]⟩] := fG HF (hF 14)
 have f16 : (gh 15).v = .pointer (some ⟨(gh 15).s, 0, none⟩) ∧ (gh 15).s < (gh 15).e ∧ ∃ (E9 : Option Addr) (e9 : Nat), (gh 4).v = .agg #[.slice E9 ne e9] ∧ aa w2 (gh 15).s [.int .i64 width, .slice E9 ne e9, .slice none 0 0, .slice H 1 ch, .int .i64 0, .slice none 0 0, .int .i64 0, .slice none 0 0, .int .i64 0, .int .i64 0, .string ⟨#[]⟩, .int .i64 0, .string ⟨#[]⟩] := fG HF (hF 16)
 obtain ⟨E9, e9, hv4, hoE⟩ := f4
 have hv0 := f0
 have hv1 := f1
 have hv2 := f2
 have hv3 := f3
 have hv5 := f5
 have hv6 := f6
 have hv7 := f7
 have hv8 := f8
 have hv9 := f9
 have hv10 := f10
 have hv11 := f11
 have hv12 := f12
 have hv13 := f13
 obtain ⟨E9_14, e9_14, hu4, hv14⟩ := f14
 replace hu4 := hv4.symm.trans hu4
 simp at hu4
 try simp only [and_assoc] at hu4
 obtain ⟨rfl, rfl⟩ := hu4
 obtain ⟨hv15, hl15, f16⟩ := f16
 obtain ⟨E9_16, e9_16, hu4, hx16⟩ := f16
 replace hu4 := hv4.symm.trans hu4
 simp at hu4
 try simp only [and_assoc] at hu4
 obtain ⟨rfl, rfl⟩ := hu4
 obtain ⟨hs4, hse4, he4⟩ := hE 4 (by decide +kernel)
 obtain ⟨hs15, hse15, he15⟩ := hE 15 (by decide +kernel)
 have hdj2_4_15 := hA 4 (by decide +kernel) 15 (by decide +kernel) (by decide)
 change w1.heap.size ≤ _ at hs4 hs15
 clear hE hA hF
 simp only [dY, Nat.reduceAdd, hv0, hv1, hv2, hv3, hv4, hv5, hv6, hv7, hv8, hv9, hv10, hv11, hv12, hv13, hv14, hv15]
 clear hv0 hv1 hv2 hv3 hv4 hv5 hv6 hv7 hv8 hv9 hv10 hv11 hv12 hv13 hv14 hv15
 generalize (gh 4).s = s2_4 at *
 generalize (gh 4).e = e2_4 at *
 generalize (gh 15).s = s2_15 at *
 generalize (gh 15).e = e2_15 at *
 clear HF
 have hb := hB
 clear hB
 have hzw2 : w1.heap.size ≤ w2.heap.size := hb.size
 replace HB := lH (HB.out.trans (Only.of_below hb))
 replace HOC := lH (HOC.out.below hb)
 replace HXb := nB HXb hb
 clear hxb hfb hkb
 obtain ⟨hkb, hxb, hfb⟩ := HXb.out
 clear hb
 have HXq : Hid (aa w2 (s2_15) [.int .i64 width, .slice E9 ne e9, .slice none 0 0, .slice H 1 ch, .int .i64 0, .slice none 0 0, .int .i64 0, .slice none 0 0, .int .i64 0, .int .i64 0, .string ⟨#[]⟩, .int .i64 0, .string ⟨#[]⟩]) := hx16
 obtain ⟨hkq, hxq, hfq⟩ := HXq.out
 clear hx16
 have HON : Hid (Own w2 (s2_4) (e2_4) (E9) (aR es)) := lH hoE
 have HNS := lH (show p + 1 ≤ s2_4 by omega)
 clear hoE HCL
 try simp only [Act.put, List.setIfInBounds_toArray, List.set_cons_zero, List.set_cons_succ]
 go_upto_region 2 with fail
 refine aD (fun w3 hw => ?_)
 have hz3 : w2.heap.size + 0 ≤ w3.heap.size := zA
 have hbn : Below w2.heap.size w2 w3 := zB
 replace HB := lH (HB.out.trans (Only.of_below hbn))
 replace HOC := lH (HOC.out.below hbn)
 replace HON := lH (HON.out.below hbn)
 replace HXb := nB HXb hbn
 clear hxb hfb hkb
 obtain ⟨hkb, hxb, hfb⟩ := HXb.out
 replace HXq := nB HXq hbn
 clear hxq hfq hkq
 obtain ⟨hkq, hxq, hfq⟩ := HXq.out
 clear hbn
 clear hw
 go_wp2_with fail
 refine af (fun w4 hw => ?_)
 have hz4 : w3.heap.size + 0 ≤ w4.heap.size := zA
 have hbn : Below w3.heap.size w3 w4 := zB
 replace HB := lH (HB.out.trans (Only.of_below hbn))
 replace HOC := lH (HOC.out.below hbn)
 replace HON := lH (HON.out.below hbn)
 replace HXb := nB HXb hbn
 clear hxb hfb hkb
 obtain ⟨hkb, hxb, hfb⟩ := HXb.out
 replace HXq := nB HXq hbn
 clear hxq hfq hkq
 obtain ⟨hkq, hxq, hfq⟩ := HXq.out
 clear hbn
 clear hw
 have hCE : aI w4 lo p ((41, 5), .slice E ne ce, ne) (aR es) := by have h7 := HOC.out.e; dsimp only at h7; rwa [HNE.out] at h7
 have hCR : aI w4 lo p ((43, 3), .slice R nr cr, nr) (bf rs) := by have h7 := HOC.out.r; dsimp only at h7; rwa [HNR.out] at h7
 have hCH : aI w4 lo p ((33, 5), .slice H nh ch, nh) (hds hs) := by have h7 := HOC.out.h; dsimp only at h7; rwa [HNH.out] at h7
 have hC1 : aI w4 lo p ((9, 1), .slice A1 m1 c1, m1) (strs l1) := by have h7 := HOC.out.a1; dsimp only at h7; rwa [HM1.out] at h7
 have hC2 : aI w4 lo p ((9, 1), .slice A2 m2 c2, m2) (strs l2) := by have h7 := HOC.out.a2; dsimp only at h7; rwa [HM2.out] at h7
 have HCE := lH hCE
 have HCR := lH hCR
 have HCH := lH hCH
 have HC1 := lH hC1
 have HC2 := lH hC2
 clear hCE hCR hCH hC1 hC2
 refine (HAE.out _ (HXb.out.cell (o := 1) rfl) (HXb.out.2.2 1) HCE.out.1 (fun e => by have := HCE.out.2 p e; omega) (by omega)).mono ?_
 rintro e v3 ⟨gg, cap, v2, rfl, hrow, hgr, hat, hv3⟩
 obtain ⟨q1, q2, q3⟩ := grew_row HCE.out hlp hkb hrow hgr hat 1 (.slice (some ⟨gg, 0, none⟩) (ne + 1) cap)
 have q4 := grew_box HXb.out HCE.out hgr 1 (.slice (some ⟨gg, 0, none⟩) (ne + 1) cap)
 rw [← hv3] at q1 q2 q4
 have q5 := HCR.out.grew q2 (by omega) (HCR.out.eO HCE.out (by decide))
 have q6 := HCH.out.grew q2 (by omega) (HCH.out.eO HCE.out (by decide))
 have q7 := HC1.out.grew q2 (by omega) (HC1.out.eO HCE.out (by decide))
 have q8 := HC2.out.grew q2 (by omega) (HC2.out.eO HCE.out (by decide))
 have hgw : gg < v3.heap.size := by rw [hv3]; simpa [World.setCell] using q3.2.2
 have hon := q2.on
 obtain ⟨pz, hpz1, hpz2⟩ : ∃ n, n ≤ w4.heap.size ∧ w4.heap.size ≤ n := ⟨_, Nat.le_refl _, Nat.le_refl _⟩
 have hzv3 : w4.heap.size ≤ v3.heap.size := hon.size
 replace HB : Hid (Only (lo) (p + 1) w v3) := lH (by first | exact HB.out.trans hon | exact only_two HB.out hon (by omega))
 replace HON := lH (HON.out.only hon (by first | omega | (simp; omega)))
 clear hxb hfb hkb HXb
 replace HXq := lH (HXq.out.only hon (by first | omega | (simp; omega)))
 clear hxq hfq hkq
 obtain ⟨hkq, hxq, hfq⟩ := HXq.out
 clear HOC HCE HCR HCH HC1 HC2 hrow hgr hat hv3 hon HAE q2
 have HXb : Hid (aa v3 (p) [.int .i64 width, .slice (some ⟨gg, 0, none⟩) (ne + 1) cap, .slice R nr cr, .slice H nh ch, .int .i64 h.size, .slice A1 m1 c1, .int .i64 h.taken, .slice A2 m2 c2, .int .i64 h.num, .int .i64 h.size, .string h.root, .int .i64 h.taken, .string h.troot]) := q4
 obtain ⟨hkb, hxb, hfb⟩ := HXb.out
 have HOE5 : Hid (aI v3 (gg) (gg + 1) (((41, 5), .slice (some ⟨gg, 0, none⟩) (ne + 1) cap, ne + 1)) (aR (es ++ [x]))) := lH q1
 have HOR5 : Hid (aI v3 (lo) (p) (((43, 3), .slice R nr cr, nr)) (bf rs)) := lH q5
 have HOH5 : Hid (aI v3 (lo) (p) (((33, 5), .slice H nh ch, nh)) (hds hs)) := lH q6
 have HOA5 : Hid (aI v3 (lo) (p) (((9, 1), .slice A1 m1 c1, m1)) (strs l1)) := lH q7
 have HOB5 : Hid (aI v3 (lo) (p) (((9, 1), .slice A2 m2 c2, m2)) (strs l2)) := lH q8
 have HQ3 := lH q3
 clear q1 q3 q4 q5 q6 q7 q8
 go_upto_region 5 with fail
 refine aD (fun w5 hw => ?_)
 have hz5 : v3.heap.size + 0 ≤ w5.heap.size := zA
 have hbn : Below v3.heap.size v3 w5 := zB
 replace HB := lH (HB.out.trans (Only.of_below hbn))
 replace HON := lH (HON.out.below hbn)
 replace HOE5 := lH (HOE5.out.below hbn)
 replace HOR5 := lH (HOR5.out.below hbn)
 replace HOH5 := lH (HOH5.out.below hbn)
 replace HOA5 := lH (HOA5.out.below hbn)
 replace HOB5 := lH (HOB5.out.below hbn)
 replace HXq := nB HXq hbn
 clear hxq hfq hkq
 obtain ⟨hkq, hxq, hfq⟩ := HXq.out
 replace HXb := nB HXb hbn
 clear hxb hfb hkb
 obtain ⟨hkb, hxb, hfb⟩ := HXb.out
 clear hbn
 clear hw
 obtain ⟨b2, off, y, hEe, hb2, hks2, hcs⟩ := ent_cells (HOE5.out.rd (by omega)) (k := ne) (by rw [HLEN.out]; omega)
 obtain rfl : x = y := by rw [HLA.out] at hks2; exact Option.some.inj hks2
 have c0' := hcs.1
 have c1' := hcs.2.1
 have c2' := hcs.2.2.1
 have c3' := hcs.2.2.2.1
 have c4' := hcs.2.2.2.2
 have hix := idxEnt (some ⟨gg, 0, none⟩) b2 off (ne + 1) cap ne hEe (by omega)
 clear hks2 hcs hEe
 go_wp2_with fail
 refine af (fun w6 hw => ?_)
 have hz6 : w5.heap.size + 0 ≤ w6.heap.size := zA
 have hbn : Below w5.heap.size w5 w6 := zB
 replace HB := lH (HB.out.trans (Only.of_below hbn))
 replace HON := lH (HON.out.below hbn)
 replace HOE5 := lH (HOE5.out.below hbn)
 replace HOR5 := lH (HOR5.out.below hbn)
 replace HOH5 := lH (HOH5.out.below hbn)
 replace HOA5 := lH (HOA5.out.below hbn)
 replace HOB5 := lH (HOB5.out.below hbn)
 replace HXq := nB HXq hbn
 clear hxq hfq hkq
 obtain ⟨hkq, hxq, hfq⟩ := HXq.out
 replace HXb := nB HXb hbn
 clear hxb hfb hkb
 obtain ⟨hkb, hxb, hfb⟩ := HXb.out
 clear hbn
 clear hw
 refine (HTX.out _).mono ?_
 rintro e w7 ⟨rfl, hb⟩
 have hzw7 : w6.heap.size ≤ w7.heap.size := hb.size
 replace HB := lH (HB.out.trans (Only.of_below hb))
 replace HON := lH (HON.out.below hb)
 replace HOE5 := lH (HOE5.out.below hb)
 replace HOR5 := lH (HOR5.out.below hb)
 replace HOH5 := lH (HOH5.out.below hb)
 replace HOA5 := lH (HOA5.out.below hb)
 replace HOB5 := lH (HOB5.out.below hb)
 replace HXq := nB HXq hb
 clear hxq hfq hkq
 obtain ⟨hkq, hxq, hfq⟩ := HXq.out
 replace HXb := nB HXb hb
 clear hxb hfb hkb
 obtain ⟨hkb, hxb, hfb⟩ := HXb.out
 clear hb
 clear c0' c1' c2' c3' c4' hix hb2 HTX
 go_wp2_with fail
 refine af (fun w8 hw => ?_)
 have hz8 : w7.heap.size + 0 ≤ w8.heap.size := zA
 have hbn : Below w7.heap.size w7 w8 := zB
 replace HB := lH (HB.out.trans (Only.of_below hbn))
 replace HON := lH (HON.out.below hbn)
 replace HOE5 := lH (HOE5.out.below hbn)
 replace HOR5 := lH (HOR5.out.below hbn)
 replace HOH5 := lH (HOH5.out.below hbn)
 replace HOA5 := lH (HOA5.out.below hbn)
 replace HOB5 := lH (HOB5.out.below hbn)
 replace HXq := nB HXq hbn
 clear hxq hfq hkq
 obtain ⟨hkq, hxq, hfq⟩ := HXq.out
 replace HXb := nB HXb hbn
 clear hxb hfb hkb
 obtain ⟨hkb, hxb, hfb⟩ := HXb.out
 clear hbn
 clear hw
 refine (HWR.out _ _ _ _ HXq.out HON.out.rd.base (Rd.hdsTake (HOH5.out.rd (by omega)).base 1) tx (by omega)).mono ?_
 rintro e w9 ⟨qq, rfl, hwr, hb⟩
 have hzw9 : w8.heap.size ≤ w9.heap.size := hb.size
 replace HB := lH (HB.out.trans (Only.of_below hb))
 replace HON := lH (HON.out.below hb)
 replace HOE5 := lH (HOE5.out.below hb)
 replace HOR5 := lH (HOR5.out.below hb)
 replace HOH5 := lH (HOH5.out.below hb)
 replace HOA5 := lH (HOA5.out.below hb)
 replace HOB5 := lH (HOB5.out.below hb)
 replace HXq := nB HXq hb
 clear hxq hfq hkq
 obtain ⟨hkq, hxq, hfq⟩ := HXq.out
 replace HXb := nB HXb hb
 clear hxb hfb hkb
 obtain ⟨hkb, hxb, hfb⟩ := HXb.out
 clear hb
 have HOW : Hid (Rd w9 (w8.heap.size) (w9.heap.size) (some ⟨qq, 0, none⟩) (wris [⟨((0 : Nat) : Int), fsz, bJ tx⟩])) := lH hwr
 clear hwr HWR
 clear HON
 clear hxq hfq hkq HXq
 have hbk := brk_rows (lo := lo) HPB.out HLEN.out HNR.out HNH.out HOE5.out HOR5.out HOH5.out (by rw [HXK.out]; exact (HOA5.out.rd (by omega)).mono (by omega) (by omega) (Nat.le_refl _)) (by rw [HL2.out]; exact (HOB5.out.rd (by omega)).mono (by omega) (by omega) (Nat.le_refl _)) (HOA5.out.own (by omega)).2.1 (HOB5.out.own (by omega)).2.1 (by have := HQ3.out; omega) (by omega) (by omega)
 have HOK : Hid (aG w9 (lo) (w9.heap.size) (⟨some ⟨gg, 0, none⟩, R, H, A1, A2, cap, cr, ch, c1, c2⟩) (⟨width, es ++ [x], rs, hs⟩)) := lH hbk
 clear hbk
 clear HOE5
 clear HOR5
 clear HOH5
 clear HOA5
 clear HOB5
 obtain ⟨pq, hpq1, hpq2⟩ : ∃ n, n ≤ w9.heap.size ∧ w9.heap.size ≤ n := ⟨_, Nat.le_refl _, Nat.le_refl _⟩
 go_wp2
 refine ai (fun w10 hw => ?_)
 have hz10 : w9.heap.size + 0 ≤ w10.heap.size := zA
 have hbn : Below w9.heap.size w9 w10 := zB
 replace HB := lH (HB.out.trans (Only.of_below hbn))
 replace HOW := lH (HOW.out.below hbn)
 replace HOK := lH (HOK.out.below hbn)
 replace HXb := nB HXb hbn
 clear hxb hfb hkb
 obtain ⟨hkb, hxb, hfb⟩ := HXb.out
 clear hbn
 clear hw
 refine bodyPost_ret (v := .tuple #[.slice (some ⟨qq, 0, none⟩) 1 1, .int .i64 (ne : Int), .int .i64 0]) (by simp [results, Tryz.results83, go_sem]) rfl ?_
 exact ⟨gg, cap, qq, rfl, ⟨HXb.out, HOK.out.mono (Nat.le_refl _) (by omega) (Nat.le_refl _), by rw [HDW.out]; exact HOW.out.mono (by omega) (by omega) (Nat.le_refl _)⟩, HB.out⟩
def Done (w w' : World) (m : Bm) (a' : Bk) (m' : Bm) (f : Nat) (tx : ByteArray) (L : Option Addr) : Prop := Deed m m' f tx ∧ aG w' w.heap.size w'.heap.size a' m' ∧ Rd w' w.heap.size w'.heap.size L (wris [dZ m f tx])
set_option maxRecDepth 100000 in
theorem publishB_c (width : Int) (E R H A1 A2 : Option Addr) (ne nr nh ce cr ch c1 c2 m1 m2 : Nat) (es : List Ent) (rs : List Rcp) (hs : List Hd) (l1 l2 : List ByteArray) (h : Hd) (t : ByteArray) (ti : Int) (k b : ByteArray) (w : World) (hk : aG w 0 w.heap.size ⟨E, R, H, A1, A2, ce, cr, ch, c1, c2⟩ ⟨width, es, rs, hs⟩) (hne : es.length = ne) (hnr : rs.length = nr) (hnh : hs.length = nh) (hl1 : pk1 width es hs = l1) (hl2 : pk2 width rs hs = l2) (hm1 : l1.length = m1) (hm2 : l2.length = m2) (hh : ae hs = h) (ht : t.size ≤ 1048576) (hks : k.size ≤ 1048576) (hbs : b.size ≤ 1048576) (hc : bK es t ti k b = 0) :
  Calls Tryz.prog 47 #[.agg #[.int .i64 width, .slice E ne ce, .slice R nr cr, .slice H nh ch, .int .i64 h.size, .slice A1 m1 c1, .int .i64 h.taken, .slice A2 m2 c2, .int .i64 h.num, .int .i64 h.size, .string h.root, .int .i64 h.taken, .string h.troot], .string t, .int .i64 ti, .string k, .string b] w fun e w' => ∃ (a' : Bk) (q : Nat), e = .returned (.tuple #[.agg #[.int .i64 (⟨width, es ++ [aY es t ti k b], rs, hs⟩ : Bm).width, .slice a'.E (⟨width, es ++ [aY es t ti k b], rs, hs⟩ : Bm).es.length a'.ce, .slice a'.R (⟨width, es ++ [aY es t ti k b], rs, hs⟩ : Bm).rs.length a'.cr, .slice a'.H (⟨width, es ++ [aY es t ti k b], rs, hs⟩ : Bm).hs.length a'.ch, .int .i64 (ae (⟨width, es ++ [aY es t ti k b], rs, hs⟩ : Bm).hs).size, .slice a'.A1 (pk1 (⟨width, es ++ [aY es t ti k b], rs, hs⟩ : Bm).width (⟨width, es ++ [aY es t ti k b], rs, hs⟩ : Bm).es (⟨width, es ++ [aY es t ti k b], rs, hs⟩ : Bm).hs).length a'.c1, .int .i64 (ae (⟨width, es ++ [aY es t ti k b], rs, hs⟩ : Bm).hs).taken, .slice a'.A2 (pk2 (⟨width, es ++ [aY es t ti k b], rs, hs⟩ : Bm).width (⟨width, es ++ [aY es t ti k b], rs, hs⟩ : Bm).rs (⟨width, es ++ [aY es t ti k b], rs, hs⟩ : Bm).hs).length a'.c2, .int .i64 (ae (⟨width, es ++ [aY es t ti k b], rs, hs⟩ : Bm).hs).num, .int .i64 (ae (⟨width, es ++ [aY es t ti k b], rs, hs⟩ : Bm).hs).size, .string (ae (⟨width, es ++ [aY es t ti k b], rs, hs⟩ : Bm).hs).root, .int .i64 (ae (⟨width, es ++ [aY es t ti k b], rs, hs⟩ : Bm).hs).taken, .string (ae (⟨width, es ++ [aY es t ti k b], rs, hs⟩ : Bm).hs).troot], .slice (some ⟨q, 0, none⟩) 1 1, .int .i64 ne, .int .i64 0]) ∧
   Done w w' ⟨width, es, rs, hs⟩ a' ⟨width, es ++ [aY es t ti k b], rs, hs⟩ 0 (aJ (aY es t ti k b)) (some ⟨q, 0, none⟩) ∧ Below w.heap.size w w' := by
 have hkk := hk
 obtain ⟨f1, f2, f3, g1, g2, g3, g4, f4, g5, g6, g7⟩ := bN hk.ok
 have hlast := hk.ok.last
 have hpos := hk.ok.pos
 dsimp only at f1 f2 f3 g1 g2 g3 g4 f4 g5 g6 g7 hlast hpos
 rw [hne] at g1 hlast
 rw [hnr] at g2 hlast
 rw [hnh] at g3 g4 hpos
 rw [hh] at f4 g5 hlast
 rw [hl1, hm1] at g6
 rw [hl2, hm2] at g7
 have hok : aB width es rs hs := hk.ok
 have hbo := hok.ok
 rw [hh, hl1, hl2] at hbo
 have HBK := fun W (r : aG W 0 W.heap.size ⟨E, R, H, A1, A2, ce, cr, ch, c1, c2⟩ ⟨width, es, rs, hs⟩) => eZ width h.size h.taken E R H A1 A2 ne nr nh ce cr ch c1 c2 0 W.heap.size 0 W.heap.size 0 W.heap.size 0 W.heap.size 0 W.heap.size m1 m2 es rs hs l1 l2 h W r.rE r.rR r.rH (hl1 ▸ r.r1) (hl2 ▸ r.r2) hne hnr hnh hm1 hm2 (by omega) (by omega) (by omega) (by omega) (by omega) (by have := r.kE; dsimp only at this; omega) (by have := r.kR; dsimp only at this; omega) (by have := r.kH; dsimp only at this; omega) f1 f2 f3 f4 (by omega)
 rw [hbo] at HBK
 replace HBK := lH HBK
 have HCP := lH (fun W (r : aG W 0 W.heap.size ⟨E, R, H, A1, A2, ce, cr, ch, c1, c2⟩ ⟨width, es, rs, hs⟩) => copyBroker_c width h.size h.taken E R H A1 A2 ne nr nh ce cr ch c1 c2 m1 m2 es rs hs l1 l2 h W r.rE r.rR r.rH (hl1 ▸ r.r1) (hl2 ▸ r.r2) hne hnr hnh hm1 hm2 (by omega) (by omega) (by omega) (by omega) (by omega) r.nE r.nR r.nH r.n1 r.n2)
 have HPU := lH (fun W p lo (a3 : Bk) (bx : aa W p [.int .i64 width, .slice a3.E ne a3.ce, .slice a3.R nr a3.cr, .slice a3.H nh a3.ch, .int .i64 h.size, .slice a3.A1 m1 a3.c1, .int .i64 h.taken, .slice a3.A2 m2 a3.c2, .int .i64 h.num, .int .i64 h.size, .string h.root, .int .i64 h.taken, .string h.troot]) (cp : bW W lo p a3 ⟨es, rs, hs, l1, l2⟩) (hlp : lo ≤ p) => publish_c width a3.E a3.R a3.H a3.A1 a3.A2 ne nr nh a3.ce a3.cr a3.ch a3.c1 a3.c2 m1 m2 es rs hs l1 l2 h p lo t ti k b W bx cp hok hne hnr hnh hl1 hl2 hm1 hm2 hh hlp (cp.e.own (Nat.le_of_lt bx.1)).2.1 (by have h7 := (cp.h.own (Nat.le_of_lt bx.1)).1; dsimp only at h7; omega) ht hks hbs hc)
 have hde := deed_pub hok hc
 have hpk : (pk1 width (es ++ [aY es t ti k b]) hs).length = m1 := by rw [pk1_more hok, hl1, hm1]
 have hlen : (es ++ [aY es t ti k b]).length = ne + 1 := by rw [List.length_append, hne]; rfl
 generalize aY es t ti k b = x at *
 have HDE := lH hde
 have HV1 := lH hpk
 have HL := lH hlen
 have HNR := lH hnr
 have HNH := lH hnh
 have HHH := lH hh
 have HM2 : Hid ((pk2 width rs hs).length = m2) := lH (by rw [hl2, hm2])
 have HB : Hid (Below w.heap.size w w) := Below.refl _ _
 have HOB : Hid (aG w (0) (w.heap.size) (⟨E, R, H, A1, A2, ce, cr, ch, c1, c2⟩) (⟨width, es, rs, hs⟩)) := lH hkk
 clear hk hkk f1 f2 f3 f4 hlast hne hnr hnh hl1 hl2 hm1 hm2 hh hok hbo hde hpk hlen hc
 generalize aJ x = tx at *
 go_enter Tryz.func47, Tryz.ntmps47
 go_wp2_with fail
 refine af (fun w1 hw => ?_)
 have hz1 : w.heap.size + 2 ≤ w1.heap.size := zA
 have hbn : Below w.heap.size w w1 := zB
 replace HB := bT HB hbn
 replace HOB := lH (HOB.out.below hbn)
 clear hbn
 have HXb : Hid (aa w1 (w.heap.size) [.int .i64 width, .slice E ne ce, .slice R nr cr, .slice H nh ch, .int .i64 h.size, .slice A1 m1 c1, .int .i64 h.taken, .slice A2 m2 c2, .int .i64 h.num, .int .i64 h.size, .string h.root, .int .i64 h.taken, .string h.troot]) := zG13
 obtain ⟨hkb, hxb, hfb⟩ := HXb.out
 have HXq : Hid (aa w1 (w.heap.size + 1) [.int .i64 0, .slice none 0 0, .slice none 0 0, .slice none 0 0, .int .i64 0, .slice none 0 0, .int .i64 0, .slice none 0 0, .int .i64 0, .int .i64 0, .string ⟨#[]⟩, .int .i64 0, .string ⟨#[]⟩]) := zG13
 obtain ⟨hkq, hxq, hfq⟩ := HXq.out
 clear hw
 refine (HBK.out _ HOB.out.base).mono ?_
 rintro e w2 ⟨rfl, hb⟩
 have hzw2 : w1.heap.size ≤ w2.heap.size := hb.size
 replace HB := bT HB hb
 replace HOB := lH (HOB.out.below hb)
 replace HXb := nB HXb hb
 clear hxb hfb hkb
 obtain ⟨hkb, hxb, hfb⟩ := HXb.out
 replace HXq := nB HXq hb
 clear hxq hfq hkq
 obtain ⟨hkq, hxq, hfq⟩ := HXq.out
 clear hb
 go_wp2_with fail
 refine af (fun w3 hw => ?_)
 have hz3 : w2.heap.size + 0 ≤ w3.heap.size := zA
 have hbn : Below w2.heap.size w2 w3 := zB
 replace HB := bT HB hbn
 replace HOB := lH (HOB.out.below hbn)
 replace HXb := nB HXb hbn
 clear hxb hfb hkb
 obtain ⟨hkb, hxb, hfb⟩ := HXb.out
 replace HXq := nB HXq hbn
 clear hxq hfq hkq
 obtain ⟨hkq, hxq, hfq⟩ := HXq.out
 clear hbn
 clear hw
 refine (HCP.out _ HOB.out.base).mono ?_
 rintro e w4 ⟨a3, rfl, ⟨hcp, hap⟩, hb⟩
 have hzw4 : w3.heap.size ≤ w4.heap.size := hb.size
 replace HB := bT HB hb
 replace HOB := lH (HOB.out.below hb)
 replace HXb := nB HXb hb
 clear hxb hfb hkb
 obtain ⟨hkb, hxb, hfb⟩ := HXb.out
 replace HXq := nB HXq hb
 clear hxq hfq hkq
 obtain ⟨hkq, hxq, hfq⟩ := HXq.out
 clear hb
 have HOC : Hid (bW w4 (w3.heap.size) (w4.heap.size) (a3) (⟨es, rs, hs, l1, l2⟩)) := lH hcp
 obtain ⟨lo5, hlo5⟩ : ∃ n, n = w3.heap.size := ⟨_, rfl⟩
 have HLO5 := lH hlo5
 have hlo6 : lo5 ≤ w3.heap.size ∧ w3.heap.size ≤ lo5 := by omega
 rw [← hlo5] at HOC
 clear hcp hap HCP HBK hlo5
 clear HOB
 clear hxb hfb hkb HXb
 go_wp2_with fail
 refine af (fun w5 hw => ?_)
 have hz5 : w4.heap.size + 1 ≤ w5.heap.size := zA
 have hbn : Below w4.heap.size w4 w5 := zB
 replace HB := bT HB hbn
 replace HOC := lH (HOC.out.below hbn)
 replace HXq := nB HXq hbn
 clear hxq hfq hkq
 obtain ⟨hkq, hxq, hfq⟩ := HXq.out
 clear hbn
 have HXo : Hid (aa w5 (w4.heap.size) [.int .i64 width, .slice a3.E ne a3.ce, .slice a3.R nr a3.cr, .slice a3.H nh a3.ch, .int .i64 h.size, .slice a3.A1 m1 a3.c1, .int .i64 h.taken, .slice a3.A2 m2 a3.c2, .int .i64 h.num, .int .i64 h.size, .string h.root, .int .i64 h.taken, .string h.troot]) := zG13
 obtain ⟨hko, hxo, hfo⟩ := HXo.out
 clear hw
 refine (HPU.out _ _ lo5 a3 HXo.out HOC.out (by omega)).mono ?_
 rintro e w6 ⟨gg, cap, qq, rfl, ⟨hnb, hbk, hwr⟩, hb⟩
 have hzw6 : w5.heap.size ≤ w6.heap.size := hb.size
 replace HB := lH (au HB.out hb (by omega) HB.out.size)
 replace HXq := lH (HXq.out.only hb (by first | omega | (simp; omega)))
 clear hxq hfq hkq
 obtain ⟨hkq, hxq, hfq⟩ := HXq.out
 clear hxo hfo hko HXo
 clear hb
 clear HOC HPU
 have HXo : Hid (aa w6 (w4.heap.size) [.int .i64 width, .slice (some ⟨gg, 0, none⟩) (ne + 1) cap, .slice a3.R nr a3.cr, .slice a3.H nh a3.ch, .int .i64 h.size, .slice a3.A1 m1 a3.c1, .int .i64 h.taken, .slice a3.A2 m2 a3.c2, .int .i64 h.num, .int .i64 h.size, .string h.root, .int .i64 h.taken, .string h.troot]) := hnb
 obtain ⟨hko, hxo, hfo⟩ := HXo.out
 have HOK : Hid (aG w6 (lo5) (w6.heap.size) (⟨some ⟨gg, 0, none⟩, a3.R, a3.H, a3.A1, a3.A2, cap, a3.cr, a3.ch, a3.c1, a3.c2⟩) (⟨width, es ++ [x], rs, hs⟩)) := lH hbk
 have HOW : Hid (Rd w6 (lo5) (w6.heap.size) (some ⟨qq, 0, none⟩) (wris [dZ ⟨width, es, rs, hs⟩ 0 tx])) := lH hwr
 clear hbk hwr hnb
 go_wp2
 refine ai (fun w7 hw => ?_)
 have hz7 : w6.heap.size + 0 ≤ w7.heap.size := zA
 replace HB : Hid (Below w.heap.size w w7) := zC HB
 replace HOK : Hid (aG w7 (lo5) (w6.heap.size) (⟨some ⟨gg, 0, none⟩, a3.R, a3.H, a3.A1, a3.A2, cap, a3.cr, a3.ch, a3.c1, a3.c2⟩) (⟨width, es ++ [x], rs, hs⟩)) := zLBrkK HOK
 replace HOW : Hid (Rd w7 (lo5) (w6.heap.size) (some ⟨qq, 0, none⟩) (wris [dZ ⟨width, es, rs, hs⟩ 0 tx])) := zLRd HOW
 replace HXq : Hid (aa w7 (w.heap.size + 1) [.int .i64 width, .slice (some ⟨gg, 0, none⟩) (ne + 1) cap, .slice a3.R nr a3.cr, .slice a3.H nh a3.ch, .int .i64 h.size, .slice a3.A1 m1 a3.c1, .int .i64 h.taken, .slice a3.A2 m2 a3.c2, .int .i64 h.num, .int .i64 h.size, .string h.root, .int .i64 h.taken, .string h.troot]) := zD HXq
 clear hxq hfq hkq
 obtain ⟨hkq, hxq, hfq⟩ := HXq.out
 replace HXo : Hid (aa w7 (w4.heap.size) [.int .i64 width, .slice (some ⟨gg, 0, none⟩) (ne + 1) cap, .slice a3.R nr a3.cr, .slice a3.H nh a3.ch, .int .i64 h.size, .slice a3.A1 m1 a3.c1, .int .i64 h.taken, .slice a3.A2 m2 a3.c2, .int .i64 h.num, .int .i64 h.size, .string h.root, .int .i64 h.taken, .string h.troot]) := zE HXo
 clear hxo hfo hko
 obtain ⟨hko, hxo, hfo⟩ := HXo.out
 clear hw
 refine bodyPost_ret (v := .tuple #[.agg #[.int .i64 width, .slice (some ⟨gg, 0, none⟩) (ne + 1) cap, .slice a3.R nr a3.cr, .slice a3.H nh a3.ch, .int .i64 h.size, .slice a3.A1 m1 a3.c1, .int .i64 h.taken, .slice a3.A2 m2 a3.c2, .int .i64 h.num, .int .i64 h.size, .string h.root, .int .i64 h.taken, .string h.troot], .slice (some ⟨qq, 0, none⟩) 1 1, .int .i64 ne, .int .i64 0]) (by simp [results, Tryz.results47, go_sem, hxq]) rfl ?_
 exact ⟨⟨some ⟨gg, 0, none⟩, a3.R, a3.H, a3.A1, a3.A2, cap, a3.cr, a3.ch, a3.c1, a3.c2⟩, qq, by dsimp only; rw [HL.out, HNR.out, HNH.out, HV1.out, HM2.out, HHH.out], ⟨HDE.out, HOK.out.mono (by omega) (by omega) (Nat.le_refl _), HOW.out.mono (by omega) (by omega) (Nat.le_refl _)⟩, HB.out⟩
theorem celo {w w' : World} {lo hi k o : Nat} {v : Value} (h : Only lo hi w w') (hc : w.cell? ⟨k, o, none⟩ = some v) (hk : k < lo ∨ hi ≤ k) : w'.cell? ⟨k, o, none⟩ = some v := by
 have hb := h.block k (World.block_lt_of_cell? w ⟨k, o, none⟩ hc) hk
 simpa [World.cell?, hb] using hc
end
section
open Go.RowKit Go.Shelf
set_option maxRecDepth 100000 in
theorem rcpIndex_c (A : Option Addr) (c lo hi n : Nat) (l : List Rcp) (r : Rcp) (w : World) (hr : Rd w lo hi A (bf l)) (hn : l.length = n) (hl : n ≤ 1048576) (hf : ∀ x ∈ l, x.fits) (hrf : r.fits) :
  Calls Tryz.prog 67 #[.slice A n c, .agg #[.string r.reader, .string r.topic, .int .i64 r.index]] w fun e w' => e = .returned (.int .i64 (dV r l 0)) ∧ Below w.heap.size w w' := by
 have HN := lH hn
 have HR := lH hr
 have HF := lH hf
 clear hn hr hf
 go_enter Tryz.func67, Tryz.ntmps67
 go_wp2
 go_loopw [5, 8] (fun _ i wr => ∃ (k : Nat), k ≤ n ∧ i = .int .i64 k ∧ dV r l 0 = dV r (l.drop k) k ∧ aa wr w.heap.size [.string r.reader, .string r.topic, .int .i64 r.index] ∧ Below w.heap.size w wr) (fun _ i _ => n - (intOf i).toNat)
 case atStart => exact ⟨0, Nat.zero_le _, rfl, rfl, aa.new w #[.string r.reader, .string r.topic, .int .i64 r.index] _, (Below.refl _ _).alloc (Nat.le_refl _) _⟩
 case round =>
  obtain ⟨k, hk, rfl, hst, hx, hb0⟩ := hrel
  have HST := lH hst
  have HB0 := lH hb0
  have HX := lH hx
  have hzr := hx.1
  have e0 : wr.cell? ⟨w.heap.size, 0, none⟩ = some (.string r.reader) := hx.cell (o := 0) rfl
  have e1 : wr.cell? ⟨w.heap.size, 1, none⟩ = some (.string r.topic) := hx.cell (o := 1) rfl
  have e2 : wr.cell? ⟨w.heap.size, 2, none⟩ = some (.int .i64 r.index) := hx.cell (o := 2) rfl
  clear hst hx hb0
  by_cases hlt : k < n
  ·obtain ⟨b, off, x, rfl, hb, hks, hc⟩ := gm (HR.out.below HB0.out) (k := k) (by rw [HN.out]; exact hlt)
   have hc0 := hc.1; have hc1 := hc.2.1; have hc2 := hc.2.2
   have HK := lH hks
   have hI1 : (0 : Int) ≤ (k : Int) := by omega
   have hI : (k : Int) < n := by omega
   have heq := eqlRcp r x hrf (HF.out x (List.mem_of_getElem? hks))
   have HM := lH (fun h => rcpPos_miss (r := r) hks h)
   clear hc hks
   go_wp2_with fail
   go_quiet (fail)
   generalize hw5 : wr.drewN _ = w5
   have HX5 : Hid (aa w5 w.heap.size [.string r.reader, .string r.topic, .int .i64 r.index]) := by rw [Hid, ← hw5]; exact HX.out.drewN _
   have HB5 : Hid (Below w.heap.size w w5) := by rw [Hid, ← hw5]; exact ak HB0.out (below_drewN _ _) HB0.out.size
   clear hw5 heq e0 e1 e2 hc0 hc1 hc2
   rcases hd : decide (r = x) with _ | _
   ·have HH := lH (HM.out (fun e => of_decide_eq_false hd e.symm))
    clear hd HM; go_wp2
    go_roundw
    case rel => exact ⟨k + 1, by omega, by go_num, by rw [HST.out, HH.out], HX5.out, HB5.out⟩
    case measure => simp [intOf]; omega
   have HH := lH (rcpPos_hit (r := r) (by rw [of_decide_eq_true hd]; exact HK.out))
   clear hd HM; go_wp2
   go_ret
   exact ⟨gI (by rw [HST.out, HH.out]), HB5.out⟩
  obtain rfl : k = n := by omega
  clear e0 e1 e2; go_wp2
  go_ret
  exact ⟨gI (by rw [HST.out, ← HN.out, rcpPos_end]), HB0.out⟩
end
end Go.Proofs.YtoccjgcokffkbaaGreat
