/- Part 35 of the proof of FnWrites: lemmas and contracts. -/
import Derived.Test.YtoccjgcokffkbaaGreatTw31
import Derived.Test.YtoccjgcokffkbaaGreatTw33
import Derived.Test.YtoccjgcokffkbaaGreatTw34
namespace Go.Proofs.YtoccjgcokffkbaaGreat
set_option linter.unusedVariables false
set_option linter.unusedSimpArgs false
set_option maxHeartbeats 20000000
set_option maxRecDepth 100000
section
open Go.RowKit
theorem l12Seal_c (a : Bk) (m : Bm) (lo hi : Nat) (w : World) (hk : aH w lo hi a m) :
  Calls Tryz.prog 59 #[.agg #[.int .i64 m.width, .slice a.E m.es.length a.ce, .slice a.R m.rs.length a.cr, .slice a.H m.hs.length a.ch, .int .i64 (ae m.hs).size, .slice a.A1 (pk1 m.width m.es m.hs).length a.c1, .int .i64 (ae m.hs).taken, .slice a.A2 (pk2 m.width m.rs m.hs).length a.c2, .int .i64 (ae m.hs).num, .int .i64 (ae m.hs).size, .string (ae m.hs).root, .int .i64 (ae m.hs).taken, .string (ae m.hs).troot]] w fun e w' => ∃ (a' : Bk) (m' : Bm) (L : Option Addr) (q g : Nat) (code : Int), e = .returned (.tuple #[.agg #[.int .i64 m'.width, .slice a'.E m'.es.length a'.ce, .slice a'.R m'.rs.length a'.cr, .slice a'.H m'.hs.length a'.ch, .int .i64 (ae m'.hs).size, .slice a'.A1 (pk1 m'.width m'.es m'.hs).length a'.c1, .int .i64 (ae m'.hs).taken, .slice a'.A2 (pk2 m'.width m'.rs m'.hs).length a'.c2, .int .i64 (ae m'.hs).num, .int .i64 (ae m'.hs).size, .string (ae m'.hs).root, .int .i64 (ae m'.hs).taken, .string (ae m'.hs).troot], .slice L q g, .int .i64 code]) ∧ gF w w' m a' m' code :=
 l12SealP_c m.width a.E a.R a.H a.A1 a.A2 _ _ _ a.ce a.cr a.ch a.c1 a.c2 _ _ m.es m.rs m.hs _ _ _ lo hi w hk rfl rfl rfl rfl rfl rfl rfl rfl
theorem l12Receipt_c (a : Bk) (m : Bm) (lo hi : Nat) (r : Rcp) (w : World) (hk : aH w lo hi a m) (hrf : r.fits) :
  Calls Tryz.prog 60 #[.agg #[.int .i64 m.width, .slice a.E m.es.length a.ce, .slice a.R m.rs.length a.cr, .slice a.H m.hs.length a.ch, .int .i64 (ae m.hs).size, .slice a.A1 (pk1 m.width m.es m.hs).length a.c1, .int .i64 (ae m.hs).taken, .slice a.A2 (pk2 m.width m.rs m.hs).length a.c2, .int .i64 (ae m.hs).num, .int .i64 (ae m.hs).size, .string (ae m.hs).root, .int .i64 (ae m.hs).taken, .string (ae m.hs).troot], .agg #[.string r.reader, .string r.topic, .int .i64 r.index]] w fun e w' => ∃ (a' : Bk) (m' : Bm) (L : Option Addr) (q g : Nat) (code : Int), e = .returned (.tuple #[.agg #[.int .i64 m'.width, .slice a'.E m'.es.length a'.ce, .slice a'.R m'.rs.length a'.cr, .slice a'.H m'.hs.length a'.ch, .int .i64 (ae m'.hs).size, .slice a'.A1 (pk1 m'.width m'.es m'.hs).length a'.c1, .int .i64 (ae m'.hs).taken, .slice a'.A2 (pk2 m'.width m'.rs m'.hs).length a'.c2, .int .i64 (ae m'.hs).num, .int .i64 (ae m'.hs).size, .string (ae m'.hs).root, .int .i64 (ae m'.hs).taken, .string (ae m'.hs).troot], .slice L q g, .int .i64 code]) ∧ gF w w' m a' m' code :=
 l12ReceiptP_c m.width a.E a.R a.H a.A1 a.A2 _ _ _ a.ce a.cr a.ch a.c1 a.c2 _ _ m.es m.rs m.hs _ _ _ lo hi r w hk rfl rfl rfl rfl rfl rfl rfl rfl hrf
theorem l12Publish_c (a : Bk) (m : Bm) (lo hi : Nat) (t : ByteArray) (ti : Int) (k b : ByteArray) (w : World) (hk : aH w lo hi a m) (ht : t.size ≤ 1048576) (hti : I64 ti) (hks : k.size ≤ 1048576) (hbs : b.size ≤ 1048576) :
  Calls Tryz.prog 61 #[.agg #[.int .i64 m.width, .slice a.E m.es.length a.ce, .slice a.R m.rs.length a.cr, .slice a.H m.hs.length a.ch, .int .i64 (ae m.hs).size, .slice a.A1 (pk1 m.width m.es m.hs).length a.c1, .int .i64 (ae m.hs).taken, .slice a.A2 (pk2 m.width m.rs m.hs).length a.c2, .int .i64 (ae m.hs).num, .int .i64 (ae m.hs).size, .string (ae m.hs).root, .int .i64 (ae m.hs).taken, .string (ae m.hs).troot], .string t, .int .i64 ti, .string k, .string b] w fun e w' => ∃ (a' : Bk) (m' : Bm) (L : Option Addr) (q g : Nat) (leaf code : Int), e = .returned (.tuple #[.agg #[.int .i64 m'.width, .slice a'.E m'.es.length a'.ce, .slice a'.R m'.rs.length a'.cr, .slice a'.H m'.hs.length a'.ch, .int .i64 (ae m'.hs).size, .slice a'.A1 (pk1 m'.width m'.es m'.hs).length a'.c1, .int .i64 (ae m'.hs).taken, .slice a'.A2 (pk2 m'.width m'.rs m'.hs).length a'.c2, .int .i64 (ae m'.hs).num, .int .i64 (ae m'.hs).size, .string (ae m'.hs).root, .int .i64 (ae m'.hs).taken, .string (ae m'.hs).troot], .slice L q g, .int .i64 leaf, .int .i64 code]) ∧ gF w w' m a' m' code :=
 l12PublishP_c m.width a.E a.R a.H a.A1 a.A2 _ _ _ a.ce a.cr a.ch a.c1 a.c2 _ _ m.es m.rs m.hs _ _ _ lo hi t ti k b w hk rfl rfl rfl rfl rfl rfl rfl rfl ht hti hks hbs
theorem aH.setBlk {w : World} {lo hi : Nat} {a : Bk} {m : Bm} (h : aH w lo hi a m) {k : Nat} (hk : k < lo ∨ hi ≤ k) (o : Nat) (u : Value) : aH (w.setCell ⟨k, o, none⟩ u) lo hi a m := h.setCell hk u
theorem aG.setBlkR {w : World} {lo hi : Nat} {a : Option Addr × Nat × Nat} {l : List Int} (h : aG w lo hi a l) {k : Nat} (hk : k < lo ∨ hi ≤ k) (o : Nat) (u : Value) : aG (w.setCell ⟨k, o, none⟩ u) lo hi a l := h.setCell hk u
structure RtS (w wx : World) (p kb kr lo hi : Nat) (a : Bk) (m : Bm) (c : Option Addr × Nat × Nat) (l : List Int) : Prop where
 b : aa wx kb [.int .i64 m.width, .slice a.E m.es.length a.ce, .slice a.R m.rs.length a.cr, .slice a.H m.hs.length a.ch, .int .i64 (ae m.hs).size, .slice a.A1 (pk1 m.width m.es m.hs).length a.c1, .int .i64 (ae m.hs).taken, .slice a.A2 (pk2 m.width m.rs m.hs).length a.c2, .int .i64 (ae m.hs).num, .int .i64 (ae m.hs).size, .string (ae m.hs).root, .int .i64 (ae m.hs).taken, .string (ae m.hs).troot]
 r : aa wx kr [.int .i64 0, .slice none 0 0, .slice none 0 0, .slice none 0 0, .int .i64 0, .slice none 0 0, .int .i64 0, .slice none 0 0, .int .i64 0, .int .i64 0, .string ⟨#[]⟩, .int .i64 0, .string ⟨#[]⟩]
 k : aH wx lo hi a m
 c : aG wx 0 (p + 1) c l
 on : Only p (p + 1) w wx
 far : p < lo ∧ p < kb ∧ p < kr ∧ kb ≠ kr ∧ w.heap.size ≤ kb ∧ w.heap.size ≤ kr ∧ (hi ≤ kb ∨ kb < lo) ∧ kr < lo ∧ w.heap.size ≤ lo ∧ hi ≤ wx.heap.size
section
variable {w wx wy : World} {p kb kr lo hi n g : Nat} {a : Bk} {m : Bm} {c : Option Addr × Nat × Nat} {l : List Int} {B : Option Addr}
theorem RtS.below (h : RtS w wx p kb kr lo hi a m c l) (hb : Below wx.heap.size wx wy) : RtS w wy p kb kr lo hi a m c l :=
 ⟨h.b.below hb, h.r.below hb, h.k.below hb, h.c.below hb, h.on.trans (Only.of_below hb), by have := h.far; have := hb.size; omega⟩
theorem RtS.alloc (h : RtS w wx p kb kr lo hi a m c l) (o : Obj) : RtS w (wx.alloc o) p kb kr lo hi a m c l := h.below ((Below.refl _ _).alloc (Nat.le_refl _) o)
theorem RtS.drew (h : RtS w wx p kb kr lo hi a m c l) : RtS w wx.drew p kb kr lo hi a m c l := h.below (Below.refl _ _).drew
theorem RtS.next (h : RtS w wx p kb kr lo hi a m (B, n, g) l) (hc : Code wy p B n g 0 p l) (ho : Only p (p + 1) wx wy) : RtS w wy p kb kr lo hi a m (B, n, g) l :=
 ⟨h.b.only ho (by have := h.far; omega), h.r.only ho (by have := h.far; omega), h.k.only ho (by have := h.far; omega), aG.mk_ hc, h.on.trans ho, by have := h.far; have := ho.size; omega⟩
theorem RtS.setN (h : RtS w wx p kb kr lo hi a m c l) {kn : Nat} (hn : kn ≠ kb ∧ kn ≠ kr ∧ (kn < lo ∨ hi ≤ kn) ∧ p < kn ∧ w.heap.size ≤ kn) (o : Nat) (u : Value) : RtS w (wx.setCell ⟨kn, o, none⟩ u) p kb kr lo hi a m c l :=
 ⟨h.b.setCell hn.1 u, h.r.setCell hn.2.1 u, h.k.setCell hn.2.2.1 u, h.c.setCell (.inr (Nat.succ_le_of_lt hn.2.2.2.1)) u, only_new h.on hn.2.2.2.2 u, by simpa [World.setCell] using h.far⟩
end
theorem brk_new {w : World} {width : Int} {k : Nat} (hw : inR width 1 32 = true) (h : aa w k (hds [bI width])) : aH w k (k + 1) ⟨none, none, some ⟨k, 0, none⟩, none, none, 0, 0, 1, 0, 0⟩ ⟨width, [], [], [bI width]⟩ :=
 ⟨aB.new hw, Rd.nil, Rd.nil, fun _ => ⟨k, 0, rfl, Nat.le_refl _, Nat.lt_succ_self _, h.1, fun j u hj => by rw [Nat.zero_add]; exact (h.2.1 j).trans hj⟩, Rd.nil, Rd.nil, Nat.le_refl _, Nat.le_refl _, Nat.le_refl _, fun _ => rfl, fun _ => rfl, (fun e => by cases e), fun _ => rfl, fun _ => rfl⟩
theorem brokerNewT_c (width : Int) (w : World) (hw : inR width 1 32 = true) : Calls Tryz.prog 58 #[.int .i64 width] w fun e w' => ∃ k9, e = .returned (.tuple #[.agg #[.int .i64 width, .slice none 0 0, .slice none 0 0, .slice (some ⟨k9, 0, none⟩) 1 1, .int .i64 0, .slice none 0 0, .int .i64 0, .slice none 0 0, .int .i64 0, .int .i64 0, .string (aR width), .int .i64 0, .string (aR width)], .bool true]) ∧ (w.heap.size ≤ k9 ∧ aa w' k9 (hds [bI width])) ∧ Below w.heap.size w w' := by
 have HE := lH (fun W => specSealNew_c width W)
 rw [hw] at HE
 have HH : Hid (hds [bI width] = [.int .i64 0, .int .i64 0, .string (aR width), .int .i64 0, .string (aR width)]) := lH rfl
 clear hw
 generalize bI width = hz at *
 generalize aR width = em at *
 have HB : Hid (Below w.heap.size w w) := Below.refl _ _
 go_enter Tryz.func58, Tryz.ntmps58
 go_wp2_with fail
 refine af (fun w1 hw => ?_)
 have hz1 : w.heap.size + 1 ≤ w1.heap.size := zA
 have hbn : Below w.heap.size w w1 := zB
 replace HB := bT HB hbn
 clear hbn
 have HXr : Hid (aa w1 (w.heap.size) [.int .i64 0, .slice none 0 0, .slice none 0 0, .slice none 0 0, .int .i64 0, .slice none 0 0, .int .i64 0, .slice none 0 0, .int .i64 0, .int .i64 0, .string ⟨#[]⟩, .int .i64 0, .string ⟨#[]⟩]) := zG13
 obtain ⟨hkr, hxr, hfr⟩ := HXr.out
 clear hw
 refine (HE.out _).mono ?_
 rintro e w2 ⟨rfl, hb⟩
 have hzw2 : w1.heap.size ≤ w2.heap.size := hb.size
 replace HB := bT HB hb
 replace HXr := nB HXr hb
 clear hxr hfr hkr
 obtain ⟨hkr, hxr, hfr⟩ := HXr.out
 clear hb
 go_wp2
 refine ag (fun w3 hw => ?_)
 have hz3 : w2.heap.size + 2 ≤ w3.heap.size := zA
 replace HB : Hid (Below w.heap.size w w3) := zC HB
 replace HXr : Hid (aa w3 (w.heap.size) [.int .i64 width, .slice none 0 0, .slice none 0 0, .slice (some ⟨w2.heap.size + 1, 0, none⟩) 1 1, .int .i64 0, .slice none 0 0, .int .i64 0, .slice none 0 0, .int .i64 0, .int .i64 0, .string em, .int .i64 0, .string em]) := zD HXr
 clear hxr hfr hkr
 obtain ⟨hkr, hxr, hfr⟩ := HXr.out
 have HXs : Hid (aa w3 (w2.heap.size) [.int .i64 0, .slice none 0 0, .int .i64 0, .slice none 0 0, .int .i64 0, .int .i64 0, .string em, .int .i64 0, .string em]) := zG9
 obtain ⟨hks, hxs, hfs⟩ := HXs.out
 have HXg : Hid (aa w3 (w2.heap.size + 1) [.int .i64 0, .int .i64 0, .string em, .int .i64 0, .string em]) := zG5
 obtain ⟨hkg, hxg, hfg⟩ := HXg.out
 clear hw
 refine bodyPost_ret (v := .tuple #[.agg #[.int .i64 width, .slice none 0 0, .slice none 0 0, .slice (some ⟨w2.heap.size + 1, 0, none⟩) 1 1, .int .i64 0, .slice none 0 0, .int .i64 0, .slice none 0 0, .int .i64 0, .int .i64 0, .string em, .int .i64 0, .string em], .bool true]) (by simp [results, Tryz.results58, go_sem, hxr]) rfl ?_
 exact ⟨(w2.heap.size + 1), rfl, ⟨by omega, by rw [HH.out]; exact HXg.out⟩, HB.out⟩
theorem pick_size {y : ByteArray} (h : y ∈ ([⟨#[97, 110, 110]⟩, ⟨#[98, 111, 98]⟩] : List ByteArray)) : y.size ≤ 20 := by
 simp only [List.mem_cons, List.not_mem_nil, or_false] at h
 rcases h with rfl | rfl <;> decide
theorem rcp_fits {s t : ByteArray} {i : Int} (h1 : s.size ≤ 20) (h2 : t.size ≤ 20) (h3 : 0 ≤ i) (h4 : i < 1000) : Rcp.fits ⟨s, t, i⟩ := ⟨⟨by show -9223372036854775808 ≤ i; omega, by show i ≤ 9223372036854775807; omega⟩, by show s.size ≤ maxLen; unfold maxLen; omega, by show t.size ≤ maxLen; unfold maxLen; omega⟩
theorem l12Right_c {w : World} {p n g : Nat} {B : Option Addr} {l : List Int} (h : Code w p B n g 0 p l) (hp : p < w.heap.size) (width : Int) (hw : inR width 1 32 = true) (d : Nat) (hd : d ≤ 24) :
  Calls Tryz.prog 30 #[.pointer (some ⟨p, 0, none⟩), .int .i64 width, .int .i64 d] w fun e w' => ∃ (a : Bk) (m : Bm), e = .returned (.agg #[.int .i64 m.width, .slice a.E m.es.length a.ce, .slice a.R m.rs.length a.cr, .slice a.H m.hs.length a.ch, .int .i64 (ae m.hs).size, .slice a.A1 (pk1 m.width m.es m.hs).length a.c1, .int .i64 (ae m.hs).taken, .slice a.A2 (pk2 m.width m.rs m.hs).length a.c2, .int .i64 (ae m.hs).num, .int .i64 (ae m.hs).size, .string (ae m.hs).root, .int .i64 (ae m.hs).taken, .string (ae m.hs).troot]) ∧ (aH w' w.heap.size w'.heap.size a m ∧ m.width = width ∧ m.es.length ≤ d) ∧ Code w' p B n g 0 p l ∧ Only p (p + 1) w w' := by
 have HBN := lH (fun W => brokerNewT_c width W hw)
 have HWD := lH hw
 have HB : Hid (Only (p) (p + 1) w w) := Only.refl _ _ _
 have HOC : Hid (aG w (0) (p + 1) ((B, n, g)) (l)) := lH (aG.mk_ h)
 clear h hw
 go_enter Tryz.func30, Tryz.ntmps30
 go_wp2_with fail
 refine af (fun w1 hw => ?_)
 have hz1 : w.heap.size + 1 ≤ w1.heap.size := zA
 have hbn : Below w.heap.size w w1 := zB
 replace HB := lH (HB.out.trans (Only.of_below hbn))
 replace HOC := lH (HOC.out.below hbn)
 clear hbn
 have HXr : Hid (aa w1 (w.heap.size) [.int .i64 0, .slice none 0 0, .slice none 0 0, .slice none 0 0, .int .i64 0, .slice none 0 0, .int .i64 0, .slice none 0 0, .int .i64 0, .int .i64 0, .string ⟨#[]⟩, .int .i64 0, .string ⟨#[]⟩]) := zG13
 obtain ⟨hkr, hxr, hfr⟩ := HXr.out
 clear hw
 refine (HBN.out _).mono ?_
 rintro e w2 ⟨k9, rfl, ⟨hk9, hz9⟩, hb⟩
 have hzw2 : w1.heap.size ≤ w2.heap.size := hb.size
 replace HB := lH (HB.out.trans (Only.of_below hb))
 replace HOC := lH (HOC.out.below hb)
 replace HXr := nB HXr hb
 clear hxr hfr hkr
 obtain ⟨hkr, hxr, hfr⟩ := HXr.out
 clear hb
 have hk9b := hz9.1
 have HZ9 := lH hz9
 clear hz9 HBN
 go_wp2
 refine aC (fun wl hw => ?_)
 have H0 : Hid (RtS w wl p w2.heap.size (w.heap.size) k9 (k9 + 1) ⟨none, none, some ⟨k9, 0, none⟩, none, none, 0, 0, 1, 0, 0⟩ ⟨width, [], [], [bI width]⟩ (B, n, g) l) := by
  rw [Hid, hw]
  exact ⟨aa.cast (aa.new _ _ _) rfl, HXr.out.alloc _, (brk_new HWD.out HZ9.out).alloc _, HOC.out.alloc _, HB.out.alloc _, by omega, by omega, by omega, by omega, by omega, Nat.le_refl _, .inl (by omega), by omega, by omega, by simp; omega⟩
 clear hw HXr hxr hfr hkr HB HOC HZ9 hk9b
 go_loopw [9, 10, 11] (fun i _ _ wx => ∃ (k : Nat) (a : Bk) (m : Bm) (lo hi : Nat), k ≤ d ∧ i = .int .i64 k ∧ RtS w wx p (w2.heap.size) (w.heap.size) lo hi a m (B, n, g) l ∧ (m.width = width ∧ m.es.length ≤ k)) (fun i _ _ _ => d - (intOf i).toNat)
 case atStart => exact ⟨0, _, _, _, _, Nat.zero_le _, rfl, H0.out, rfl, Nat.zero_le _⟩
 case round =>
  clear H0 hk9 HWD; obtain ⟨k, a, m, lo, hi, hk, rfl, hrt, hmm⟩ := hrel; have hf0 := hrt.far; have hz0 := hrt.on.size; have hkB := hrt.b.1
  have H0 := lH hrt
  have HMW := lH hmm
  clear hrt hmm
  by_cases hlt : k < d
  ·have hI : (k : Int) < d := by omega
   have hxb := H0.out.b.2.1; have hfb := H0.out.b.2.2; have hkb := H0.out.b.1
   go_wp2_with fail
   refine af (fun wa hw => ?_)
   have hza : wr.heap.size < wa.heap.size := by rw [hw]; first | omega | (simp; done) | (simp; omega)
   have N1 : Hid (aa wa wr.heap.size [.int .i64 m.width, .slice a.E m.es.length a.ce, .slice a.R m.rs.length a.cr, .slice a.H m.hs.length a.ch, .int .i64 (ae m.hs).size, .slice a.A1 (pk1 m.width m.es m.hs).length a.c1, .int .i64 (ae m.hs).taken, .slice a.A2 (pk2 m.width m.rs m.hs).length a.c2, .int .i64 (ae m.hs).num, .int .i64 (ae m.hs).size, .string (ae m.hs).root, .int .i64 (ae m.hs).taken, .string (ae m.hs).troot]) := by rw [Hid, hw]; exact ⟨by first | omega | (simp; done) | (simp; omega), fun o => by rcases o with _ | _ | _ | _ | _ | _ | _ | _ | _ | _ | _ | _ | _ | o <;> go_simp, fun o => by go_simp⟩
   have H1 : Hid (RtS w wa p (w2.heap.size) (w.heap.size) lo hi a m (B, n, g) l) := by rw [Hid, hw]; (repeat (first | (with_reducible refine RtS.alloc ?_ _) | (with_reducible refine RtS.drew ?_))); exact H0.out
   clear hw H0 hxb hfb hkb
   refine (bU p n g 0 p B l 8 _ (aG.get H1.out.c) (by omega) (by omega)).mono ?_
   rintro e v2 ⟨x, rfl, x0, x1, hc2, ho2⟩
   have H2 := lH (H1.out.next hc2 ho2)
   have N2 := lH (N1.out.only ho2 (by omega))
   have hs2 : wa.heap.size ≤ v2.heap.size := ho2.size
   clear hc2 ho2 H1 N1
   rcases (show x = 0 ∨ x = 1 ∨ x = 2 ∨ x = 3 ∨ 4 ≤ x by omega) with rfl | rfl | rfl | rfl | h4
   ·skip
    have hxb := H2.out.b.2.1; have hfb := H2.out.b.2.2; have hkb := H2.out.b.1; have hxn := N2.out.2.1; have hfn := N2.out.2.2; have hkn := N2.out.1
    go_wp2_with fail
    refine (l12Seal_c a m lo hi _ H2.out.k).mono ?_
    rintro e v3 ⟨a', m', L, q9, g9, code, rfl, hnx, hb⟩
    have H3 := lH (H2.out.below hb)
    have N3 := lH (N2.out.below hb)
    have HK := lH hnx
    have hs3 := hb.size; clear hnx hb H2 N2; clear hxb hfb hkb; clear hxn hfn hkn; have hxb := H3.out.b.2.1; have hfb := H3.out.b.2.2; have hkb := H3.out.b.1; have hxn := N3.out.2.1; have hfn := N3.out.2.2; have hkn := N3.out.1
    have hkf : wr.heap.size ≠ w2.heap.size ∧ wr.heap.size ≠ w.heap.size ∧ (wr.heap.size < lo ∨ hi ≤ wr.heap.size) ∧ p < wr.heap.size ∧ w.heap.size ≤ wr.heap.size := by have := H3.out.far; omega
    have hkl : wr.heap.size < v2.heap.size ∨ v3.heap.size ≤ wr.heap.size := by omega
    go_upto_region 17 with fail
    refine aC (fun wb hw => ?_)
    have hzb : v3.heap.size ≤ wb.heap.size := zA
    have H90 : Hid (RtS w wb p (w2.heap.size) (w.heap.size) lo hi a m (B, n, g) l) := by rw [Hid, hw]; (repeat (first | (with_reducible refine RtS.alloc ?_ _) | (with_reducible refine RtS.drew ?_) | (with_reducible refine RtS.setN ?_ hkf _ _))); exact H3.out
    have N90 : Hid (aa wb wr.heap.size [.int .i64 m'.width, .slice a'.E m'.es.length a'.ce, .slice a'.R m'.rs.length a'.cr, .slice a'.H m'.hs.length a'.ch, .int .i64 (ae m'.hs).size, .slice a'.A1 (pk1 m'.width m'.es m'.hs).length a'.c1, .int .i64 (ae m'.hs).taken, .slice a'.A2 (pk2 m'.width m'.rs m'.hs).length a'.c2, .int .i64 (ae m'.hs).num, .int .i64 (ae m'.hs).size, .string (ae m'.hs).root, .int .i64 (ae m'.hs).taken, .string (ae m'.hs).troot]) := by rw [Hid, hw]; apply aa.cast; (focus ((repeat (first | (with_reducible apply aa.alloc) | (with_reducible apply aa.drew) | (with_reducible apply aa.set1))); exact N3.out)); rfl
    have K90 : Hid (code = 0 → aH wb v2.heap.size v3.heap.size a' m' ∧ m'.width = m.width ∧ m'.es.length ≤ m.es.length + 1) := by
     rw [Hid, hw]; intro hc0; obtain ⟨q1, q2, q3⟩ := HK.out hc0; refine ⟨?_, q2, q3⟩
     (repeat (first | (with_reducible refine aH.alloc ?_ _) | (with_reducible refine aH.drew ?_) | (with_reducible refine aH.setBlk ?_ hkl _ _))); exact q1
    clear hw HK H3 N3; clear hxb hfb hkb; clear hxn hfn hkn
    by_cases hc : code = 0
    ·subst hc
     obtain ⟨hbk, hmw2, hml2⟩ := K90.out rfl
     have HBK := lH hbk
     have HMW2 := lH hmw2
     clear hbk K90 hmw2; have hxb := H90.out.b.2.1; have hfb := H90.out.b.2.2; have hkb := H90.out.b.1; have hxn := N90.out.2.1; have hfn := N90.out.2.2; have hkn := N90.out.1; have hf9 := H90.out.far
     have hz9 : v3.heap.size ≤ wb.heap.size := by omega
     go_wp2
     go_roundw
     case rel =>
      refine ⟨k + 1, a', m', v2.heap.size, v3.heap.size, by omega, by go_num, ⟨?_, ?_, ?_, ?_, ?_, by first | omega | (simp [World.setCell]; omega)⟩, by rw [HMW2.out]; exact HMW.out.1, by have := HMW.out.2; omega⟩
      ·apply aa.cast; (focus ((repeat (first | (with_reducible apply aa.alloc) | (with_reducible apply aa.drew) | (with_reducible apply aa.set1))); exact H90.out.b)); rfl
      ·have hne : w2.heap.size ≠ w.heap.size := by omega
       (repeat (first | (with_reducible refine aa.drew ?_) | (with_reducible refine aa.far hne _ ?_))); exact H90.out.r
      ·have hkb9 : w2.heap.size < v2.heap.size ∨ v3.heap.size ≤ w2.heap.size := by omega
       (repeat (first | (with_reducible refine aH.drew ?_) | (with_reducible refine aH.setBlk ?_ hkb9 _ _))); exact HBK.out
      ·have hkc9 : w2.heap.size < 0 ∨ p + 1 ≤ w2.heap.size := by omega
       (repeat (first | (with_reducible refine aG.drew ?_) | (with_reducible refine aG.setBlkR ?_ hkc9 _ _))); exact H90.out.c
      have hko9 : w.heap.size ≤ w2.heap.size := by omega
      (repeat (first | (with_reducible refine only_drew ?_) | (with_reducible refine only_new ?_ hko9 _))); exact H90.out.on
     case measure => simp [intOf]; omega
    have hc2 : (code == 0) = false := beq_eq_false_iff_ne.2 hc
    clear hc K90; go_wp2
    go_roundw
    case rel => exact ⟨k + 1, a, m, lo, hi, by omega, by go_num, H90.out, HMW.out.1, by have := HMW.out.2; omega⟩
    case measure => simp [intOf]; omega
   ·skip
    have hxb := H2.out.b.2.1; have hfb := H2.out.b.2.2; have hkb := H2.out.b.1; have hxn := N2.out.2.1; have hfn := N2.out.2.2; have hkn := N2.out.1
    go_wp2_with fail
    refine (l12Seal_c a m lo hi _ H2.out.k).mono ?_
    rintro e v3 ⟨a', m', L, q9, g9, code, rfl, hnx, hb⟩
    have H3 := lH (H2.out.below hb)
    have N3 := lH (N2.out.below hb)
    have HK := lH hnx
    have hs3 := hb.size; clear hnx hb H2 N2; clear hxb hfb hkb; clear hxn hfn hkn; have hxb := H3.out.b.2.1; have hfb := H3.out.b.2.2; have hkb := H3.out.b.1; have hxn := N3.out.2.1; have hfn := N3.out.2.2; have hkn := N3.out.1
    have hkf : wr.heap.size ≠ w2.heap.size ∧ wr.heap.size ≠ w.heap.size ∧ (wr.heap.size < lo ∨ hi ≤ wr.heap.size) ∧ p < wr.heap.size ∧ w.heap.size ≤ wr.heap.size := by have := H3.out.far; omega
    have hkl : wr.heap.size < v2.heap.size ∨ v3.heap.size ≤ wr.heap.size := by omega
    go_upto_region 17 with fail
    refine aC (fun wb hw => ?_)
    have hzb : v3.heap.size ≤ wb.heap.size := zA
    have H90 : Hid (RtS w wb p (w2.heap.size) (w.heap.size) lo hi a m (B, n, g) l) := by rw [Hid, hw]; (repeat (first | (with_reducible refine RtS.alloc ?_ _) | (with_reducible refine RtS.drew ?_) | (with_reducible refine RtS.setN ?_ hkf _ _))); exact H3.out
    have N90 : Hid (aa wb wr.heap.size [.int .i64 m'.width, .slice a'.E m'.es.length a'.ce, .slice a'.R m'.rs.length a'.cr, .slice a'.H m'.hs.length a'.ch, .int .i64 (ae m'.hs).size, .slice a'.A1 (pk1 m'.width m'.es m'.hs).length a'.c1, .int .i64 (ae m'.hs).taken, .slice a'.A2 (pk2 m'.width m'.rs m'.hs).length a'.c2, .int .i64 (ae m'.hs).num, .int .i64 (ae m'.hs).size, .string (ae m'.hs).root, .int .i64 (ae m'.hs).taken, .string (ae m'.hs).troot]) := by rw [Hid, hw]; apply aa.cast; (focus ((repeat (first | (with_reducible apply aa.alloc) | (with_reducible apply aa.drew) | (with_reducible apply aa.set1))); exact N3.out)); rfl
    have K90 : Hid (code = 0 → aH wb v2.heap.size v3.heap.size a' m' ∧ m'.width = m.width ∧ m'.es.length ≤ m.es.length + 1) := by
     rw [Hid, hw]; intro hc0; obtain ⟨q1, q2, q3⟩ := HK.out hc0; refine ⟨?_, q2, q3⟩
     (repeat (first | (with_reducible refine aH.alloc ?_ _) | (with_reducible refine aH.drew ?_) | (with_reducible refine aH.setBlk ?_ hkl _ _))); exact q1
    clear hw HK H3 N3; clear hxb hfb hkb; clear hxn hfn hkn
    by_cases hc : code = 0
    ·subst hc
     obtain ⟨hbk, hmw2, hml2⟩ := K90.out rfl
     have HBK := lH hbk
     have HMW2 := lH hmw2
     clear hbk K90 hmw2; have hxb := H90.out.b.2.1; have hfb := H90.out.b.2.2; have hkb := H90.out.b.1; have hxn := N90.out.2.1; have hfn := N90.out.2.2; have hkn := N90.out.1; have hf9 := H90.out.far
     have hz9 : v3.heap.size ≤ wb.heap.size := by omega
     go_wp2
     go_roundw
     case rel =>
      refine ⟨k + 1, a', m', v2.heap.size, v3.heap.size, by omega, by go_num, ⟨?_, ?_, ?_, ?_, ?_, by first | omega | (simp [World.setCell]; omega)⟩, by rw [HMW2.out]; exact HMW.out.1, by have := HMW.out.2; omega⟩
      ·apply aa.cast; (focus ((repeat (first | (with_reducible apply aa.alloc) | (with_reducible apply aa.drew) | (with_reducible apply aa.set1))); exact H90.out.b)); rfl
      ·have hne : w2.heap.size ≠ w.heap.size := by omega
       (repeat (first | (with_reducible refine aa.drew ?_) | (with_reducible refine aa.far hne _ ?_))); exact H90.out.r
      ·have hkb9 : w2.heap.size < v2.heap.size ∨ v3.heap.size ≤ w2.heap.size := by omega
       (repeat (first | (with_reducible refine aH.drew ?_) | (with_reducible refine aH.setBlk ?_ hkb9 _ _))); exact HBK.out
      ·have hkc9 : w2.heap.size < 0 ∨ p + 1 ≤ w2.heap.size := by omega
       (repeat (first | (with_reducible refine aG.drew ?_) | (with_reducible refine aG.setBlkR ?_ hkc9 _ _))); exact H90.out.c
      have hko9 : w.heap.size ≤ w2.heap.size := by omega
      (repeat (first | (with_reducible refine only_drew ?_) | (with_reducible refine only_new ?_ hko9 _))); exact H90.out.on
     case measure => simp [intOf]; omega
    have hc2 : (code == 0) = false := beq_eq_false_iff_ne.2 hc
    clear hc K90; go_wp2
    go_roundw
    case rel => exact ⟨k + 1, a, m, lo, hi, by omega, by go_num, H90.out, HMW.out.1, by have := HMW.out.2; omega⟩
    case measure => simp [intOf]; omega
   ·skip
    have hf2 := H2.out.far
    have hkf : wr.heap.size ≠ w2.heap.size ∧ wr.heap.size ≠ w.heap.size ∧ (wr.heap.size < lo ∨ hi ≤ wr.heap.size) ∧ p < wr.heap.size ∧ w.heap.size ≤ wr.heap.size := by omega
    have hxb := H2.out.b.2.1; have hfb := H2.out.b.2.2; have hkb := H2.out.b.1; have hxn := N2.out.2.1; have hfn := N2.out.2.2; have hkn := N2.out.1
    go_wp2_with fail
    go_region_held3 (fun w' => ∀ o, w'.cell? ⟨w2.heap.size, o, none⟩ = [.int .i64 m.width, .slice a.E m.es.length a.ce, .slice a.R m.rs.length a.cr, .slice a.H m.hs.length a.ch, .int .i64 (ae m.hs).size, .slice a.A1 (pk1 m.width m.es m.hs).length a.c1, .int .i64 (ae m.hs).taken, .slice a.A2 (pk2 m.width m.rs m.hs).length a.c2, .int .i64 (ae m.hs).num, .int .i64 (ae m.hs).size, .string (ae m.hs).root, .int .i64 (ae m.hs).taken, .string (ae m.hs).troot][o]?) (first | exact (by (repeat (first | (with_reducible refine RtS.alloc ?_ _) | (with_reducible refine RtS.drew ?_) | (with_reducible refine RtS.setN ?_ hkf _ _))); exact H6.out : RtS w _ p (w2.heap.size) (w.heap.size) lo hi a m (B, n, g) l).b.2.1 | exact (by (repeat (first | (with_reducible refine RtS.alloc ?_ _) | (with_reducible refine RtS.drew ?_) | (with_reducible refine RtS.setN ?_ hkf _ _))); exact H5.out : RtS w _ p (w2.heap.size) (w.heap.size) lo hi a m (B, n, g) l).b.2.1 | exact (by (repeat (first | (with_reducible refine RtS.alloc ?_ _) | (with_reducible refine RtS.drew ?_) | (with_reducible refine RtS.setN ?_ hkf _ _))); exact H4.out : RtS w _ p (w2.heap.size) (w.heap.size) lo hi a m (B, n, g) l).b.2.1 | exact (by (repeat (first | (with_reducible refine RtS.alloc ?_ _) | (with_reducible refine RtS.drew ?_) | (with_reducible refine RtS.setN ?_ hkf _ _))); exact H3.out : RtS w _ p (w2.heap.size) (w.heap.size) lo hi a m (B, n, g) l).b.2.1 | exact (by (repeat (first | (with_reducible refine RtS.alloc ?_ _) | (with_reducible refine RtS.drew ?_) | (with_reducible refine RtS.setN ?_ hkf _ _))); exact H2.out : RtS w _ p (w2.heap.size) (w.heap.size) lo hi a m (B, n, g) l).b.2.1) (first | ((go_at_call 35; refine (l01Pick_c (aG.get (RtS.c (by (repeat (first | (with_reducible refine RtS.alloc ?_ _) | (with_reducible refine RtS.drew ?_))); exact H2.out : RtS w _ p (w2.heap.size) (w.heap.size) lo hi a m (B, n, g) l))) _ 2 2 _ _ [⟨#[97, 110, 110]⟩, ⟨#[98, 111, 98]⟩] (rd_strs (by first | exact aa.new _ #[.string ⟨#[97, 110, 110]⟩, .string ⟨#[98, 111, 98]⟩] _ | (refine aa.drew ?_; exact aa.new _ #[.string ⟨#[97, 110, 110]⟩, .string ⟨#[98, 111, 98]⟩] _)) rfl) rfl (by omega) (by omega) (by first | omega | (simp; omega))).mono ?_; rintro e v3 ⟨y3, rfl, hy3, hc3, ho3⟩; have H3 := lH (RtS.next (by (repeat (first | (with_reducible refine RtS.alloc ?_ _) | (with_reducible refine RtS.drew ?_))); exact H2.out : RtS w _ p (w2.heap.size) (w.heap.size) lo hi a m (B, n, g) l) hc3 ho3); have N3 := lH (aa.only (by (repeat (first | (with_reducible refine aa.alloc ?_ _) | (with_reducible refine aa.drew ?_))); exact N2.out : aa _ wr.heap.size [.int .i64 m.width, .slice a.E m.es.length a.ce, .slice a.R m.rs.length a.cr, .slice a.H m.hs.length a.ch, .int .i64 (ae m.hs).size, .slice a.A1 (pk1 m.width m.es m.hs).length a.c1, .int .i64 (ae m.hs).taken, .slice a.A2 (pk2 m.width m.rs m.hs).length a.c2, .int .i64 (ae m.hs).num, .int .i64 (ae m.hs).size, .string (ae m.hs).root, .int .i64 (ae m.hs).taken, .string (ae m.hs).troot]) ho3 (by first | omega | (simp; omega))); have hs3 : v2.heap.size ≤ v3.heap.size := Nat.le_trans (by first | exact Nat.le_refl _ | (simp; done) | (simp; omega)) ho3.size; have HY3 : Hid (y3.size ≤ 20) := lH (pick_size hy3); clear hy3; clear hc3 ho3)) | ((go_at_call 33; refine (l09Topic_c (aG.get (RtS.c (by (repeat (first | (with_reducible refine RtS.alloc ?_ _) | (with_reducible refine RtS.drew ?_))); exact H3.out : RtS w _ p (w2.heap.size) (w.heap.size) lo hi a m (B, n, g) l))) (by first | omega | (simp; omega))).mono ?_; rintro e v4 ⟨y4, rfl, hy4, hc4, ho4⟩; have H4 := lH (RtS.next (by (repeat (first | (with_reducible refine RtS.alloc ?_ _) | (with_reducible refine RtS.drew ?_))); exact H3.out : RtS w _ p (w2.heap.size) (w.heap.size) lo hi a m (B, n, g) l) hc4 ho4); have N4 := lH (aa.only (by (repeat (first | (with_reducible refine aa.alloc ?_ _) | (with_reducible refine aa.drew ?_))); exact N3.out : aa _ wr.heap.size [.int .i64 m.width, .slice a.E m.es.length a.ce, .slice a.R m.rs.length a.cr, .slice a.H m.hs.length a.ch, .int .i64 (ae m.hs).size, .slice a.A1 (pk1 m.width m.es m.hs).length a.c1, .int .i64 (ae m.hs).taken, .slice a.A2 (pk2 m.width m.rs m.hs).length a.c2, .int .i64 (ae m.hs).num, .int .i64 (ae m.hs).size, .string (ae m.hs).root, .int .i64 (ae m.hs).taken, .string (ae m.hs).troot]) ho4 (by first | omega | (simp; omega))); have hs4 : v3.heap.size ≤ v4.heap.size := Nat.le_trans (by first | exact Nat.le_refl _ | (simp; done) | (simp; omega)) ho4.size; have HY4 : Hid (y4.size ≤ 20) := lH (fe hy4); clear hy4; clear hc4 ho4)) | ((go_at_call 31; refine (bU p n g 0 p B l 3 _ (aG.get (RtS.c (by (repeat (first | (with_reducible refine RtS.alloc ?_ _) | (with_reducible refine RtS.drew ?_))); exact H4.out : RtS w _ p (w2.heap.size) (w.heap.size) lo hi a m (B, n, g) l))) (by omega) (by omega)).mono ?_; rintro e v5 ⟨y5, rfl, y50, y51, hc5, ho5⟩; have H5 := lH (RtS.next (by (repeat (first | (with_reducible refine RtS.alloc ?_ _) | (with_reducible refine RtS.drew ?_))); exact H4.out : RtS w _ p (w2.heap.size) (w.heap.size) lo hi a m (B, n, g) l) hc5 ho5); have N5 := lH (aa.only (by (repeat (first | (with_reducible refine aa.alloc ?_ _) | (with_reducible refine aa.drew ?_))); exact N4.out : aa _ wr.heap.size [.int .i64 m.width, .slice a.E m.es.length a.ce, .slice a.R m.rs.length a.cr, .slice a.H m.hs.length a.ch, .int .i64 (ae m.hs).size, .slice a.A1 (pk1 m.width m.es m.hs).length a.c1, .int .i64 (ae m.hs).taken, .slice a.A2 (pk2 m.width m.rs m.hs).length a.c2, .int .i64 (ae m.hs).num, .int .i64 (ae m.hs).size, .string (ae m.hs).root, .int .i64 (ae m.hs).taken, .string (ae m.hs).troot]) ho5 (by first | omega | (simp; omega))); have hs5 : v4.heap.size ≤ v5.heap.size := Nat.le_trans (by first | exact Nat.le_refl _ | (simp; done) | (simp; omega)) ho5.size; clear hc5 ho5)) | ((go_at_call 60; refine (l12Receipt_c a m lo hi ⟨y3, y4, y5⟩ _ (RtS.k (by (repeat (first | (with_reducible refine RtS.alloc ?_ _) | (with_reducible refine RtS.drew ?_))); exact H5.out : RtS w _ p (w2.heap.size) (w.heap.size) lo hi a m (B, n, g) l)) (rcp_fits HY3.out HY4.out (by omega) (by omega))).mono ?_; rintro e v6 ⟨a', m', L, q9, g9, code, rfl, hnx, hb⟩; have H6 := lH (RtS.below (by (repeat (first | (with_reducible refine RtS.alloc ?_ _) | (with_reducible refine RtS.drew ?_))); exact H5.out : RtS w _ p (w2.heap.size) (w.heap.size) lo hi a m (B, n, g) l) hb); have N6 := lH (aa.below (by (repeat (first | (with_reducible refine aa.alloc ?_ _) | (with_reducible refine aa.drew ?_))); exact N5.out : aa _ wr.heap.size [.int .i64 m.width, .slice a.E m.es.length a.ce, .slice a.R m.rs.length a.cr, .slice a.H m.hs.length a.ch, .int .i64 (ae m.hs).size, .slice a.A1 (pk1 m.width m.es m.hs).length a.c1, .int .i64 (ae m.hs).taken, .slice a.A2 (pk2 m.width m.rs m.hs).length a.c2, .int .i64 (ae m.hs).num, .int .i64 (ae m.hs).size, .string (ae m.hs).root, .int .i64 (ae m.hs).taken, .string (ae m.hs).troot]) hb); have HK := lH hnx; have hs6 := hb.size; have hyx := N6.out.2.1; have hyf := N6.out.2.2; have hyk := N6.out.1; clear hnx hb)))
    clear hyx hyf hyk hkf hf2
    have hkf : wr.heap.size ≠ w2.heap.size ∧ wr.heap.size ≠ w.heap.size ∧ (wr.heap.size < lo ∨ hi ≤ wr.heap.size) ∧ p < wr.heap.size ∧ w.heap.size ≤ wr.heap.size := by have := H6.out.far; omega
    have hkl : wr.heap.size < v5.heap.size ∨ v6.heap.size ≤ wr.heap.size := by omega
    go_upto_region 17 with fail
    refine aC (fun wb hw => ?_)
    have hzb : v6.heap.size ≤ wb.heap.size := zA
    have H90 : Hid (RtS w wb p (w2.heap.size) (w.heap.size) lo hi a m (B, n, g) l) := by rw [Hid, hw]; (repeat (first | (with_reducible refine RtS.alloc ?_ _) | (with_reducible refine RtS.drew ?_) | (with_reducible refine RtS.setN ?_ hkf _ _))); exact H6.out
    have N90 : Hid (aa wb wr.heap.size [.int .i64 m'.width, .slice a'.E m'.es.length a'.ce, .slice a'.R m'.rs.length a'.cr, .slice a'.H m'.hs.length a'.ch, .int .i64 (ae m'.hs).size, .slice a'.A1 (pk1 m'.width m'.es m'.hs).length a'.c1, .int .i64 (ae m'.hs).taken, .slice a'.A2 (pk2 m'.width m'.rs m'.hs).length a'.c2, .int .i64 (ae m'.hs).num, .int .i64 (ae m'.hs).size, .string (ae m'.hs).root, .int .i64 (ae m'.hs).taken, .string (ae m'.hs).troot]) := by rw [Hid, hw]; apply aa.cast; (focus ((repeat (first | (with_reducible apply aa.alloc) | (with_reducible apply aa.drew) | (with_reducible apply aa.set1))); exact N6.out)); rfl
    have K90 : Hid (code = 0 → aH wb v5.heap.size v6.heap.size a' m' ∧ m'.width = m.width ∧ m'.es.length ≤ m.es.length + 1) := by
     rw [Hid, hw]; intro hc0; obtain ⟨q1, q2, q3⟩ := HK.out hc0; refine ⟨?_, q2, q3⟩
     (repeat (first | (with_reducible refine aH.alloc ?_ _) | (with_reducible refine aH.drew ?_) | (with_reducible refine aH.setBlk ?_ hkl _ _))); exact q1
    clear hw HK H6 N6; clear hxb hfb hkb; clear hxn hfn hkn
    by_cases hc : code = 0
    ·subst hc
     obtain ⟨hbk, hmw2, hml2⟩ := K90.out rfl
     have HBK := lH hbk
     have HMW2 := lH hmw2
     clear hbk K90 hmw2; have hxb := H90.out.b.2.1; have hfb := H90.out.b.2.2; have hkb := H90.out.b.1; have hxn := N90.out.2.1; have hfn := N90.out.2.2; have hkn := N90.out.1; have hf9 := H90.out.far
     have hz9 : v6.heap.size ≤ wb.heap.size := by omega
     go_wp2
     go_roundw
     case rel =>
      refine ⟨k + 1, a', m', v5.heap.size, v6.heap.size, by omega, by go_num, ⟨?_, ?_, ?_, ?_, ?_, by first | omega | (simp [World.setCell]; omega)⟩, by rw [HMW2.out]; exact HMW.out.1, by have := HMW.out.2; omega⟩
      ·apply aa.cast; (focus ((repeat (first | (with_reducible apply aa.alloc) | (with_reducible apply aa.drew) | (with_reducible apply aa.set1))); exact H90.out.b)); rfl
      ·have hne : w2.heap.size ≠ w.heap.size := by omega
       (repeat (first | (with_reducible refine aa.drew ?_) | (with_reducible refine aa.far hne _ ?_))); exact H90.out.r
      ·have hkb9 : w2.heap.size < v5.heap.size ∨ v6.heap.size ≤ w2.heap.size := by omega
       (repeat (first | (with_reducible refine aH.drew ?_) | (with_reducible refine aH.setBlk ?_ hkb9 _ _))); exact HBK.out
      ·have hkc9 : w2.heap.size < 0 ∨ p + 1 ≤ w2.heap.size := by omega
       (repeat (first | (with_reducible refine aG.drew ?_) | (with_reducible refine aG.setBlkR ?_ hkc9 _ _))); exact H90.out.c
      have hko9 : w.heap.size ≤ w2.heap.size := by omega
      (repeat (first | (with_reducible refine only_drew ?_) | (with_reducible refine only_new ?_ hko9 _))); exact H90.out.on
     case measure => simp [intOf]; omega
    have hc2 : (code == 0) = false := beq_eq_false_iff_ne.2 hc
    clear hc K90; go_wp2
    go_roundw
    case rel => exact ⟨k + 1, a, m, lo, hi, by omega, by go_num, H90.out, HMW.out.1, by have := HMW.out.2; omega⟩
    case measure => simp [intOf]; omega
   ·skip
    have hf2 := H2.out.far
    have hkf : wr.heap.size ≠ w2.heap.size ∧ wr.heap.size ≠ w.heap.size ∧ (wr.heap.size < lo ∨ hi ≤ wr.heap.size) ∧ p < wr.heap.size ∧ w.heap.size ≤ wr.heap.size := by omega
    have hxb := H2.out.b.2.1; have hfb := H2.out.b.2.2; have hkb := H2.out.b.1; have hxn := N2.out.2.1; have hfn := N2.out.2.2; have hkn := N2.out.1
    go_wp2_with fail
    go_region_held3 (fun w' => ∀ o, w'.cell? ⟨w2.heap.size, o, none⟩ = [.int .i64 m.width, .slice a.E m.es.length a.ce, .slice a.R m.rs.length a.cr, .slice a.H m.hs.length a.ch, .int .i64 (ae m.hs).size, .slice a.A1 (pk1 m.width m.es m.hs).length a.c1, .int .i64 (ae m.hs).taken, .slice a.A2 (pk2 m.width m.rs m.hs).length a.c2, .int .i64 (ae m.hs).num, .int .i64 (ae m.hs).size, .string (ae m.hs).root, .int .i64 (ae m.hs).taken, .string (ae m.hs).troot][o]?) (first | exact (by (repeat (first | (with_reducible refine RtS.alloc ?_ _) | (with_reducible refine RtS.drew ?_) | (with_reducible refine RtS.setN ?_ hkf _ _))); exact H6.out : RtS w _ p (w2.heap.size) (w.heap.size) lo hi a m (B, n, g) l).b.2.1 | exact (by (repeat (first | (with_reducible refine RtS.alloc ?_ _) | (with_reducible refine RtS.drew ?_) | (with_reducible refine RtS.setN ?_ hkf _ _))); exact H5.out : RtS w _ p (w2.heap.size) (w.heap.size) lo hi a m (B, n, g) l).b.2.1 | exact (by (repeat (first | (with_reducible refine RtS.alloc ?_ _) | (with_reducible refine RtS.drew ?_) | (with_reducible refine RtS.setN ?_ hkf _ _))); exact H4.out : RtS w _ p (w2.heap.size) (w.heap.size) lo hi a m (B, n, g) l).b.2.1 | exact (by (repeat (first | (with_reducible refine RtS.alloc ?_ _) | (with_reducible refine RtS.drew ?_) | (with_reducible refine RtS.setN ?_ hkf _ _))); exact H3.out : RtS w _ p (w2.heap.size) (w.heap.size) lo hi a m (B, n, g) l).b.2.1 | exact (by (repeat (first | (with_reducible refine RtS.alloc ?_ _) | (with_reducible refine RtS.drew ?_) | (with_reducible refine RtS.setN ?_ hkf _ _))); exact H2.out : RtS w _ p (w2.heap.size) (w.heap.size) lo hi a m (B, n, g) l).b.2.1) (first | ((go_at_call 35; refine (l01Pick_c (aG.get (RtS.c (by (repeat (first | (with_reducible refine RtS.alloc ?_ _) | (with_reducible refine RtS.drew ?_))); exact H2.out : RtS w _ p (w2.heap.size) (w.heap.size) lo hi a m (B, n, g) l))) _ 2 2 _ _ [⟨#[97, 110, 110]⟩, ⟨#[98, 111, 98]⟩] (rd_strs (by first | exact aa.new _ #[.string ⟨#[97, 110, 110]⟩, .string ⟨#[98, 111, 98]⟩] _ | (refine aa.drew ?_; exact aa.new _ #[.string ⟨#[97, 110, 110]⟩, .string ⟨#[98, 111, 98]⟩] _)) rfl) rfl (by omega) (by omega) (by first | omega | (simp; omega))).mono ?_; rintro e v3 ⟨y3, rfl, hy3, hc3, ho3⟩; have H3 := lH (RtS.next (by (repeat (first | (with_reducible refine RtS.alloc ?_ _) | (with_reducible refine RtS.drew ?_))); exact H2.out : RtS w _ p (w2.heap.size) (w.heap.size) lo hi a m (B, n, g) l) hc3 ho3); have N3 := lH (aa.only (by (repeat (first | (with_reducible refine aa.alloc ?_ _) | (with_reducible refine aa.drew ?_))); exact N2.out : aa _ wr.heap.size [.int .i64 m.width, .slice a.E m.es.length a.ce, .slice a.R m.rs.length a.cr, .slice a.H m.hs.length a.ch, .int .i64 (ae m.hs).size, .slice a.A1 (pk1 m.width m.es m.hs).length a.c1, .int .i64 (ae m.hs).taken, .slice a.A2 (pk2 m.width m.rs m.hs).length a.c2, .int .i64 (ae m.hs).num, .int .i64 (ae m.hs).size, .string (ae m.hs).root, .int .i64 (ae m.hs).taken, .string (ae m.hs).troot]) ho3 (by first | omega | (simp; omega))); have hs3 : v2.heap.size ≤ v3.heap.size := Nat.le_trans (by first | exact Nat.le_refl _ | (simp; done) | (simp; omega)) ho3.size; have HY3 : Hid (y3.size ≤ 20) := lH (pick_size hy3); clear hy3; clear hc3 ho3)) | ((go_at_call 33; refine (l09Topic_c (aG.get (RtS.c (by (repeat (first | (with_reducible refine RtS.alloc ?_ _) | (with_reducible refine RtS.drew ?_))); exact H3.out : RtS w _ p (w2.heap.size) (w.heap.size) lo hi a m (B, n, g) l))) (by first | omega | (simp; omega))).mono ?_; rintro e v4 ⟨y4, rfl, hy4, hc4, ho4⟩; have H4 := lH (RtS.next (by (repeat (first | (with_reducible refine RtS.alloc ?_ _) | (with_reducible refine RtS.drew ?_))); exact H3.out : RtS w _ p (w2.heap.size) (w.heap.size) lo hi a m (B, n, g) l) hc4 ho4); have N4 := lH (aa.only (by (repeat (first | (with_reducible refine aa.alloc ?_ _) | (with_reducible refine aa.drew ?_))); exact N3.out : aa _ wr.heap.size [.int .i64 m.width, .slice a.E m.es.length a.ce, .slice a.R m.rs.length a.cr, .slice a.H m.hs.length a.ch, .int .i64 (ae m.hs).size, .slice a.A1 (pk1 m.width m.es m.hs).length a.c1, .int .i64 (ae m.hs).taken, .slice a.A2 (pk2 m.width m.rs m.hs).length a.c2, .int .i64 (ae m.hs).num, .int .i64 (ae m.hs).size, .string (ae m.hs).root, .int .i64 (ae m.hs).taken, .string (ae m.hs).troot]) ho4 (by first | omega | (simp; omega))); have hs4 : v3.heap.size ≤ v4.heap.size := Nat.le_trans (by first | exact Nat.le_refl _ | (simp; done) | (simp; omega)) ho4.size; have HY4 : Hid (y4.size ≤ 20) := lH (fe hy4); clear hy4; clear hc4 ho4)) | ((go_at_call 31; refine (bU p n g 0 p B l 3 _ (aG.get (RtS.c (by (repeat (first | (with_reducible refine RtS.alloc ?_ _) | (with_reducible refine RtS.drew ?_))); exact H4.out : RtS w _ p (w2.heap.size) (w.heap.size) lo hi a m (B, n, g) l))) (by omega) (by omega)).mono ?_; rintro e v5 ⟨y5, rfl, y50, y51, hc5, ho5⟩; have H5 := lH (RtS.next (by (repeat (first | (with_reducible refine RtS.alloc ?_ _) | (with_reducible refine RtS.drew ?_))); exact H4.out : RtS w _ p (w2.heap.size) (w.heap.size) lo hi a m (B, n, g) l) hc5 ho5); have N5 := lH (aa.only (by (repeat (first | (with_reducible refine aa.alloc ?_ _) | (with_reducible refine aa.drew ?_))); exact N4.out : aa _ wr.heap.size [.int .i64 m.width, .slice a.E m.es.length a.ce, .slice a.R m.rs.length a.cr, .slice a.H m.hs.length a.ch, .int .i64 (ae m.hs).size, .slice a.A1 (pk1 m.width m.es m.hs).length a.c1, .int .i64 (ae m.hs).taken, .slice a.A2 (pk2 m.width m.rs m.hs).length a.c2, .int .i64 (ae m.hs).num, .int .i64 (ae m.hs).size, .string (ae m.hs).root, .int .i64 (ae m.hs).taken, .string (ae m.hs).troot]) ho5 (by first | omega | (simp; omega))); have hs5 : v4.heap.size ≤ v5.heap.size := Nat.le_trans (by first | exact Nat.le_refl _ | (simp; done) | (simp; omega)) ho5.size; clear hc5 ho5)) | ((go_at_call 60; refine (l12Receipt_c a m lo hi ⟨y3, y4, y5⟩ _ (RtS.k (by (repeat (first | (with_reducible refine RtS.alloc ?_ _) | (with_reducible refine RtS.drew ?_))); exact H5.out : RtS w _ p (w2.heap.size) (w.heap.size) lo hi a m (B, n, g) l)) (rcp_fits HY3.out HY4.out (by omega) (by omega))).mono ?_; rintro e v6 ⟨a', m', L, q9, g9, code, rfl, hnx, hb⟩; have H6 := lH (RtS.below (by (repeat (first | (with_reducible refine RtS.alloc ?_ _) | (with_reducible refine RtS.drew ?_))); exact H5.out : RtS w _ p (w2.heap.size) (w.heap.size) lo hi a m (B, n, g) l) hb); have N6 := lH (aa.below (by (repeat (first | (with_reducible refine aa.alloc ?_ _) | (with_reducible refine aa.drew ?_))); exact N5.out : aa _ wr.heap.size [.int .i64 m.width, .slice a.E m.es.length a.ce, .slice a.R m.rs.length a.cr, .slice a.H m.hs.length a.ch, .int .i64 (ae m.hs).size, .slice a.A1 (pk1 m.width m.es m.hs).length a.c1, .int .i64 (ae m.hs).taken, .slice a.A2 (pk2 m.width m.rs m.hs).length a.c2, .int .i64 (ae m.hs).num, .int .i64 (ae m.hs).size, .string (ae m.hs).root, .int .i64 (ae m.hs).taken, .string (ae m.hs).troot]) hb); have HK := lH hnx; have hs6 := hb.size; have hyx := N6.out.2.1; have hyf := N6.out.2.2; have hyk := N6.out.1; clear hnx hb)))
    clear hyx hyf hyk hkf hf2
    have hkf : wr.heap.size ≠ w2.heap.size ∧ wr.heap.size ≠ w.heap.size ∧ (wr.heap.size < lo ∨ hi ≤ wr.heap.size) ∧ p < wr.heap.size ∧ w.heap.size ≤ wr.heap.size := by have := H6.out.far; omega
    have hkl : wr.heap.size < v5.heap.size ∨ v6.heap.size ≤ wr.heap.size := by omega
    go_upto_region 17 with fail
    refine aC (fun wb hw => ?_)
    have hzb : v6.heap.size ≤ wb.heap.size := zA
    have H90 : Hid (RtS w wb p (w2.heap.size) (w.heap.size) lo hi a m (B, n, g) l) := by rw [Hid, hw]; (repeat (first | (with_reducible refine RtS.alloc ?_ _) | (with_reducible refine RtS.drew ?_) | (with_reducible refine RtS.setN ?_ hkf _ _))); exact H6.out
    have N90 : Hid (aa wb wr.heap.size [.int .i64 m'.width, .slice a'.E m'.es.length a'.ce, .slice a'.R m'.rs.length a'.cr, .slice a'.H m'.hs.length a'.ch, .int .i64 (ae m'.hs).size, .slice a'.A1 (pk1 m'.width m'.es m'.hs).length a'.c1, .int .i64 (ae m'.hs).taken, .slice a'.A2 (pk2 m'.width m'.rs m'.hs).length a'.c2, .int .i64 (ae m'.hs).num, .int .i64 (ae m'.hs).size, .string (ae m'.hs).root, .int .i64 (ae m'.hs).taken, .string (ae m'.hs).troot]) := by rw [Hid, hw]; apply aa.cast; (focus ((repeat (first | (with_reducible apply aa.alloc) | (with_reducible apply aa.drew) | (with_reducible apply aa.set1))); exact N6.out)); rfl
    have K90 : Hid (code = 0 → aH wb v5.heap.size v6.heap.size a' m' ∧ m'.width = m.width ∧ m'.es.length ≤ m.es.length + 1) := by
     rw [Hid, hw]; intro hc0; obtain ⟨q1, q2, q3⟩ := HK.out hc0; refine ⟨?_, q2, q3⟩
     (repeat (first | (with_reducible refine aH.alloc ?_ _) | (with_reducible refine aH.drew ?_) | (with_reducible refine aH.setBlk ?_ hkl _ _))); exact q1
    clear hw HK H6 N6; clear hxb hfb hkb; clear hxn hfn hkn
    by_cases hc : code = 0
    ·subst hc
     obtain ⟨hbk, hmw2, hml2⟩ := K90.out rfl
     have HBK := lH hbk
     have HMW2 := lH hmw2
     clear hbk K90 hmw2; have hxb := H90.out.b.2.1; have hfb := H90.out.b.2.2; have hkb := H90.out.b.1; have hxn := N90.out.2.1; have hfn := N90.out.2.2; have hkn := N90.out.1; have hf9 := H90.out.far
     have hz9 : v6.heap.size ≤ wb.heap.size := by omega
     go_wp2
     go_roundw
     case rel =>
      refine ⟨k + 1, a', m', v5.heap.size, v6.heap.size, by omega, by go_num, ⟨?_, ?_, ?_, ?_, ?_, by first | omega | (simp [World.setCell]; omega)⟩, by rw [HMW2.out]; exact HMW.out.1, by have := HMW.out.2; omega⟩
      ·apply aa.cast; (focus ((repeat (first | (with_reducible apply aa.alloc) | (with_reducible apply aa.drew) | (with_reducible apply aa.set1))); exact H90.out.b)); rfl
      ·have hne : w2.heap.size ≠ w.heap.size := by omega
       (repeat (first | (with_reducible refine aa.drew ?_) | (with_reducible refine aa.far hne _ ?_))); exact H90.out.r
      ·have hkb9 : w2.heap.size < v5.heap.size ∨ v6.heap.size ≤ w2.heap.size := by omega
       (repeat (first | (with_reducible refine aH.drew ?_) | (with_reducible refine aH.setBlk ?_ hkb9 _ _))); exact HBK.out
      ·have hkc9 : w2.heap.size < 0 ∨ p + 1 ≤ w2.heap.size := by omega
       (repeat (first | (with_reducible refine aG.drew ?_) | (with_reducible refine aG.setBlkR ?_ hkc9 _ _))); exact H90.out.c
      have hko9 : w.heap.size ≤ w2.heap.size := by omega
      (repeat (first | (with_reducible refine only_drew ?_) | (with_reducible refine only_new ?_ hko9 _))); exact H90.out.on
     case measure => simp [intOf]; omega
    have hc2 : (code == 0) = false := beq_eq_false_iff_ne.2 hc
    clear hc K90; go_wp2
    go_roundw
    case rel => exact ⟨k + 1, a, m, lo, hi, by omega, by go_num, H90.out, HMW.out.1, by have := HMW.out.2; omega⟩
    case measure => simp [intOf]; omega
   have g0 : (x == 0) = false := beq_eq_false_iff_ne.2 (by omega)
   have g1 : (x == 1) = false := beq_eq_false_iff_ne.2 (by omega)
   have g2 : (x == 2) = false := beq_eq_false_iff_ne.2 (by omega)
   have g3 : (x == 3) = false := beq_eq_false_iff_ne.2 (by omega)
   have hf2 := H2.out.far
   have hkf : wr.heap.size ≠ w2.heap.size ∧ wr.heap.size ≠ w.heap.size ∧ (wr.heap.size < lo ∨ hi ≤ wr.heap.size) ∧ p < wr.heap.size ∧ w.heap.size ≤ wr.heap.size := by omega
   have hxb := H2.out.b.2.1; have hfb := H2.out.b.2.2; have hkb := H2.out.b.1; have hxn := N2.out.2.1; have hfn := N2.out.2.2; have hkn := N2.out.1
   go_wp2_with fail
   go_region_held3 (fun w' => ∀ o, w'.cell? ⟨w2.heap.size, o, none⟩ = [.int .i64 m.width, .slice a.E m.es.length a.ce, .slice a.R m.rs.length a.cr, .slice a.H m.hs.length a.ch, .int .i64 (ae m.hs).size, .slice a.A1 (pk1 m.width m.es m.hs).length a.c1, .int .i64 (ae m.hs).taken, .slice a.A2 (pk2 m.width m.rs m.hs).length a.c2, .int .i64 (ae m.hs).num, .int .i64 (ae m.hs).size, .string (ae m.hs).root, .int .i64 (ae m.hs).taken, .string (ae m.hs).troot][o]?) (first | exact (by (repeat (first | (with_reducible refine RtS.alloc ?_ _) | (with_reducible refine RtS.drew ?_) | (with_reducible refine RtS.setN ?_ hkf _ _))); exact H9.out : RtS w _ p (w2.heap.size) (w.heap.size) lo hi a m (B, n, g) l).b.2.1 | exact (by (repeat (first | (with_reducible refine RtS.alloc ?_ _) | (with_reducible refine RtS.drew ?_) | (with_reducible refine RtS.setN ?_ hkf _ _))); exact H8.out : RtS w _ p (w2.heap.size) (w.heap.size) lo hi a m (B, n, g) l).b.2.1 | exact (by (repeat (first | (with_reducible refine RtS.alloc ?_ _) | (with_reducible refine RtS.drew ?_) | (with_reducible refine RtS.setN ?_ hkf _ _))); exact H7.out : RtS w _ p (w2.heap.size) (w.heap.size) lo hi a m (B, n, g) l).b.2.1 | exact (by (repeat (first | (with_reducible refine RtS.alloc ?_ _) | (with_reducible refine RtS.drew ?_) | (with_reducible refine RtS.setN ?_ hkf _ _))); exact H6.out : RtS w _ p (w2.heap.size) (w.heap.size) lo hi a m (B, n, g) l).b.2.1 | exact (by (repeat (first | (with_reducible refine RtS.alloc ?_ _) | (with_reducible refine RtS.drew ?_) | (with_reducible refine RtS.setN ?_ hkf _ _))); exact H5.out : RtS w _ p (w2.heap.size) (w.heap.size) lo hi a m (B, n, g) l).b.2.1 | exact (by (repeat (first | (with_reducible refine RtS.alloc ?_ _) | (with_reducible refine RtS.drew ?_) | (with_reducible refine RtS.setN ?_ hkf _ _))); exact H4.out : RtS w _ p (w2.heap.size) (w.heap.size) lo hi a m (B, n, g) l).b.2.1 | exact (by (repeat (first | (with_reducible refine RtS.alloc ?_ _) | (with_reducible refine RtS.drew ?_) | (with_reducible refine RtS.setN ?_ hkf _ _))); exact H3.out : RtS w _ p (w2.heap.size) (w.heap.size) lo hi a m (B, n, g) l).b.2.1 | exact (by (repeat (first | (with_reducible refine RtS.alloc ?_ _) | (with_reducible refine RtS.drew ?_) | (with_reducible refine RtS.setN ?_ hkf _ _))); exact H2.out : RtS w _ p (w2.heap.size) (w.heap.size) lo hi a m (B, n, g) l).b.2.1) (first | ((go_at_call 33; refine (l09Topic_c (aG.get (RtS.c (by (repeat (first | (with_reducible refine RtS.alloc ?_ _) | (with_reducible refine RtS.drew ?_))); exact H2.out : RtS w _ p (w2.heap.size) (w.heap.size) lo hi a m (B, n, g) l))) (by first | omega | (simp; omega))).mono ?_; rintro e v3 ⟨y3, rfl, hy3, hc3, ho3⟩; have H3 := lH (RtS.next (by (repeat (first | (with_reducible refine RtS.alloc ?_ _) | (with_reducible refine RtS.drew ?_))); exact H2.out : RtS w _ p (w2.heap.size) (w.heap.size) lo hi a m (B, n, g) l) hc3 ho3); have N3 := lH (aa.only (by (repeat (first | (with_reducible refine aa.alloc ?_ _) | (with_reducible refine aa.drew ?_))); exact N2.out : aa _ wr.heap.size [.int .i64 m.width, .slice a.E m.es.length a.ce, .slice a.R m.rs.length a.cr, .slice a.H m.hs.length a.ch, .int .i64 (ae m.hs).size, .slice a.A1 (pk1 m.width m.es m.hs).length a.c1, .int .i64 (ae m.hs).taken, .slice a.A2 (pk2 m.width m.rs m.hs).length a.c2, .int .i64 (ae m.hs).num, .int .i64 (ae m.hs).size, .string (ae m.hs).root, .int .i64 (ae m.hs).taken, .string (ae m.hs).troot]) ho3 (by first | omega | (simp; omega))); have hs3 : v2.heap.size ≤ v3.heap.size := Nat.le_trans (by first | exact Nat.le_refl _ | (simp; done) | (simp; omega)) ho3.size; have HY3 : Hid (y3.size ≤ 20) := lH (fe hy3); clear hy3; clear hc3 ho3)) | ((go_at_call_of 31 (Value.int .i64 1000); refine (bU p n g 0 p B l 1000 _ (aG.get (RtS.c (by (repeat (first | (with_reducible refine RtS.alloc ?_ _) | (with_reducible refine RtS.drew ?_))); exact H3.out : RtS w _ p (w2.heap.size) (w.heap.size) lo hi a m (B, n, g) l))) (by omega) (by omega)).mono ?_; rintro e v4 ⟨y4, rfl, y40, y41, hc4, ho4⟩; have H4 := lH (RtS.next (by (repeat (first | (with_reducible refine RtS.alloc ?_ _) | (with_reducible refine RtS.drew ?_))); exact H3.out : RtS w _ p (w2.heap.size) (w.heap.size) lo hi a m (B, n, g) l) hc4 ho4); have N4 := lH (aa.only (by (repeat (first | (with_reducible refine aa.alloc ?_ _) | (with_reducible refine aa.drew ?_))); exact N3.out : aa _ wr.heap.size [.int .i64 m.width, .slice a.E m.es.length a.ce, .slice a.R m.rs.length a.cr, .slice a.H m.hs.length a.ch, .int .i64 (ae m.hs).size, .slice a.A1 (pk1 m.width m.es m.hs).length a.c1, .int .i64 (ae m.hs).taken, .slice a.A2 (pk2 m.width m.rs m.hs).length a.c2, .int .i64 (ae m.hs).num, .int .i64 (ae m.hs).size, .string (ae m.hs).root, .int .i64 (ae m.hs).taken, .string (ae m.hs).troot]) ho4 (by first | omega | (simp; omega))); have hs4 : v3.heap.size ≤ v4.heap.size := Nat.le_trans (by first | exact Nat.le_refl _ | (simp; done) | (simp; omega)) ho4.size; clear hc4 ho4)) | ((go_at_call_of 31 (Value.int .i64 2); refine (bU p n g 0 p B l 2 _ (aG.get (RtS.c (by (repeat (first | (with_reducible refine RtS.alloc ?_ _) | (with_reducible refine RtS.drew ?_))); exact H4.out : RtS w _ p (w2.heap.size) (w.heap.size) lo hi a m (B, n, g) l))) (by omega) (by omega)).mono ?_; rintro e v5 ⟨z5, rfl, z50, z51, hc5, ho5⟩; have H5 := lH (RtS.next (by (repeat (first | (with_reducible refine RtS.alloc ?_ _) | (with_reducible refine RtS.drew ?_))); exact H4.out : RtS w _ p (w2.heap.size) (w.heap.size) lo hi a m (B, n, g) l) hc5 ho5); have N5 := lH (aa.only (by (repeat (first | (with_reducible refine aa.alloc ?_ _) | (with_reducible refine aa.drew ?_))); exact N4.out : aa _ wr.heap.size [.int .i64 m.width, .slice a.E m.es.length a.ce, .slice a.R m.rs.length a.cr, .slice a.H m.hs.length a.ch, .int .i64 (ae m.hs).size, .slice a.A1 (pk1 m.width m.es m.hs).length a.c1, .int .i64 (ae m.hs).taken, .slice a.A2 (pk2 m.width m.rs m.hs).length a.c2, .int .i64 (ae m.hs).num, .int .i64 (ae m.hs).size, .string (ae m.hs).root, .int .i64 (ae m.hs).taken, .string (ae m.hs).troot]) ho5 (by first | omega | (simp; omega))); have hs5 : v4.heap.size ≤ v5.heap.size := Nat.le_trans (by first | exact Nat.le_refl _ | (simp; done) | (simp; omega)) ho5.size; obtain ⟨y5, rfl⟩ : ∃ y5 : Nat, z5 = y5 := ⟨z5.toNat, (by omega)⟩; clear hc5 ho5)) | ((go_at_call_of 34 (Value.int .i64 (y5 : Int)); refine (l01Text_c p n g 0 p B l y5 _ (aG.get (RtS.c (by (repeat (first | (with_reducible refine RtS.alloc ?_ _) | (with_reducible refine RtS.drew ?_))); exact H5.out : RtS w _ p (w2.heap.size) (w.heap.size) lo hi a m (B, n, g) l))) (by omega) (by omega)).mono ?_; rintro e v6 ⟨y6, rfl, hy6, hc6, ho6⟩; have H6 := lH (RtS.next (by (repeat (first | (with_reducible refine RtS.alloc ?_ _) | (with_reducible refine RtS.drew ?_))); exact H5.out : RtS w _ p (w2.heap.size) (w.heap.size) lo hi a m (B, n, g) l) hc6 ho6); have N6 := lH (aa.only (by (repeat (first | (with_reducible refine aa.alloc ?_ _) | (with_reducible refine aa.drew ?_))); exact N5.out : aa _ wr.heap.size [.int .i64 m.width, .slice a.E m.es.length a.ce, .slice a.R m.rs.length a.cr, .slice a.H m.hs.length a.ch, .int .i64 (ae m.hs).size, .slice a.A1 (pk1 m.width m.es m.hs).length a.c1, .int .i64 (ae m.hs).taken, .slice a.A2 (pk2 m.width m.rs m.hs).length a.c2, .int .i64 (ae m.hs).num, .int .i64 (ae m.hs).size, .string (ae m.hs).root, .int .i64 (ae m.hs).taken, .string (ae m.hs).troot]) ho6 (by first | omega | (simp; omega))); have hs6 : v5.heap.size ≤ v6.heap.size := Nat.le_trans (by first | exact Nat.le_refl _ | (simp; done) | (simp; omega)) ho6.size; have HY6 := lH hy6; clear hy6; clear hc6 ho6)) | ((go_at_call_of 31 (Value.int .i64 4); refine (bU p n g 0 p B l 4 _ (aG.get (RtS.c (by (repeat (first | (with_reducible refine RtS.alloc ?_ _) | (with_reducible refine RtS.drew ?_))); exact H6.out : RtS w _ p (w2.heap.size) (w.heap.size) lo hi a m (B, n, g) l))) (by omega) (by omega)).mono ?_; rintro e v7 ⟨z7, rfl, z70, z71, hc7, ho7⟩; have H7 := lH (RtS.next (by (repeat (first | (with_reducible refine RtS.alloc ?_ _) | (with_reducible refine RtS.drew ?_))); exact H6.out : RtS w _ p (w2.heap.size) (w.heap.size) lo hi a m (B, n, g) l) hc7 ho7); have N7 := lH (aa.only (by (repeat (first | (with_reducible refine aa.alloc ?_ _) | (with_reducible refine aa.drew ?_))); exact N6.out : aa _ wr.heap.size [.int .i64 m.width, .slice a.E m.es.length a.ce, .slice a.R m.rs.length a.cr, .slice a.H m.hs.length a.ch, .int .i64 (ae m.hs).size, .slice a.A1 (pk1 m.width m.es m.hs).length a.c1, .int .i64 (ae m.hs).taken, .slice a.A2 (pk2 m.width m.rs m.hs).length a.c2, .int .i64 (ae m.hs).num, .int .i64 (ae m.hs).size, .string (ae m.hs).root, .int .i64 (ae m.hs).taken, .string (ae m.hs).troot]) ho7 (by first | omega | (simp; omega))); have hs7 : v6.heap.size ≤ v7.heap.size := Nat.le_trans (by first | exact Nat.le_refl _ | (simp; done) | (simp; omega)) ho7.size; obtain ⟨y7, rfl⟩ : ∃ y7 : Nat, z7 = y7 := ⟨z7.toNat, (by omega)⟩; clear hc7 ho7)) | ((go_at_call_of 34 (Value.int .i64 (y7 : Int)); refine (l01Text_c p n g 0 p B l y7 _ (aG.get (RtS.c (by (repeat (first | (with_reducible refine RtS.alloc ?_ _) | (with_reducible refine RtS.drew ?_))); exact H7.out : RtS w _ p (w2.heap.size) (w.heap.size) lo hi a m (B, n, g) l))) (by omega) (by omega)).mono ?_; rintro e v8 ⟨y8, rfl, hy8, hc8, ho8⟩; have H8 := lH (RtS.next (by (repeat (first | (with_reducible refine RtS.alloc ?_ _) | (with_reducible refine RtS.drew ?_))); exact H7.out : RtS w _ p (w2.heap.size) (w.heap.size) lo hi a m (B, n, g) l) hc8 ho8); have N8 := lH (aa.only (by (repeat (first | (with_reducible refine aa.alloc ?_ _) | (with_reducible refine aa.drew ?_))); exact N7.out : aa _ wr.heap.size [.int .i64 m.width, .slice a.E m.es.length a.ce, .slice a.R m.rs.length a.cr, .slice a.H m.hs.length a.ch, .int .i64 (ae m.hs).size, .slice a.A1 (pk1 m.width m.es m.hs).length a.c1, .int .i64 (ae m.hs).taken, .slice a.A2 (pk2 m.width m.rs m.hs).length a.c2, .int .i64 (ae m.hs).num, .int .i64 (ae m.hs).size, .string (ae m.hs).root, .int .i64 (ae m.hs).taken, .string (ae m.hs).troot]) ho8 (by first | omega | (simp; omega))); have hs8 : v7.heap.size ≤ v8.heap.size := Nat.le_trans (by first | exact Nat.le_refl _ | (simp; done) | (simp; omega)) ho8.size; have HY8 := lH hy8; clear hy8; clear hc8 ho8)) | ((go_at_call 61; refine (l12Publish_c a m lo hi y3 y4 y6 y8 _ (RtS.k (by (repeat (first | (with_reducible refine RtS.alloc ?_ _) | (with_reducible refine RtS.drew ?_))); exact H8.out : RtS w _ p (w2.heap.size) (w.heap.size) lo hi a m (B, n, g) l)) (Nat.le_trans HY3.out (by omega)) (by constructor <;> omega) (by rw [HY6.out]; omega) (by rw [HY8.out]; omega)).mono ?_; rintro e v9 ⟨a', m', L, q9, g9, leaf, code, rfl, hnx, hb⟩; have H9 := lH (RtS.below (by (repeat (first | (with_reducible refine RtS.alloc ?_ _) | (with_reducible refine RtS.drew ?_))); exact H8.out : RtS w _ p (w2.heap.size) (w.heap.size) lo hi a m (B, n, g) l) hb); have N9 := lH (aa.below (by (repeat (first | (with_reducible refine aa.alloc ?_ _) | (with_reducible refine aa.drew ?_))); exact N8.out : aa _ wr.heap.size [.int .i64 m.width, .slice a.E m.es.length a.ce, .slice a.R m.rs.length a.cr, .slice a.H m.hs.length a.ch, .int .i64 (ae m.hs).size, .slice a.A1 (pk1 m.width m.es m.hs).length a.c1, .int .i64 (ae m.hs).taken, .slice a.A2 (pk2 m.width m.rs m.hs).length a.c2, .int .i64 (ae m.hs).num, .int .i64 (ae m.hs).size, .string (ae m.hs).root, .int .i64 (ae m.hs).taken, .string (ae m.hs).troot]) hb); have HK := lH hnx; have hs9 := hb.size; have hyx := N9.out.2.1; have hyf := N9.out.2.2; have hyk := N9.out.1; clear hnx hb)))
   clear hyx hyf hyk hkf hf2
   have hkf : wr.heap.size ≠ w2.heap.size ∧ wr.heap.size ≠ w.heap.size ∧ (wr.heap.size < lo ∨ hi ≤ wr.heap.size) ∧ p < wr.heap.size ∧ w.heap.size ≤ wr.heap.size := by have := H9.out.far; omega
   have hkl : wr.heap.size < v8.heap.size ∨ v9.heap.size ≤ wr.heap.size := by omega
   go_upto_region 17 with fail
   refine aC (fun wb hw => ?_)
   have hzb : v9.heap.size ≤ wb.heap.size := zA
   have H90 : Hid (RtS w wb p (w2.heap.size) (w.heap.size) lo hi a m (B, n, g) l) := by rw [Hid, hw]; (repeat (first | (with_reducible refine RtS.alloc ?_ _) | (with_reducible refine RtS.drew ?_) | (with_reducible refine RtS.setN ?_ hkf _ _))); exact H9.out
   have N90 : Hid (aa wb wr.heap.size [.int .i64 m'.width, .slice a'.E m'.es.length a'.ce, .slice a'.R m'.rs.length a'.cr, .slice a'.H m'.hs.length a'.ch, .int .i64 (ae m'.hs).size, .slice a'.A1 (pk1 m'.width m'.es m'.hs).length a'.c1, .int .i64 (ae m'.hs).taken, .slice a'.A2 (pk2 m'.width m'.rs m'.hs).length a'.c2, .int .i64 (ae m'.hs).num, .int .i64 (ae m'.hs).size, .string (ae m'.hs).root, .int .i64 (ae m'.hs).taken, .string (ae m'.hs).troot]) := by rw [Hid, hw]; apply aa.cast; (focus ((repeat (first | (with_reducible apply aa.alloc) | (with_reducible apply aa.drew) | (with_reducible apply aa.set1))); exact N9.out)); rfl
   have K90 : Hid (code = 0 → aH wb v8.heap.size v9.heap.size a' m' ∧ m'.width = m.width ∧ m'.es.length ≤ m.es.length + 1) := by
    rw [Hid, hw]; intro hc0; obtain ⟨q1, q2, q3⟩ := HK.out hc0; refine ⟨?_, q2, q3⟩
    (repeat (first | (with_reducible refine aH.alloc ?_ _) | (with_reducible refine aH.drew ?_) | (with_reducible refine aH.setBlk ?_ hkl _ _))); exact q1
   clear hw HK H9 N9; clear hxb hfb hkb; clear hxn hfn hkn
   by_cases hc : code = 0
   ·subst hc
    obtain ⟨hbk, hmw2, hml2⟩ := K90.out rfl
    have HBK := lH hbk
    have HMW2 := lH hmw2
    clear hbk K90 hmw2; have hxb := H90.out.b.2.1; have hfb := H90.out.b.2.2; have hkb := H90.out.b.1; have hxn := N90.out.2.1; have hfn := N90.out.2.2; have hkn := N90.out.1; have hf9 := H90.out.far
    have hz9 : v9.heap.size ≤ wb.heap.size := by omega
    go_wp2
    go_roundw
    case rel =>
     refine ⟨k + 1, a', m', v8.heap.size, v9.heap.size, by omega, by go_num, ⟨?_, ?_, ?_, ?_, ?_, by first | omega | (simp [World.setCell]; omega)⟩, by rw [HMW2.out]; exact HMW.out.1, by have := HMW.out.2; omega⟩
     ·apply aa.cast; (focus ((repeat (first | (with_reducible apply aa.alloc) | (with_reducible apply aa.drew) | (with_reducible apply aa.set1))); exact H90.out.b)); rfl
     ·have hne : w2.heap.size ≠ w.heap.size := by omega
      (repeat (first | (with_reducible refine aa.drew ?_) | (with_reducible refine aa.far hne _ ?_))); exact H90.out.r
     ·have hkb9 : w2.heap.size < v8.heap.size ∨ v9.heap.size ≤ w2.heap.size := by omega
      (repeat (first | (with_reducible refine aH.drew ?_) | (with_reducible refine aH.setBlk ?_ hkb9 _ _))); exact HBK.out
     ·have hkc9 : w2.heap.size < 0 ∨ p + 1 ≤ w2.heap.size := by omega
      (repeat (first | (with_reducible refine aG.drew ?_) | (with_reducible refine aG.setBlkR ?_ hkc9 _ _))); exact H90.out.c
     have hko9 : w.heap.size ≤ w2.heap.size := by omega
     (repeat (first | (with_reducible refine only_drew ?_) | (with_reducible refine only_new ?_ hko9 _))); exact H90.out.on
    case measure => simp [intOf]; omega
   have hc2 : (code == 0) = false := beq_eq_false_iff_ne.2 hc
   clear hc K90; go_wp2
   go_roundw
   case rel => exact ⟨k + 1, a, m, lo, hi, by omega, by go_num, H90.out, HMW.out.1, by have := HMW.out.2; omega⟩
   case measure => simp [intOf]; omega
  have hI : ¬ (k : Int) < d := by omega
  have hxb := H0.out.b.2.1; have hfb := H0.out.b.2.2; have hkb := H0.out.b.1; have hxr := H0.out.r.2.1; have hfr := H0.out.r.2.2; have hkr := H0.out.r.1; go_wp2
  refine ag (fun wz hw => ?_)
  have hzz : wr.heap.size ≤ wz.heap.size := zA
  have HZ : Hid (aa wz w.heap.size [.int .i64 m.width, .slice a.E m.es.length a.ce, .slice a.R m.rs.length a.cr, .slice a.H m.hs.length a.ch, .int .i64 (ae m.hs).size, .slice a.A1 (pk1 m.width m.es m.hs).length a.c1, .int .i64 (ae m.hs).taken, .slice a.A2 (pk2 m.width m.rs m.hs).length a.c2, .int .i64 (ae m.hs).num, .int .i64 (ae m.hs).size, .string (ae m.hs).root, .int .i64 (ae m.hs).taken, .string (ae m.hs).troot]) := by rw [Hid, hw]; apply aa.cast; (focus ((repeat (first | (with_reducible apply aa.alloc) | (with_reducible apply aa.drew) | (with_reducible apply aa.set1))); exact H0.out.r)); rfl
  have HZK : Hid (aH wz lo hi a m) := by
   have hkz : w.heap.size < lo ∨ hi ≤ w.heap.size := .inl (by omega)
   rw [Hid, hw]; (repeat (first | (with_reducible refine aH.alloc ?_ _) | (with_reducible refine aH.drew ?_) | (with_reducible refine aH.setBlk ?_ hkz _ _))); exact H0.out.k
  have HZC : Hid (aG wz 0 (p + 1) (B, n, g) l) := by
   have hkz : w.heap.size < 0 ∨ p + 1 ≤ w.heap.size := .inr (by omega)
   rw [Hid, hw]; (repeat (first | (with_reducible refine aG.alloc ?_ _) | (with_reducible refine aG.drew ?_) | (with_reducible refine aG.setBlkR ?_ hkz _ _))); exact H0.out.c
  have HZO : Hid (Only p (p + 1) w wz) := by
   have hkz : w.heap.size ≤ w.heap.size := Nat.le_refl _
   rw [Hid, hw]; (repeat (first | (with_reducible refine only_alloc ?_ _) | (with_reducible refine only_drew ?_) | (with_reducible refine only_new ?_ hkz _))); exact H0.out.on
  clear hw hxb hfb hkb hxr hfr hkr H0; have hxr := HZ.out.2.1
  refine bodyPost_ret (v := .agg #[.int .i64 m.width, .slice a.E m.es.length a.ce, .slice a.R m.rs.length a.cr, .slice a.H m.hs.length a.ch, .int .i64 (ae m.hs).size, .slice a.A1 (pk1 m.width m.es m.hs).length a.c1, .int .i64 (ae m.hs).taken, .slice a.A2 (pk2 m.width m.rs m.hs).length a.c2, .int .i64 (ae m.hs).num, .int .i64 (ae m.hs).size, .string (ae m.hs).root, .int .i64 (ae m.hs).taken, .string (ae m.hs).troot]) (by simp [results, Tryz.results30, go_sem, hxr]) rfl ?_
  exact ⟨a, m, rfl, ⟨HZK.out.mono (by omega) (by omega) (Nat.le_refl _), HMW.out.1, by have := HMW.out.2; omega⟩, aG.get HZC.out, HZO.out⟩
end
end Go.Proofs.YtoccjgcokffkbaaGreat
