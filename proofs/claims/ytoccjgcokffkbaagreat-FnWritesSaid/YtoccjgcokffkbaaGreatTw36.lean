/- Part 36 of the proof of FnWrites: lemmas and contracts. -/
import Derived.Test.YtoccjgcokffkbaaGreatTw35
namespace Go.Proofs.YtoccjgcokffkbaaGreat
set_option linter.unusedVariables false
set_option linter.unusedSimpArgs false
set_option maxHeartbeats 20000000
set_option maxRecDepth 100000
section
open Go.RowKit
theorem DrawRight_c (n g : Nat) (B : Option Addr) (l : List Int) (w : World) (hr : Rd w 0 w.heap.size B (bys l)) (hl : l.length = n) (hn : n ≤ 1048576) (hb : ∀ x ∈ l, 0 ≤ x ∧ x ≤ 255) :
  Calls Tryz.prog 9 #[.slice B n g] w fun e w' => ∃ (a : Bk) (m : Bm), e = .returned (.agg #[.int .i64 m.width, .slice a.E m.es.length a.ce, .slice a.R m.rs.length a.cr, .slice a.H m.hs.length a.ch, .int .i64 (ae m.hs).size, .slice a.A1 (pk1 m.width m.es m.hs).length a.c1, .int .i64 (ae m.hs).taken, .slice a.A2 (pk2 m.width m.rs m.hs).length a.c2, .int .i64 (ae m.hs).num, .int .i64 (ae m.hs).size, .string (ae m.hs).root, .int .i64 (ae m.hs).taken, .string (ae m.hs).troot]) ∧ (aH w' w.heap.size w'.heap.size a m ∧ m.es.length ≤ 24) ∧ Below w.heap.size w w' := by
 have HNEW := lH (fun W (r : Rd W 0 W.heap.size B (bys l)) => l01New_c n g 0 W.heap.size B l W r hl hn hb)
 have HB : Hid (Below w.heap.size w w) := Below.refl _ _
 have HOQ : Hid (Rd w (0) (w.heap.size) (B) (bys l)) := Rd.base hr
 clear hr hl hb
 go_enter Tryz.func9, Tryz.ntmps9
 go_wp2_with fail
 refine af (fun w1 hw => ?_)
 have hz1 : w.heap.size + 1 ≤ w1.heap.size := zA
 have hbn : Below w.heap.size w w1 := zB
 replace HB := bT HB hbn
 replace HOQ := lH (HOQ.out.below hbn)
 clear hbn
 have HXr : Hid (aa w1 (w.heap.size) [.int .i64 0, .slice none 0 0, .slice none 0 0, .slice none 0 0, .int .i64 0, .slice none 0 0, .int .i64 0, .slice none 0 0, .int .i64 0, .int .i64 0, .string ⟨#[]⟩, .int .i64 0, .string ⟨#[]⟩]) := zG13
 obtain ⟨hkr, hxr, hfr⟩ := HXr.out
 clear hw
 refine (HNEW.out _ HOQ.out.base).mono ?_
 rintro e w2 ⟨rfl, hcd, hpz, hb⟩
 have hzw2 : w1.heap.size ≤ w2.heap.size := hb.size
 replace HB := bT HB hb
 replace HOQ := lH (HOQ.out.below hb)
 replace HXr := nB HXr hb
 clear hxr hfr hkr
 obtain ⟨hkr, hxr, hfr⟩ := HXr.out
 clear hb
 have HOC : Hid (aG w2 (0) (w1.heap.size + 1) ((B, n, g)) (l)) := lH (aG.mk_ hcd)
 clear hcd HNEW
 clear HOQ
 obtain ⟨d0, hd0⟩ : ∃ d : Nat, 4 + n / 12 = d := ⟨_, rfl⟩
 have E1 : (4 : Int) + (n : Int) / 12 = (d0 : Int) := by omega
 by_cases h24 : 24 < d0
 ·have hI : (24 : Int) < (d0 : Int) := by omega
  have HRT := fun W x (hc : Code W w1.heap.size B n g 0 w1.heap.size l) (hp : w1.heap.size < W.heap.size) (x0 : 0 ≤ x) (x1 : x < 32) => l12Right_c hc hp (1 + x) (ax.2 ⟨by omega, by omega⟩) 24 (by omega)
  rw [show ((24 : Nat) : Int) = 24 from rfl] at HRT
  replace HRT := lH HRT
  clear hd0
  go_wp2_with fail
  refine af (fun w3 hw => ?_)
  have hz3 : w2.heap.size + 0 ≤ w3.heap.size := zA
  have hbn : Below w2.heap.size w2 w3 := zB
  replace HB := bT HB hbn; replace HOC := lH (HOC.out.below hbn); replace HXr := nB HXr hbn; clear hxr hfr hkr; obtain ⟨hkr, hxr, hfr⟩ := HXr.out; clear hbn; clear hw
  refine (bU w1.heap.size n g 0 w1.heap.size B l 32 _ (aG.get HOC.out) (by omega) (by omega)).mono ?_
  rintro e w4 ⟨x, rfl, x0, x1, hc, hb⟩
  have hzw4 : w3.heap.size ≤ w4.heap.size := hb.size
  replace HB := lH (au HB.out hb (by omega) HB.out.size)
  replace HXr := nO HXr hb
  clear hxr hfr hkr; obtain ⟨hkr, hxr, hfr⟩ := HXr.out; clear hb; clear HOC
  have HOC : Hid (aG w4 (0) (w1.heap.size + 1) ((B, n, g)) (l)) := lH (aG.mk_ hc)
  clear hc
  go_wp2_with fail
  refine af (fun w5 hw => ?_)
  have hz5 : w4.heap.size + 0 ≤ w5.heap.size := zA
  have hbn : Below w4.heap.size w4 w5 := zB
  replace HB := bT HB hbn; replace HOC := lH (HOC.out.below hbn); replace HXr := nB HXr hbn; clear hxr hfr hkr; obtain ⟨hkr, hxr, hfr⟩ := HXr.out; clear hbn; clear hw
  refine (HRT.out _ x (aG.get HOC.out) (by omega) x0 x1).mono ?_
  rintro e w6 ⟨a, m, rfl, ⟨hbk, hmw9, hml⟩, hc, hb⟩
  have hzw6 : w5.heap.size ≤ w6.heap.size := hb.size
  replace HB := lH (au HB.out hb (by omega) HB.out.size)
  replace HXr := nO HXr hb
  clear hxr hfr hkr; obtain ⟨hkr, hxr, hfr⟩ := HXr.out; clear hb; clear HOC
  have HOC : Hid (aG w6 (0) (w1.heap.size + 1) ((B, n, g)) (l)) := lH (aG.mk_ hc)
  clear hc
  have HOK : Hid (aH w6 (w5.heap.size) (w6.heap.size) (a) (m)) := lH hbk
  have HML := lH hml
  clear hbk hml hmw9; clear HOC; go_wp2
  refine ag (fun w7 hw => ?_)
  have hz7 : w6.heap.size + 0 ≤ w7.heap.size := zA
  replace HB : Hid (Below w.heap.size w w7) := zC HB
  replace HOK : Hid (aH w7 (w5.heap.size) (w6.heap.size) (a) (m)) := zLBrkK HOK
  replace HXr : Hid (aa w7 (w.heap.size) [.int .i64 m.width, .slice a.E m.es.length a.ce, .slice a.R m.rs.length a.cr, .slice a.H m.hs.length a.ch, .int .i64 (ae m.hs).size, .slice a.A1 (pk1 m.width m.es m.hs).length a.c1, .int .i64 (ae m.hs).taken, .slice a.A2 (pk2 m.width m.rs m.hs).length a.c2, .int .i64 (ae m.hs).num, .int .i64 (ae m.hs).size, .string (ae m.hs).root, .int .i64 (ae m.hs).taken, .string (ae m.hs).troot]) := zD HXr
  clear hxr hfr hkr; obtain ⟨hkr, hxr, hfr⟩ := HXr.out; clear hw
  refine bodyPost_ret (v := .agg #[.int .i64 m.width, .slice a.E m.es.length a.ce, .slice a.R m.rs.length a.cr, .slice a.H m.hs.length a.ch, .int .i64 (ae m.hs).size, .slice a.A1 (pk1 m.width m.es m.hs).length a.c1, .int .i64 (ae m.hs).taken, .slice a.A2 (pk2 m.width m.rs m.hs).length a.c2, .int .i64 (ae m.hs).num, .int .i64 (ae m.hs).size, .string (ae m.hs).root, .int .i64 (ae m.hs).taken, .string (ae m.hs).troot]) (by simp [results, Tryz.results9, go_sem, hxr]) rfl ?_
  exact ⟨a, m, rfl, ⟨HOK.out.mono (by omega) (by omega) (Nat.le_refl _), Nat.le_trans HML.out (by omega)⟩, HB.out⟩
 have hI : ¬ (24 : Int) < (d0 : Int) := by omega
 have HRT := lH (fun W x (hc : Code W w1.heap.size B n g 0 w1.heap.size l) (hp : w1.heap.size < W.heap.size) (x0 : 0 ≤ x) (x1 : x < 32) => l12Right_c hc hp (1 + x) (ax.2 ⟨by omega, by omega⟩) d0 (by omega))
 clear hd0
 go_wp2_with fail
 refine af (fun w3 hw => ?_)
 have hz3 : w2.heap.size + 0 ≤ w3.heap.size := zA
 have hbn : Below w2.heap.size w2 w3 := zB
 replace HB := bT HB hbn
 replace HOC := lH (HOC.out.below hbn)
 replace HXr := nB HXr hbn
 clear hxr hfr hkr
 obtain ⟨hkr, hxr, hfr⟩ := HXr.out
 clear hbn
 clear hw
 refine (bU w1.heap.size n g 0 w1.heap.size B l 32 _ (aG.get HOC.out) (by omega) (by omega)).mono ?_
 rintro e w4 ⟨x, rfl, x0, x1, hc, hb⟩
 have hzw4 : w3.heap.size ≤ w4.heap.size := hb.size
 replace HB := lH (au HB.out hb (by omega) HB.out.size)
 replace HXr := nO HXr hb
 clear hxr hfr hkr
 obtain ⟨hkr, hxr, hfr⟩ := HXr.out
 clear hb
 clear HOC
 have HOC : Hid (aG w4 (0) (w1.heap.size + 1) ((B, n, g)) (l)) := lH (aG.mk_ hc)
 clear hc
 go_wp2_with fail
 refine af (fun w5 hw => ?_)
 have hz5 : w4.heap.size + 0 ≤ w5.heap.size := zA
 have hbn : Below w4.heap.size w4 w5 := zB
 replace HB := bT HB hbn
 replace HOC := lH (HOC.out.below hbn)
 replace HXr := nB HXr hbn
 clear hxr hfr hkr
 obtain ⟨hkr, hxr, hfr⟩ := HXr.out
 clear hbn
 clear hw
 refine (HRT.out _ x (aG.get HOC.out) (by omega) x0 x1).mono ?_
 rintro e w6 ⟨a, m, rfl, ⟨hbk, hmw9, hml⟩, hc, hb⟩
 have hzw6 : w5.heap.size ≤ w6.heap.size := hb.size
 replace HB := lH (au HB.out hb (by omega) HB.out.size)
 replace HXr := nO HXr hb
 clear hxr hfr hkr
 obtain ⟨hkr, hxr, hfr⟩ := HXr.out
 clear hb
 clear HOC
 have HOC : Hid (aG w6 (0) (w1.heap.size + 1) ((B, n, g)) (l)) := lH (aG.mk_ hc)
 clear hc
 have HOK : Hid (aH w6 (w5.heap.size) (w6.heap.size) (a) (m)) := lH hbk
 have HML := lH hml
 clear hbk hml hmw9
 clear HOC
 go_wp2
 refine ag (fun w7 hw => ?_)
 have hz7 : w6.heap.size + 0 ≤ w7.heap.size := zA
 replace HB : Hid (Below w.heap.size w w7) := zC HB
 replace HOK : Hid (aH w7 (w5.heap.size) (w6.heap.size) (a) (m)) := zLBrkK HOK
 replace HXr : Hid (aa w7 (w.heap.size) [.int .i64 m.width, .slice a.E m.es.length a.ce, .slice a.R m.rs.length a.cr, .slice a.H m.hs.length a.ch, .int .i64 (ae m.hs).size, .slice a.A1 (pk1 m.width m.es m.hs).length a.c1, .int .i64 (ae m.hs).taken, .slice a.A2 (pk2 m.width m.rs m.hs).length a.c2, .int .i64 (ae m.hs).num, .int .i64 (ae m.hs).size, .string (ae m.hs).root, .int .i64 (ae m.hs).taken, .string (ae m.hs).troot]) := zD HXr
 clear hxr hfr hkr
 obtain ⟨hkr, hxr, hfr⟩ := HXr.out
 clear hw
 refine bodyPost_ret (v := .agg #[.int .i64 m.width, .slice a.E m.es.length a.ce, .slice a.R m.rs.length a.cr, .slice a.H m.hs.length a.ch, .int .i64 (ae m.hs).size, .slice a.A1 (pk1 m.width m.es m.hs).length a.c1, .int .i64 (ae m.hs).taken, .slice a.A2 (pk2 m.width m.rs m.hs).length a.c2, .int .i64 (ae m.hs).num, .int .i64 (ae m.hs).size, .string (ae m.hs).root, .int .i64 (ae m.hs).taken, .string (ae m.hs).troot]) (by simp [results, Tryz.results9, go_sem, hxr]) rfl ?_
 exact ⟨a, m, rfl, ⟨HOK.out.mono (by omega) (by omega) (Nat.le_refl _), Nat.le_trans HML.out (by omega)⟩, HB.out⟩
theorem DrawRightP_c (n g : Nat) (B : Option Addr) (l : List Int) (w : World) (hr : Rd w 0 w.heap.size B (bys l)) (hl : l.length = n) (hn : n ≤ 1048576) (hb : ∀ x ∈ l, 0 ≤ x ∧ x ≤ 255) :
  Calls Tryz.prog 9 #[.slice B n g] w fun e w' => ∃ (width : Int) (E R H A1 A2 : Option Addr) (ne nr nh ce cr ch c1 c2 m1 m2 : Nat) (es : List Ent) (rs : List Rcp) (hs : List Hd) (l1 l2 : List ByteArray) (h : Hd), e = .returned (.agg #[.int .i64 width, .slice E ne ce, .slice R nr cr, .slice H nh ch, .int .i64 h.size, .slice A1 m1 c1, .int .i64 h.taken, .slice A2 m2 c2, .int .i64 h.num, .int .i64 h.size, .string h.root, .int .i64 h.taken, .string h.troot]) ∧
   (aH w' w.heap.size w'.heap.size ⟨E, R, H, A1, A2, ce, cr, ch, c1, c2⟩ ⟨width, es, rs, hs⟩ ∧ es.length = ne ∧ rs.length = nr ∧ hs.length = nh ∧ pk1 width es hs = l1 ∧ pk2 width rs hs = l2 ∧ l1.length = m1 ∧ l2.length = m2 ∧ ae hs = h ∧ ne ≤ 24) ∧ Below w.heap.size w w' :=
 (DrawRight_c n g B l w hr hl hn hb).mono fun e w' ⟨a, m, he, ⟨hk, h24⟩, hb⟩ => ⟨m.width, a.E, a.R, a.H, a.A1, a.A2, _, _, _, a.ce, a.cr, a.ch, a.c1, a.c2, _, _, m.es, m.rs, m.hs, _, _, _, he, ⟨hk, rfl, rfl, rfl, rfl, rfl, rfl, rfl, rfl, h24⟩, hb⟩
structure DdS (w wx : World) (p k1 k2 k3 k4 : Nat) (c1 c2 c3 c4 : List Value) (c : Option Addr × Nat × Nat) (l : List Int) : Prop where
 b1 : aa wx k1 c1
 b2 : aa wx k2 c2
 b3 : aa wx k3 c3
 b4 : aa wx k4 c4
 c : aG wx 0 (p + 1) c l
 on : Below w.heap.size w wx
 far : w.heap.size ≤ p ∧ (k1 < p ∨ p < k1) ∧ (k2 < p ∨ p < k2) ∧ (k3 < p ∨ p < k3) ∧ (k4 < p ∨ p < k4)
section
variable {w wx wy : World} {p k1 k2 k3 k4 n g : Nat} {c1 c2 c3 c4 : List Value} {c : Option Addr × Nat × Nat} {l : List Int} {B : Option Addr}
theorem DdS.below (h : DdS w wx p k1 k2 k3 k4 c1 c2 c3 c4 c l) (hb : Below wx.heap.size wx wy) : DdS w wy p k1 k2 k3 k4 c1 c2 c3 c4 c l :=
 ⟨h.b1.below hb, h.b2.below hb, h.b3.below hb, h.b4.below hb, h.c.below hb, aj h.on hb h.on.size, h.far⟩
theorem DdS.alloc (h : DdS w wx p k1 k2 k3 k4 c1 c2 c3 c4 c l) (o : Obj) : DdS w (wx.alloc o) p k1 k2 k3 k4 c1 c2 c3 c4 c l := h.below ((Below.refl _ _).alloc (Nat.le_refl _) o)
theorem DdS.drew (h : DdS w wx p k1 k2 k3 k4 c1 c2 c3 c4 c l) : DdS w wx.drew p k1 k2 k3 k4 c1 c2 c3 c4 c l := h.below (Below.refl _ _).drew
theorem DdS.next (h : DdS w wx p k1 k2 k3 k4 c1 c2 c3 c4 (B, n, g) l) (hc : Code wy p B n g 0 p l) (ho : Only p (p + 1) wx wy) : DdS w wy p k1 k2 k3 k4 c1 c2 c3 c4 (B, n, g) l :=
 ⟨h.b1.only ho (by have := h.far; omega), h.b2.only ho (by have := h.far; omega), h.b3.only ho (by have := h.far; omega), h.b4.only ho (by have := h.far; omega), aG.mk_ hc, au h.on ho h.far.1 h.on.size, h.far⟩
end
def DrawnE (x : Ent) : Prop := bW x.topic = true ∧ x.index = 0 ∧ (0 ≤ x.time ∧ x.time < 100) ∧ x.key.size ≤ 2 ∧ x.body.size ≤ 8
def DrawnR (r : Rcp) : Prop := bW r.reader = true ∧ bW r.topic = true ∧ 0 ≤ r.index ∧ r.index < 3
def rdN : List ByteArray := [⟨#[97, 110, 110]⟩, ⟨#[98, 111, 98]⟩, ⟨#[101, 118, 101]⟩]
theorem rdN_ok : ∀ t ∈ rdN, bW t = true := by
 intro t ht
 simp only [rdN, List.mem_cons, List.not_mem_nil, or_false] at ht
 rcases ht with rfl | rfl | rfl <;> decide +kernel
theorem DrawDeed_c (n g : Nat) (B : Option Addr) (l : List Int) (w : World) (hr : Rd w 0 w.heap.size B (bys l)) (hl : l.length = n) (hn : n ≤ 1048576) (hb : ∀ x ∈ l, 0 ≤ x ∧ x ≤ 255) :
  Calls Tryz.prog 11 #[.slice B n g] w fun e w' => ∃ (kd : Int) (x : Ent) (r : Rcp) (A : Option Addr), e = .returned (.tuple #[.int .i64 kd, .agg #[.string x.topic, .int .i64 x.index, .int .i64 x.time, .string x.key, .string x.body], .agg #[.string r.reader, .string r.topic, .int .i64 r.index], .slice A 3 3]) ∧ ((0 ≤ kd ∧ kd < 3) ∧ DrawnE x ∧ DrawnR r) ∧ Below w.heap.size w w' := by
 have HNEW := lH (fun W (r : Rd W 0 W.heap.size B (bys l)) => l01New_c n g 0 W.heap.size B l W r hl hn hb)
 have HB : Hid (Below w.heap.size w w) := Below.refl _ _
 have HOQ : Hid (Rd w (0) (w.heap.size) (B) (bys l)) := Rd.base hr
 clear hr hl hb
 go_enter Tryz.func11, Tryz.ntmps11
 go_wp2_with fail
 refine af (fun w1 hw => ?_)
 have hz1 : w.heap.size + 2 ≤ w1.heap.size := zA
 have hbn : Below w.heap.size w w1 := zB
 replace HB := bT HB hbn
 replace HOQ := lH (HOQ.out.below hbn)
 clear hbn
 have HXe : Hid (aa w1 (w.heap.size) [.string ⟨#[]⟩, .int .i64 0, .int .i64 0, .string ⟨#[]⟩, .string ⟨#[]⟩]) := zG5
 obtain ⟨hke, hxe, hfe⟩ := HXe.out
 have HXr : Hid (aa w1 (w.heap.size + 1) [.string ⟨#[]⟩, .string ⟨#[]⟩, .int .i64 0]) := zG3
 obtain ⟨hkr, hxr, hfr⟩ := HXr.out
 clear hw
 refine (HNEW.out _ HOQ.out.base).mono ?_
 rintro e w2 ⟨rfl, hcd, hpz, hb⟩
 have hzw2 : w1.heap.size ≤ w2.heap.size := hb.size
 replace HB := bT HB hb
 replace HOQ := lH (HOQ.out.below hb)
 replace HXe := nB HXe hb
 clear hxe hfe hke
 obtain ⟨hke, hxe, hfe⟩ := HXe.out
 replace HXr := nB HXr hb
 clear hxr hfr hkr
 obtain ⟨hkr, hxr, hfr⟩ := HXr.out
 clear hb
 have HOC : Hid (aG w2 (0) (w1.heap.size + 1) ((B, n, g)) (l)) := lH (aG.mk_ hcd)
 clear hcd HNEW
 clear HOQ
 go_wp2_with fail
 refine af (fun w3 hw => ?_)
 have hz3 : w2.heap.size + 0 ≤ w3.heap.size := zA
 have hbn : Below w2.heap.size w2 w3 := zB
 replace HB := bT HB hbn
 replace HOC := lH (HOC.out.below hbn)
 replace HXe := nB HXe hbn
 clear hxe hfe hke
 obtain ⟨hke, hxe, hfe⟩ := HXe.out
 replace HXr := nB HXr hbn
 clear hxr hfr hkr
 obtain ⟨hkr, hxr, hfr⟩ := HXr.out
 clear hbn
 clear hw
 refine (bU w1.heap.size n g 0 w1.heap.size B l 3 _ (aG.get HOC.out) (by omega) (by omega)).mono ?_
 rintro e w4 ⟨kd, rfl, k0, k1, hc, hb⟩
 have hzw4 : w3.heap.size ≤ w4.heap.size := hb.size
 replace HB := lH (au HB.out hb (by omega) HB.out.size)
 replace HXe := nO HXe hb
 clear hxe hfe hke
 obtain ⟨hke, hxe, hfe⟩ := HXe.out
 replace HXr := nO HXr hb
 clear hxr hfr hkr
 obtain ⟨hkr, hxr, hfr⟩ := HXr.out
 clear hb
 clear HOC
 have HOC : Hid (aG w4 (0) (w1.heap.size + 1) ((B, n, g)) (l)) := lH (aG.mk_ hc)
 clear hc
 go_wp2_with fail
 refine af (fun w5 hw => ?_)
 have hz5 : w4.heap.size + 0 ≤ w5.heap.size := zA
 have hbn : Below w4.heap.size w4 w5 := zB
 replace HB := bT HB hbn
 replace HOC := lH (HOC.out.below hbn)
 replace HXe := nB HXe hbn
 clear hxe hfe hke
 obtain ⟨hke, hxe, hfe⟩ := HXe.out
 replace HXr := nB HXr hbn
 clear hxr hfr hkr
 obtain ⟨hkr, hxr, hfr⟩ := HXr.out
 clear hbn
 clear hw
 refine (l09Topic_c (aG.get HOC.out) (by omega)).mono ?_
 rintro e w6 ⟨y3, rfl, hy3, hc, hb⟩
 have hzw6 : w5.heap.size ≤ w6.heap.size := hb.size
 replace HB := lH (au HB.out hb (by omega) HB.out.size)
 replace HXe := nO HXe hb
 clear hxe hfe hke
 obtain ⟨hke, hxe, hfe⟩ := HXe.out
 replace HXr := nO HXr hb
 clear hxr hfr hkr
 obtain ⟨hkr, hxr, hfr⟩ := HXr.out
 clear hb
 clear HOC
 have HOC : Hid (aG w6 (0) (w1.heap.size + 1) ((B, n, g)) (l)) := lH (aG.mk_ hc)
 clear hc
 go_wp2_with fail
 refine af (fun w7 hw => ?_)
 have hz7 : w6.heap.size + 0 ≤ w7.heap.size := zA
 have hbn : Below w6.heap.size w6 w7 := zB
 replace HB := bT HB hbn
 replace HOC := lH (HOC.out.below hbn)
 replace HXe := nB HXe hbn
 clear hxe hfe hke
 obtain ⟨hke, hxe, hfe⟩ := HXe.out
 replace HXr := nB HXr hbn
 clear hxr hfr hkr
 obtain ⟨hkr, hxr, hfr⟩ := HXr.out
 clear hbn
 clear hw
 refine (bU w1.heap.size n g 0 w1.heap.size B l 100 _ (aG.get HOC.out) (by omega) (by omega)).mono ?_
 rintro e w8 ⟨y4, rfl, y40, y41, hc, hb⟩
 have hzw8 : w7.heap.size ≤ w8.heap.size := hb.size
 replace HB := lH (au HB.out hb (by omega) HB.out.size)
 replace HXe := nO HXe hb
 clear hxe hfe hke
 obtain ⟨hke, hxe, hfe⟩ := HXe.out
 replace HXr := nO HXr hb
 clear hxr hfr hkr
 obtain ⟨hkr, hxr, hfr⟩ := HXr.out
 clear hb
 clear HOC
 have HOC : Hid (aG w8 (0) (w1.heap.size + 1) ((B, n, g)) (l)) := lH (aG.mk_ hc)
 clear hc
 go_wp2_with fail
 refine af (fun w9 hw => ?_)
 have hz9 : w8.heap.size + 0 ≤ w9.heap.size := zA
 have hbn : Below w8.heap.size w8 w9 := zB
 replace HB := bT HB hbn
 replace HOC := lH (HOC.out.below hbn)
 replace HXe := nB HXe hbn
 clear hxe hfe hke
 obtain ⟨hke, hxe, hfe⟩ := HXe.out
 replace HXr := nB HXr hbn
 clear hxr hfr hkr
 obtain ⟨hkr, hxr, hfr⟩ := HXr.out
 clear hbn
 clear hw
 refine (bU w1.heap.size n g 0 w1.heap.size B l 3 _ (aG.get HOC.out) (by omega) (by omega)).mono ?_
 rintro e w10 ⟨z5, rfl, z50, z51, hc, hb⟩
 have hzw10 : w9.heap.size ≤ w10.heap.size := hb.size
 replace HB := lH (au HB.out hb (by omega) HB.out.size)
 replace HXe := nO HXe hb
 clear hxe hfe hke
 obtain ⟨hke, hxe, hfe⟩ := HXe.out
 replace HXr := nO HXr hb
 clear hxr hfr hkr
 obtain ⟨hkr, hxr, hfr⟩ := HXr.out
 clear hb
 clear HOC
 have HOC : Hid (aG w10 (0) (w1.heap.size + 1) ((B, n, g)) (l)) := lH (aG.mk_ hc)
 clear hc
 obtain ⟨y5, rfl⟩ : ∃ y5 : Nat, z5 = y5 := ⟨z5.toNat, by omega⟩
 go_wp2_with fail
 refine af (fun w11 hw => ?_)
 have hz11 : w10.heap.size + 0 ≤ w11.heap.size := zA
 have hbn : Below w10.heap.size w10 w11 := zB
 replace HB := bT HB hbn
 replace HOC := lH (HOC.out.below hbn)
 replace HXe := nB HXe hbn
 clear hxe hfe hke
 obtain ⟨hke, hxe, hfe⟩ := HXe.out
 replace HXr := nB HXr hbn
 clear hxr hfr hkr
 obtain ⟨hkr, hxr, hfr⟩ := HXr.out
 clear hbn
 clear hw
 refine (l01Text_c w1.heap.size n g 0 w1.heap.size B l y5 _ (aG.get HOC.out) (by omega) (by omega)).mono ?_
 rintro e w12 ⟨y6, rfl, hy6, hc, hb⟩
 have hzw12 : w11.heap.size ≤ w12.heap.size := hb.size
 replace HB := lH (au HB.out hb (by omega) HB.out.size)
 replace HXe := nO HXe hb
 clear hxe hfe hke
 obtain ⟨hke, hxe, hfe⟩ := HXe.out
 replace HXr := nO HXr hb
 clear hxr hfr hkr
 obtain ⟨hkr, hxr, hfr⟩ := HXr.out
 clear hb
 clear HOC
 have HOC : Hid (aG w12 (0) (w1.heap.size + 1) ((B, n, g)) (l)) := lH (aG.mk_ hc)
 clear hc
 go_wp2_with fail
 refine af (fun w13 hw => ?_)
 have hz13 : w12.heap.size + 0 ≤ w13.heap.size := zA
 have hbn : Below w12.heap.size w12 w13 := zB
 replace HB := bT HB hbn
 replace HOC := lH (HOC.out.below hbn)
 replace HXe := nB HXe hbn
 clear hxe hfe hke
 obtain ⟨hke, hxe, hfe⟩ := HXe.out
 replace HXr := nB HXr hbn
 clear hxr hfr hkr
 obtain ⟨hkr, hxr, hfr⟩ := HXr.out
 clear hbn
 clear hw
 refine (bU w1.heap.size n g 0 w1.heap.size B l 9 _ (aG.get HOC.out) (by omega) (by omega)).mono ?_
 rintro e w14 ⟨z7, rfl, z70, z71, hc, hb⟩
 have hzw14 : w13.heap.size ≤ w14.heap.size := hb.size
 replace HB := lH (au HB.out hb (by omega) HB.out.size)
 replace HXe := nO HXe hb
 clear hxe hfe hke
 obtain ⟨hke, hxe, hfe⟩ := HXe.out
 replace HXr := nO HXr hb
 clear hxr hfr hkr
 obtain ⟨hkr, hxr, hfr⟩ := HXr.out
 clear hb
 clear HOC
 have HOC : Hid (aG w14 (0) (w1.heap.size + 1) ((B, n, g)) (l)) := lH (aG.mk_ hc)
 clear hc
 obtain ⟨y7, rfl⟩ : ∃ y7 : Nat, z7 = y7 := ⟨z7.toNat, by omega⟩
 go_wp2_with fail
 refine af (fun w15 hw => ?_)
 have hz15 : w14.heap.size + 0 ≤ w15.heap.size := zA
 have hbn : Below w14.heap.size w14 w15 := zB
 replace HB := bT HB hbn
 replace HOC := lH (HOC.out.below hbn)
 replace HXe := nB HXe hbn
 clear hxe hfe hke
 obtain ⟨hke, hxe, hfe⟩ := HXe.out
 replace HXr := nB HXr hbn
 clear hxr hfr hkr
 obtain ⟨hkr, hxr, hfr⟩ := HXr.out
 clear hbn
 clear hw
 refine (l01Text_c w1.heap.size n g 0 w1.heap.size B l y7 _ (aG.get HOC.out) (by omega) (by omega)).mono ?_
 rintro e w16 ⟨y8, rfl, hy8, hc, hb⟩
 have hzw16 : w15.heap.size ≤ w16.heap.size := hb.size
 replace HB := lH (au HB.out hb (by omega) HB.out.size)
 replace HXe := nO HXe hb
 clear hxe hfe hke
 obtain ⟨hke, hxe, hfe⟩ := HXe.out
 replace HXr := nO HXr hb
 clear hxr hfr hkr
 obtain ⟨hkr, hxr, hfr⟩ := HXr.out
 clear hb
 clear HOC
 have HOC : Hid (aG w16 (0) (w1.heap.size + 1) ((B, n, g)) (l)) := lH (aG.mk_ hc)
 clear hc
 have HXE : Hid (DrawnE ⟨y3, 0, y4, y6, y8⟩) := lH ⟨hy3, rfl, ⟨y40, y41⟩, by show y6.size ≤ 2; omega, by show y8.size ≤ 8; omega⟩
 clear hy3 hy6 hy8 y40 y41 z50 z51 z70 z71
 go_wp2_with fail
 refine af (fun w17 hw => ?_)
 have hz17 : w16.heap.size + 2 ≤ w17.heap.size := zA
 have hbn : Below w16.heap.size w16 w17 := zB
 replace HB := bT HB hbn
 replace HOC := lH (HOC.out.below hbn)
 replace HXe := nB HXe hbn
 clear hxe hfe hke
 obtain ⟨hke, hxe, hfe⟩ := HXe.out
 replace HXr := nB HXr hbn
 clear hxr hfr hkr
 obtain ⟨hkr, hxr, hfr⟩ := HXr.out
 clear hbn
 have HXx : Hid (aa w17 (w16.heap.size) [.string y3, .int .i64 0, .int .i64 y4, .string y6, .string y8]) := zG5
 obtain ⟨hkx, hxx, hfx⟩ := HXx.out
 have HXz : Hid (aa w17 (w16.heap.size + 1) [.string ⟨#[97, 110, 110]⟩, .string ⟨#[98, 111, 98]⟩, .string ⟨#[101, 118, 101]⟩]) := zG3
 obtain ⟨hkz, hxz, hfz⟩ := HXz.out
 clear hw
 refine (l01Pick_c (aG.get HOC.out) _ 3 3 _ _ rdN (rd_strs HXz.out rfl) rfl (by omega) (by omega) (by omega)).mono ?_
 rintro e w18 ⟨u3, rfl, hu3, hc, hb⟩
 have hzw18 : w17.heap.size ≤ w18.heap.size := hb.size
 replace HB := lH (au HB.out hb (by omega) HB.out.size)
 replace HXe := nO HXe hb
 clear hxe hfe hke
 obtain ⟨hke, hxe, hfe⟩ := HXe.out
 replace HXr := nO HXr hb
 clear hxr hfr hkr
 obtain ⟨hkr, hxr, hfr⟩ := HXr.out
 replace HXx := nO HXx hb
 clear hxx hfx hkx
 obtain ⟨hkx, hxx, hfx⟩ := HXx.out
 replace HXz := nO HXz hb
 clear hxz hfz hkz
 obtain ⟨hkz, hxz, hfz⟩ := HXz.out
 clear hb
 clear HOC
 have HOC : Hid (aG w18 (0) (w1.heap.size + 1) ((B, n, g)) (l)) := lH (aG.mk_ hc)
 clear hc
 go_wp2_with fail
 refine af (fun w19 hw => ?_)
 have hz19 : w18.heap.size + 0 ≤ w19.heap.size := zA
 have hbn : Below w18.heap.size w18 w19 := zB
 replace HB := bT HB hbn
 replace HOC := lH (HOC.out.below hbn)
 replace HXe := nB HXe hbn
 clear hxe hfe hke
 obtain ⟨hke, hxe, hfe⟩ := HXe.out
 replace HXr := nB HXr hbn
 clear hxr hfr hkr
 obtain ⟨hkr, hxr, hfr⟩ := HXr.out
 replace HXx := nB HXx hbn
 clear hxx hfx hkx
 obtain ⟨hkx, hxx, hfx⟩ := HXx.out
 replace HXz := nB HXz hbn
 clear hxz hfz hkz
 obtain ⟨hkz, hxz, hfz⟩ := HXz.out
 clear hbn
 clear hw
 refine (l09Topic_c (aG.get HOC.out) (by omega)).mono ?_
 rintro e w20 ⟨u4, rfl, hu4, hc, hb⟩
 have hzw20 : w19.heap.size ≤ w20.heap.size := hb.size
 replace HB := lH (au HB.out hb (by omega) HB.out.size)
 replace HXe := nO HXe hb
 clear hxe hfe hke
 obtain ⟨hke, hxe, hfe⟩ := HXe.out
 replace HXr := nO HXr hb
 clear hxr hfr hkr
 obtain ⟨hkr, hxr, hfr⟩ := HXr.out
 replace HXx := nO HXx hb
 clear hxx hfx hkx
 obtain ⟨hkx, hxx, hfx⟩ := HXx.out
 replace HXz := nO HXz hb
 clear hxz hfz hkz
 obtain ⟨hkz, hxz, hfz⟩ := HXz.out
 clear hb
 clear HOC
 have HOC : Hid (aG w20 (0) (w1.heap.size + 1) ((B, n, g)) (l)) := lH (aG.mk_ hc)
 clear hc
 go_wp2_with fail
 refine af (fun w21 hw => ?_)
 have hz21 : w20.heap.size + 0 ≤ w21.heap.size := zA
 have hbn : Below w20.heap.size w20 w21 := zB
 replace HB := bT HB hbn
 replace HOC := lH (HOC.out.below hbn)
 replace HXe := nB HXe hbn
 clear hxe hfe hke
 obtain ⟨hke, hxe, hfe⟩ := HXe.out
 replace HXr := nB HXr hbn
 clear hxr hfr hkr
 obtain ⟨hkr, hxr, hfr⟩ := HXr.out
 replace HXx := nB HXx hbn
 clear hxx hfx hkx
 obtain ⟨hkx, hxx, hfx⟩ := HXx.out
 replace HXz := nB HXz hbn
 clear hxz hfz hkz
 obtain ⟨hkz, hxz, hfz⟩ := HXz.out
 clear hbn
 clear hw
 refine (bU w1.heap.size n g 0 w1.heap.size B l 3 _ (aG.get HOC.out) (by omega) (by omega)).mono ?_
 rintro e w22 ⟨u5, rfl, u50, u51, hc, hb⟩
 have hzw22 : w21.heap.size ≤ w22.heap.size := hb.size
 replace HB := lH (au HB.out hb (by omega) HB.out.size)
 replace HXe := nO HXe hb
 clear hxe hfe hke
 obtain ⟨hke, hxe, hfe⟩ := HXe.out
 replace HXr := nO HXr hb
 clear hxr hfr hkr
 obtain ⟨hkr, hxr, hfr⟩ := HXr.out
 replace HXx := nO HXx hb
 clear hxx hfx hkx
 obtain ⟨hkx, hxx, hfx⟩ := HXx.out
 replace HXz := nO HXz hb
 clear hxz hfz hkz
 obtain ⟨hkz, hxz, hfz⟩ := HXz.out
 clear hb
 clear HOC
 have HOC : Hid (aG w22 (0) (w1.heap.size + 1) ((B, n, g)) (l)) := lH (aG.mk_ hc)
 clear hc
 have HXR : Hid (DrawnR ⟨u3, u4, u5⟩) := lH ⟨rdN_ok _ hu3, hu4, u50, u51⟩
 clear hu3 hu4 u50 u51
 clear hxz hfz hkz HXz
 go_upto_region 5 with fail
 refine aC (fun w23 hw => ?_)
 have hz23 : w22.heap.size + 1 ≤ w23.heap.size := zA
 have hbn : Below w22.heap.size w22 w23 := zB
 replace HB := bT HB hbn
 replace HOC := lH (HOC.out.below hbn)
 replace HXe := nB HXe hbn
 clear hxe hfe hke
 obtain ⟨hke, hxe, hfe⟩ := HXe.out
 replace HXr := nB HXr hbn
 clear hxr hfr hkr
 obtain ⟨hkr, hxr, hfr⟩ := HXr.out
 replace HXx := nB HXx hbn
 clear hxx hfx hkx
 obtain ⟨hkx, hxx, hfx⟩ := HXx.out
 clear hbn
 have HXy : Hid (aa w23 (w22.heap.size) [.string u3, .string u4, .int .i64 u5]) := zG3
 obtain ⟨hky, hxy, hfy⟩ := HXy.out
 clear hw
 have H0 : Hid (DdS w w23 w1.heap.size ((w16.heap.size)) ((w22.heap.size)) ((w.heap.size)) ((w.heap.size + 1)) [.string y3, .int .i64 0, .int .i64 y4, .string y6, .string y8] [.string u3, .string u4, .int .i64 u5] [.string ⟨#[]⟩, .int .i64 0, .int .i64 0, .string ⟨#[]⟩, .string ⟨#[]⟩] [.string ⟨#[]⟩, .string ⟨#[]⟩, .int .i64 0] (B, n, g) l) := lH ⟨HXx.out, HXy.out, HXe.out, HXr.out, HOC.out, HB.out, by omega, by omega, by omega, by omega, by omega⟩
 have hpc : w1.heap.size < w23.heap.size := by omega
 have hne : (w.heap.size) ≠ (w.heap.size + 1) := by omega
 have hwe : w.heap.size ≤ (w.heap.size) := by omega
 have hwr : w.heap.size ≤ (w.heap.size + 1) := by omega
 have hee := HXe.out.2.2
 have hrr := HXr.out.2.2
 go_region_held3 (fun w' => (∀ o, w'.cell? ⟨(w16.heap.size), o, none⟩ = [.string y3, .int .i64 0, .int .i64 y4, .string y6, .string y8][o]?) ∧ ∀ o, w'.cell? ⟨(w22.heap.size), o, none⟩ = [.string u3, .string u4, .int .i64 u5][o]?) (first | exact ⟨(by (repeat (first | (with_reducible refine aa.alloc ?_ _) | (with_reducible refine aa.drew ?_) | (with_reducible refine aa.far (by omega) _ ?_))); with_reducible exact H3.out.b1 : aa _ _ [.string y3, .int .i64 0, .int .i64 y4, .string y6, .string y8]).2.1, (by (repeat (first | (with_reducible refine aa.alloc ?_ _) | (with_reducible refine aa.drew ?_) | (with_reducible refine aa.far (by omega) _ ?_))); with_reducible exact H3.out.b2 : aa _ _ [.string u3, .string u4, .int .i64 u5]).2.1⟩ | exact ⟨(by (repeat (first | (with_reducible refine aa.alloc ?_ _) | (with_reducible refine aa.drew ?_) | (with_reducible refine aa.far (by omega) _ ?_))); with_reducible exact H2.out.b1 : aa _ _ [.string y3, .int .i64 0, .int .i64 y4, .string y6, .string y8]).2.1, (by (repeat (first | (with_reducible refine aa.alloc ?_ _) | (with_reducible refine aa.drew ?_) | (with_reducible refine aa.far (by omega) _ ?_))); with_reducible exact H2.out.b2 : aa _ _ [.string u3, .string u4, .int .i64 u5]).2.1⟩ | exact ⟨(by (repeat (first | (with_reducible refine aa.alloc ?_ _) | (with_reducible refine aa.drew ?_) | (with_reducible refine aa.far (by omega) _ ?_))); with_reducible exact H1.out.b1 : aa _ _ [.string y3, .int .i64 0, .int .i64 y4, .string y6, .string y8]).2.1, (by (repeat (first | (with_reducible refine aa.alloc ?_ _) | (with_reducible refine aa.drew ?_) | (with_reducible refine aa.far (by omega) _ ?_))); with_reducible exact H1.out.b2 : aa _ _ [.string u3, .string u4, .int .i64 u5]).2.1⟩ | exact ⟨(by (repeat (first | (with_reducible refine aa.alloc ?_ _) | (with_reducible refine aa.drew ?_) | (with_reducible refine aa.far (by omega) _ ?_))); with_reducible exact H0.out.b1 : aa _ _ [.string y3, .int .i64 0, .int .i64 y4, .string y6, .string y8]).2.1, (by (repeat (first | (with_reducible refine aa.alloc ?_ _) | (with_reducible refine aa.drew ?_) | (with_reducible refine aa.far (by omega) _ ?_))); with_reducible exact H0.out.b2 : aa _ _ [.string u3, .string u4, .int .i64 u5]).2.1⟩) (first | ((go_at_call_of 31 (Value.int .i64 2); refine (bU w1.heap.size n g 0 w1.heap.size B l 2 _ (aG.get (DdS.c (by (repeat (first | (with_reducible refine DdS.alloc ?_ _) | (with_reducible refine DdS.drew ?_))); exact H0.out : DdS w _ w1.heap.size ((w16.heap.size)) ((w22.heap.size)) ((w.heap.size)) ((w.heap.size + 1)) [.string y3, .int .i64 0, .int .i64 y4, .string y6, .string y8] [.string u3, .string u4, .int .i64 u5] [.string ⟨#[]⟩, .int .i64 0, .int .i64 0, .string ⟨#[]⟩, .string ⟨#[]⟩] [.string ⟨#[]⟩, .string ⟨#[]⟩, .int .i64 0] (B, n, g) l))) (by omega) (by omega)).mono ?_; rintro e v1 ⟨t1, rfl, _, _, hc1, ho1⟩; have H1 := lH (DdS.next (by (repeat (first | (with_reducible refine DdS.alloc ?_ _) | (with_reducible refine DdS.drew ?_))); exact H0.out : DdS w _ w1.heap.size ((w16.heap.size)) ((w22.heap.size)) ((w.heap.size)) ((w.heap.size + 1)) [.string y3, .int .i64 0, .int .i64 y4, .string y6, .string y8] [.string u3, .string u4, .int .i64 u5] [.string ⟨#[]⟩, .int .i64 0, .int .i64 0, .string ⟨#[]⟩, .string ⟨#[]⟩] [.string ⟨#[]⟩, .string ⟨#[]⟩, .int .i64 0] (B, n, g) l) hc1 ho1); clear hc1 ho1)) | ((go_at_call_of 31 (Value.int .i64 60); refine (bU w1.heap.size n g 0 w1.heap.size B l 60 _ (aG.get (DdS.c (by (repeat (first | (with_reducible refine DdS.alloc ?_ _) | (with_reducible refine DdS.drew ?_))); exact H1.out : DdS w _ w1.heap.size ((w16.heap.size)) ((w22.heap.size)) ((w.heap.size)) ((w.heap.size + 1)) [.string y3, .int .i64 0, .int .i64 y4, .string y6, .string y8] [.string u3, .string u4, .int .i64 u5] [.string ⟨#[]⟩, .int .i64 0, .int .i64 0, .string ⟨#[]⟩, .string ⟨#[]⟩] [.string ⟨#[]⟩, .string ⟨#[]⟩, .int .i64 0] (B, n, g) l))) (by omega) (by omega)).mono ?_; rintro e v2 ⟨t2, rfl, _, _, hc2, ho2⟩; have H2 := lH (DdS.next (by (repeat (first | (with_reducible refine DdS.alloc ?_ _) | (with_reducible refine DdS.drew ?_))); exact H1.out : DdS w _ w1.heap.size ((w16.heap.size)) ((w22.heap.size)) ((w.heap.size)) ((w.heap.size + 1)) [.string y3, .int .i64 0, .int .i64 y4, .string y6, .string y8] [.string u3, .string u4, .int .i64 u5] [.string ⟨#[]⟩, .int .i64 0, .int .i64 0, .string ⟨#[]⟩, .string ⟨#[]⟩] [.string ⟨#[]⟩, .string ⟨#[]⟩, .int .i64 0] (B, n, g) l) hc2 ho2); clear hc2 ho2)) | ((go_at_call_of 31 (Value.int .i64 4); refine (bU w1.heap.size n g 0 w1.heap.size B l 4 _ (aG.get (DdS.c (by (repeat (first | (with_reducible refine DdS.alloc ?_ _) | (with_reducible refine DdS.drew ?_))); exact H2.out : DdS w _ w1.heap.size ((w16.heap.size)) ((w22.heap.size)) ((w.heap.size)) ((w.heap.size + 1)) [.string y3, .int .i64 0, .int .i64 y4, .string y6, .string y8] [.string u3, .string u4, .int .i64 u5] [.string ⟨#[]⟩, .int .i64 0, .int .i64 0, .string ⟨#[]⟩, .string ⟨#[]⟩] [.string ⟨#[]⟩, .string ⟨#[]⟩, .int .i64 0] (B, n, g) l))) (by omega) (by omega)).mono ?_; rintro e v3 ⟨t3, rfl, _, _, hc3, ho3⟩; have H3 := lH (DdS.next (by (repeat (first | (with_reducible refine DdS.alloc ?_ _) | (with_reducible refine DdS.drew ?_))); exact H2.out : DdS w _ w1.heap.size ((w16.heap.size)) ((w22.heap.size)) ((w.heap.size)) ((w.heap.size + 1)) [.string y3, .int .i64 0, .int .i64 y4, .string y6, .string y8] [.string u3, .string u4, .int .i64 u5] [.string ⟨#[]⟩, .int .i64 0, .int .i64 0, .string ⟨#[]⟩, .string ⟨#[]⟩] [.string ⟨#[]⟩, .string ⟨#[]⟩, .int .i64 0] (B, n, g) l) hc3 ho3); have hye := H3.out.b3.2.1; have hyf := H3.out.b3.2.2; have hyk := H3.out.b3.1; have hze := H3.out.b4.2.1; have hzf := H3.out.b4.2.2; have hzk := H3.out.b4.1; clear hc3 ho3)))
 all_goals
  go_wp2
  refine ag (fun wz hw => ?_)
  have HZE : Hid (aa wz (w.heap.size) [.string y3, .int .i64 0, .int .i64 y4, .string y6, .string y8]) := by rw [Hid, hw]; apply aa.cast; (focus ((repeat first | with_reducible first | apply nA | apply aa.drew | apply aa.set1 | (with_reducible apply aa.far; (focus (first | omega | simp <;> omega)))); exact H3.out.b3)); rfl
  have HZR : Hid (aa wz (w.heap.size + 1) [.string u3, .string u4, .int .i64 u5]) := by rw [Hid, hw]; apply aa.cast; (focus ((repeat first | with_reducible first | apply nA | apply aa.drew | apply aa.set1 | (with_reducible apply aa.far; (focus (first | omega | simp <;> omega)))); exact H3.out.b4)); rfl
  have HZB : Hid (Below w.heap.size w wz) := by rw [Hid, hw]; (repeat (first | ((with_reducible refine Below.alloc ?_ ?_ _); rotate_left 1; (focus (first | omega | (have := H3.out.on.size; simp; omega)))) | (with_reducible refine Below.drew ?_) | ((with_reducible refine Below.setCell ?_ ?_ _); rotate_left 1; (focus (first | omega | simp <;> omega))))); exact H3.out.on
  clear hw hye hyf hyk hze hzf hzk; have hxe2 := HZE.out.2.1; have hxr2 := HZR.out.2.1
  refine bodyPost_ret (v := .tuple #[.int .i64 kd, .agg #[.string y3, .int .i64 0, .int .i64 y4, .string y6, .string y8], .agg #[.string u3, .string u4, .int .i64 u5], .slice (some ⟨_, 0, none⟩) 3 3]) (by simp [results, Tryz.results11, go_sem, hxe2, hxr2]; rfl) rfl ?_
  exact ⟨kd, ⟨y3, 0, y4, y6, y8⟩, ⟨u3, u4, u5⟩, _, rfl, ⟨⟨k0, k1⟩, HXE.out, HXR.out⟩, HZB.out⟩
end
end Go.Proofs.YtoccjgcokffkbaaGreat
