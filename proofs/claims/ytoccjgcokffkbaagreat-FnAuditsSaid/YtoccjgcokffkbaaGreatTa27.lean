/- Part 27 of the proof of FnAudits: lemmas and contracts. -/
import Derived.Test.YtoccjgcokffkbaaGreatTa26
import Derived.Test.YtoccjgcokffkbaaGreatTa3
import Derived.Test.YtoccjgcokffkbaaGreatTa15
import Derived.Test.YtoccjgcokffkbaaGreatTa11
import Derived.Test.YtoccjgcokffkbaaGreatTa10
namespace Go.Proofs.YtoccjgcokffkbaaGreat
set_option linter.unusedVariables false
set_option linter.unusedSimpArgs false
set_option maxHeartbeats 20000000
section
open Go.RowKit
set_option maxRecDepth 100000 in
theorem DrawRight_c (n g : Nat) (B : Option Addr) (l : List Int) (w : World) (hr : Rd w 0 w.heap.size B (bys l)) (hl : l.length = n) (hn : n ≤ 1048576) (hb : ∀ x ∈ l, 0 ≤ x ∧ x ≤ 255) :
  Calls Tryz.prog 9 #[.slice B n g] w fun e w' => ∃ (a : Bk) (m : Bm), e = .returned (.agg #[.int .i64 m.width, .slice a.E m.es.length a.ce, .slice a.R m.rs.length a.cr, .slice a.H m.hs.length a.ch, .int .i64 (lastHd m.hs).size, .slice a.A1 (pk1 m.width m.es m.hs).length a.c1, .int .i64 (lastHd m.hs).taken, .slice a.A2 (pk2 m.width m.rs m.hs).length a.c2, .int .i64 (lastHd m.hs).num, .int .i64 (lastHd m.hs).size, .string (lastHd m.hs).root, .int .i64 (lastHd m.hs).taken, .string (lastHd m.hs).troot]) ∧ (BrkK w' w.heap.size w'.heap.size a m ∧ m.es.length ≤ 24) ∧ Below w.heap.size w w' := by
 have HNEW := lH (fun W (r : Rd W 0 W.heap.size B (bys l)) => l01New_c n g 0 W.heap.size B l W r hl hn hb)
 have HB : Hid (Below w.heap.size w w) := Below.refl _ _
 have HOQ : Hid (Rd w (0) (w.heap.size) (B) (bys l)) := Rd.base hr
 clear hr hl hb
 go_enter Tryz.func9, Tryz.ntmps9
 go_wp2_with fail
 refine calls_named (fun w1 hw => ?_)
 have hz1 : w.heap.size + 1 ≤ w1.heap.size := by rw [hw]; first | omega | simp [World.setCell] <;> omega
 have hzz1 : w.heap.size ≤ w1.heap.size := by omega
 have hbn : Below w.heap.size w w1 := by rw [hw]; exact (by repeat with_reducible first | exact bR _ | apply bA | apply bD)
 replace HB := lH (below_then HB.out hbn HB.out.size)
 replace HOQ := lH (HOQ.out.below hbn)
 clear hbn
 have HXr : Hid (NewBox w1 (w.heap.size) [.int .i64 0, .slice none 0 0, .slice none 0 0, .slice none 0 0, .int .i64 0, .slice none 0 0, .int .i64 0, .slice none 0 0, .int .i64 0, .int .i64 0, .string ⟨#[]⟩, .int .i64 0, .string ⟨#[]⟩]) := by rw [Hid, hw]; exact ⟨by first | omega | (simp [World.setCell]; done) | (simp [World.setCell]; omega), fun o => by rcases o with _ | _ | _ | _ | _ | _ | _ | _ | _ | _ | _ | _ | _ | o <;> go_simp, fun o => by go_simp⟩
 obtain ⟨hkr, hxr, hfr⟩ := HXr.out
 clear hw
 refine (HNEW.out _ HOQ.out.base).mono ?_
 rintro e w2 ⟨rfl, hcd, hpz, hb⟩
 have hzw2 : w1.heap.size ≤ w2.heap.size := hb.size
 have hzzw2 : w.heap.size ≤ w2.heap.size := by omega
 replace HB := lH (below_then HB.out hb HB.out.size)
 replace HOQ := lH (HOQ.out.below hb)
 replace HXr := lH (HXr.out.below hb)
 clear hxr hfr hkr
 obtain ⟨hkr, hxr, hfr⟩ := HXr.out
 clear hb
 have HOC : Hid (CodeK w2 (0) (w1.heap.size + 1) ((B, n, g)) (l)) := lH (CodeK.mk_ hcd)
 clear hcd HNEW
 clear HOQ
 obtain ⟨d0, hd0⟩ : ∃ d : Nat, 4 + n / 12 = d := ⟨_, rfl⟩
 have E1 : (4 : Int) + (n : Int) / 12 = (d0 : Int) := by omega
 by_cases h24 : 24 < d0
 ·have hI : (24 : Int) < (d0 : Int) := by omega
  have HRT := fun W x (hc : Code W w1.heap.size B n g 0 w1.heap.size l) (hp : w1.heap.size < W.heap.size) (x0 : 0 ≤ x) (x1 : x < 32) => l12Right_c hc hp (1 + x) (inR_true.2 ⟨by omega, by omega⟩) 24 (by omega)
  rw [show ((24 : Nat) : Int) = 24 from rfl] at HRT
  replace HRT := lH HRT
  clear hd0
  go_wp2_with fail
  refine calls_named (fun w3 hw => ?_)
  have hz3 : w2.heap.size + 0 ≤ w3.heap.size := by rw [hw]; first | omega | simp [World.setCell] <;> omega
  have hzz3 : w.heap.size ≤ w3.heap.size := by omega
  have hbn : Below w2.heap.size w2 w3 := by rw [hw]; exact (by repeat with_reducible first | exact bR _ | apply bA | apply bD)
  replace HB := lH (below_then HB.out hbn HB.out.size)
  replace HOC := lH (HOC.out.below hbn)
  replace HXr := lH (HXr.out.below hbn)
  clear hxr hfr hkr
  obtain ⟨hkr, hxr, hfr⟩ := HXr.out
  clear hbn
  clear hw
  refine (l01Below_c w1.heap.size n g 0 w1.heap.size B l 32 _ (CodeK.get HOC.out) (by omega) (by omega)).mono ?_
  rintro e w4 ⟨x, rfl, x0, x1, hc, hb⟩
  have hzw4 : w3.heap.size ≤ w4.heap.size := hb.size
  have hzzw4 : w.heap.size ≤ w4.heap.size := by omega
  replace HB := lH (below_only HB.out hb (by omega) HB.out.size)
  replace HXr := lH (HXr.out.only hb (by first | omega | (simp; omega)))
  clear hxr hfr hkr
  obtain ⟨hkr, hxr, hfr⟩ := HXr.out
  clear hb
  clear HOC
  have HOC : Hid (CodeK w4 (0) (w1.heap.size + 1) ((B, n, g)) (l)) := lH (CodeK.mk_ hc)
  clear hc
  go_wp2_with fail
  refine calls_named (fun w5 hw => ?_)
  have hz5 : w4.heap.size + 0 ≤ w5.heap.size := by rw [hw]; first | omega | simp [World.setCell] <;> omega
  have hzz5 : w.heap.size ≤ w5.heap.size := by omega
  have hbn : Below w4.heap.size w4 w5 := by rw [hw]; exact (by repeat with_reducible first | exact bR _ | apply bA | apply bD)
  replace HB := lH (below_then HB.out hbn HB.out.size)
  replace HOC := lH (HOC.out.below hbn)
  replace HXr := lH (HXr.out.below hbn)
  clear hxr hfr hkr
  obtain ⟨hkr, hxr, hfr⟩ := HXr.out
  clear hbn
  clear hw
  refine (HRT.out _ x (CodeK.get HOC.out) (by omega) x0 x1).mono ?_
  rintro e w6 ⟨a, m, rfl, ⟨hbk, hmw9, hml⟩, hc, hb⟩
  have hzw6 : w5.heap.size ≤ w6.heap.size := hb.size
  have hzzw6 : w.heap.size ≤ w6.heap.size := by omega
  replace HB := lH (below_only HB.out hb (by omega) HB.out.size)
  replace HXr := lH (HXr.out.only hb (by first | omega | (simp; omega)))
  clear hxr hfr hkr
  obtain ⟨hkr, hxr, hfr⟩ := HXr.out
  clear hb
  clear HOC
  have HOC : Hid (CodeK w6 (0) (w1.heap.size + 1) ((B, n, g)) (l)) := lH (CodeK.mk_ hc)
  clear hc
  have HOK : Hid (BrkK w6 (w5.heap.size) (w6.heap.size) (a) (m)) := lH hbk
  have HML := lH hml
  clear hbk hml hmw9
  clear HOC
  go_wp2
  refine bodyPost_named (fun w7 hw => ?_)
  have hz7 : w6.heap.size + 0 ≤ w7.heap.size := by rw [hw]; first | omega | simp [World.setCell] <;> omega
  have hzz7 : w.heap.size ≤ w7.heap.size := by omega
  replace HB : Hid (Below w.heap.size w w7) := by rw [Hid, hw]; exact (by ((repeat first | with_reducible apply bA | with_reducible apply bD | (with_reducible refine bS ?_ ?_; (focus (first | omega | (simp; done) | (simp; omega))))); exact HB.out))
  replace HOK : Hid (BrkK w7 (w5.heap.size) (w6.heap.size) (a) (m)) := by rw [Hid, hw]; (repeat (first | (with_reducible refine BrkK.alloc ?_ _) | (with_reducible refine BrkK.drew ?_) | ((with_reducible refine BrkK.setCell ?_ ?_ _); rotate_left 1; (focus (first | omega | (simp; done) | (simp; omega)))))); exact HOK.out
  replace HXr : Hid (NewBox w7 (w.heap.size) [.int .i64 m.width, .slice a.E m.es.length a.ce, .slice a.R m.rs.length a.cr, .slice a.H m.hs.length a.ch, .int .i64 (lastHd m.hs).size, .slice a.A1 (pk1 m.width m.es m.hs).length a.c1, .int .i64 (lastHd m.hs).taken, .slice a.A2 (pk2 m.width m.rs m.hs).length a.c2, .int .i64 (lastHd m.hs).num, .int .i64 (lastHd m.hs).size, .string (lastHd m.hs).root, .int .i64 (lastHd m.hs).taken, .string (lastHd m.hs).troot]) := by rw [Hid, hw]; apply NewBox.cast; (focus ((repeat (first | (with_reducible apply NewBox.alloc) | (with_reducible apply NewBox.drew) | (with_reducible apply NewBox.set1) | ((with_reducible apply NewBox.far); (focus (first | omega | (simp; done) | (simp; omega)))))); exact HXr.out)); rfl
  clear hxr hfr hkr
  obtain ⟨hkr, hxr, hfr⟩ := HXr.out
  clear hw
  refine bodyPost_ret (v := .agg #[.int .i64 m.width, .slice a.E m.es.length a.ce, .slice a.R m.rs.length a.cr, .slice a.H m.hs.length a.ch, .int .i64 (lastHd m.hs).size, .slice a.A1 (pk1 m.width m.es m.hs).length a.c1, .int .i64 (lastHd m.hs).taken, .slice a.A2 (pk2 m.width m.rs m.hs).length a.c2, .int .i64 (lastHd m.hs).num, .int .i64 (lastHd m.hs).size, .string (lastHd m.hs).root, .int .i64 (lastHd m.hs).taken, .string (lastHd m.hs).troot]) (by simp [results, Tryz.results9, go_sem, hxr]) rfl ?_
  exact ⟨a, m, rfl, ⟨HOK.out.mono (by omega) (by omega) (Nat.le_refl _), Nat.le_trans HML.out (by omega)⟩, HB.out⟩
 ·have hI : ¬ (24 : Int) < (d0 : Int) := by omega
  have HRT := lH (fun W x (hc : Code W w1.heap.size B n g 0 w1.heap.size l) (hp : w1.heap.size < W.heap.size) (x0 : 0 ≤ x) (x1 : x < 32) => l12Right_c hc hp (1 + x) (inR_true.2 ⟨by omega, by omega⟩) d0 (by omega))
  clear hd0
  go_wp2_with fail
  refine calls_named (fun w3 hw => ?_)
  have hz3 : w2.heap.size + 0 ≤ w3.heap.size := by rw [hw]; first | omega | simp [World.setCell] <;> omega
  have hzz3 : w.heap.size ≤ w3.heap.size := by omega
  have hbn : Below w2.heap.size w2 w3 := by rw [hw]; exact (by repeat with_reducible first | exact bR _ | apply bA | apply bD)
  replace HB := lH (below_then HB.out hbn HB.out.size)
  replace HOC := lH (HOC.out.below hbn)
  replace HXr := lH (HXr.out.below hbn)
  clear hxr hfr hkr
  obtain ⟨hkr, hxr, hfr⟩ := HXr.out
  clear hbn
  clear hw
  refine (l01Below_c w1.heap.size n g 0 w1.heap.size B l 32 _ (CodeK.get HOC.out) (by omega) (by omega)).mono ?_
  rintro e w4 ⟨x, rfl, x0, x1, hc, hb⟩
  have hzw4 : w3.heap.size ≤ w4.heap.size := hb.size
  have hzzw4 : w.heap.size ≤ w4.heap.size := by omega
  replace HB := lH (below_only HB.out hb (by omega) HB.out.size)
  replace HXr := lH (HXr.out.only hb (by first | omega | (simp; omega)))
  clear hxr hfr hkr
  obtain ⟨hkr, hxr, hfr⟩ := HXr.out
  clear hb
  clear HOC
  have HOC : Hid (CodeK w4 (0) (w1.heap.size + 1) ((B, n, g)) (l)) := lH (CodeK.mk_ hc)
  clear hc
  go_wp2_with fail
  refine calls_named (fun w5 hw => ?_)
  have hz5 : w4.heap.size + 0 ≤ w5.heap.size := by rw [hw]; first | omega | simp [World.setCell] <;> omega
  have hzz5 : w.heap.size ≤ w5.heap.size := by omega
  have hbn : Below w4.heap.size w4 w5 := by rw [hw]; exact (by repeat with_reducible first | exact bR _ | apply bA | apply bD)
  replace HB := lH (below_then HB.out hbn HB.out.size)
  replace HOC := lH (HOC.out.below hbn)
  replace HXr := lH (HXr.out.below hbn)
  clear hxr hfr hkr
  obtain ⟨hkr, hxr, hfr⟩ := HXr.out
  clear hbn
  clear hw
  refine (HRT.out _ x (CodeK.get HOC.out) (by omega) x0 x1).mono ?_
  rintro e w6 ⟨a, m, rfl, ⟨hbk, hmw9, hml⟩, hc, hb⟩
  have hzw6 : w5.heap.size ≤ w6.heap.size := hb.size
  have hzzw6 : w.heap.size ≤ w6.heap.size := by omega
  replace HB := lH (below_only HB.out hb (by omega) HB.out.size)
  replace HXr := lH (HXr.out.only hb (by first | omega | (simp; omega)))
  clear hxr hfr hkr
  obtain ⟨hkr, hxr, hfr⟩ := HXr.out
  clear hb
  clear HOC
  have HOC : Hid (CodeK w6 (0) (w1.heap.size + 1) ((B, n, g)) (l)) := lH (CodeK.mk_ hc)
  clear hc
  have HOK : Hid (BrkK w6 (w5.heap.size) (w6.heap.size) (a) (m)) := lH hbk
  have HML := lH hml
  clear hbk hml hmw9
  clear HOC
  go_wp2
  refine bodyPost_named (fun w7 hw => ?_)
  have hz7 : w6.heap.size + 0 ≤ w7.heap.size := by rw [hw]; first | omega | simp [World.setCell] <;> omega
  have hzz7 : w.heap.size ≤ w7.heap.size := by omega
  replace HB : Hid (Below w.heap.size w w7) := by rw [Hid, hw]; exact (by ((repeat first | with_reducible apply bA | with_reducible apply bD | (with_reducible refine bS ?_ ?_; (focus (first | omega | (simp; done) | (simp; omega))))); exact HB.out))
  replace HOK : Hid (BrkK w7 (w5.heap.size) (w6.heap.size) (a) (m)) := by rw [Hid, hw]; (repeat (first | (with_reducible refine BrkK.alloc ?_ _) | (with_reducible refine BrkK.drew ?_) | ((with_reducible refine BrkK.setCell ?_ ?_ _); rotate_left 1; (focus (first | omega | (simp; done) | (simp; omega)))))); exact HOK.out
  replace HXr : Hid (NewBox w7 (w.heap.size) [.int .i64 m.width, .slice a.E m.es.length a.ce, .slice a.R m.rs.length a.cr, .slice a.H m.hs.length a.ch, .int .i64 (lastHd m.hs).size, .slice a.A1 (pk1 m.width m.es m.hs).length a.c1, .int .i64 (lastHd m.hs).taken, .slice a.A2 (pk2 m.width m.rs m.hs).length a.c2, .int .i64 (lastHd m.hs).num, .int .i64 (lastHd m.hs).size, .string (lastHd m.hs).root, .int .i64 (lastHd m.hs).taken, .string (lastHd m.hs).troot]) := by rw [Hid, hw]; apply NewBox.cast; (focus ((repeat (first | (with_reducible apply NewBox.alloc) | (with_reducible apply NewBox.drew) | (with_reducible apply NewBox.set1) | ((with_reducible apply NewBox.far); (focus (first | omega | (simp; done) | (simp; omega)))))); exact HXr.out)); rfl
  clear hxr hfr hkr
  obtain ⟨hkr, hxr, hfr⟩ := HXr.out
  clear hw
  refine bodyPost_ret (v := .agg #[.int .i64 m.width, .slice a.E m.es.length a.ce, .slice a.R m.rs.length a.cr, .slice a.H m.hs.length a.ch, .int .i64 (lastHd m.hs).size, .slice a.A1 (pk1 m.width m.es m.hs).length a.c1, .int .i64 (lastHd m.hs).taken, .slice a.A2 (pk2 m.width m.rs m.hs).length a.c2, .int .i64 (lastHd m.hs).num, .int .i64 (lastHd m.hs).size, .string (lastHd m.hs).root, .int .i64 (lastHd m.hs).taken, .string (lastHd m.hs).troot]) (by simp [results, Tryz.results9, go_sem, hxr]) rfl ?_
  exact ⟨a, m, rfl, ⟨HOK.out.mono (by omega) (by omega) (Nat.le_refl _), Nat.le_trans HML.out (by omega)⟩, HB.out⟩
theorem DrawRightP_c (n g : Nat) (B : Option Addr) (l : List Int) (w : World) (hr : Rd w 0 w.heap.size B (bys l)) (hl : l.length = n) (hn : n ≤ 1048576) (hb : ∀ x ∈ l, 0 ≤ x ∧ x ≤ 255) :
  Calls Tryz.prog 9 #[.slice B n g] w fun e w' => ∃ (width : Int) (E R H A1 A2 : Option Addr) (ne nr nh ce cr ch c1 c2 m1 m2 : Nat) (es : List Ent) (rs : List Rcp) (hs : List Hd) (l1 l2 : List ByteArray) (h : Hd), e = .returned (.agg #[.int .i64 width, .slice E ne ce, .slice R nr cr, .slice H nh ch, .int .i64 h.size, .slice A1 m1 c1, .int .i64 h.taken, .slice A2 m2 c2, .int .i64 h.num, .int .i64 h.size, .string h.root, .int .i64 h.taken, .string h.troot]) ∧
   (BrkK w' w.heap.size w'.heap.size ⟨E, R, H, A1, A2, ce, cr, ch, c1, c2⟩ ⟨width, es, rs, hs⟩ ∧ es.length = ne ∧ rs.length = nr ∧ hs.length = nh ∧ pk1 width es hs = l1 ∧ pk2 width rs hs = l2 ∧ l1.length = m1 ∧ l2.length = m2 ∧ lastHd hs = h ∧ ne ≤ 24) ∧ Below w.heap.size w w' :=
 (DrawRight_c n g B l w hr hl hn hb).mono fun e w' ⟨a, m, he, ⟨hk, h24⟩, hb⟩ => ⟨m.width, a.E, a.R, a.H, a.A1, a.A2, _, _, _, a.ce, a.cr, a.ch, a.c1, a.c2, _, _, m.es, m.rs, m.hs, _, _, _, he, ⟨hk, rfl, rfl, rfl, rfl, rfl, rfl, rfl, rfl, h24⟩, hb⟩
structure DdS (w wx : World) (p k1 k2 k3 k4 : Nat) (c1 c2 c3 c4 : List Value) (c : Option Addr × Nat × Nat) (l : List Int) : Prop where
 b1 : NewBox wx k1 c1
 b2 : NewBox wx k2 c2
 b3 : NewBox wx k3 c3
 b4 : NewBox wx k4 c4
 c : CodeK wx 0 (p + 1) c l
 on : Below w.heap.size w wx
 far : w.heap.size ≤ p ∧ (k1 < p ∨ p < k1) ∧ (k2 < p ∨ p < k2) ∧ (k3 < p ∨ p < k3) ∧ (k4 < p ∨ p < k4)
section
variable {w wx wy : World} {p k1 k2 k3 k4 n g : Nat} {c1 c2 c3 c4 : List Value} {c : Option Addr × Nat × Nat} {l : List Int} {B : Option Addr}
theorem DdS.below (h : DdS w wx p k1 k2 k3 k4 c1 c2 c3 c4 c l) (hb : Below wx.heap.size wx wy) : DdS w wy p k1 k2 k3 k4 c1 c2 c3 c4 c l :=
 ⟨h.b1.below hb, h.b2.below hb, h.b3.below hb, h.b4.below hb, h.c.below hb, below_then h.on hb h.on.size, h.far⟩
theorem DdS.alloc (h : DdS w wx p k1 k2 k3 k4 c1 c2 c3 c4 c l) (o : Obj) : DdS w (wx.alloc o) p k1 k2 k3 k4 c1 c2 c3 c4 c l := h.below ((Below.refl _ _).alloc (Nat.le_refl _) o)
theorem DdS.drew (h : DdS w wx p k1 k2 k3 k4 c1 c2 c3 c4 c l) : DdS w wx.drew p k1 k2 k3 k4 c1 c2 c3 c4 c l := h.below (Below.refl _ _).drew
theorem DdS.next (h : DdS w wx p k1 k2 k3 k4 c1 c2 c3 c4 (B, n, g) l) (hc : Code wy p B n g 0 p l) (ho : Only p (p + 1) wx wy) : DdS w wy p k1 k2 k3 k4 c1 c2 c3 c4 (B, n, g) l :=
 ⟨h.b1.only ho (by have := h.far; omega), h.b2.only ho (by have := h.far; omega), h.b3.only ho (by have := h.far; omega), h.b4.only ho (by have := h.far; omega), CodeK.mk_ hc, below_only h.on ho h.far.1 h.on.size, h.far⟩
end
def DrawnE (x : Ent) : Prop := nameOk x.topic = true ∧ x.index = 0 ∧ (0 ≤ x.time ∧ x.time < 100) ∧ x.key.size ≤ 2 ∧ x.body.size ≤ 8
def DrawnR (r : Rcp) : Prop := nameOk r.reader = true ∧ nameOk r.topic = true ∧ 0 ≤ r.index ∧ r.index < 3
def rdN : List ByteArray := [⟨#[97, 110, 110]⟩, ⟨#[98, 111, 98]⟩, ⟨#[101, 118, 101]⟩]
theorem rdN_ok : ∀ t ∈ rdN, nameOk t = true := by
 intro t ht
 simp only [rdN, List.mem_cons, List.not_mem_nil, or_false] at ht
 rcases ht with rfl | rfl | rfl <;> decide +kernel
set_option maxRecDepth 100000 in
theorem DrawDeed_c (n g : Nat) (B : Option Addr) (l : List Int) (w : World) (hr : Rd w 0 w.heap.size B (bys l)) (hl : l.length = n) (hn : n ≤ 1048576) (hb : ∀ x ∈ l, 0 ≤ x ∧ x ≤ 255) :
  Calls Tryz.prog 11 #[.slice B n g] w fun e w' => ∃ (kd : Int) (x : Ent) (r : Rcp) (A : Option Addr), e = .returned (.tuple #[.int .i64 kd, .agg #[.string x.topic, .int .i64 x.index, .int .i64 x.time, .string x.key, .string x.body], .agg #[.string r.reader, .string r.topic, .int .i64 r.index], .slice A 3 3]) ∧ ((0 ≤ kd ∧ kd < 3) ∧ DrawnE x ∧ DrawnR r) ∧ Below w.heap.size w w' := by
 have HNEW := lH (fun W (r : Rd W 0 W.heap.size B (bys l)) => l01New_c n g 0 W.heap.size B l W r hl hn hb)
 have HB : Hid (Below w.heap.size w w) := Below.refl _ _
 have HOQ : Hid (Rd w (0) (w.heap.size) (B) (bys l)) := Rd.base hr
 clear hr hl hb
 go_enter Tryz.func11, Tryz.ntmps11
 go_wp2_with fail
 refine calls_named (fun w1 hw => ?_)
 have hz1 : w.heap.size + 2 ≤ w1.heap.size := by rw [hw]; first | omega | simp [World.setCell] <;> omega
 have hzz1 : w.heap.size ≤ w1.heap.size := by omega
 have hbn : Below w.heap.size w w1 := by rw [hw]; exact (by repeat with_reducible first | exact bR _ | apply bA | apply bD)
 replace HB := lH (below_then HB.out hbn HB.out.size)
 replace HOQ := lH (HOQ.out.below hbn)
 clear hbn
 have HXe : Hid (NewBox w1 (w.heap.size) [.string ⟨#[]⟩, .int .i64 0, .int .i64 0, .string ⟨#[]⟩, .string ⟨#[]⟩]) := by rw [Hid, hw]; exact ⟨by first | omega | (simp [World.setCell]; done) | (simp [World.setCell]; omega), fun o => by rcases o with _ | _ | _ | _ | _ | o <;> go_simp, fun o => by go_simp⟩
 obtain ⟨hke, hxe, hfe⟩ := HXe.out
 have HXr : Hid (NewBox w1 (w.heap.size + 1) [.string ⟨#[]⟩, .string ⟨#[]⟩, .int .i64 0]) := by rw [Hid, hw]; exact ⟨by first | omega | (simp [World.setCell]; done) | (simp [World.setCell]; omega), fun o => by rcases o with _ | _ | _ | o <;> go_simp, fun o => by go_simp⟩
 obtain ⟨hkr, hxr, hfr⟩ := HXr.out
 clear hw
 refine (HNEW.out _ HOQ.out.base).mono ?_
 rintro e w2 ⟨rfl, hcd, hpz, hb⟩
 have hzw2 : w1.heap.size ≤ w2.heap.size := hb.size
 have hzzw2 : w.heap.size ≤ w2.heap.size := by omega
 replace HB := lH (below_then HB.out hb HB.out.size)
 replace HOQ := lH (HOQ.out.below hb)
 replace HXe := lH (HXe.out.below hb)
 clear hxe hfe hke
 obtain ⟨hke, hxe, hfe⟩ := HXe.out
 replace HXr := lH (HXr.out.below hb)
 clear hxr hfr hkr
 obtain ⟨hkr, hxr, hfr⟩ := HXr.out
 clear hb
 have HOC : Hid (CodeK w2 (0) (w1.heap.size + 1) ((B, n, g)) (l)) := lH (CodeK.mk_ hcd)
 clear hcd HNEW
 clear HOQ
 go_wp2_with fail
 refine calls_named (fun w3 hw => ?_)
 have hz3 : w2.heap.size + 0 ≤ w3.heap.size := by rw [hw]; first | omega | simp [World.setCell] <;> omega
 have hzz3 : w.heap.size ≤ w3.heap.size := by omega
 have hbn : Below w2.heap.size w2 w3 := by rw [hw]; exact (by repeat with_reducible first | exact bR _ | apply bA | apply bD)
 replace HB := lH (below_then HB.out hbn HB.out.size)
 replace HOC := lH (HOC.out.below hbn)
 replace HXe := lH (HXe.out.below hbn)
 clear hxe hfe hke
 obtain ⟨hke, hxe, hfe⟩ := HXe.out
 replace HXr := lH (HXr.out.below hbn)
 clear hxr hfr hkr
 obtain ⟨hkr, hxr, hfr⟩ := HXr.out
 clear hbn
 clear hw
 refine (l01Below_c w1.heap.size n g 0 w1.heap.size B l 3 _ (CodeK.get HOC.out) (by omega) (by omega)).mono ?_
 rintro e w4 ⟨kd, rfl, k0, k1, hc, hb⟩
 have hzw4 : w3.heap.size ≤ w4.heap.size := hb.size
 have hzzw4 : w.heap.size ≤ w4.heap.size := by omega
 replace HB := lH (below_only HB.out hb (by omega) HB.out.size)
 replace HXe := lH (HXe.out.only hb (by first | omega | (simp; omega)))
 clear hxe hfe hke
 obtain ⟨hke, hxe, hfe⟩ := HXe.out
 replace HXr := lH (HXr.out.only hb (by first | omega | (simp; omega)))
 clear hxr hfr hkr
 obtain ⟨hkr, hxr, hfr⟩ := HXr.out
 clear hb
 clear HOC
 have HOC : Hid (CodeK w4 (0) (w1.heap.size + 1) ((B, n, g)) (l)) := lH (CodeK.mk_ hc)
 clear hc
 go_wp2_with fail
 refine calls_named (fun w5 hw => ?_)
 have hz5 : w4.heap.size + 0 ≤ w5.heap.size := by rw [hw]; first | omega | simp [World.setCell] <;> omega
 have hzz5 : w.heap.size ≤ w5.heap.size := by omega
 have hbn : Below w4.heap.size w4 w5 := by rw [hw]; exact (by repeat with_reducible first | exact bR _ | apply bA | apply bD)
 replace HB := lH (below_then HB.out hbn HB.out.size)
 replace HOC := lH (HOC.out.below hbn)
 replace HXe := lH (HXe.out.below hbn)
 clear hxe hfe hke
 obtain ⟨hke, hxe, hfe⟩ := HXe.out
 replace HXr := lH (HXr.out.below hbn)
 clear hxr hfr hkr
 obtain ⟨hkr, hxr, hfr⟩ := HXr.out
 clear hbn
 clear hw
 refine (l09Topic_c (CodeK.get HOC.out) (by omega)).mono ?_
 rintro e w6 ⟨y3, rfl, hy3, hc, hb⟩
 have hzw6 : w5.heap.size ≤ w6.heap.size := hb.size
 have hzzw6 : w.heap.size ≤ w6.heap.size := by omega
 replace HB := lH (below_only HB.out hb (by omega) HB.out.size)
 replace HXe := lH (HXe.out.only hb (by first | omega | (simp; omega)))
 clear hxe hfe hke
 obtain ⟨hke, hxe, hfe⟩ := HXe.out
 replace HXr := lH (HXr.out.only hb (by first | omega | (simp; omega)))
 clear hxr hfr hkr
 obtain ⟨hkr, hxr, hfr⟩ := HXr.out
 clear hb
 clear HOC
 have HOC : Hid (CodeK w6 (0) (w1.heap.size + 1) ((B, n, g)) (l)) := lH (CodeK.mk_ hc)
 clear hc
 go_wp2_with fail
 refine calls_named (fun w7 hw => ?_)
 have hz7 : w6.heap.size + 0 ≤ w7.heap.size := by rw [hw]; first | omega | simp [World.setCell] <;> omega
 have hzz7 : w.heap.size ≤ w7.heap.size := by omega
 have hbn : Below w6.heap.size w6 w7 := by rw [hw]; exact (by repeat with_reducible first | exact bR _ | apply bA | apply bD)
 replace HB := lH (below_then HB.out hbn HB.out.size)
 replace HOC := lH (HOC.out.below hbn)
 replace HXe := lH (HXe.out.below hbn)
 clear hxe hfe hke
 obtain ⟨hke, hxe, hfe⟩ := HXe.out
 replace HXr := lH (HXr.out.below hbn)
 clear hxr hfr hkr
 obtain ⟨hkr, hxr, hfr⟩ := HXr.out
 clear hbn
 clear hw
 refine (l01Below_c w1.heap.size n g 0 w1.heap.size B l 100 _ (CodeK.get HOC.out) (by omega) (by omega)).mono ?_
 rintro e w8 ⟨y4, rfl, y40, y41, hc, hb⟩
 have hzw8 : w7.heap.size ≤ w8.heap.size := hb.size
 have hzzw8 : w.heap.size ≤ w8.heap.size := by omega
 replace HB := lH (below_only HB.out hb (by omega) HB.out.size)
 replace HXe := lH (HXe.out.only hb (by first | omega | (simp; omega)))
 clear hxe hfe hke
 obtain ⟨hke, hxe, hfe⟩ := HXe.out
 replace HXr := lH (HXr.out.only hb (by first | omega | (simp; omega)))
 clear hxr hfr hkr
 obtain ⟨hkr, hxr, hfr⟩ := HXr.out
 clear hb
 clear HOC
 have HOC : Hid (CodeK w8 (0) (w1.heap.size + 1) ((B, n, g)) (l)) := lH (CodeK.mk_ hc)
 clear hc
 go_wp2_with fail
 refine calls_named (fun w9 hw => ?_)
 have hz9 : w8.heap.size + 0 ≤ w9.heap.size := by rw [hw]; first | omega | simp [World.setCell] <;> omega
 have hzz9 : w.heap.size ≤ w9.heap.size := by omega
 have hbn : Below w8.heap.size w8 w9 := by rw [hw]; exact (by repeat with_reducible first | exact bR _ | apply bA | apply bD)
 replace HB := lH (below_then HB.out hbn HB.out.size)
 replace HOC := lH (HOC.out.below hbn)
 replace HXe := lH (HXe.out.below hbn)
 clear hxe hfe hke
 obtain ⟨hke, hxe, hfe⟩ := HXe.out
 replace HXr := lH (HXr.out.below hbn)
 clear hxr hfr hkr
 obtain ⟨hkr, hxr, hfr⟩ := HXr.out
 clear hbn
 clear hw
 refine (l01Below_c w1.heap.size n g 0 w1.heap.size B l 3 _ (CodeK.get HOC.out) (by omega) (by omega)).mono ?_
 rintro e w10 ⟨z5, rfl, z50, z51, hc, hb⟩
 have hzw10 : w9.heap.size ≤ w10.heap.size := hb.size
 have hzzw10 : w.heap.size ≤ w10.heap.size := by omega
 replace HB := lH (below_only HB.out hb (by omega) HB.out.size)
 replace HXe := lH (HXe.out.only hb (by first | omega | (simp; omega)))
 clear hxe hfe hke
 obtain ⟨hke, hxe, hfe⟩ := HXe.out
 replace HXr := lH (HXr.out.only hb (by first | omega | (simp; omega)))
 clear hxr hfr hkr
 obtain ⟨hkr, hxr, hfr⟩ := HXr.out
 clear hb
 clear HOC
 have HOC : Hid (CodeK w10 (0) (w1.heap.size + 1) ((B, n, g)) (l)) := lH (CodeK.mk_ hc)
 clear hc
 obtain ⟨y5, rfl⟩ : ∃ y5 : Nat, z5 = y5 := ⟨z5.toNat, by omega⟩
 go_wp2_with fail
 refine calls_named (fun w11 hw => ?_)
 have hz11 : w10.heap.size + 0 ≤ w11.heap.size := by rw [hw]; first | omega | simp [World.setCell] <;> omega
 have hzz11 : w.heap.size ≤ w11.heap.size := by omega
 have hbn : Below w10.heap.size w10 w11 := by rw [hw]; exact (by repeat with_reducible first | exact bR _ | apply bA | apply bD)
 replace HB := lH (below_then HB.out hbn HB.out.size)
 replace HOC := lH (HOC.out.below hbn)
 replace HXe := lH (HXe.out.below hbn)
 clear hxe hfe hke
 obtain ⟨hke, hxe, hfe⟩ := HXe.out
 replace HXr := lH (HXr.out.below hbn)
 clear hxr hfr hkr
 obtain ⟨hkr, hxr, hfr⟩ := HXr.out
 clear hbn
 clear hw
 refine (l01Text_c w1.heap.size n g 0 w1.heap.size B l y5 _ (CodeK.get HOC.out) (by omega) (by omega)).mono ?_
 rintro e w12 ⟨y6, rfl, hy6, hc, hb⟩
 have hzw12 : w11.heap.size ≤ w12.heap.size := hb.size
 have hzzw12 : w.heap.size ≤ w12.heap.size := by omega
 replace HB := lH (below_only HB.out hb (by omega) HB.out.size)
 replace HXe := lH (HXe.out.only hb (by first | omega | (simp; omega)))
 clear hxe hfe hke
 obtain ⟨hke, hxe, hfe⟩ := HXe.out
 replace HXr := lH (HXr.out.only hb (by first | omega | (simp; omega)))
 clear hxr hfr hkr
 obtain ⟨hkr, hxr, hfr⟩ := HXr.out
 clear hb
 clear HOC
 have HOC : Hid (CodeK w12 (0) (w1.heap.size + 1) ((B, n, g)) (l)) := lH (CodeK.mk_ hc)
 clear hc
 go_wp2_with fail
 refine calls_named (fun w13 hw => ?_)
 have hz13 : w12.heap.size + 0 ≤ w13.heap.size := by rw [hw]; first | omega | simp [World.setCell] <;> omega
 have hzz13 : w.heap.size ≤ w13.heap.size := by omega
 have hbn : Below w12.heap.size w12 w13 := by rw [hw]; exact (by repeat with_reducible first | exact bR _ | apply bA | apply bD)
 replace HB := lH (below_then HB.out hbn HB.out.size)
 replace HOC := lH (HOC.out.below hbn)
 replace HXe := lH (HXe.out.below hbn)
 clear hxe hfe hke
 obtain ⟨hke, hxe, hfe⟩ := HXe.out
 replace HXr := lH (HXr.out.below hbn)
 clear hxr hfr hkr
 obtain ⟨hkr, hxr, hfr⟩ := HXr.out
 clear hbn
 clear hw
 refine (l01Below_c w1.heap.size n g 0 w1.heap.size B l 9 _ (CodeK.get HOC.out) (by omega) (by omega)).mono ?_
 rintro e w14 ⟨z7, rfl, z70, z71, hc, hb⟩
 have hzw14 : w13.heap.size ≤ w14.heap.size := hb.size
 have hzzw14 : w.heap.size ≤ w14.heap.size := by omega
 replace HB := lH (below_only HB.out hb (by omega) HB.out.size)
 replace HXe := lH (HXe.out.only hb (by first | omega | (simp; omega)))
 clear hxe hfe hke
 obtain ⟨hke, hxe, hfe⟩ := HXe.out
 replace HXr := lH (HXr.out.only hb (by first | omega | (simp; omega)))
 clear hxr hfr hkr
 obtain ⟨hkr, hxr, hfr⟩ := HXr.out
 clear hb
 clear HOC
 have HOC : Hid (CodeK w14 (0) (w1.heap.size + 1) ((B, n, g)) (l)) := lH (CodeK.mk_ hc)
 clear hc
 obtain ⟨y7, rfl⟩ : ∃ y7 : Nat, z7 = y7 := ⟨z7.toNat, by omega⟩
 go_wp2_with fail
 refine calls_named (fun w15 hw => ?_)
 have hz15 : w14.heap.size + 0 ≤ w15.heap.size := by rw [hw]; first | omega | simp [World.setCell] <;> omega
 have hzz15 : w.heap.size ≤ w15.heap.size := by omega
 have hbn : Below w14.heap.size w14 w15 := by rw [hw]; exact (by repeat with_reducible first | exact bR _ | apply bA | apply bD)
 replace HB := lH (below_then HB.out hbn HB.out.size)
 replace HOC := lH (HOC.out.below hbn)
 replace HXe := lH (HXe.out.below hbn)
 clear hxe hfe hke
 obtain ⟨hke, hxe, hfe⟩ := HXe.out
 replace HXr := lH (HXr.out.below hbn)
 clear hxr hfr hkr
 obtain ⟨hkr, hxr, hfr⟩ := HXr.out
 clear hbn
 clear hw
 refine (l01Text_c w1.heap.size n g 0 w1.heap.size B l y7 _ (CodeK.get HOC.out) (by omega) (by omega)).mono ?_
 rintro e w16 ⟨y8, rfl, hy8, hc, hb⟩
 have hzw16 : w15.heap.size ≤ w16.heap.size := hb.size
 have hzzw16 : w.heap.size ≤ w16.heap.size := by omega
 replace HB := lH (below_only HB.out hb (by omega) HB.out.size)
 replace HXe := lH (HXe.out.only hb (by first | omega | (simp; omega)))
 clear hxe hfe hke
 obtain ⟨hke, hxe, hfe⟩ := HXe.out
 replace HXr := lH (HXr.out.only hb (by first | omega | (simp; omega)))
 clear hxr hfr hkr
 obtain ⟨hkr, hxr, hfr⟩ := HXr.out
 clear hb
 clear HOC
 have HOC : Hid (CodeK w16 (0) (w1.heap.size + 1) ((B, n, g)) (l)) := lH (CodeK.mk_ hc)
 clear hc
 have HXE : Hid (DrawnE ⟨y3, 0, y4, y6, y8⟩) := lH ⟨hy3, rfl, ⟨y40, y41⟩, by show y6.size ≤ 2; omega, by show y8.size ≤ 8; omega⟩
 clear hy3 hy6 hy8 y40 y41 z50 z51 z70 z71
 go_wp2_with fail
 refine calls_named (fun w17 hw => ?_)
 have hz17 : w16.heap.size + 2 ≤ w17.heap.size := by rw [hw]; first | omega | simp [World.setCell] <;> omega
 have hzz17 : w.heap.size ≤ w17.heap.size := by omega
 have hbn : Below w16.heap.size w16 w17 := by rw [hw]; exact (by repeat with_reducible first | exact bR _ | apply bA | apply bD)
 replace HB := lH (below_then HB.out hbn HB.out.size)
 replace HOC := lH (HOC.out.below hbn)
 replace HXe := lH (HXe.out.below hbn)
 clear hxe hfe hke
 obtain ⟨hke, hxe, hfe⟩ := HXe.out
 replace HXr := lH (HXr.out.below hbn)
 clear hxr hfr hkr
 obtain ⟨hkr, hxr, hfr⟩ := HXr.out
 clear hbn
 have HXx : Hid (NewBox w17 (w16.heap.size) [.string y3, .int .i64 0, .int .i64 y4, .string y6, .string y8]) := by rw [Hid, hw]; exact ⟨by first | omega | (simp [World.setCell]; done) | (simp [World.setCell]; omega), fun o => by rcases o with _ | _ | _ | _ | _ | o <;> go_simp, fun o => by go_simp⟩
 obtain ⟨hkx, hxx, hfx⟩ := HXx.out
 have HXz : Hid (NewBox w17 (w16.heap.size + 1) [.string ⟨#[97, 110, 110]⟩, .string ⟨#[98, 111, 98]⟩, .string ⟨#[101, 118, 101]⟩]) := by rw [Hid, hw]; exact ⟨by first | omega | (simp [World.setCell]; done) | (simp [World.setCell]; omega), fun o => by rcases o with _ | _ | _ | o <;> go_simp, fun o => by go_simp⟩
 obtain ⟨hkz, hxz, hfz⟩ := HXz.out
 clear hw
 refine (l01Pick_c (CodeK.get HOC.out) _ 3 3 _ _ rdN (rd_strs HXz.out rfl) rfl (by omega) (by omega) (by omega)).mono ?_
 rintro e w18 ⟨u3, rfl, hu3, hc, hb⟩
 have hzw18 : w17.heap.size ≤ w18.heap.size := hb.size
 have hzzw18 : w.heap.size ≤ w18.heap.size := by omega
 replace HB := lH (below_only HB.out hb (by omega) HB.out.size)
 replace HXe := lH (HXe.out.only hb (by first | omega | (simp; omega)))
 clear hxe hfe hke
 obtain ⟨hke, hxe, hfe⟩ := HXe.out
 replace HXr := lH (HXr.out.only hb (by first | omega | (simp; omega)))
 clear hxr hfr hkr
 obtain ⟨hkr, hxr, hfr⟩ := HXr.out
 replace HXx := lH (HXx.out.only hb (by first | omega | (simp; omega)))
 clear hxx hfx hkx
 obtain ⟨hkx, hxx, hfx⟩ := HXx.out
 replace HXz := lH (HXz.out.only hb (by first | omega | (simp; omega)))
 clear hxz hfz hkz
 obtain ⟨hkz, hxz, hfz⟩ := HXz.out
 clear hb
 clear HOC
 have HOC : Hid (CodeK w18 (0) (w1.heap.size + 1) ((B, n, g)) (l)) := lH (CodeK.mk_ hc)
 clear hc
 go_wp2_with fail
 refine calls_named (fun w19 hw => ?_)
 have hz19 : w18.heap.size + 0 ≤ w19.heap.size := by rw [hw]; first | omega | simp [World.setCell] <;> omega
 have hzz19 : w.heap.size ≤ w19.heap.size := by omega
 have hbn : Below w18.heap.size w18 w19 := by rw [hw]; exact (by repeat with_reducible first | exact bR _ | apply bA | apply bD)
 replace HB := lH (below_then HB.out hbn HB.out.size)
 replace HOC := lH (HOC.out.below hbn)
 replace HXe := lH (HXe.out.below hbn)
 clear hxe hfe hke
 obtain ⟨hke, hxe, hfe⟩ := HXe.out
 replace HXr := lH (HXr.out.below hbn)
 clear hxr hfr hkr
 obtain ⟨hkr, hxr, hfr⟩ := HXr.out
 replace HXx := lH (HXx.out.below hbn)
 clear hxx hfx hkx
 obtain ⟨hkx, hxx, hfx⟩ := HXx.out
 replace HXz := lH (HXz.out.below hbn)
 clear hxz hfz hkz
 obtain ⟨hkz, hxz, hfz⟩ := HXz.out
 clear hbn
 clear hw
 refine (l09Topic_c (CodeK.get HOC.out) (by omega)).mono ?_
 rintro e w20 ⟨u4, rfl, hu4, hc, hb⟩
 have hzw20 : w19.heap.size ≤ w20.heap.size := hb.size
 have hzzw20 : w.heap.size ≤ w20.heap.size := by omega
 replace HB := lH (below_only HB.out hb (by omega) HB.out.size)
 replace HXe := lH (HXe.out.only hb (by first | omega | (simp; omega)))
 clear hxe hfe hke
 obtain ⟨hke, hxe, hfe⟩ := HXe.out
 replace HXr := lH (HXr.out.only hb (by first | omega | (simp; omega)))
 clear hxr hfr hkr
 obtain ⟨hkr, hxr, hfr⟩ := HXr.out
 replace HXx := lH (HXx.out.only hb (by first | omega | (simp; omega)))
 clear hxx hfx hkx
 obtain ⟨hkx, hxx, hfx⟩ := HXx.out
 replace HXz := lH (HXz.out.only hb (by first | omega | (simp; omega)))
 clear hxz hfz hkz
 obtain ⟨hkz, hxz, hfz⟩ := HXz.out
 clear hb
 clear HOC
 have HOC : Hid (CodeK w20 (0) (w1.heap.size + 1) ((B, n, g)) (l)) := lH (CodeK.mk_ hc)
 clear hc
 go_wp2_with fail
 refine calls_named (fun w21 hw => ?_)
 have hz21 : w20.heap.size + 0 ≤ w21.heap.size := by rw [hw]; first | omega | simp [World.setCell] <;> omega
 have hzz21 : w.heap.size ≤ w21.heap.size := by omega
 have hbn : Below w20.heap.size w20 w21 := by rw [hw]; exact (by repeat with_reducible first | exact bR _ | apply bA | apply bD)
 replace HB := lH (below_then HB.out hbn HB.out.size)
 replace HOC := lH (HOC.out.below hbn)
 replace HXe := lH (HXe.out.below hbn)
 clear hxe hfe hke
 obtain ⟨hke, hxe, hfe⟩ := HXe.out
 replace HXr := lH (HXr.out.below hbn)
 clear hxr hfr hkr
 obtain ⟨hkr, hxr, hfr⟩ := HXr.out
 replace HXx := lH (HXx.out.below hbn)
 clear hxx hfx hkx
 obtain ⟨hkx, hxx, hfx⟩ := HXx.out
 replace HXz := lH (HXz.out.below hbn)
 clear hxz hfz hkz
 obtain ⟨hkz, hxz, hfz⟩ := HXz.out
 clear hbn
 clear hw
 refine (l01Below_c w1.heap.size n g 0 w1.heap.size B l 3 _ (CodeK.get HOC.out) (by omega) (by omega)).mono ?_
 rintro e w22 ⟨u5, rfl, u50, u51, hc, hb⟩
 have hzw22 : w21.heap.size ≤ w22.heap.size := hb.size
 have hzzw22 : w.heap.size ≤ w22.heap.size := by omega
 replace HB := lH (below_only HB.out hb (by omega) HB.out.size)
 replace HXe := lH (HXe.out.only hb (by first | omega | (simp; omega)))
 clear hxe hfe hke
 obtain ⟨hke, hxe, hfe⟩ := HXe.out
 replace HXr := lH (HXr.out.only hb (by first | omega | (simp; omega)))
 clear hxr hfr hkr
 obtain ⟨hkr, hxr, hfr⟩ := HXr.out
 replace HXx := lH (HXx.out.only hb (by first | omega | (simp; omega)))
 clear hxx hfx hkx
 obtain ⟨hkx, hxx, hfx⟩ := HXx.out
 replace HXz := lH (HXz.out.only hb (by first | omega | (simp; omega)))
 clear hxz hfz hkz
 obtain ⟨hkz, hxz, hfz⟩ := HXz.out
 clear hb
 clear HOC
 have HOC : Hid (CodeK w22 (0) (w1.heap.size + 1) ((B, n, g)) (l)) := lH (CodeK.mk_ hc)
 clear hc
 have HXR : Hid (DrawnR ⟨u3, u4, u5⟩) := lH ⟨rdN_ok _ hu3, hu4, u50, u51⟩
 clear hu3 hu4 u50 u51
 clear hxz hfz hkz HXz
 go_upto_region 5 with fail
 refine wp_named (fun w23 hw => ?_)
 have hz23 : w22.heap.size + 1 ≤ w23.heap.size := by rw [hw]; first | omega | simp [World.setCell] <;> omega
 have hzz23 : w.heap.size ≤ w23.heap.size := by omega
 have hbn : Below w22.heap.size w22 w23 := by rw [hw]; exact (by repeat with_reducible first | exact bR _ | apply bA | apply bD)
 replace HB := lH (below_then HB.out hbn HB.out.size)
 replace HOC := lH (HOC.out.below hbn)
 replace HXe := lH (HXe.out.below hbn)
 clear hxe hfe hke
 obtain ⟨hke, hxe, hfe⟩ := HXe.out
 replace HXr := lH (HXr.out.below hbn)
 clear hxr hfr hkr
 obtain ⟨hkr, hxr, hfr⟩ := HXr.out
 replace HXx := lH (HXx.out.below hbn)
 clear hxx hfx hkx
 obtain ⟨hkx, hxx, hfx⟩ := HXx.out
 clear hbn
 have HXy : Hid (NewBox w23 (w22.heap.size) [.string u3, .string u4, .int .i64 u5]) := by rw [Hid, hw]; exact ⟨by first | omega | (simp [World.setCell]; done) | (simp [World.setCell]; omega), fun o => by rcases o with _ | _ | _ | o <;> go_simp, fun o => by go_simp⟩
 obtain ⟨hky, hxy, hfy⟩ := HXy.out
 clear hw
 have H0 : Hid (DdS w w23 w1.heap.size ((w16.heap.size)) ((w22.heap.size)) ((w.heap.size)) ((w.heap.size + 1)) [.string y3, .int .i64 0, .int .i64 y4, .string y6, .string y8] [.string u3, .string u4, .int .i64 u5] [.string ⟨#[]⟩, .int .i64 0, .int .i64 0, .string ⟨#[]⟩, .string ⟨#[]⟩] [.string ⟨#[]⟩, .string ⟨#[]⟩, .int .i64 0] (B, n, g) l) := lH ⟨HXx.out, HXy.out, HXe.out, HXr.out, HOC.out, HB.out, by omega, by omega, by omega, by omega, by omega⟩
 have hpc : w1.heap.size < w23.heap.size := by omega
 have hne : (w.heap.size) ≠ (w.heap.size + 1) := by omega
 have hwe : w.heap.size ≤ (w.heap.size) := by omega
 have hwr : w.heap.size ≤ (w.heap.size + 1) := by omega
 have hee := HXe.out.2.2
 have hrr := HXr.out.2.2
 go_region_held3 (fun w' => (∀ o, w'.cell? ⟨(w16.heap.size), o, none⟩ = [.string y3, .int .i64 0, .int .i64 y4, .string y6, .string y8][o]?) ∧ ∀ o, w'.cell? ⟨(w22.heap.size), o, none⟩ = [.string u3, .string u4, .int .i64 u5][o]?) (first | exact ⟨(by (repeat (first | (with_reducible refine NewBox.alloc ?_ _) | (with_reducible refine NewBox.drew ?_) | (with_reducible refine NewBox.far (by omega) _ ?_))); with_reducible exact H3.out.b1 : NewBox _ _ [.string y3, .int .i64 0, .int .i64 y4, .string y6, .string y8]).2.1, (by (repeat (first | (with_reducible refine NewBox.alloc ?_ _) | (with_reducible refine NewBox.drew ?_) | (with_reducible refine NewBox.far (by omega) _ ?_))); with_reducible exact H3.out.b2 : NewBox _ _ [.string u3, .string u4, .int .i64 u5]).2.1⟩ | exact ⟨(by (repeat (first | (with_reducible refine NewBox.alloc ?_ _) | (with_reducible refine NewBox.drew ?_) | (with_reducible refine NewBox.far (by omega) _ ?_))); with_reducible exact H2.out.b1 : NewBox _ _ [.string y3, .int .i64 0, .int .i64 y4, .string y6, .string y8]).2.1, (by (repeat (first | (with_reducible refine NewBox.alloc ?_ _) | (with_reducible refine NewBox.drew ?_) | (with_reducible refine NewBox.far (by omega) _ ?_))); with_reducible exact H2.out.b2 : NewBox _ _ [.string u3, .string u4, .int .i64 u5]).2.1⟩ | exact ⟨(by (repeat (first | (with_reducible refine NewBox.alloc ?_ _) | (with_reducible refine NewBox.drew ?_) | (with_reducible refine NewBox.far (by omega) _ ?_))); with_reducible exact H1.out.b1 : NewBox _ _ [.string y3, .int .i64 0, .int .i64 y4, .string y6, .string y8]).2.1, (by (repeat (first | (with_reducible refine NewBox.alloc ?_ _) | (with_reducible refine NewBox.drew ?_) | (with_reducible refine NewBox.far (by omega) _ ?_))); with_reducible exact H1.out.b2 : NewBox _ _ [.string u3, .string u4, .int .i64 u5]).2.1⟩ | exact ⟨(by (repeat (first | (with_reducible refine NewBox.alloc ?_ _) | (with_reducible refine NewBox.drew ?_) | (with_reducible refine NewBox.far (by omega) _ ?_))); with_reducible exact H0.out.b1 : NewBox _ _ [.string y3, .int .i64 0, .int .i64 y4, .string y6, .string y8]).2.1, (by (repeat (first | (with_reducible refine NewBox.alloc ?_ _) | (with_reducible refine NewBox.drew ?_) | (with_reducible refine NewBox.far (by omega) _ ?_))); with_reducible exact H0.out.b2 : NewBox _ _ [.string u3, .string u4, .int .i64 u5]).2.1⟩) (first | ((go_at_call_of 31 (Value.int .i64 2); refine (l01Below_c w1.heap.size n g 0 w1.heap.size B l 2 _ (CodeK.get (DdS.c (by (repeat (first | (with_reducible refine DdS.alloc ?_ _) | (with_reducible refine DdS.drew ?_))); exact H0.out : DdS w _ w1.heap.size ((w16.heap.size)) ((w22.heap.size)) ((w.heap.size)) ((w.heap.size + 1)) [.string y3, .int .i64 0, .int .i64 y4, .string y6, .string y8] [.string u3, .string u4, .int .i64 u5] [.string ⟨#[]⟩, .int .i64 0, .int .i64 0, .string ⟨#[]⟩, .string ⟨#[]⟩] [.string ⟨#[]⟩, .string ⟨#[]⟩, .int .i64 0] (B, n, g) l))) (by omega) (by omega)).mono ?_; rintro e v1 ⟨t1, rfl, _, _, hc1, ho1⟩; have H1 := lH (DdS.next (by (repeat (first | (with_reducible refine DdS.alloc ?_ _) | (with_reducible refine DdS.drew ?_))); exact H0.out : DdS w _ w1.heap.size ((w16.heap.size)) ((w22.heap.size)) ((w.heap.size)) ((w.heap.size + 1)) [.string y3, .int .i64 0, .int .i64 y4, .string y6, .string y8] [.string u3, .string u4, .int .i64 u5] [.string ⟨#[]⟩, .int .i64 0, .int .i64 0, .string ⟨#[]⟩, .string ⟨#[]⟩] [.string ⟨#[]⟩, .string ⟨#[]⟩, .int .i64 0] (B, n, g) l) hc1 ho1); clear hc1 ho1)) | ((go_at_call_of 31 (Value.int .i64 60); refine (l01Below_c w1.heap.size n g 0 w1.heap.size B l 60 _ (CodeK.get (DdS.c (by (repeat (first | (with_reducible refine DdS.alloc ?_ _) | (with_reducible refine DdS.drew ?_))); exact H1.out : DdS w _ w1.heap.size ((w16.heap.size)) ((w22.heap.size)) ((w.heap.size)) ((w.heap.size + 1)) [.string y3, .int .i64 0, .int .i64 y4, .string y6, .string y8] [.string u3, .string u4, .int .i64 u5] [.string ⟨#[]⟩, .int .i64 0, .int .i64 0, .string ⟨#[]⟩, .string ⟨#[]⟩] [.string ⟨#[]⟩, .string ⟨#[]⟩, .int .i64 0] (B, n, g) l))) (by omega) (by omega)).mono ?_; rintro e v2 ⟨t2, rfl, _, _, hc2, ho2⟩; have H2 := lH (DdS.next (by (repeat (first | (with_reducible refine DdS.alloc ?_ _) | (with_reducible refine DdS.drew ?_))); exact H1.out : DdS w _ w1.heap.size ((w16.heap.size)) ((w22.heap.size)) ((w.heap.size)) ((w.heap.size + 1)) [.string y3, .int .i64 0, .int .i64 y4, .string y6, .string y8] [.string u3, .string u4, .int .i64 u5] [.string ⟨#[]⟩, .int .i64 0, .int .i64 0, .string ⟨#[]⟩, .string ⟨#[]⟩] [.string ⟨#[]⟩, .string ⟨#[]⟩, .int .i64 0] (B, n, g) l) hc2 ho2); clear hc2 ho2)) | ((go_at_call_of 31 (Value.int .i64 4); refine (l01Below_c w1.heap.size n g 0 w1.heap.size B l 4 _ (CodeK.get (DdS.c (by (repeat (first | (with_reducible refine DdS.alloc ?_ _) | (with_reducible refine DdS.drew ?_))); exact H2.out : DdS w _ w1.heap.size ((w16.heap.size)) ((w22.heap.size)) ((w.heap.size)) ((w.heap.size + 1)) [.string y3, .int .i64 0, .int .i64 y4, .string y6, .string y8] [.string u3, .string u4, .int .i64 u5] [.string ⟨#[]⟩, .int .i64 0, .int .i64 0, .string ⟨#[]⟩, .string ⟨#[]⟩] [.string ⟨#[]⟩, .string ⟨#[]⟩, .int .i64 0] (B, n, g) l))) (by omega) (by omega)).mono ?_; rintro e v3 ⟨t3, rfl, _, _, hc3, ho3⟩; have H3 := lH (DdS.next (by (repeat (first | (with_reducible refine DdS.alloc ?_ _) | (with_reducible refine DdS.drew ?_))); exact H2.out : DdS w _ w1.heap.size ((w16.heap.size)) ((w22.heap.size)) ((w.heap.size)) ((w.heap.size + 1)) [.string y3, .int .i64 0, .int .i64 y4, .string y6, .string y8] [.string u3, .string u4, .int .i64 u5] [.string ⟨#[]⟩, .int .i64 0, .int .i64 0, .string ⟨#[]⟩, .string ⟨#[]⟩] [.string ⟨#[]⟩, .string ⟨#[]⟩, .int .i64 0] (B, n, g) l) hc3 ho3); have hye := H3.out.b3.2.1; have hyf := H3.out.b3.2.2; have hyk := H3.out.b3.1; have hze := H3.out.b4.2.1; have hzf := H3.out.b4.2.2; have hzk := H3.out.b4.1; clear hc3 ho3)))
 all_goals
  go_wp2
  refine bodyPost_named (fun wz hw => ?_)
  have HZE : Hid (NewBox wz (w.heap.size) [.string y3, .int .i64 0, .int .i64 y4, .string y6, .string y8]) := by rw [Hid, hw]; apply NewBox.cast; (focus ((repeat (first | (with_reducible apply NewBox.alloc) | (with_reducible apply NewBox.drew) | (with_reducible apply NewBox.set1) | ((with_reducible apply NewBox.far); (focus (first | omega | (simp; done) | (simp; omega)))))); exact H3.out.b3)); rfl
  have HZR : Hid (NewBox wz (w.heap.size + 1) [.string u3, .string u4, .int .i64 u5]) := by rw [Hid, hw]; apply NewBox.cast; (focus ((repeat (first | (with_reducible apply NewBox.alloc) | (with_reducible apply NewBox.drew) | (with_reducible apply NewBox.set1) | ((with_reducible apply NewBox.far); (focus (first | omega | (simp; done) | (simp; omega)))))); exact H3.out.b4)); rfl
  have HZB : Hid (Below w.heap.size w wz) := by rw [Hid, hw]; (repeat (first | ((with_reducible refine Below.alloc ?_ ?_ _); rotate_left 1; (focus (first | omega | (have := H3.out.on.size; simp; omega)))) | (with_reducible refine Below.drew ?_) | ((with_reducible refine Below.setCell ?_ ?_ _); rotate_left 1; (focus (first | omega | (simp; done) | (simp; omega)))))); exact H3.out.on
  clear hw hye hyf hyk hze hzf hzk
  have hxe2 := HZE.out.2.1
  have hxr2 := HZR.out.2.1
  refine bodyPost_ret (v := .tuple #[.int .i64 kd, .agg #[.string y3, .int .i64 0, .int .i64 y4, .string y6, .string y8], .agg #[.string u3, .string u4, .int .i64 u5], .slice (some ⟨_, 0, none⟩) 3 3]) (by simp [results, Tryz.results11, go_sem, hxe2, hxr2]; rfl) rfl ?_
  exact ⟨kd, ⟨y3, 0, y4, y6, y8⟩, ⟨u3, u4, u5⟩, _, rfl, ⟨⟨k0, k1⟩, HXE.out, HXR.out⟩, HZB.out⟩
set_option maxRecDepth 100000 in
theorem big_c (n g : Nat) (B : Option Addr) (w : World) (hn : n ≤ maxLen) : Calls Tryz.prog 8 #[.slice B n g] w fun e w' => e = .returned (.bool (decide (1048576 < n))) ∧ w = w' := by
 unfold maxLen at hn
 go_enter Tryz.func8, Tryz.ntmps8
 rcases Nat.lt_or_ge 1048576 n with h | h
 ·have hI : (1048576 : Int) < n := by omega
  go_wp2
  go_ret
  exact ⟨ret_bool (by first | rfl | (rw [decide_eq_true h]; simp [h]) | simp [h]), rfl⟩
 ·have hI : ¬ (1048576 : Int) < n := by omega
  go_wp2
  go_ret
  exact ⟨ret_bool (by first | rfl | simp [h] | (rw [decide_eq_false (by omega)]; simp; omega)), rfl⟩
section
variable {width : Int} {es : List Ent} {rs : List Rcp} {hs : List Hd}
theorem hd_at (h : BrkParts width es rs hs) {i : Nat} {x : Hd} (hx : hs[i]? = some x) : ∃ s t : Nat, x.size = (s : Int) ∧ x.taken = (t : Int) ∧ s ≤ es.length ∧ t ≤ rs.length ∧ x.root = rootFu width 513 ((leavesM width es).take s) ∧ x.troot = rootFu width 513 ((takenM width rs).take t) := by
 obtain ⟨h1, h2, h3, h4⟩ := rootsAt_all ((rootsOk_iff.1 h.roots).2 x (List.mem_of_getElem? hx))
 have h7 := headOk_all (headsOk_at h.heads hx).2.1
 rw [leavesM_len] at h1
 rw [takenM_len] at h2
 exact ⟨x.size.toNat, x.taken.toNat, by omega, by omega, by omega, by omega, h3, h4⟩
end
def inSt : Nat → Nat → Nat → Nat
 | 0, _, _ => 0
 | f + 1, n, a => if n ≤ 1 then 0 else if a < halfN n then inSt f (halfN n) a + 1 else inSt f (n - halfN n) (a - halfN n) + 1
theorem inSt_end {f n a : Nat} (h : n ≤ 1) : inSt (f + 1) n a = 0 := by rw [inSt, if_pos h]
theorem inSt_lo {f n a : Nat} (h2 : 2 ≤ n) (h : a < halfN n) : inSt (f + 1) n a = inSt f (halfN n) a + 1 := by rw [inSt, if_neg (by omega), if_pos h]
theorem inSt_hi {f n a : Nat} (h2 : 2 ≤ n) (h : ¬ a < halfN n) : inSt (f + 1) n a = inSt f (n - halfN n) (a - halfN n) + 1 := by rw [inSt, if_neg (by omega), if_neg h]
theorem inSt_le : ∀ {f n a : Nat}, n ≤ 512 → inSt f n a ≤ n
 | 0, _, _, _ => by rw [inSt]; omega
 | f + 1, n, a, h => by
   rw [inSt]
   split
   ·omega
   ·obtain ⟨k1, k2, k3⟩ := halfN_bd (n := n) (by omega) h
    split
    ·have := inSt_le (f := f) (n := halfN n) (a := a) (by omega); omega
    ·have := inSt_le (f := f) (n := n - halfN n) (a := a - halfN n) (by omega); omega
def prI (l : List ByteArray) : List ByteArray := l.take (l.length - 1)
def prL (l : List ByteArray) : ByteArray := l.getD (l.length - 1) ByteArray.empty
def inW (width : Int) (leaf : ByteArray) : Nat → Nat → Nat → List ByteArray → ByteArray × List ByteArray
 | 0, _, _, _ => (leaf, [])
 | f + 1, n, a, pr => if n ≤ 1 then (leaf, []) else
   if a < halfN n then (nodeT width (inW width leaf f (halfN n) a (prI pr)).1 (prL pr), (inW width leaf f (halfN n) a (prI pr)).2 ++ [(inW width leaf f (halfN n) a (prI pr)).1 ++ prL pr])
   else (nodeT width (prL pr) (inW width leaf f (n - halfN n) (a - halfN n) (prI pr)).1, (inW width leaf f (n - halfN n) (a - halfN n) (prI pr)).2 ++ [prL pr ++ (inW width leaf f (n - halfN n) (a - halfN n) (prI pr)).1])
theorem inW_end {width : Int} {leaf : ByteArray} {f n a : Nat} {pr : List ByteArray} (h : n ≤ 1) : inW width leaf (f + 1) n a pr = (leaf, []) := by rw [inW, if_pos h]
theorem inW_lo {width : Int} {leaf : ByteArray} {f n a : Nat} {pr : List ByteArray} (h2 : 2 ≤ n) (h : a < halfN n) : inW width leaf (f + 1) n a pr = (nodeT width (inW width leaf f (halfN n) a (prI pr)).1 (prL pr), (inW width leaf f (halfN n) a (prI pr)).2 ++ [(inW width leaf f (halfN n) a (prI pr)).1 ++ prL pr]) := by rw [inW, if_neg (by omega), if_pos h]
theorem inW_hi {width : Int} {leaf : ByteArray} {f n a : Nat} {pr : List ByteArray} (h2 : 2 ≤ n) (h : ¬ a < halfN n) : inW width leaf (f + 1) n a pr = (nodeT width (prL pr) (inW width leaf f (n - halfN n) (a - halfN n) (prI pr)).1, (inW width leaf f (n - halfN n) (a - halfN n) (prI pr)).2 ++ [prL pr ++ (inW width leaf f (n - halfN n) (a - halfN n) (prI pr)).1]) := by rw [inW, if_neg (by omega), if_neg h]
theorem prI_len {l : List ByteArray} {k : Nat} (h : l.length = k + 1) : (prI l).length = k := by rw [prI, List.length_take]; omega
theorem prI_are {width : Int} {l : List ByteArray} (h : areH width l = true) : areH width (prI l) = true := areH_sub h (fun s hs => List.mem_of_mem_take hs)
theorem prL_size {width : Int} {l : List ByteArray} (h : areH width l = true) (hl : 1 ≤ l.length) : ((prL l).size : Int) = width := areH_mem h _ (getD_mem (by omega))
theorem prL_get {l : List ByteArray} {k : Nat} (h : l.length = k + 1) : l[k]? = some (prL l) := by
 rw [prL, List.getD_eq_getElem?_getD, h, Nat.add_sub_cancel, List.getElem?_eq_getElem (by omega)]; rfl
theorem inW_size {width : Int} {leaf : ByteArray} (hw : inR width 1 32 = true) (hl : (leaf.size : Int) = width) : ∀ {f n a : Nat} {pr : List ByteArray}, a < n → n ≤ 512 → areH width pr = true → pr.length = inSt f n a → ((inW width leaf f n a pr).1.size : Int) = width ∧ (inW width leaf f n a pr).2.length = inSt f n a
 | 0, n, a, pr, _, _, _, _ => ⟨by rw [inW]; exact hl, rfl⟩
 | f + 1, n, a, pr, ha, h5, hp, hn => by
   rcases Nat.lt_or_ge 1 n with h1 | h1
   ·obtain ⟨k1, k2, k3⟩ := halfN_bd h1 h5
    by_cases hlt : a < halfN n
    ·rw [inSt_lo h1 hlt] at hn
     obtain ⟨h6, h7⟩ := inW_size hw hl (f := f) (n := halfN n) (a := a) (pr := prI pr) hlt (by omega) (prI_are hp) (prI_len hn)
     rw [inW_lo h1 hlt, inSt_lo h1 hlt]
     exact ⟨nodeT_size hw h6 (prL_size hp (by omega)), by simp [h7]⟩
    ·rw [inSt_hi h1 hlt] at hn
     obtain ⟨h6, h7⟩ := inW_size hw hl (f := f) (n := n - halfN n) (a := a - halfN n) (pr := prI pr) (by omega) (by omega) (prI_are hp) (prI_len hn)
     rw [inW_hi h1 hlt, inSt_hi h1 hlt]
     exact ⟨nodeT_size hw (prL_size hp (by omega)) h6, by simp [h7]⟩
   ·rw [inW_end h1, inSt_end h1]; exact ⟨hl, rfl⟩
end
end Go.Proofs.YtoccjgcokffkbaaGreat
