/- Part 27 of the proof of FnProofs: lemmas and contracts. -/
import Derived.Test.YtoccjgcokffkbaaGreatTq26
import Derived.Test.YtoccjgcokffkbaaGreatTq3
import Derived.Test.YtoccjgcokffkbaaGreatTq15
import Derived.Test.YtoccjgcokffkbaaGreatTq11
import Derived.Test.YtoccjgcokffkbaaGreatTq10
import Derived.Test.YtoccjgcokffkbaaGreatTq1
import Derived.Test.YtoccjgcokffkbaaGreatTq16
import Derived.BigQuiet
namespace Go.Proofs.YtoccjgcokffkbaaGreat
set_option linter.unusedVariables false
set_option linter.unusedSimpArgs false
set_option maxHeartbeats 20000000
section
open Go.RowKit
set_option maxRecDepth 100000 in
theorem DrawRight_c (n g : Nat) (B : Option Addr) (l : List Int) (w : World) (hr : Rd w 0 w.heap.size B (bys l)) (hl : l.length = n) (hn : n ≤ 1048576) (hb : ∀ x ∈ l, 0 ≤ x ∧ x ≤ 255) :
  Calls Tryz.prog 9 #[.slice B n g] w fun e w' => ∃ (a : Bk) (m : Bm), e = .returned (.agg #[.int .i64 m.width, .slice a.E m.es.length a.ce, .slice a.R m.rs.length a.cr, .slice a.H m.hs.length a.ch, .int .i64 (lastHd m.hs).size, .slice a.A1 (pk1 m.width m.es m.hs).length a.c1, .int .i64 (lastHd m.hs).taken, .slice a.A2 (pk2 m.width m.rs m.hs).length a.c2, .int .i64 (lastHd m.hs).num, .int .i64 (lastHd m.hs).size, .string (lastHd m.hs).root, .int .i64 (lastHd m.hs).taken, .string (lastHd m.hs).troot]) ∧ (BrkK w' w.heap.size w'.heap.size a m ∧ m.es.length ≤ 24) ∧ Below w.heap.size w w' := by
 have HNEW := lH (fun W (r : Rd W 0 W.heap.size B (bys l)) => l01New_c n g 0 W.heap.size B l W r hl hn hb)
 have HB : Hid (Below w.heap.size w w) := Below.refl _ _
 have HOQ : Hid (Rd w (0) (w.heap.size) (B) (bys l)) := Rd.base hr
 clear hr hl hb
 go_enter Tryz.func9, Tryz.ntmps9
 go_wp2_with fail
 refine calls_named (fun w1 hw => ?_)
 have hz1 : w.heap.size + 1 ≤ w1.heap.size := by rw [hw]; first | omega | simp [World.setCell] <;> omega
 have hzz1 : w.heap.size ≤ w1.heap.size := by omega
 have hbn : Below w.heap.size w w1 := by rw [hw]; exact (by repeat with_reducible first | exact bR _ | apply bA | apply bD)
 replace HB := lH (below_then HB.out hbn HB.out.size)
 replace HOQ := lH (HOQ.out.below hbn)
 clear hbn
 have HXr : Hid (NewBox w1 (w.heap.size) [.int .i64 0, .slice none 0 0, .slice none 0 0, .slice none 0 0, .int .i64 0, .slice none 0 0, .int .i64 0, .slice none 0 0, .int .i64 0, .int .i64 0, .string ⟨#[]⟩, .int .i64 0, .string ⟨#[]⟩]) := by rw [Hid, hw]; exact ⟨by first | omega | (simp [World.setCell]; done) | (simp [World.setCell]; omega), fun o => by rcases o with _ | _ | _ | _ | _ | _ | _ | _ | _ | _ | _ | _ | _ | o <;> go_simp, fun o => by go_simp⟩
 obtain ⟨hkr, hxr, hfr⟩ := HXr.out
 clear hw
 refine (HNEW.out _ HOQ.out.base).mono ?_
 rintro e w2 ⟨rfl, hcd, hpz, hb⟩
 have hzw2 : w1.heap.size ≤ w2.heap.size := hb.size
 have hzzw2 : w.heap.size ≤ w2.heap.size := by omega
 replace HB := lH (below_then HB.out hb HB.out.size)
 replace HOQ := lH (HOQ.out.below hb)
 replace HXr := lH (HXr.out.below hb)
 clear hxr hfr hkr
 obtain ⟨hkr, hxr, hfr⟩ := HXr.out
 clear hb
 have HOC : Hid (CodeK w2 (0) (w1.heap.size + 1) ((B, n, g)) (l)) := lH (CodeK.mk_ hcd)
 clear hcd HNEW
 clear HOQ
 obtain ⟨d0, hd0⟩ : ∃ d : Nat, 4 + n / 12 = d := ⟨_, rfl⟩
 have E1 : (4 : Int) + (n : Int) / 12 = (d0 : Int) := by omega
 by_cases h24 : 24 < d0
 ·have hI : (24 : Int) < (d0 : Int) := by omega
  have HRT := fun W x (hc : Code W w1.heap.size B n g 0 w1.heap.size l) (hp : w1.heap.size < W.heap.size) (x0 : 0 ≤ x) (x1 : x < 32) => l12Right_c hc hp (1 + x) (inR_true.2 ⟨by omega, by omega⟩) 24 (by omega)
  rw [show ((24 : Nat) : Int) = 24 from rfl] at HRT
  replace HRT := lH HRT
  clear hd0
  go_wp2_with fail
  refine calls_named (fun w3 hw => ?_)
  have hz3 : w2.heap.size + 0 ≤ w3.heap.size := by rw [hw]; first | omega | simp [World.setCell] <;> omega
  have hzz3 : w.heap.size ≤ w3.heap.size := by omega
  have hbn : Below w2.heap.size w2 w3 := by rw [hw]; exact (by repeat with_reducible first | exact bR _ | apply bA | apply bD)
  replace HB := lH (below_then HB.out hbn HB.out.size)
  replace HOC := lH (HOC.out.below hbn)
  replace HXr := lH (HXr.out.below hbn)
  clear hxr hfr hkr
  obtain ⟨hkr, hxr, hfr⟩ := HXr.out
  clear hbn
  clear hw
  refine (l01Below_c w1.heap.size n g 0 w1.heap.size B l 32 _ (CodeK.get HOC.out) (by omega) (by omega)).mono ?_
  rintro e w4 ⟨x, rfl, x0, x1, hc, hb⟩
  have hzw4 : w3.heap.size ≤ w4.heap.size := hb.size
  have hzzw4 : w.heap.size ≤ w4.heap.size := by omega
  replace HB := lH (below_only HB.out hb (by omega) HB.out.size)
  replace HXr := lH (HXr.out.only hb (by first | omega | (simp; omega)))
  clear hxr hfr hkr
  obtain ⟨hkr, hxr, hfr⟩ := HXr.out
  clear hb
  clear HOC
  have HOC : Hid (CodeK w4 (0) (w1.heap.size + 1) ((B, n, g)) (l)) := lH (CodeK.mk_ hc)
  clear hc
  go_wp2_with fail
  refine calls_named (fun w5 hw => ?_)
  have hz5 : w4.heap.size + 0 ≤ w5.heap.size := by rw [hw]; first | omega | simp [World.setCell] <;> omega
  have hzz5 : w.heap.size ≤ w5.heap.size := by omega
  have hbn : Below w4.heap.size w4 w5 := by rw [hw]; exact (by repeat with_reducible first | exact bR _ | apply bA | apply bD)
  replace HB := lH (below_then HB.out hbn HB.out.size)
  replace HOC := lH (HOC.out.below hbn)
  replace HXr := lH (HXr.out.below hbn)
  clear hxr hfr hkr
  obtain ⟨hkr, hxr, hfr⟩ := HXr.out
  clear hbn
  clear hw
  refine (HRT.out _ x (CodeK.get HOC.out) (by omega) x0 x1).mono ?_
  rintro e w6 ⟨a, m, rfl, ⟨hbk, hmw9, hml⟩, hc, hb⟩
  have hzw6 : w5.heap.size ≤ w6.heap.size := hb.size
  have hzzw6 : w.heap.size ≤ w6.heap.size := by omega
  replace HB := lH (below_only HB.out hb (by omega) HB.out.size)
  replace HXr := lH (HXr.out.only hb (by first | omega | (simp; omega)))
  clear hxr hfr hkr
  obtain ⟨hkr, hxr, hfr⟩ := HXr.out
  clear hb
  clear HOC
  have HOC : Hid (CodeK w6 (0) (w1.heap.size + 1) ((B, n, g)) (l)) := lH (CodeK.mk_ hc)
  clear hc
  have HOK : Hid (BrkK w6 (w5.heap.size) (w6.heap.size) (a) (m)) := lH hbk
  have HML := lH hml
  clear hbk hml hmw9
  clear HOC
  go_wp2
  refine bodyPost_named (fun w7 hw => ?_)
  have hz7 : w6.heap.size + 0 ≤ w7.heap.size := by rw [hw]; first | omega | simp [World.setCell] <;> omega
  have hzz7 : w.heap.size ≤ w7.heap.size := by omega
  replace HB : Hid (Below w.heap.size w w7) := by rw [Hid, hw]; exact (by ((repeat first | with_reducible apply bA | with_reducible apply bD | (with_reducible refine bS ?_ ?_; (focus (first | omega | (simp; done) | (simp; omega))))); exact HB.out))
  replace HOK : Hid (BrkK w7 (w5.heap.size) (w6.heap.size) (a) (m)) := by rw [Hid, hw]; (repeat (first | (with_reducible refine BrkK.alloc ?_ _) | (with_reducible refine BrkK.drew ?_) | ((with_reducible refine BrkK.setCell ?_ ?_ _); rotate_left 1; (focus (first | omega | (simp; done) | (simp; omega)))))); exact HOK.out
  replace HXr : Hid (NewBox w7 (w.heap.size) [.int .i64 m.width, .slice a.E m.es.length a.ce, .slice a.R m.rs.length a.cr, .slice a.H m.hs.length a.ch, .int .i64 (lastHd m.hs).size, .slice a.A1 (pk1 m.width m.es m.hs).length a.c1, .int .i64 (lastHd m.hs).taken, .slice a.A2 (pk2 m.width m.rs m.hs).length a.c2, .int .i64 (lastHd m.hs).num, .int .i64 (lastHd m.hs).size, .string (lastHd m.hs).root, .int .i64 (lastHd m.hs).taken, .string (lastHd m.hs).troot]) := by rw [Hid, hw]; apply NewBox.cast; (focus ((repeat (first | (with_reducible apply NewBox.alloc) | (with_reducible apply NewBox.drew) | (with_reducible apply NewBox.set1) | ((with_reducible apply NewBox.far); (focus (first | omega | (simp; done) | (simp; omega)))))); exact HXr.out)); rfl
  clear hxr hfr hkr
  obtain ⟨hkr, hxr, hfr⟩ := HXr.out
  clear hw
  refine bodyPost_ret (v := .agg #[.int .i64 m.width, .slice a.E m.es.length a.ce, .slice a.R m.rs.length a.cr, .slice a.H m.hs.length a.ch, .int .i64 (lastHd m.hs).size, .slice a.A1 (pk1 m.width m.es m.hs).length a.c1, .int .i64 (lastHd m.hs).taken, .slice a.A2 (pk2 m.width m.rs m.hs).length a.c2, .int .i64 (lastHd m.hs).num, .int .i64 (lastHd m.hs).size, .string (lastHd m.hs).root, .int .i64 (lastHd m.hs).taken, .string (lastHd m.hs).troot]) (by simp [results, Tryz.results9, go_sem, hxr]) rfl ?_
  exact ⟨a, m, rfl, ⟨HOK.out.mono (by omega) (by omega) (Nat.le_refl _), Nat.le_trans HML.out (by omega)⟩, HB.out⟩
 ·have hI : ¬ (24 : Int) < (d0 : Int) := by omega
  have HRT := lH (fun W x (hc : Code W w1.heap.size B n g 0 w1.heap.size l) (hp : w1.heap.size < W.heap.size) (x0 : 0 ≤ x) (x1 : x < 32) => l12Right_c hc hp (1 + x) (inR_true.2 ⟨by omega, by omega⟩) d0 (by omega))
  clear hd0
  go_wp2_with fail
  refine calls_named (fun w3 hw => ?_)
  have hz3 : w2.heap.size + 0 ≤ w3.heap.size := by rw [hw]; first | omega | simp [World.setCell] <;> omega
  have hzz3 : w.heap.size ≤ w3.heap.size := by omega
  have hbn : Below w2.heap.size w2 w3 := by rw [hw]; exact (by repeat with_reducible first | exact bR _ | apply bA | apply bD)
  replace HB := lH (below_then HB.out hbn HB.out.size)
  replace HOC := lH (HOC.out.below hbn)
  replace HXr := lH (HXr.out.below hbn)
  clear hxr hfr hkr
  obtain ⟨hkr, hxr, hfr⟩ := HXr.out
  clear hbn
  clear hw
  refine (l01Below_c w1.heap.size n g 0 w1.heap.size B l 32 _ (CodeK.get HOC.out) (by omega) (by omega)).mono ?_
  rintro e w4 ⟨x, rfl, x0, x1, hc, hb⟩
  have hzw4 : w3.heap.size ≤ w4.heap.size := hb.size
  have hzzw4 : w.heap.size ≤ w4.heap.size := by omega
  replace HB := lH (below_only HB.out hb (by omega) HB.out.size)
  replace HXr := lH (HXr.out.only hb (by first | omega | (simp; omega)))
  clear hxr hfr hkr
  obtain ⟨hkr, hxr, hfr⟩ := HXr.out
  clear hb
  clear HOC
  have HOC : Hid (CodeK w4 (0) (w1.heap.size + 1) ((B, n, g)) (l)) := lH (CodeK.mk_ hc)
  clear hc
  go_wp2_with fail
  refine calls_named (fun w5 hw => ?_)
  have hz5 : w4.heap.size + 0 ≤ w5.heap.size := by rw [hw]; first | omega | simp [World.setCell] <;> omega
  have hzz5 : w.heap.size ≤ w5.heap.size := by omega
  have hbn : Below w4.heap.size w4 w5 := by rw [hw]; exact (by repeat with_reducible first | exact bR _ | apply bA | apply bD)
  replace HB := lH (below_then HB.out hbn HB.out.size)
  replace HOC := lH (HOC.out.below hbn)
  replace HXr := lH (HXr.out.below hbn)
  clear hxr hfr hkr
  obtain ⟨hkr, hxr, hfr⟩ := HXr.out
  clear hbn
  clear hw
  refine (HRT.out _ x (CodeK.get HOC.out) (by omega) x0 x1).mono ?_
  rintro e w6 ⟨a, m, rfl, ⟨hbk, hmw9, hml⟩, hc, hb⟩
  have hzw6 : w5.heap.size ≤ w6.heap.size := hb.size
  have hzzw6 : w.heap.size ≤ w6.heap.size := by omega
  replace HB := lH (below_only HB.out hb (by omega) HB.out.size)
  replace HXr := lH (HXr.out.only hb (by first | omega | (simp; omega)))
  clear hxr hfr hkr
  obtain ⟨hkr, hxr, hfr⟩ := HXr.out
  clear hb
  clear HOC
  have HOC : Hid (CodeK w6 (0) (w1.heap.size + 1) ((B, n, g)) (l)) := lH (CodeK.mk_ hc)
  clear hc
  have HOK : Hid (BrkK w6 (w5.heap.size) (w6.heap.size) (a) (m)) := lH hbk
  have HML := lH hml
  clear hbk hml hmw9
  clear HOC
  go_wp2
  refine bodyPost_named (fun w7 hw => ?_)
  have hz7 : w6.heap.size + 0 ≤ w7.heap.size := by rw [hw]; first | omega | simp [World.setCell] <;> omega
  have hzz7 : w.heap.size ≤ w7.heap.size := by omega
  replace HB : Hid (Below w.heap.size w w7) := by rw [Hid, hw]; exact (by ((repeat first | with_reducible apply bA | with_reducible apply bD | (with_reducible refine bS ?_ ?_; (focus (first | omega | (simp; done) | (simp; omega))))); exact HB.out))
  replace HOK : Hid (BrkK w7 (w5.heap.size) (w6.heap.size) (a) (m)) := by rw [Hid, hw]; (repeat (first | (with_reducible refine BrkK.alloc ?_ _) | (with_reducible refine BrkK.drew ?_) | ((with_reducible refine BrkK.setCell ?_ ?_ _); rotate_left 1; (focus (first | omega | (simp; done) | (simp; omega)))))); exact HOK.out
  replace HXr : Hid (NewBox w7 (w.heap.size) [.int .i64 m.width, .slice a.E m.es.length a.ce, .slice a.R m.rs.length a.cr, .slice a.H m.hs.length a.ch, .int .i64 (lastHd m.hs).size, .slice a.A1 (pk1 m.width m.es m.hs).length a.c1, .int .i64 (lastHd m.hs).taken, .slice a.A2 (pk2 m.width m.rs m.hs).length a.c2, .int .i64 (lastHd m.hs).num, .int .i64 (lastHd m.hs).size, .string (lastHd m.hs).root, .int .i64 (lastHd m.hs).taken, .string (lastHd m.hs).troot]) := by rw [Hid, hw]; apply NewBox.cast; (focus ((repeat (first | (with_reducible apply NewBox.alloc) | (with_reducible apply NewBox.drew) | (with_reducible apply NewBox.set1) | ((with_reducible apply NewBox.far); (focus (first | omega | (simp; done) | (simp; omega)))))); exact HXr.out)); rfl
  clear hxr hfr hkr
  obtain ⟨hkr, hxr, hfr⟩ := HXr.out
  clear hw
  refine bodyPost_ret (v := .agg #[.int .i64 m.width, .slice a.E m.es.length a.ce, .slice a.R m.rs.length a.cr, .slice a.H m.hs.length a.ch, .int .i64 (lastHd m.hs).size, .slice a.A1 (pk1 m.width m.es m.hs).length a.c1, .int .i64 (lastHd m.hs).taken, .slice a.A2 (pk2 m.width m.rs m.hs).length a.c2, .int .i64 (lastHd m.hs).num, .int .i64 (lastHd m.hs).size, .string (lastHd m.hs).root, .int .i64 (lastHd m.hs).taken, .string (lastHd m.hs).troot]) (by simp [results, Tryz.results9, go_sem, hxr]) rfl ?_
  exact ⟨a, m, rfl, ⟨HOK.out.mono (by omega) (by omega) (Nat.le_refl _), Nat.le_trans HML.out (by omega)⟩, HB.out⟩
theorem DrawRightP_c (n g : Nat) (B : Option Addr) (l : List Int) (w : World) (hr : Rd w 0 w.heap.size B (bys l)) (hl : l.length = n) (hn : n ≤ 1048576) (hb : ∀ x ∈ l, 0 ≤ x ∧ x ≤ 255) :
  Calls Tryz.prog 9 #[.slice B n g] w fun e w' => ∃ (width : Int) (E R H A1 A2 : Option Addr) (ne nr nh ce cr ch c1 c2 m1 m2 : Nat) (es : List Ent) (rs : List Rcp) (hs : List Hd) (l1 l2 : List ByteArray) (h : Hd), e = .returned (.agg #[.int .i64 width, .slice E ne ce, .slice R nr cr, .slice H nh ch, .int .i64 h.size, .slice A1 m1 c1, .int .i64 h.taken, .slice A2 m2 c2, .int .i64 h.num, .int .i64 h.size, .string h.root, .int .i64 h.taken, .string h.troot]) ∧
   (BrkK w' w.heap.size w'.heap.size ⟨E, R, H, A1, A2, ce, cr, ch, c1, c2⟩ ⟨width, es, rs, hs⟩ ∧ es.length = ne ∧ rs.length = nr ∧ hs.length = nh ∧ pk1 width es hs = l1 ∧ pk2 width rs hs = l2 ∧ l1.length = m1 ∧ l2.length = m2 ∧ lastHd hs = h ∧ ne ≤ 24) ∧ Below w.heap.size w w' :=
 (DrawRight_c n g B l w hr hl hn hb).mono fun e w' ⟨a, m, he, ⟨hk, h24⟩, hb⟩ => ⟨m.width, a.E, a.R, a.H, a.A1, a.A2, _, _, _, a.ce, a.cr, a.ch, a.c1, a.c2, _, _, m.es, m.rs, m.hs, _, _, _, he, ⟨hk, rfl, rfl, rfl, rfl, rfl, rfl, rfl, rfl, h24⟩, hb⟩
section
variable {w wx wy : World} {p k1 k2 k3 k4 n g : Nat} {c1 c2 c3 c4 : List Value} {c : Option Addr × Nat × Nat} {l : List Int} {B : Option Addr}
end
set_option maxRecDepth 100000 in
theorem big_c (n g : Nat) (B : Option Addr) (w : World) (hn : n ≤ maxLen) : Calls Tryz.prog 8 #[.slice B n g] w fun e w' => e = .returned (.bool (decide (1048576 < n))) ∧ w = w' := by
 unfold maxLen at hn
 go_enter Tryz.func8, Tryz.ntmps8
 rcases Nat.lt_or_ge 1048576 n with h | h
 ·have hI : (1048576 : Int) < n := by omega
  go_wp2
  go_ret
  exact ⟨ret_bool (by first | rfl | (rw [decide_eq_true h]; simp [h]) | simp [h]), rfl⟩
 ·have hI : ¬ (1048576 : Int) < n := by omega
  go_wp2
  go_ret
  exact ⟨ret_bool (by first | rfl | simp [h] | (rw [decide_eq_false (by omega)]; simp; omega)), rfl⟩
section
variable {width : Int} {es : List Ent} {rs : List Rcp} {hs : List Hd}
theorem hd_at (h : BrkParts width es rs hs) {i : Nat} {x : Hd} (hx : hs[i]? = some x) : ∃ s t : Nat, x.size = (s : Int) ∧ x.taken = (t : Int) ∧ s ≤ es.length ∧ t ≤ rs.length ∧ x.root = rootFu width 513 ((leavesM width es).take s) ∧ x.troot = rootFu width 513 ((takenM width rs).take t) := by
 obtain ⟨h1, h2, h3, h4⟩ := rootsAt_all ((rootsOk_iff.1 h.roots).2 x (List.mem_of_getElem? hx))
 have h7 := headOk_all (headsOk_at h.heads hx).2.1
 rw [leavesM_len] at h1
 rw [takenM_len] at h2
 exact ⟨x.size.toNat, x.taken.toNat, by omega, by omega, by omega, by omega, h3, h4⟩
end
def inSt : Nat → Nat → Nat → Nat
 | 0, _, _ => 0
 | f + 1, n, a => if n ≤ 1 then 0 else if a < halfN n then inSt f (halfN n) a + 1 else inSt f (n - halfN n) (a - halfN n) + 1
theorem inSt_end {f n a : Nat} (h : n ≤ 1) : inSt (f + 1) n a = 0 := by rw [inSt, if_pos h]
theorem inSt_lo {f n a : Nat} (h2 : 2 ≤ n) (h : a < halfN n) : inSt (f + 1) n a = inSt f (halfN n) a + 1 := by rw [inSt, if_neg (by omega), if_pos h]
theorem inSt_hi {f n a : Nat} (h2 : 2 ≤ n) (h : ¬ a < halfN n) : inSt (f + 1) n a = inSt f (n - halfN n) (a - halfN n) + 1 := by rw [inSt, if_neg (by omega), if_neg h]
theorem inSt_le : ∀ {f n a : Nat}, n ≤ 512 → inSt f n a ≤ n
 | 0, _, _, _ => by rw [inSt]; omega
 | f + 1, n, a, h => by
   rw [inSt]
   split
   ·omega
   ·obtain ⟨k1, k2, k3⟩ := halfN_bd (n := n) (by omega) h
    split
    ·have := inSt_le (f := f) (n := halfN n) (a := a) (by omega); omega
    ·have := inSt_le (f := f) (n := n - halfN n) (a := a - halfN n) (by omega); omega
def prI (l : List ByteArray) : List ByteArray := l.take (l.length - 1)
def prL (l : List ByteArray) : ByteArray := l.getD (l.length - 1) ByteArray.empty
def inW (width : Int) (leaf : ByteArray) : Nat → Nat → Nat → List ByteArray → ByteArray × List ByteArray
 | 0, _, _, _ => (leaf, [])
 | f + 1, n, a, pr => if n ≤ 1 then (leaf, []) else
   if a < halfN n then (nodeT width (inW width leaf f (halfN n) a (prI pr)).1 (prL pr), (inW width leaf f (halfN n) a (prI pr)).2 ++ [(inW width leaf f (halfN n) a (prI pr)).1 ++ prL pr])
   else (nodeT width (prL pr) (inW width leaf f (n - halfN n) (a - halfN n) (prI pr)).1, (inW width leaf f (n - halfN n) (a - halfN n) (prI pr)).2 ++ [prL pr ++ (inW width leaf f (n - halfN n) (a - halfN n) (prI pr)).1])
theorem inW_end {width : Int} {leaf : ByteArray} {f n a : Nat} {pr : List ByteArray} (h : n ≤ 1) : inW width leaf (f + 1) n a pr = (leaf, []) := by rw [inW, if_pos h]
theorem inW_lo {width : Int} {leaf : ByteArray} {f n a : Nat} {pr : List ByteArray} (h2 : 2 ≤ n) (h : a < halfN n) : inW width leaf (f + 1) n a pr = (nodeT width (inW width leaf f (halfN n) a (prI pr)).1 (prL pr), (inW width leaf f (halfN n) a (prI pr)).2 ++ [(inW width leaf f (halfN n) a (prI pr)).1 ++ prL pr]) := by rw [inW, if_neg (by omega), if_pos h]
theorem inW_hi {width : Int} {leaf : ByteArray} {f n a : Nat} {pr : List ByteArray} (h2 : 2 ≤ n) (h : ¬ a < halfN n) : inW width leaf (f + 1) n a pr = (nodeT width (prL pr) (inW width leaf f (n - halfN n) (a - halfN n) (prI pr)).1, (inW width leaf f (n - halfN n) (a - halfN n) (prI pr)).2 ++ [prL pr ++ (inW width leaf f (n - halfN n) (a - halfN n) (prI pr)).1]) := by rw [inW, if_neg (by omega), if_neg h]
theorem prI_len {l : List ByteArray} {k : Nat} (h : l.length = k + 1) : (prI l).length = k := by rw [prI, List.length_take]; omega
theorem prI_are {width : Int} {l : List ByteArray} (h : areH width l = true) : areH width (prI l) = true := areH_sub h (fun s hs => List.mem_of_mem_take hs)
theorem prL_size {width : Int} {l : List ByteArray} (h : areH width l = true) (hl : 1 ≤ l.length) : ((prL l).size : Int) = width := areH_mem h _ (getD_mem (by omega))
theorem prL_get {l : List ByteArray} {k : Nat} (h : l.length = k + 1) : l[k]? = some (prL l) := by
 rw [prL, List.getD_eq_getElem?_getD, h, Nat.add_sub_cancel, List.getElem?_eq_getElem (by omega)]; rfl
theorem inW_size {width : Int} {leaf : ByteArray} (hw : inR width 1 32 = true) (hl : (leaf.size : Int) = width) : ∀ {f n a : Nat} {pr : List ByteArray}, a < n → n ≤ 512 → areH width pr = true → pr.length = inSt f n a → ((inW width leaf f n a pr).1.size : Int) = width ∧ (inW width leaf f n a pr).2.length = inSt f n a
 | 0, n, a, pr, _, _, _, _ => ⟨by rw [inW]; exact hl, rfl⟩
 | f + 1, n, a, pr, ha, h5, hp, hn => by
   rcases Nat.lt_or_ge 1 n with h1 | h1
   ·obtain ⟨k1, k2, k3⟩ := halfN_bd h1 h5
    by_cases hlt : a < halfN n
    ·rw [inSt_lo h1 hlt] at hn
     obtain ⟨h6, h7⟩ := inW_size hw hl (f := f) (n := halfN n) (a := a) (pr := prI pr) hlt (by omega) (prI_are hp) (prI_len hn)
     rw [inW_lo h1 hlt, inSt_lo h1 hlt]
     exact ⟨nodeT_size hw h6 (prL_size hp (by omega)), by simp [h7]⟩
    ·rw [inSt_hi h1 hlt] at hn
     obtain ⟨h6, h7⟩ := inW_size hw hl (f := f) (n := n - halfN n) (a := a - halfN n) (pr := prI pr) (by omega) (by omega) (prI_are hp) (prI_len hn)
     rw [inW_hi h1 hlt, inSt_hi h1 hlt]
     exact ⟨nodeT_size hw (prL_size hp (by omega)) h6, by simp [h7]⟩
   ·rw [inW_end h1, inSt_end h1]; exact ⟨hl, rfl⟩
theorem fu_same {width : Int} : ∀ {f g : Nat} {l : List ByteArray}, l.length < f → l.length < g → l.length ≤ 512 → rootFu width f l = rootFu width g l
 | 0, g, l, h, _, _ => by omega
 | f + 1, 0, l, _, h, _ => by omega
 | f + 1, g + 1, l, h1, h2, h5 => by
   rw [rootFu, rootFu]
   split
   ·rfl
   ·split
    ·rfl
    ·obtain ⟨k1, k2, k3⟩ := halfN_bd (n := l.length) (by omega) h5
     rw [fu_same (g := g) (l := l.take (halfN l.length)) (by rw [List.length_take]; omega) (by rw [List.length_take]; omega) (by rw [List.length_take]; omega), fu_same (g := g) (l := l.drop (halfN l.length)) (by rw [List.length_drop]; omega) (by rw [List.length_drop]; omega) (by rw [List.length_drop]; omega)]
theorem fu_node {width : Int} {n : Nat} {l : List ByteArray} (hn : l.length = n) (h2 : 2 ≤ n) (h5 : n ≤ 512) : rootFu width 513 l = nodeT width (rootFu width 513 (l.take (halfN n))) (rootFu width 513 (l.drop (halfN n))) := by
 obtain ⟨k1, k2, k3⟩ := halfN_bd h2 h5
 rw [fu_step (f := 512) hn h2, fu_same (f := 512) (g := 513) (l := l.take (halfN n)) (by rw [List.length_take]; omega) (by rw [List.length_take]; omega) (by rw [List.length_take]; omega), fu_same (f := 512) (g := 513) (l := l.drop (halfN n)) (by rw [List.length_drop]; omega) (by rw [List.length_drop]; omega) (by rw [List.length_drop]; omega)]
theorem prI_snoc (l : List ByteArray) (x : ByteArray) : prI (l ++ [x]) = l := by
 rw [prI, List.length_append, show l.length + [x].length - 1 = l.length from rfl, List.take_append_of_le_length (Nat.le_refl _), List.take_length]
theorem prL_snoc (l : List ByteArray) (x : ByteArray) : prL (l ++ [x]) = x := by
 rw [prL, List.length_append, show l.length + [x].length - 1 = l.length from rfl, List.getD_eq_getElem?_getD, List.getElem?_append_right (Nat.le_refl _), Nat.sub_self]; rfl
theorem areH_snoc {width : Int} {l : List ByteArray} {x : ByteArray} (h : areH width l = true) (hx : (x.size : Int) = width) : areH width (l ++ [x]) = true := areH_of fun s hs => by
 rcases List.mem_append.1 hs with h1 | h1
 ·exact areH_mem h s h1
 ·rw [List.mem_singleton.1 h1]; exact hx
def stIn (z a : Int) : Int := if 0 ≤ a ∧ a < z ∧ z ≤ 512 then ((inSt 513 z.toNat a.toNat : Nat) : Int) else -1
set_option maxRecDepth 100000 in
theorem implStepsIn_c (z a : Int) (w : World) : Calls Tryz.prog 119 #[.int .i64 z, .int .i64 a] w fun e w' => e = .returned (.int .i64 (stIn z a)) ∧ w = w' := by
 have HD : Hid (stIn z a = if 0 ≤ a ∧ a < z ∧ z ≤ 512 then ((inSt 513 z.toNat a.toNat : Nat) : Int) else -1) := lH rfl
 generalize stIn z a = R at *
 rcases (show a < 0 ∨ (0 ≤ a ∧ z ≤ a) ∨ (0 ≤ a ∧ a < z ∧ 512 < z) ∨ (0 ≤ a ∧ a < z ∧ z ≤ 512) by omega) with h1 | ⟨h1, h2⟩ | ⟨h1, h2, h3⟩ | ⟨h1, h2, h3⟩
 ·rw [if_neg (by omega)] at HD
  go_enter Tryz.func119, Tryz.ntmps119
  go_wp2
  go_ret
  exact ⟨by rw [HD.out]; rfl, rfl⟩
 ·rw [if_neg (by omega)] at HD
  go_enter Tryz.func119, Tryz.ntmps119
  go_wp2
  go_ret
  exact ⟨by rw [HD.out]; rfl, rfl⟩
 ·rw [if_neg (by omega)] at HD
  go_enter Tryz.func119, Tryz.ntmps119
  go_wp2
  go_ret
  exact ⟨by rw [HD.out]; rfl, rfl⟩
 ·rw [if_pos ⟨h1, h2, h3⟩] at HD
  obtain ⟨n, rfl⟩ : ∃ n : Nat, z = n := ⟨z.toNat, by omega⟩
  obtain ⟨b, rfl⟩ : ∃ b : Nat, a = b := ⟨a.toNat, by omega⟩
  rw [Int.toNat_natCast, Int.toNat_natCast] at HD
  obtain ⟨T, hT⟩ : ∃ T, T = inSt 513 n b := ⟨_, rfl⟩
  rw [← hT] at HD
  have HT := lH hT
  clear hT
  go_enter Tryz.func119, Tryz.ntmps119
  go_wp2
  have D1 : decide ((b : Int) < 0) = false := decide_eq_false (by omega)
  have D2 : decide (n ≤ b) = false := decide_eq_false (by omega)
  have D3 : decide ((512 : Int) < (n : Int)) = false := decide_eq_false (by omega)
  try simp only [D1, D2, D3, Bool.or_false, Bool.not_true, Bool.or_self]
  clear D1 D2 D3
  go_loop [0, 1, 5, 6] (fun s t k _ => ∃ q c j f : Nat, s = .int .i64 q ∧ t = .int .i64 c ∧ k = .int .i64 j ∧ c < q ∧ q < f + 1 ∧ j + q ≤ n ∧ T = j + inSt (f + 1) q c) (fun s _ _ _ => (intOf s).toNat)
  case atStart => exact ⟨n, b, 0, 512, rfl, rfl, rfl, by omega, by omega, by omega, by rw [HT.out, Nat.zero_add]⟩
  case round =>
   obtain ⟨q, c, j, f, rfl, rfl, rfl, hcq, hqf, hjq, htj⟩ := hrel
   rcases Nat.lt_or_ge 1 q with hq | hq
   ·obtain ⟨k1, k2, k3⟩ := halfN_bd hq (by omega)
    have HH := lH (fun W => implHalfOf_c q W hq (by omega))
    rcases Nat.lt_or_ge c (halfN q) with hc | hc
    ·rw [inSt_lo hq hc] at htj
     have HTJ := lH htj
     clear htj HT
     generalize halfN q = k at *
     go_wp2_with fail
     refine (HH.out _).mono ?_
     rintro e w1 ⟨rfl, rfl⟩
     go_wp2
     go_round
     case rel => exact ⟨k, c, j + 1, f - 1, rfl, rfl, by go_num, hc, by omega, by omega, by rw [HTJ.out, Nat.sub_add_cancel (by omega)]; omega⟩
     case measure => simp [intOf]; omega
    ·rw [inSt_hi hq (by omega)] at htj
     have HTJ := lH htj
     clear htj HT
     generalize halfN q = k at *
     obtain ⟨q2, hq2⟩ : ∃ q2, q2 = q - k := ⟨_, rfl⟩
     obtain ⟨c2, hc2⟩ : ∃ c2, c2 = c - k := ⟨_, rfl⟩
     have E1 : IntKind.i64.wrap ((q : Int) - k) = q2 := by rw [IntKind.wrap_i64]; omega
     have E2 : IntKind.i64.wrap ((c : Int) - k) = c2 := by rw [IntKind.wrap_i64]; omega
     have E3 : (q : Int) - k = q2 := by omega
     have E4 : (c : Int) - k = c2 := by omega
     have HQ := lH (And.intro hq2 hc2)
     clear hq2 hc2
     go_wp2_with fail
     refine (HH.out _).mono ?_
     rintro e w1 ⟨rfl, rfl⟩
     go_wp2
     go_round
     case rel =>
      obtain ⟨h8, h9⟩ := HQ.out
      exact ⟨q2, c2, j + 1, f - 1, rfl, rfl, by go_num, by omega, by omega, by omega, by rw [HTJ.out, Nat.sub_add_cancel (by omega), h8, h9]; omega⟩
     case measure => obtain ⟨h8, h9⟩ := HQ.out; simp [intOf]; omega
   ·rw [inSt_end hq] at htj
    obtain rfl : T = j := by omega
    clear HT htj
    go_wp2
    go_ret
    exact ⟨by rw [HD.out]; try rfl, rfl⟩
set_option maxRecDepth 100000 in
theorem fnode_c (width : Int) (p base m c : Nat) (A : Option Addr) (l : List ByteArray) (a b : ByteArray) (w : World) (hw : inR width 1 32 = true) (ha : (a.size : Int) = width) (hb : (b.size : Int) = width) (hm : m ≤ 2000)
  (hbase : base ≤ w.heap.size) (hR : RngAt w base p 0 width (.slice A m c) m l) :
  Calls Tryz.prog 169 #[.pointer (some ⟨p, 0, none⟩), .string a, .string b] w fun e w' => ∃ A' c', e = .returned (.string (nodeT width a b)) ∧ RngAt w' base p 0 width (.slice A' (m + 1) c') (m + 1) (l ++ [a ++ b]) ∧
   GrowRel p 0 (.slice A m c) (.slice A' (m + 1) c') w w' := by
 obtain ⟨i0, hi0, hz0, hz1, hz2⟩ := info_parts info_string
 have HI := lH (And.intro hi0 (And.intro hz0 (And.intro hz1 hz2)))
 have hw2 := inR_true.1 hw
 have HND := lH (fun W => node_c width a b W (by omega) (by omega))
 generalize nodeT width a b = nd at *
 obtain ⟨s, hs1⟩ : ∃ s, s = a ++ b := ⟨_, rfl⟩
 have c1 := fun W : World => run_string_add_sum (P := Tryz.prog) W a b (by omega)
 have z1 : s.size ≤ 64 := by rw [hs1, ByteArray.size_append]; omega
 rw [← hs1] at c1
 have HS1 := lH hs1
 clear hs1
 have HSA : Hid (strs (l ++ [a ++ b]) = strs l ++ [.string s]) := lH (by rw [← HS1.out]; simp [strs])
 have HLS : Hid (l ++ [s] = l ++ [a ++ b]) := lH (by rw [← HS1.out])
 rw [← HLS.out] at HSA
 rw [← HLS.out]
 have HR := lH hR
 have hc0 := hR.c0
 have hc1 := hR.c1
 have hpl := hR.typed.lt
 clear hR hi0 hz0 hz1 hz2 hw HS1 HLS
 generalize l ++ [s] = L at *
 go_enter Tryz.func169, Tryz.ntmps169
 go_wp2_with (at_builtin; refine stop_here ?_)
 intro _
 refine wpList_append_lies _ rfl _ _ 29 rfl base 9 i0 _ 1 16 Tryz.underlying29 HI.out.1 HI.out.2.1 HI.out.2.2.1 HI.out.2.2.2 rfl (by omega) (.slice A m c) m (strs l) rfl (HR.out.row.alloc _) ⟨w.heap.size, 0, none⟩ 1 1 [.string s] rfl rfl (World.news_of_block (cs := #[.string s]) (t := 9) (fr := (0, 0)) (heap_alloc_new w _)) (by simp [Value.oneCell']) (by omega) (by unfold maxLen; omega) (by omega) (by simp; omega) (w.heap.size + 1) (by simp) ?_
 intro g1 cap1 w1 hown1 hg1 hat1 hlt1
 rw [← HSA.out] at hown1
 have hb0 : Below w.heap.size w (w.alloc (.cells #[.string s] 9)) := (Below.refl _ _).alloc (Nat.le_refl _) _
 obtain ⟨hmc, hmf, hmp, hms⟩ := rng_mid HR.out hb0 rfl hg1
 have HP1 := lH (rng_push HR.out hb0 rfl hown1 hg1 (by simpa using hat1))
 have hd1 := (hmc 1).trans hc1
 have hd0 := (hmc 0).trans hc0
 have hfr := hmf 1
 clear hown1 hg1 hat1 hlt1 hb0 hmc hmf hc0 hc1
 go_wp2_with fail
 refine calls_named (fun w2 hw2' => ?_)
 have HP2 : Hid (RngAt w2 base p 0 width (.slice (some ⟨g1, 0, none⟩) (m + 1) cap1) (m + 1) L ∧ GrowRel p 0 (.slice A m c) (.slice (some ⟨g1, 0, none⟩) (m + 1) cap1) w w2) := by rw [Hid, hw2']; exact HP1.out
 clear hw2' HP1 hd1 hd0
 refine (HND.out _).mono ?_
 rintro e w3 ⟨rfl, hb3⟩
 have HP3 := lH (And.intro (HP2.out.1.below hb3) (HP2.out.2.trans (GrowRel.of_below hb3 HP2.out.1.typed.lt)))
 clear hb3 HP2
 go_wp2
 go_ret
 exact ⟨_, _, rfl, HP3.out.1, HP3.out.2⟩
set_option maxRecDepth 100000 in
theorem froot_c (width : Int) (leaf : ByteArray) (p base B0 : Nat) (hw : inR width 1 32 = true) (hlf : (leaf.size : Int) = width) (hB1 : B0 ≤ p) (hB2 : B0 ≤ base) : ∀ (f n a k cp m c : Nat) (P A : Option Addr) (pr l : List ByteArray) (w : World),
  a < n → n ≤ 512 → n < f → pr.length = k → k = inSt f n a → k ≤ cp → areH width pr = true → m + k ≤ 2000 → base ≤ w.heap.size → Rd w 0 B0 P (strs pr) → RngAt w base p 0 width (.slice A m c) m l →
  Calls Tryz.prog 120 #[.pointer (some ⟨p, 0, none⟩), .int .i64 n, .int .i64 a, .string leaf, .slice P k cp] w fun e w' => ∃ A' c', e = .returned (.string (inW width leaf f n a pr).1) ∧
   RngAt w' base p 0 width (.slice A' (m + k) c') (m + k) (l ++ (inW width leaf f n a pr).2) ∧ GrowRel p 0 (.slice A m c) (.slice A' (m + k) c') w w'
 | 0, n, a, k, cp, m, c, P, A, pr, l, w, ha, h5, hf, hk, hkn, hkc, hpr, hmk, hbase, hP, hR => by omega
 | f + 1, n, a, k, cp, m, c, P, A, pr, l, w, ha, h5, hf, hk, hkn, hkc, hpr, hmk, hbase, hP, hR => by
   have IH := lH (froot_c width leaf p base B0 hw hlf hB1 hB2 f)
   rcases Nat.lt_or_ge 1 n with hn | hn
   ·obtain ⟨k1, k2, k3⟩ := halfN_bd hn h5
    have HH := lH (fun W => implHalfOf_c n W hn h5)
    by_cases hlt : a < halfN n
    ·have HW := lH (inW_lo (width := width) (leaf := leaf) (f := f) (pr := pr) hn hlt)
     rw [inSt_lo hn hlt] at hkn
     obtain ⟨j, hj⟩ : ∃ j, j = inSt f (halfN n) a := ⟨_, rfl⟩
     rw [← hj] at hkn
     have hsz := inW_size hw hlf (f := f) (n := (halfN n)) (a := a) (pr := prI pr) (by omega) (by omega) (prI_are hpr) (by rw [prI_len (hk.trans hkn), hj])
     have hxs := prL_size hpr (by omega)
     have hxg := prL_get (hk.trans hkn)
     obtain ⟨b, off, x0, rfl, hb, hks, hcl⟩ := hP.str (k := j) (by omega)
     obtain rfl : prL pr = x0 := Option.some.inj (hxg.symm.trans hks)
     have hbB : b < B0 := by
      obtain ⟨b', off', e, _, h3, _⟩ := hP (fun e => by rw [strs] at e; have := List.map_eq_nil_iff.1 e; rw [this] at hk; simp at hk; omega)
      cases e; exact h3
     have HI := lH (IH.out (halfN n) a j cp m c (some ⟨b, off, none⟩) A (prI pr) l w (by omega) (by omega) (by omega) (prI_len (hk.trans hkn)) hj (by omega) (prI_are hpr) (by omega) hbase (hP.takeS _) hR)
     have hlen := hsz.2
     rw [← hj] at hlen
     have hszr := hsz.1
     obtain ⟨hf, hhf⟩ : ∃ hf, hf = halfN n := ⟨_, rfl⟩
     rw [← hhf] at HW HH HI k1 k2 k3 hlt hszr hlen
     generalize (inW width leaf f hf a (prI pr)).1 = r at *
     generalize (inW width leaf f hf a (prI pr)).2 = t at *
     have HP := lH hP
     have HR := lH hR
     have HXS := lH hxs
     generalize prL pr = x at *
     have E1 : IntKind.i64.wrap ((k : Int) - 1) = j := by rw [IntKind.wrap_i64]; omega
     have E2 : (k : Int) - 1 = j := by omega
     have E3 : (j : Int) < k := by omega
     have E4 : (j : Int) ≤ cp := by omega
     have E5 : (k : Int) ≤ 2000 := by omega
     have HKJ := lH hkn
     have HN := lH (fun W A' c' l' h1 h2 => fnode_c width p base (m + j) c' A' l' r x W hw hszr hxs (by omega) h1 h2)
     clear hhf hP hR hkn hk hj hsz hxg hks hxs hszr hlen IH hw hlf
     go_enter Tryz.func120, Tryz.ntmps120
     go_wp2_with fail
     refine (HH.out _).mono ?_
     rintro e w1 ⟨rfl, rfl⟩
     go_wp2_with fail
     refine HI.out.mono ?_
     rintro e w2 ⟨A2, c2, rfl, hR2, hG2⟩
     have HR2 := lH hR2
     have HG2 := lH hG2
     have hbe := hG2.toBelow HR.out.row hB1 hB2 (by omega)
     have hcl2 : w2.cell? ⟨b, off + j, none⟩ = some (.string x) := (hbe.cell (p := ⟨b, off + j, none⟩) hbB).trans hcl
     have hb2 : base ≤ w2.heap.size := Nat.le_trans hbase hG2.size
     clear hR2 hG2 hbe hcl HI
     go_wp2_with fail
     refine (HN.out _ _ _ _ hb2 HR2.out).mono ?_
     rintro e w3 ⟨A3, c3, rfl, hR3, hG3⟩
     have HR3 := lH hR3
     have HG3 := lH (HG2.out.trans hG3)
     clear hR3 hG3
     go_wp2
     go_ret
     have hkj := HKJ.out
     subst hkj
     refine ⟨A3, c3, by rw [HW.out]; rfl, ?_, HG3.out⟩
     rw [HW.out, ← List.append_assoc]
     exact HR3.out
    ·have HW := lH (inW_hi (width := width) (leaf := leaf) (f := f) (pr := pr) hn hlt)
     rw [inSt_hi hn hlt] at hkn
     obtain ⟨j, hj⟩ : ∃ j, j = inSt f (n - halfN n) (a - halfN n) := ⟨_, rfl⟩
     rw [← hj] at hkn
     have hsz := inW_size hw hlf (f := f) (n := (n - halfN n)) (a := (a - halfN n)) (pr := prI pr) (by omega) (by omega) (prI_are hpr) (by rw [prI_len (hk.trans hkn), hj])
     have hxs := prL_size hpr (by omega)
     have hxg := prL_get (hk.trans hkn)
     obtain ⟨b, off, x0, rfl, hb, hks, hcl⟩ := hP.str (k := j) (by omega)
     obtain rfl : prL pr = x0 := Option.some.inj (hxg.symm.trans hks)
     have hbB : b < B0 := by
      obtain ⟨b', off', e, _, h3, _⟩ := hP (fun e => by rw [strs] at e; have := List.map_eq_nil_iff.1 e; rw [this] at hk; simp at hk; omega)
      cases e; exact h3
     have HI := lH (IH.out (n - halfN n) (a - halfN n) j cp m c (some ⟨b, off, none⟩) A (prI pr) l w (by omega) (by omega) (by omega) (prI_len (hk.trans hkn)) hj (by omega) (prI_are hpr) (by omega) hbase (hP.takeS _) hR)
     have hlen := hsz.2
     rw [← hj] at hlen
     have hszr := hsz.1
     obtain ⟨hf, hhf⟩ : ∃ hf, hf = halfN n := ⟨_, rfl⟩
     rw [← hhf] at HW HH HI k1 k2 k3 hlt hszr hlen
     obtain ⟨n2, hn2⟩ : ∃ n2, n2 = n - hf := ⟨_, rfl⟩
     obtain ⟨a2, ha2⟩ : ∃ a2, a2 = a - hf := ⟨_, rfl⟩
     have F1 : IntKind.i64.wrap ((n : Int) - hf) = n2 := by rw [IntKind.wrap_i64]; omega
     have F2 : IntKind.i64.wrap ((a : Int) - hf) = a2 := by rw [IntKind.wrap_i64]; omega
     have F3 : (n : Int) - hf = n2 := by omega
     have F4 : (a : Int) - hf = a2 := by omega
     rw [← hn2, ← ha2] at HW HI hszr hlen
     generalize (inW width leaf f n2 a2 (prI pr)).1 = r at *
     generalize (inW width leaf f n2 a2 (prI pr)).2 = t at *
     have HP := lH hP
     have HR := lH hR
     have HXS := lH hxs
     generalize prL pr = x at *
     have E1 : IntKind.i64.wrap ((k : Int) - 1) = j := by rw [IntKind.wrap_i64]; omega
     have E2 : (k : Int) - 1 = j := by omega
     have E3 : (j : Int) < k := by omega
     have E4 : (j : Int) ≤ cp := by omega
     have E5 : (k : Int) ≤ 2000 := by omega
     have HKJ := lH hkn
     have HN := lH (fun W A' c' l' h1 h2 => fnode_c width p base (m + j) c' A' l' x r W hw hxs hszr (by omega) h1 h2)
     clear hhf hP hR hkn hk hj hsz hxg hks hxs hszr hlen IH hw hlf hn2 ha2
     go_enter Tryz.func120, Tryz.ntmps120
     go_wp2_with fail
     refine (HH.out _).mono ?_
     rintro e w1 ⟨rfl, rfl⟩
     go_wp2_with fail
     refine HI.out.mono ?_
     rintro e w2 ⟨A2, c2, rfl, hR2, hG2⟩
     have HR2 := lH hR2
     have HG2 := lH hG2
     have hbe := hG2.toBelow HR.out.row hB1 hB2 (by omega)
     have hcl2 : w2.cell? ⟨b, off + j, none⟩ = some (.string x) := (hbe.cell (p := ⟨b, off + j, none⟩) hbB).trans hcl
     have hb2 : base ≤ w2.heap.size := Nat.le_trans hbase hG2.size
     clear hR2 hG2 hbe hcl HI
     go_wp2_with fail
     refine (HN.out _ _ _ _ hb2 HR2.out).mono ?_
     rintro e w3 ⟨A3, c3, rfl, hR3, hG3⟩
     have HR3 := lH hR3
     have HG3 := lH (HG2.out.trans hG3)
     clear hR3 hG3
     go_wp2
     go_ret
     have hkj := HKJ.out
     subst hkj
     refine ⟨A3, c3, by rw [HW.out]; rfl, ?_, HG3.out⟩
     rw [HW.out, ← List.append_assoc]
     exact HR3.out
   ·have HW := lH (inW_end (width := width) (leaf := leaf) (f := f) (a := a) (pr := pr) hn)
    rw [inSt_end hn] at hkn
    obtain rfl : n = 1 := by omega
    have HR := lH hR
    subst hkn
    clear hP hR hk IH hw hlf
    go_enter Tryz.func120, Tryz.ntmps120
    go_wp2
    go_ret
    refine ⟨A, c, by rw [HW.out]; rfl, ?_, GrowRel.refl _ _ _ _⟩
    rw [HW.out, List.append_nil]
    exact HR.out
def inOk (width z a : Int) (leaf : ByteArray) (pr : List ByteArray) : Bool := inR width 1 32 && decide ((leaf.size : Int) = width) && areH width pr && decide ((pr.length : Int) = stIn z a)
def inTx (width z a : Int) (leaf : ByteArray) (pr : List ByteArray) : List ByteArray := if inOk width z a leaf pr then (inW width leaf 513 z.toNat a.toNat pr).2 else []
def inRt (width z a : Int) (leaf : ByteArray) (pr : List ByteArray) : ByteArray := if inOk width z a leaf pr then (inW width leaf 513 z.toNat a.toNat pr).1 else ByteArray.empty
theorem stIn_nn {z a : Int} {k : Nat} (h : (k : Int) = stIn z a) : 0 ≤ a ∧ a < z ∧ z ≤ 512 ∧ k = inSt 513 z.toNat a.toNat := by
 rw [stIn] at h
 split at h
 ·rename_i h1; exact ⟨h1.1, h1.2.1, h1.2.2, by omega⟩
 ·omega
set_option maxRecDepth 100000 in
theorem rootBy_c (width z a : Int) (leaf : ByteArray) (P : Option Addr) (cp lo hi k : Nat) (pr : List ByteArray) (w : World) (hP : Rd w lo hi P (strs pr)) (hk : pr.length = k) (hkl : k ≤ 1048576) (hkc : k ≤ cp) :
  Calls Tryz.prog 70 #[.int .i64 width, .int .i64 z, .int .i64 a, .string leaf, .slice P k cp] w fun e w' => ∃ A' c', e = .returned (.tuple #[.string (inRt width z a leaf pr), .slice A' (inTx width z a leaf pr).length c', .bool (inOk width z a leaf pr)]) ∧
   (w'.ownsRow w.heap.size 9 1 (.slice A' (inTx width z a leaf pr).length c') (inTx width z a leaf pr).length (strs (inTx width z a leaf pr))) ∧ Below w.heap.size w w' := by
 have HDEF : Hid (inOk width z a leaf pr = (inR width 1 32 && decide ((leaf.size : Int) = width) && areH width pr && decide ((k : Int) = stIn z a))) := lH (by rw [inOk, hk])
 have HBAD : Hid (inOk width z a leaf pr = false → inTx width z a leaf pr = [] ∧ inRt width z a leaf pr = ByteArray.empty) := lH (fun h => by rw [inTx, inRt, h]; exact ⟨rfl, rfl⟩)
 have HGOOD : Hid (inOk width z a leaf pr = true → inTx width z a leaf pr = (inW width leaf 513 z.toNat a.toNat pr).2 ∧ inRt width z a leaf pr = (inW width leaf 513 z.toNat a.toNat pr).1) := lH (fun h => by rw [inTx, inRt, h]; exact ⟨rfl, rfl⟩)
 have HAR := lH (fun W (h : Rd W 0 W.heap.size P (strs pr)) => areHashes_c width P cp 0 W.heap.size k pr W h hk hkl)
 have HST := lH (fun W => implStepsIn_c z a W)
 have HR := lH hP.base
 have HK := lH hk
 have HSTN := lH (fun h => stIn_nn (z := z) (a := a) (k := k) h)
 clear hP hk
 generalize inOk width z a leaf pr = ok at *
 generalize inTx width z a leaf pr = tx at *
 generalize inRt width z a leaf pr = rt at *
 generalize stIn z a = T at *
 go_enter Tryz.func70, Tryz.ntmps70
 go_wp2_with fail
 refine (isWidth_c width _).mono ?_
 rintro e w1 ⟨rfl, rfl⟩
 rcases hq1 : inR width 1 32 with _ | _
 ·obtain ⟨rfl, rfl⟩ := HBAD.out (by rw [HDEF.out, hq1]; rfl)
  have hz0 : ok = false := by rw [HDEF.out, hq1]; rfl
  subst hz0
  go_wp2
  refine bodyPost_ret (v := .tuple #[.string ⟨#[]⟩, .slice none 0 0, .bool false]) (by simp [results, Tryz.results70, go_sem]) rfl ?_
  exact ⟨none, 0, rfl, World.ownsRow_nil _ _ _ _, Below.refl _ _⟩
 have HQ1 := lH hq1
 rw [hq1] at HDEF
 clear hq1
 by_cases hq2 : (leaf.size : Int) = width
 case neg =>
  have hz0 : ok = false := by rw [HDEF.out, decide_eq_false hq2]; rfl
  obtain ⟨rfl, rfl⟩ := HBAD.out hz0
  subst hz0
  go_wp2
  refine bodyPost_ret (v := .tuple #[.string ⟨#[]⟩, .slice none 0 0, .bool false]) (by simp [results, Tryz.results70, go_sem]) rfl ?_
  exact ⟨none, 0, rfl, World.ownsRow_nil _ _ _ _, Below.refl _ _⟩
 rw [decide_eq_true hq2] at HDEF
 go_wp2_with fail
 refine (HAR.out _ HR.out).mono ?_
 rintro e w1 ⟨rfl, rfl⟩
 rcases hq3 : areH width pr with _ | _
 ·have hz0 : ok = false := by rw [HDEF.out, hq3]; rfl
  obtain ⟨rfl, rfl⟩ := HBAD.out hz0
  subst hz0
  clear hq2
  go_wp2
  refine bodyPost_ret (v := .tuple #[.string ⟨#[]⟩, .slice none 0 0, .bool false]) (by simp [results, Tryz.results70, go_sem]) rfl ?_
  exact ⟨none, 0, rfl, World.ownsRow_nil _ _ _ _, Below.refl _ _⟩
 have HQ3 := lH hq3
 rw [hq3] at HDEF
 clear hq3
 go_wp2_with fail
 refine (HST.out _).mono ?_
 rintro e w1 ⟨rfl, rfl⟩
 by_cases hq4 : (k : Int) = T
 case neg =>
  have hz0 : ok = false := by rw [HDEF.out, decide_eq_false hq4]; rfl
  obtain ⟨rfl, rfl⟩ := HBAD.out hz0
  subst hz0
  clear hq2
  go_wp2
  refine bodyPost_ret (v := .tuple #[.string ⟨#[]⟩, .slice none 0 0, .bool false]) (by simp [results, Tryz.results70, go_sem]) rfl ?_
  exact ⟨none, 0, rfl, World.ownsRow_nil _ _ _ _, Below.refl _ _⟩
 have hok : ok = true := by rw [HDEF.out, decide_eq_true hq4]; rfl
 obtain ⟨h1, h2, h3, h4⟩ := HSTN.out hq4
 obtain ⟨g1, g2⟩ := HGOOD.out hok
 obtain ⟨n, rfl⟩ : ∃ n : Nat, z = n := ⟨z.toNat, by omega⟩
 obtain ⟨b, rfl⟩ : ∃ b : Nat, a = b := ⟨a.toNat, by omega⟩
 rw [Int.toNat_natCast, Int.toNat_natCast] at g1 g2 h4
 have hk5 : k ≤ 512 := by rw [h4]; exact Nat.le_trans (inSt_le (by omega)) (by omega)
 have hsz := (inW_size HQ1.out hq2 (f := 513) (n := n) (a := b) (pr := pr) (by omega) (by omega) HQ3.out (HK.out.trans h4)).2
 rw [← h4, ← g1] at hsz
 have HFR := lH (fun W base p (e1 : w.heap.size ≤ p) (e2 : w.heap.size ≤ base) e3 e4 e5 => froot_c width leaf p base w.heap.size HQ1.out hq2 e1 e2 513 n b k cp 0 0 P none pr [] W (by omega) (by omega) (by omega) HK.out h4 hkc HQ3.out (by omega) e3 e4 e5)
 rw [← g1, ← g2, List.nil_append, Nat.zero_add] at HFR
 subst hok
 have HSZ := lH hsz
 have HR0 := lH HR.out
 subst hq4
 clear hq2 h1 h2 h3 h4 g1 g2 hsz HGOOD HBAD HSTN HST HAR HDEF HR
 go_wp2_with fail
 refine calls_named (fun w10 hw => ?_)
 have hR10 : RngAt w10 w.heap.size w.heap.size 0 width (.slice none 0 0) 0 [] := by rw [hw]; exact rng_new _ (by decide) (World.ownsRow_nil _ _ _ _)
 have hb10 : Below w.heap.size w w10 := by rw [hw]; exact (Below.refl _ _).alloc (Nat.le_refl _) _
 have hz10 : w.heap.size < w10.heap.size := hR10.typed.lt
 clear hw
 have HR10 := lH hR10
 have HB10 := lH hb10
 clear hR10 hb10
 refine (HFR.out _ _ _ (Nat.le_refl _) (Nat.le_refl _) (by omega) (HR0.out.lowB HB10.out (Nat.le_refl _)) HR10.out).mono ?_
 rintro e w11 ⟨A11, c11, rfl, hR11, hG11⟩
 have hb11 : Below w.heap.size w w11 := HB10.out.trans (hG11.toBelow HR10.out.row (Nat.le_refl _) (Nat.le_refl _) (by omega))
 have hc1 := hR11.c1
 have hf1 := hR11.typed.frozen
 have HR11 := lH hR11.row
 have HB11 := lH hb11
 have hs11 : w.heap.size < w11.heap.size := hR11.typed.lt
 clear hR11 hb11 hG11 HFR HR10 HB10 HR0
 go_wp2_with fail
 go_quiet (fail)
 go_wp2
 refine bodyPost_ret (v := .tuple #[.string rt, .slice A11 k c11, .bool true]) (by simp [results, Tryz.results70, go_sem]) rfl ?_
 have hkk := HSZ.out
 exact ⟨A11, c11, by rw [hkk], by rw [hkk]; exact row_below HR11.out (below_drewN _ _), HB11.out.trans ((below_drewN _ _).mono (by omega))⟩
end
end Go.Proofs.YtoccjgcokffkbaaGreat
