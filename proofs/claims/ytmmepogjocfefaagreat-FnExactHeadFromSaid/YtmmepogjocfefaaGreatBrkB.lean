/- What right heads have sealed: sealsOf. The parts of a broker: partsFit, BrokerOk of the program. BrokerOk of the program. -/
import Derived.Test.YtmmepogjocfefaaGreatBrkA
import Derived.Test.YtmmepogjocfefaaGreatSealJ
import Derived.Test.YtmmepogjocfefaaGreatSealN
import Derived.StillTailTactics
import Derived.Test.YtmmepogjocfefaaGreatFnA5
namespace Go.Proofs.YtmmepogjocfefaaGreat
set_option linter.unusedVariables false
set_option linter.unusedSimpArgs false
open Go.RowKit

/-- where a piece of a slice begins -/
def cutA (A : Option Addr) (n g : Nat) : Option Addr := if g = n then A else A.map (fun a => a.add n)
theorem cutA_rd {w : World} {lo hi : Nat} {A : Option Addr} {L : List ByteArray} (h : Rd w lo hi A (strs L)) (n d g : Nat) (hg : L.length ≤ g) : Rd w lo hi (cutA A n g) (strs ((L.drop n).take d)) := by
 rw [cutA]
 split
 ·rename_i e
  rw [List.drop_of_length_le (by omega), List.take_nil]
  exact Rd.nil
 ·rcases A with _ | ⟨b, off, sp⟩
  ·intro hn
   exfalso
   by_cases hl : strs L = []
   ·have : L = [] := List.map_eq_nil_iff.1 hl
    subst this
    simp [strs] at hn
   ·obtain ⟨_, _, e, _⟩ := h hl
    cases e
  ·by_cases hl : strs L = []
   ·have : L = [] := List.map_eq_nil_iff.1 hl
    subst this
    simp [strs]
    exact Rd.nil
   ·obtain ⟨b', off', e, _⟩ := h hl
    cases e
    rw [Option.map_some, Addr.add_lit]
    exact (h.dropS n).takeS d
theorem slice_cut (A : Option Addr) (k g n m : Nat) (h1 : n ≤ m) (h2 : m ≤ g) (W : World) : (Instr.slice 27 (.slice A k g) (some (.int .i64 n)) (some (.int .i64 m)) none).run Tryz.prog W = .ok (.slice (cutA A n g) (m - n) (g - n)) W := by
 have hu := Tryz.underlying27
 simp only [cutA]
 simp [Instr.slice, run_underlying hu, Instr.sliceBounds, run_sliceBound, h1, h2, go_sem]
/-- a seal in memory that has sealed the first n1 and n2 hashes -/
structure SealAt (w : World) (p : Nat) (width : Int) (L T : List ByteArray) (n1 n2 : Nat) (h : Hd) : Prop where
 ex : ∃ A1 c1 A2 c2, RngAt w p p 0 n1 (.slice A1 (popN n1) c1) (popN n1) (growUp width 0 [] L n1) ∧ RngAt w p p 2 n2 (.slice A2 (popN n2) c2) (popN n2) (growUp width 0 [] T n2) ∧ Apart (.slice A1 (popN n1) c1) (.slice A2 (popN n2) c2)
 c4 : w.cell? ⟨p, 4, none⟩ = some (.int .i64 h.num)
 c5 : w.cell? ⟨p, 5, none⟩ = some (.int .i64 h.size)
 c6 : w.cell? ⟨p, 6, none⟩ = some (.string h.root)
 c7 : w.cell? ⟨p, 7, none⟩ = some (.int .i64 h.taken)
 c8 : w.cell? ⟨p, 8, none⟩ = some (.string h.troot)
theorem SealAt.lt {w : World} {p : Nat} {width : Int} {L T : List ByteArray} {n1 n2 : Nat} {h : Hd} (s : SealAt w p width L T n1 n2 h) : p < w.heap.size := by
 obtain ⟨_, _, _, _, h1, _⟩ := s.ex
 exact h1.typed.lt
theorem SealAt.below {w w' : World} {p : Nat} {width : Int} {L T : List ByteArray} {n1 n2 : Nat} {h : Hd} (s : SealAt w p width L T n1 n2 h) (hb : Below w.heap.size w w') : SealAt w' p width L T n1 n2 h := by
 have hl := s.lt
 obtain ⟨A1, c1, A2, c2, h1, h2, h3⟩ := s.ex
 exact ⟨⟨A1, c1, A2, c2, h1.below hb, h2.below hb, h3⟩, (hb.cell (p := ⟨p, 4, none⟩) hl).trans s.c4, (hb.cell (p := ⟨p, 5, none⟩) hl).trans s.c5, (hb.cell (p := ⟨p, 6, none⟩) hl).trans s.c6, (hb.cell (p := ⟨p, 7, none⟩) hl).trans s.c7, (hb.cell (p := ⟨p, 8, none⟩) hl).trans s.c8⟩
theorem more_at (width : Int) (L T : List ByteArray) (n1 n2 m1 m2 p B0 g1 g2 : Nat) (X1 X2 : Option Addr) (h : Hd) (w : World) (hw : inR width 1 32 = true) (hL : areH width L = true) (hT : areH width T = true) (h1 : n1 ≤ m1) (h2 : n2 ≤ m2) (hm1 : m1 ≤ L.length) (hm2 : m2 ≤ T.length) (h51 : L.length ≤ 512) (h52 : T.length ≤ 512) (hg1 : L.length ≤ g1) (hg2 : T.length ≤ g2)
  (hB : B0 ≤ p) (hX1 : Rd w 0 B0 X1 (strs L)) (hX2 : Rd w 0 B0 X2 (strs T)) (hS : SealAt w p width L T n1 n2 h) (hnum : 0 ≤ h.num ∧ h.num ≤ 399) :
  Calls Tryz.prog 163 #[.pointer (some ⟨p, 0, none⟩), .int .i64 width, .slice (cutA X1 n1 g1) (m1 - n1) (g1 - n1), .slice (cutA X2 n2 g2) (m2 - n2) (g2 - n2)] w fun e w' => ∃ v : Int, e = .returned (.int .i64 v) ∧
   SealAt w' p width L T m1 m2 ⟨h.num + 1, (m1 : Nat), rootFu width 513 (L.take m1), (m2 : Nat), rootFu width 513 (T.take m2)⟩ ∧ Only p w.heap.size w w' ∧ KeepT p w w' := by
 obtain ⟨A1, c1, A2, c2, hR1, hR2, hap⟩ := hS.ex
 have hpl := hS.lt
 have e0 : ([] : List ByteArray).length = popN 0 := by decide
 have l1 := growUp_len (width := width) (leaves := L) e0 (k := n1) (by omega)
 have l2 := growUp_len (width := width) (leaves := T) e0 (k := n2) (by omega)
 have a1 := growUp_are hw e0 rfl hL (k := n1) (by omega) (by omega)
 have a2 := growUp_are hw e0 rfl hT (k := n2) (by omega) (by omega)
 rw [Nat.zero_add] at l1 l2
 have q1 : ((L.drop n1).take (m1 - n1)).length = m1 - n1 := by rw [List.length_take, List.length_drop]; omega
 have q2 : ((T.drop n2).take (m2 - n2)).length = m2 - n2 := by rw [List.length_take, List.length_drop]; omega
 have u1 : areH width ((L.drop n1).take (m1 - n1)) = true := areH_sub hL (fun s hs => List.mem_of_mem_drop (List.mem_of_mem_take hs))
 have u2 : areH width ((T.drop n2).take (m2 - n2)) = true := areH_sub hT (fun s hs => List.mem_of_mem_drop (List.mem_of_mem_take hs))
 have s1 : n1 + (m1 - n1) = m1 := by omega
 have s2 : n2 + (m2 - n2) = m2 := by omega
 have HM := moreT_c width n1 n2 p p B0 c1 c2 A1 A2 _ _ h (cutA X1 n1 g1) (cutA X2 n2 g2) (g1 - n1) (g2 - n2) (m1 - n1) (m2 - n2) ((L.drop n1).take (m1 - n1)) ((T.drop n2).take (m2 - n2)) w hw l1 a1 l2 a2 q1 u1 q2 u2 (by omega) (by omega) (by omega) hB hB (Nat.le_refl _) (cutA_rd hX1 _ _ _ hg1) (cutA_rd hX2 _ _ _ hg2) hR1 hR2 hap hnum hS.c4
  (fun j h1 h2 => by
    rcases (show j = 4 ∨ j = 5 ∨ j = 6 ∨ j = 7 ∨ j = 8 by omega) with rfl | rfl | rfl | rfl | rfl
    ·exact ⟨_, hS.c4⟩
    ·exact ⟨_, hS.c5⟩
    ·exact ⟨_, hS.c6⟩
    ·exact ⟨_, hS.c7⟩
    ·exact ⟨_, hS.c8⟩)
 rw [s1, s2, growUp_part h1 hm1, growUp_part h2 hm2, growUp_root hm1 (by omega), growUp_root hm2 (by omega)] at HM
 refine HM.mono ?_
 rintro e w' ⟨A3, c3, A4, c4, he, r1, r2, r3, r4, r5, r6, r7, r8, r9, r10⟩
 exact ⟨_, he, ⟨⟨A3, c3, A4, c4, r1, r2, r3⟩, r4, r5, r6, r7, r8⟩, r9, r10⟩
theorem rootsAt_iff {width : Int} {L T : List ByteArray} {x : Hd} {k : Int} {m1 m2 : Nat} (h0 : x.num = k) (h1 : x.size = m1) (h2 : x.taken = m2) (hm1 : m1 ≤ L.length) (hm2 : m2 ≤ T.length) :
  decide ((⟨k, (m1 : Nat), rootFu width 513 (L.take m1), (m2 : Nat), rootFu width 513 (T.take m2)⟩ : Hd) = x) = rootsAt width L T x := by
 rw [rootsAt, h1, h2, Int.toNat_natCast, Int.toNat_natCast, decide_eq_true (show (m1 : Int) ≤ (L.length : Nat) by omega), decide_eq_true (show (m2 : Int) ≤ (T.length : Nat) by omega), Bool.true_and, Bool.true_and]
 by_cases e1 : x.root = rootFu width 513 (L.take m1)
 ·by_cases e2 : x.troot = rootFu width 513 (T.take m2)
  ·rw [decide_eq_true e1, decide_eq_true e2, decide_eq_true (Hd.eq_of h0.symm h1.symm e1.symm h2.symm e2.symm)]; rfl
  ·rw [decide_eq_false e2, Bool.and_false]
   exact decide_eq_false (fun e => e2 (by rw [← e]))
 ·rw [decide_eq_false e1, Bool.false_and]
  exact decide_eq_false (fun e => e1 (by rw [← e]))
theorem rootsAt_big1 {width : Int} {L T : List ByteArray} {x : Hd} (h : (L.length : Int) < x.size) : rootsAt width L T x = false := by rw [rootsAt, decide_eq_false (by omega), Bool.false_and]
theorem rootsAt_big2 {width : Int} {L T : List ByteArray} {x : Hd} (h : (T.length : Int) < x.taken) : rootsAt width L T x = false := by rw [rootsAt, decide_eq_false (p := x.taken ≤ _) (by omega), Bool.false_and, Bool.and_false]
theorem rootsOk_first {width : Int} {L T : List ByteArray} {hs : List Hd} {x : Hd} (hx : hs[0]? = some x) (h : decide (headZero width = x) = false) : rootsOk width L T hs = false := by
 rw [rootsOk, hx, decide_eq_false (fun e => of_decide_eq_false h (Option.some.inj e).symm), Bool.false_and]
theorem rootsOk_all {width : Int} {L T : List ByteArray} {hs : List Hd} (h0 : hs[0]? = some (headZero width)) (h : rootsTo width L T hs hs.length = true) : rootsOk width L T hs = true := by
 rw [rootsOk, decide_eq_true h0, h]; rfl
/-- what sealsOf hands back -/
def slZ1 (width : Int) (L T : List ByteArray) (hs : List Hd) : Int := if rootsOk width L T hs then (lastHd hs).size else 0
def slZ2 (width : Int) (L T : List ByteArray) (hs : List Hd) : Int := if rootsOk width L T hs then (lastHd hs).taken else 0
def slL1 (width : Int) (L T : List ByteArray) (hs : List Hd) : List ByteArray := if rootsOk width L T hs then growUp width 0 [] L (lastHd hs).size.toNat else []
def slL2 (width : Int) (L T : List ByteArray) (hs : List Hd) : List ByteArray := if rootsOk width L T hs then growUp width 0 [] T (lastHd hs).taken.toNat else []
def slH (width : Int) (L T : List ByteArray) (hs : List Hd) : Hd := if rootsOk width L T hs then lastHd hs else noHd
theorem headZero_fits {width : Int} (hw : inR width 1 32 = true) : (headZero width).fits := by
 have h1 := emptyT_size hw
 have h2 := inR_true.1 hw
 have h3 : I64 0 := ⟨by decide, by decide⟩
 have h4 : (emptyT width).size ≤ maxLen := by unfold maxLen; omega
 exact ⟨h3, h3, h3, h4, h4⟩
theorem roots_fits {width : Int} (hw : inR width 1 32 = true) {L T : List ByteArray} {k : Int} {m1 m2 : Nat} (hk : I64 k) (h1 : m1 ≤ 512) (h2 : m2 ≤ 512) (hL : areH width L = true) (hT : areH width T = true) :
  (⟨k, (m1 : Nat), rootFu width 513 (L.take m1), (m2 : Nat), rootFu width 513 (T.take m2)⟩ : Hd).fits := by
 have h3 := inR_true.1 hw
 have h4 := rootFu_size (width := width) hw (f := 513) (l := L.take m1) (by rw [List.length_take]; omega) (by rw [List.length_take]; omega) (areH_sub hL (fun s hs => List.mem_of_mem_take hs))
 have h5 := rootFu_size (width := width) hw (f := 513) (l := T.take m2) (by rw [List.length_take]; omega) (by rw [List.length_take]; omega) (areH_sub hT (fun s hs => List.mem_of_mem_take hs))
 have h6 : (rootFu width 513 (L.take m1)).size ≤ maxLen := by unfold maxLen; omega
 have h7 : (rootFu width 513 (T.take m2)).size ≤ maxLen := by unfold maxLen; omega
 have h8 : I64 ((m1 : Nat) : Int) := ⟨by omega, by omega⟩
 have h9 : I64 ((m2 : Nat) : Int) := ⟨by omega, by omega⟩
 exact ⟨hk, h8, h9, h6, h7⟩
theorem seal_start (width : Int) (L T : List ByteArray) (em : ByteArray) (he : em = emptyT width) (W : World) :
  SealAt (W.alloc (.cells #[.int .i64 0, .slice none 0 0, .int .i64 0, .slice none 0 0, .int .i64 0, .int .i64 0, .string em, .int .i64 0, .string em] 50)) W.heap.size width L T 0 0 (headZero width) := by
 have hx := NewBox.new W #[.int .i64 0, .slice none 0 0, .int .i64 0, .slice none 0 0, .int .i64 0, .int .i64 0, .string em, .int .i64 0, .string em] 50
 have hrow : W.ownsRow W.heap.size 9 1 (.slice none 0 0) 0 (strs []) := World.ownsRow_nil _ _ _ _
 refine ⟨⟨none, 0, none, 0, rng_box (o := 0) (n := 0) _ _ (by decide) hrow rfl rfl, rng_box (o := 2) (n := 0) _ _ (by decide) hrow rfl rfl, fun k h _ => by cases h⟩, hx.cell (o := 4) rfl, hx.cell (o := 5) rfl, ?_, hx.cell (o := 7) rfl, ?_⟩
 ·rw [hx.cell (o := 6) rfl, he]; rfl
 ·rw [hx.cell (o := 8) rfl, he]; rfl
set_option maxRecDepth 100000 in
set_option maxHeartbeats 4000000 in
theorem sealsOf_c (width : Int) (X1 X2 H : Option Addr) (g1 g2 k1 k2 nh ch lo3 hi3 : Nat) (L T : List ByteArray) (hs : List Hd) (w : World) (hw : inR width 1 32 = true) (hL : areH width L = true) (hT : areH width T = true) (hX1 : Rd w 0 w.heap.size X1 (strs L)) (hX2 : Rd w 0 w.heap.size X2 (strs T)) (hH : Rd w lo3 hi3 H (hds hs))
  (hk1 : L.length = k1) (hk2 : T.length = k2) (hnh : hs.length = nh) (h51 : k1 ≤ 512) (h52 : k2 ≤ 512) (hg1 : k1 ≤ g1) (hg2 : k2 ≤ g2) (hpos : 0 < nh) (hnl : nh ≤ 1048576) (hok : headsOk width hs = true) (hf : ∀ x ∈ hs, x.fits) :
  Calls Tryz.prog 120 #[.int .i64 width, .slice X1 k1 g1, .slice X2 k2 g2, .slice H nh ch] w fun e w' => ∃ A1 c1 A2 c2, e = .returned (.tuple #[.agg #[.int .i64 (slZ1 width L T hs), .slice A1 (slL1 width L T hs).length c1, .int .i64 (slZ2 width L T hs), .slice A2 (slL2 width L T hs).length c2, .int .i64 (slH width L T hs).num, .int .i64 (slH width L T hs).size, .string (slH width L T hs).root, .int .i64 (slH width L T hs).taken, .string (slH width L T hs).troot], .bool (rootsOk width L T hs)]) ∧
   Rd w' w.heap.size w'.heap.size A1 (strs (slL1 width L T hs)) ∧ Rd w' w.heap.size w'.heap.size A2 (strs (slL2 width L T hs)) ∧ Below w.heap.size w w' := by
 have HBAD : Hid (rootsOk width L T hs = false → slZ1 width L T hs = 0 ∧ slL1 width L T hs = [] ∧ slZ2 width L T hs = 0 ∧ slL2 width L T hs = [] ∧ slH width L T hs = noHd) := Lib.hid (fun h => by rw [slZ1, slL1, slZ2, slL2, slH, h]; exact ⟨rfl, rfl, rfl, rfl, rfl⟩)
 have HGOOD : Hid (rootsOk width L T hs = true → slZ1 width L T hs = (lastHd hs).size ∧ slL1 width L T hs = growUp width 0 [] L (lastHd hs).size.toNat ∧ slZ2 width L T hs = (lastHd hs).taken ∧ slL2 width L T hs = growUp width 0 [] T (lastHd hs).taken.toNat ∧ slH width L T hs = lastHd hs) := Lib.hid (fun h => by rw [slZ1, slL1, slZ2, slL2, slH, h]; exact ⟨rfl, rfl, rfl, rfl, rfl⟩)
 have HSN := Lib.hid (fun W => implSealNew_c width W)
 rw [hw] at HSN
 have HEM : Hid (emptyT width = emptyT width) := Lib.hid rfl
 obtain ⟨em, hem⟩ : ∃ em, em = emptyT width := ⟨_, rfl⟩
 rw [← hem] at HSN
 have HST := Lib.hid (fun W => seal_start width L T em hem W)
 have HP := Lib.hid (And.intro hw (And.intro hL (And.intro hT (And.intro hok hf))))
 have HK1 := Lib.hid hk1
 have HK2 := Lib.hid hk2
 have HNH := Lib.hid hnh
 have HX1 := Lib.hid hX1
 have HX2 := Lib.hid hX2
 have HH := Lib.hid hH
 generalize slZ1 width L T hs = sz1 at *
 generalize slZ2 width L T hs = sz2 at *
 generalize slL1 width L T hs = sl1 at *
 generalize slL2 width L T hs = sl2 at *
 generalize slH width L T hs = sh at *
 clear hem HEM hw hL hT hok hf hk1 hk2 hnh hX1 hX2 hH
 have HB : Hid (Below w.heap.size w w) := Below.refl _ _
 go_enter Tryz.func120, Tryz.ntmps120
 go_wp2_with fail
 refine calls_named (fun w1 hw => ?_)
 have hz1 : w.heap.size + 1 ≤ w1.heap.size := by rw [hw]; first | omega | (simp [World.setCell]; done) | (simp [World.setCell]; omega)
 have hzz1 : w.heap.size ≤ w1.heap.size := by omega
 have hbn : Below w.heap.size w w1 := by rw [hw]; exact (by ((repeat (first | ((with_reducible refine Below.alloc ?_ ?_ _); rotate_left 1; (focus (first | omega | (simp; done) | (simp; omega)))) | (with_reducible refine Below.drew ?_) | ((with_reducible refine Below.setCell ?_ ?_ _); rotate_left 1; (focus (first | omega | (simp; done) | (simp; omega)))))); exact Below.refl _ _))
 replace HB := Lib.hid (below_then HB.out hbn HB.out.size)
 clear hbn
 have HXq : Hid (NewBox w1 (w.heap.size) [.int .i64 0, .slice none 0 0, .int .i64 0, .slice none 0 0, .int .i64 0, .int .i64 0, .string ⟨#[]⟩, .int .i64 0, .string ⟨#[]⟩]) := by rw [Hid, hw]; exact ⟨by first | omega | (simp [World.setCell]; done) | (simp [World.setCell]; omega), fun o => by rcases o with _ | _ | _ | _ | _ | _ | _ | _ | _ | o <;> go_simp, fun o => by go_simp⟩
 have hxq := HXq.out.2.1
 have hfq := HXq.out.2.2
 have hkq := HXq.out.1
 clear hw
 refine (HSN.out _).mono ?_
 rintro e w2 ⟨rfl, hb⟩
 have hzw2 : w1.heap.size ≤ w2.heap.size := hb.size
 have hzzw2 : w.heap.size ≤ w2.heap.size := by omega
 replace HB := Lib.hid (below_then HB.out hb HB.out.size)
 replace HXq := Lib.hid (HXq.out.below hb)
 clear hxq hfq hkq
 have hxq := HXq.out.2.1
 have hfq := HXq.out.2.2
 have hkq := HXq.out.1
 clear hb
 go_wp2
 go_loopw [12, 21] (fun _ i wr => ∃ (k n1 n2 : Nat), k ≤ nh ∧ i = .int .i64 k ∧ rootsTo width L T hs k = true ∧ (0 < k → hs[0]? = some (headZero width)) ∧ (prevHd width hs k).size = n1 ∧ (prevHd width hs k).taken = n2 ∧ n1 ≤ k1 ∧ n2 ≤ k2 ∧ SealAt wr w2.heap.size width L T n1 n2 (prevHd width hs k) ∧
  NewBox wr w.heap.size [.int .i64 0, .slice none 0 0, .int .i64 0, .slice none 0 0, .int .i64 0, .int .i64 0, .string ⟨#[]⟩, .int .i64 0, .string ⟨#[]⟩] ∧ Below w.heap.size w wr) (fun _ i _ => nh - (intOf i).toNat)
 case atStart => exact ⟨0, 0, 0, Nat.zero_le _, rfl, rfl, fun h => absurd h (by omega), rfl, rfl, Nat.zero_le _, Nat.zero_le _, HST.out _, (by (repeat (first | (with_reducible refine NewBox.alloc ?_ _) | (with_reducible refine NewBox.drew ?_) | ((with_reducible refine NewBox.setCell ?_ ?_ _); rotate_left 1; (focus (first | omega | (simp; done) | (simp; omega)))))); exact HXq.out), (by ((repeat (first | ((with_reducible refine Below.alloc ?_ ?_ _); rotate_left 1; (focus (first | omega | (simp; done) | (simp; omega)))) | (with_reducible refine Below.drew ?_) | ((with_reducible refine Below.setCell ?_ ?_ _); rotate_left 1; (focus (first | omega | (simp; done) | (simp; omega)))))); exact HB.out))⟩
 case round =>
  clear HSN HST
  obtain ⟨k, n1, n2, hk, rfl, hrt, hfst, hn1, hn2, hb1, hb2, hsa, hxq9, hbr⟩ := hrel
  have HRT := Lib.hid hrt
  have HFST := Lib.hid hfst
  have HSA := Lib.hid hsa
  have HXQ := Lib.hid hxq9
  have HBR := Lib.hid hbr
  have hkq9 := hxq9.1
  have hpl := hsa.lt
  have hwp : w.heap.size < w2.heap.size := by omega
  clear hrt hfst hsa hxq9 hbr
  obtain ⟨g, hg⟩ : ∃ g, g = prevHd width hs k := ⟨_, rfl⟩
  rw [← hg] at hn1 hn2 HSA
  have HG := Lib.hid hg
  have HN12 := Lib.hid (And.intro hn1 hn2)
  clear hg hn1 hn2
  generalize w2.heap.size = p at *
  replace HB : Hid (Below w.heap.size w wr) := HBR.out
  replace HXq : Hid (NewBox wr (w.heap.size) [.int .i64 0, .slice none 0 0, .int .i64 0, .slice none 0 0, .int .i64 0, .int .i64 0, .string ⟨#[]⟩, .int .i64 0, .string ⟨#[]⟩]) := HXQ.out
  clear hxq hfq hkq
  have hxq := HXq.out.2.1
  have hfq := HXq.out.2.2
  have hkq := HXq.out.1
  have hzz_wr : w.heap.size ≤ wr.heap.size := HB.out.size
  clear HXQ
  by_cases hlt : k < nh
  ·obtain ⟨b, off, x, rfl, hb, hx, hc⟩ := hd_cells (HH.out.below HBR.out) (k := k) (by rw [HNH.out]; exact hlt)
   have hc0 := hc.1
   have hc1 := hc.2.1
   have hc2 := hc.2.2.1
   have hc3 := hc.2.2.2.1
   have hc4 := hc.2.2.2.2
   have HX := Lib.hid hx
   obtain ⟨i1, i2, i3⟩ := headsOk_at HP.out.2.2.2.1 hx
   have i4 := headOk_all i2
   obtain ⟨m1, hm1⟩ : ∃ m1 : Nat, x.size = m1 := ⟨x.size.toNat, by omega⟩
   obtain ⟨m2, hm2⟩ : ∃ m2 : Nat, x.taken = m2 := ⟨x.taken.toNat, by omega⟩
   rw [hm1] at hc1
   rw [hm2] at hc3
   have hI : (k : Int) < nh := by omega
   have hxb : m1 ≤ 512 ∧ m2 ≤ 512 := by omega
   have HI3 := Lib.hid i3
   have HI1 := Lib.hid i1
   have HM12 := Lib.hid (And.intro hm1 hm2)
   have hnum : 0 ≤ x.num ∧ x.num ≤ 399 := ⟨i4.1, i4.2.1⟩
   have hbw : b < wr.heap.size := hb
   clear hc hx i1 i2 i3 i4 hm1 hm2
   rcases (show k1 < m1 ∨ m1 ≤ k1 by omega) with hs1 | hs1
   ·have HRO := Lib.hid (rootsOk_no (L := L) (T := T) (width := width) HX.out (rootsAt_big1 (by rw [HK1.out, HM12.out.1]; omega)))
    have e1 : (k1 : Int) < m1 := by omega
    obtain ⟨rfl, rfl, rfl, rfl, rfl⟩ := HBAD.out HRO.out
    clear HBAD HGOOD HFST HG HI3 HI1 HM12
    go_wp2
    refine bodyPost_named (fun w3 hw => ?_)
    have hz3 : wr.heap.size + 1 ≤ w3.heap.size := by rw [hw]; first | omega | (simp [World.setCell]; done) | (simp [World.setCell]; omega)
    have hzz3 : w.heap.size ≤ w3.heap.size := by omega
    replace HB : Hid (Below w.heap.size w w3) := by rw [Hid, hw]; exact (by ((repeat (first | ((with_reducible refine Below.alloc ?_ ?_ _); rotate_left 1; (focus (first | omega | (simp; done) | (simp; omega)))) | (with_reducible refine Below.drew ?_) | ((with_reducible refine Below.setCell ?_ ?_ _); rotate_left 1; (focus (first | omega | (simp; done) | (simp; omega)))))); exact HB.out))
    replace HXq : Hid (NewBox w3 (w.heap.size) [.int .i64 0, .slice none 0 0, .int .i64 0, .slice none 0 0, .int .i64 0, .int .i64 0, .string ⟨#[]⟩, .int .i64 0, .string ⟨#[]⟩]) := by rw [Hid, hw]; apply NewBox.cast; (focus ((repeat (first | (with_reducible apply NewBox.alloc) | (with_reducible apply NewBox.drew) | (with_reducible apply NewBox.set1) | ((with_reducible apply NewBox.far); (focus (first | omega | (simp; done) | (simp; omega)))))); exact HXq.out)); rfl
    clear hxq hfq hkq
    have hxq := HXq.out.2.1
    have hfq := HXq.out.2.2
    have hkq := HXq.out.1
    have HXh : Hid (NewBox w3 (wr.heap.size) [.int .i64 x.num, .int .i64 m1, .string x.root, .int .i64 m2, .string x.troot]) := by rw [Hid, hw]; exact ⟨by first | omega | (simp [World.setCell]; done) | (simp [World.setCell]; omega), fun o => by rcases o with _ | _ | _ | _ | _ | o <;> go_simp, fun o => by go_simp⟩
    have hxh := HXh.out.2.1
    have hfh := HXh.out.2.2
    have hkh := HXh.out.1
    clear hw
    refine bodyPost_ret (v := .tuple #[.agg #[.int .i64 0, .slice none 0 0, .int .i64 0, .slice none 0 0, .int .i64 0, .int .i64 0, .string ⟨#[]⟩, .int .i64 0, .string ⟨#[]⟩], .bool false]) (by simp [results, Tryz.results120, go_sem, hxq]) rfl ?_
    exact ⟨none, 0, none, 0, by rw [HRO.out]; rfl, Rd.nil, Rd.nil, HB.out⟩
   have e1 : (m1 : Int) ≤ k1 := by omega
   rcases (show k2 < m2 ∨ m2 ≤ k2 by omega) with hs2 | hs2
   ·have HRO := Lib.hid (rootsOk_no (L := L) (T := T) (width := width) HX.out (rootsAt_big2 (by rw [HK2.out, HM12.out.2]; omega)))
    have e2 : (k2 : Int) < m2 := by omega
    obtain ⟨rfl, rfl, rfl, rfl, rfl⟩ := HBAD.out HRO.out
    clear HBAD HGOOD HFST HG HI3 HI1 HM12
    go_wp2
    refine bodyPost_named (fun w3 hw => ?_)
    have hz3 : wr.heap.size + 1 ≤ w3.heap.size := by rw [hw]; first | omega | (simp [World.setCell]; done) | (simp [World.setCell]; omega)
    have hzz3 : w.heap.size ≤ w3.heap.size := by omega
    replace HB : Hid (Below w.heap.size w w3) := by rw [Hid, hw]; exact (by ((repeat (first | ((with_reducible refine Below.alloc ?_ ?_ _); rotate_left 1; (focus (first | omega | (simp; done) | (simp; omega)))) | (with_reducible refine Below.drew ?_) | ((with_reducible refine Below.setCell ?_ ?_ _); rotate_left 1; (focus (first | omega | (simp; done) | (simp; omega)))))); exact HB.out))
    replace HXq : Hid (NewBox w3 (w.heap.size) [.int .i64 0, .slice none 0 0, .int .i64 0, .slice none 0 0, .int .i64 0, .int .i64 0, .string ⟨#[]⟩, .int .i64 0, .string ⟨#[]⟩]) := by rw [Hid, hw]; apply NewBox.cast; (focus ((repeat (first | (with_reducible apply NewBox.alloc) | (with_reducible apply NewBox.drew) | (with_reducible apply NewBox.set1) | ((with_reducible apply NewBox.far); (focus (first | omega | (simp; done) | (simp; omega)))))); exact HXq.out)); rfl
    clear hxq hfq hkq
    have hxq := HXq.out.2.1
    have hfq := HXq.out.2.2
    have hkq := HXq.out.1
    have HXh : Hid (NewBox w3 (wr.heap.size) [.int .i64 x.num, .int .i64 m1, .string x.root, .int .i64 m2, .string x.troot]) := by rw [Hid, hw]; exact ⟨by first | omega | (simp [World.setCell]; done) | (simp [World.setCell]; omega), fun o => by rcases o with _ | _ | _ | _ | _ | o <;> go_simp, fun o => by go_simp⟩
    have hxh := HXh.out.2.1
    have hfh := HXh.out.2.2
    have hkh := HXh.out.1
    clear hw
    refine bodyPost_ret (v := .tuple #[.agg #[.int .i64 0, .slice none 0 0, .int .i64 0, .slice none 0 0, .int .i64 0, .int .i64 0, .string ⟨#[]⟩, .int .i64 0, .string ⟨#[]⟩], .bool false]) (by simp [results, Tryz.results120, go_sem, hxq]) rfl ?_
    exact ⟨none, 0, none, 0, by rw [HRO.out]; rfl, Rd.nil, Rd.nil, HB.out⟩
   have e2 : (m2 : Int) ≤ k2 := by omega
   rcases (show k = 0 ∨ 0 < k by omega) with hk0 | hk0
   ·have e0 : decide ((0 : Int) < (k : Int)) = false := decide_eq_false (by omega)
    have hgz : g = headZero width := by rw [HG.out, hk0]; rfl
    have heq := neqHd g x (by rw [hgz]; exact headZero_fits HP.out.1) (HP.out.2.2.2.2 x (List.mem_of_getElem? HX.out))
    rw [HM12.out.1, HM12.out.2] at heq
    have hx0 : hs[0]? = some x := by rw [← hk0]; exact HX.out
    have HZ := Lib.hid (And.intro hgz hx0)
    have y4 := HSA.out.c4
    have y5 := HSA.out.c5
    have y6 := HSA.out.c6
    have y7 := HSA.out.c7
    have y8 := HSA.out.c8
    have HK0 := Lib.hid hk0
    have hk9 : k ≤ 0 := by omega
    have e9 : decide (0 < k) = false := decide_eq_false (by omega)
    clear hgz hx0 hk0
    rcases hd : decide (g = x) with _ | _
    ·have HRO := Lib.hid (rootsOk_first (L := L) (T := T) (width := width) HZ.out.2 (by rw [← HZ.out.1]; exact hd))
     rw [hd] at heq
     clear hd
     obtain ⟨rfl, rfl, rfl, rfl, rfl⟩ := HBAD.out HRO.out
     clear HBAD HGOOD HFST HG HI3 HI1 HM12
     go_wp2
     refine bodyPost_named (fun w3 hw => ?_)
     have hz3 : wr.heap.size + 1 ≤ w3.heap.size := by rw [hw]; first | omega | (simp [World.setCell]; done) | (simp [World.setCell]; omega)
     have hzz3 : w.heap.size ≤ w3.heap.size := by omega
     replace HB : Hid (Below w.heap.size w w3) := by rw [Hid, hw]; exact (by ((repeat (first | ((with_reducible refine Below.alloc ?_ ?_ _); rotate_left 1; (focus (first | omega | (simp; done) | (simp; omega)))) | (with_reducible refine Below.drew ?_) | ((with_reducible refine Below.setCell ?_ ?_ _); rotate_left 1; (focus (first | omega | (simp; done) | (simp; omega)))))); exact HB.out))
     replace HXq : Hid (NewBox w3 (w.heap.size) [.int .i64 0, .slice none 0 0, .int .i64 0, .slice none 0 0, .int .i64 0, .int .i64 0, .string ⟨#[]⟩, .int .i64 0, .string ⟨#[]⟩]) := by rw [Hid, hw]; apply NewBox.cast; (focus ((repeat (first | (with_reducible apply NewBox.alloc) | (with_reducible apply NewBox.drew) | (with_reducible apply NewBox.set1) | ((with_reducible apply NewBox.far); (focus (first | omega | (simp; done) | (simp; omega)))))); exact HXq.out)); rfl
     clear hxq hfq hkq
     have hxq := HXq.out.2.1
     have hfq := HXq.out.2.2
     have hkq := HXq.out.1
     have HXh : Hid (NewBox w3 (wr.heap.size) [.int .i64 x.num, .int .i64 m1, .string x.root, .int .i64 m2, .string x.troot]) := by rw [Hid, hw]; exact ⟨by first | omega | (simp [World.setCell]; done) | (simp [World.setCell]; omega), fun o => by rcases o with _ | _ | _ | _ | _ | o <;> go_simp, fun o => by go_simp⟩
     have hxh := HXh.out.2.1
     have hfh := HXh.out.2.2
     have hkh := HXh.out.1
     clear hw
     refine bodyPost_ret (v := .tuple #[.agg #[.int .i64 0, .slice none 0 0, .int .i64 0, .slice none 0 0, .int .i64 0, .int .i64 0, .string ⟨#[]⟩, .int .i64 0, .string ⟨#[]⟩], .bool false]) (by simp [results, Tryz.results120, go_sem, hxq]) rfl ?_
     exact ⟨none, 0, none, 0, by rw [HRO.out]; rfl, Rd.nil, Rd.nil, HB.out⟩
    ·have hgx := of_decide_eq_true hd
     have HNX : Hid (prevHd width hs (k + 1) = g) := Lib.hid (by rw [hgx]; exact prevHd_s HX.out)
     have HR1 : Hid (rootsTo width L T hs (k + 1) = true) := Lib.hid (by rw [rootsTo_succ HX.out, HRT.out, ← hgx, HZ.out.1, headZero_roots]; rfl)
     have HF1 : Hid (hs[0]? = some (headZero width)) := Lib.hid (by rw [HZ.out.2, ← hgx, HZ.out.1])
     rw [hd] at heq
     clear hd hgx
     go_wp2
     go_roundw
     case rel => exact ⟨k + 1, n1, n2, by omega, by go_num, HR1.out, fun _ => HF1.out, by rw [HNX.out]; exact HN12.out.1, by rw [HNX.out]; exact HN12.out.2, hb1, hb2, by rw [HNX.out]; exact HSA.out.below ((Below.refl _ _).alloc (Nat.le_refl _) _), (by (repeat (first | (with_reducible refine NewBox.alloc ?_ _) | (with_reducible refine NewBox.drew ?_) | ((with_reducible refine NewBox.setCell ?_ ?_ _); rotate_left 1; (focus (first | omega | (simp; done) | (simp; omega)))))); exact HXq.out), (by ((repeat (first | ((with_reducible refine Below.alloc ?_ ?_ _); rotate_left 1; (focus (first | omega | (simp; done) | (simp; omega)))) | (with_reducible refine Below.drew ?_) | ((with_reducible refine Below.setCell ?_ ?_ _); rotate_left 1; (focus (first | omega | (simp; done) | (simp; omega)))))); exact HB.out))⟩
     case measure => simp [intOf]; omega
   ·obtain ⟨j, hkj⟩ : ∃ j, k = j + 1 := ⟨k - 1, by omega⟩
    obtain ⟨y, hy⟩ : ∃ y, hs[j]? = some y := ⟨_, List.getElem?_eq_getElem (by rw [HNH.out]; omega)⟩
    have hgy : g = y := by rw [HG.out, hkj]; exact prevHd_s hy
    rw [← hgy] at hy
    obtain ⟨j1, j2, _⟩ := headsOk_at HP.out.2.2.2.1 hy
    have hle := HI3.out g hk0 (by rw [hkj, Nat.add_sub_cancel]; exact hy)
    have hgn : 0 ≤ g.num ∧ g.num ≤ 399 ∧ g.num + 1 = k := by have h1 := HI1.out; omega
    have hmn : n1 ≤ m1 ∧ n2 ≤ m2 := by have h1 := HM12.out.1; have h2 := HM12.out.2; have h3 := HN12.out.1; have h4 := HN12.out.2; omega
    have e0 : decide ((0 : Int) < (k : Int)) = true := decide_eq_true (by omega)
    have e9 : decide (0 < k) = true := decide_eq_true hk0
    have E1 : (n1 : Int) ≤ m1 := by omega
    have E2 : (n2 : Int) ≤ m2 := by omega
    have E3 : (m1 : Int) ≤ g1 := by omega
    have E4 : (m2 : Int) ≤ g2 := by omega
    clear hkj hy hgy j1 j2 hle
    go_wp2_with fail
    refine wp_named (fun w3 hw => ?_)
    have hz3 : wr.heap.size + 1 ≤ w3.heap.size := by rw [hw]; first | omega | (simp [World.setCell]; done) | (simp [World.setCell]; omega)
    have hzz3 : w.heap.size ≤ w3.heap.size := by omega
    have hbn : Below wr.heap.size wr w3 := by rw [hw]; exact (by ((repeat (first | ((with_reducible refine Below.alloc ?_ ?_ _); rotate_left 1; (focus (first | omega | (simp; done) | (simp; omega)))) | (with_reducible refine Below.drew ?_) | ((with_reducible refine Below.setCell ?_ ?_ _); rotate_left 1; (focus (first | omega | (simp; done) | (simp; omega)))))); exact Below.refl _ _))
    replace HB := Lib.hid (below_then HB.out hbn HB.out.size)
    replace HXq := Lib.hid (HXq.out.below hbn)
    clear hxq hfq hkq
    have hxq := HXq.out.2.1
    have hfq := HXq.out.2.2
    have hkq := HXq.out.1
    clear hbn
    have HXh : Hid (NewBox w3 (wr.heap.size) [.int .i64 x.num, .int .i64 m1, .string x.root, .int .i64 m2, .string x.troot]) := by rw [Hid, hw]; exact ⟨by first | omega | (simp [World.setCell]; done) | (simp [World.setCell]; omega), fun o => by rcases o with _ | _ | _ | _ | _ | o <;> go_simp, fun o => by go_simp⟩
    have hxh := HXh.out.2.1
    have hfh := HXh.out.2.2
    have hkh := HXh.out.1
    have HS5 : Hid (SealAt w3 p width L T n1 n2 g) := by rw [Hid, hw]; exact HSA.out.below ((Below.refl _ _).alloc (Nat.le_refl _) _)
    have HTH : Hid (Typed w3 wr.heap.size) := by rw [Hid, hw]; exact ⟨_, _, heap_alloc_new wr _, by decide⟩
    clear hw
    obtain ⟨A1, c1, A2, c2, r1, r2, _⟩ := HS5.out.ex
    have s0 : (w3).cell? ⟨p, 0, none⟩ = some (.int .i64 n1) := r1.c0
    have s2 : (w3).cell? ⟨p, 2, none⟩ = some (.int .i64 n2) := r2.c0
    clear r1 r2
    obtain ⟨Y1, hY1⟩ : ∃ Y, Y = cutA X1 n1 g1 := ⟨_, rfl⟩
    obtain ⟨Y2, hY2⟩ : ∃ Y, Y = cutA X2 n2 g2 := ⟨_, rfl⟩
    have hl1 := fun W => slice_cut X1 k1 g1 n1 m1 hmn.1 (by omega) W
    have hl2 := fun W => slice_cut X2 k2 g2 n2 m2 hmn.2 (by omega) W
    rw [← hY1] at hl1
    rw [← hY2] at hl2
    have HY := Lib.hid (And.intro hY1 hY2)
    clear hY1 hY2
    go_still_tail 15, (by kernel_rfl)
    change wpList _ _ _ _ _ (w3).drew
    generalize hwd : (w3).drew = w6
    have hb6 : Below (w3).heap.size w3 w6 := by rw [← hwd]; exact (Below.refl _ _).drew
    have HS6 := Lib.hid (HS5.out.below hb6)
    replace HTH := Lib.hid (HTH.out.below hb6)
    clear hwd s0 s2 HS5
    have hzw6 : w3.heap.size ≤ w6.heap.size := hb6.size
    have hzzw6 : w.heap.size ≤ w6.heap.size := by omega
    replace HB := Lib.hid (below_then HB.out hb6 HB.out.size)
    replace HXq := Lib.hid (HXq.out.below hb6)
    clear hxq hfq hkq
    have hxq := HXq.out.2.1
    have hfq := HXq.out.2.2
    have hkq := HXq.out.1
    replace HXh := Lib.hid (HXh.out.below hb6)
    clear hxh hfh hkh
    have hxh := HXh.out.2.1
    have hfh := HXh.out.2.2
    have hkh := HXh.out.1
    clear hb6
    go_wp2_with fail
    have HM := more_at width L T n1 n2 m1 m2 p w.heap.size g1 g2 X1 X2 g w6 HP.out.1 HP.out.2.1 HP.out.2.2.1 hmn.1 hmn.2 (by rw [HK1.out]; exact hs1) (by rw [HK2.out]; exact hs2) (by rw [HK1.out]; exact h51) (by rw [HK2.out]; exact h52) (by rw [HK1.out]; exact hg1) (by rw [HK2.out]; exact hg2) (by omega) (HX1.out.below HB.out) (HX2.out.below HB.out) HS6.out ⟨hgn.1, hgn.2.1⟩
    rw [← HY.out.1, ← HY.out.2, hgn.2.2] at HM
    refine HM.mono ?_
    rintro e w7 ⟨v, rfl, hs7, ho7, hkt⟩
    have HS7 := Lib.hid hs7
    have HX9 := Lib.hid (hkt.box HXh.out (by omega) HTH.out)
    clear hs7 HM HY hl1 hl2 HS6 HTH hkt
    have hzw7 : w6.heap.size ≤ w7.heap.size := ho7.size
    have hzzw7 : w.heap.size ≤ w7.heap.size := by omega
    replace HB := Lib.hid (below_only HB.out ho7 (by omega) HB.out.size)
    replace HXq := Lib.hid (HXq.out.only ho7 (by first | omega | (simp; omega)))
    clear hxq hfq hkq
    have hxq := HXq.out.2.1
    have hfq := HXq.out.2.2
    have hkq := HXq.out.1
    clear hxh hfh hkh HXh
    clear ho7
    have z0 := HX9.out.cell (o := 0) rfl
    have z1 := HX9.out.cell (o := 1) rfl
    have z2 := HX9.out.cell (o := 2) rfl
    have z3 := HX9.out.cell (o := 3) rfl
    have z4 := HX9.out.cell (o := 4) rfl
    have hz9 := HX9.out.1
    have y4 := HS7.out.c4
    have y5 := HS7.out.c5
    have y6 := HS7.out.c6
    have y7 := HS7.out.c7
    have y8 := HS7.out.c8
    have heq := neqHd (⟨(k : Int), (m1 : Nat), rootFu width 513 (L.take m1), (m2 : Nat), rootFu width 513 (T.take m2)⟩ : Hd) x (roots_fits HP.out.1 ⟨by omega, by omega⟩ hxb.1 hxb.2 HP.out.2.1 HP.out.2.2.1) (HP.out.2.2.2.2 x (List.mem_of_getElem? HX.out))
    rw [HM12.out.1, HM12.out.2, rootsAt_iff HI1.out HM12.out.1 HM12.out.2 (by rw [HK1.out]; exact hs1) (by rw [HK2.out]; exact hs2)] at heq
    dsimp only at y4 y5 y6 y7 y8
    have HEX := Lib.hid (fun h : rootsAt width L T x = true => of_decide_eq_true ((rootsAt_iff (width := width) HI1.out HM12.out.1 HM12.out.2 (by rw [HK1.out]; exact hs1) (by rw [HK2.out]; exact hs2)).trans h))
    generalize rootFu width 513 (L.take m1) = fr1 at *
    generalize rootFu width 513 (T.take m2) = fr2 at *
    rcases hd : rootsAt width L T x with _ | _
    ·have HRO := Lib.hid (rootsOk_no (L := L) (T := T) (width := width) HX.out hd)
     rw [hd] at heq
     clear hd HEX
     obtain ⟨rfl, rfl, rfl, rfl, rfl⟩ := HBAD.out HRO.out
     clear HBAD HGOOD HFST HG HI3 HI1 HM12
     go_wp2
     refine bodyPost_named (fun w4 hw => ?_)
     have hz4 : w7.heap.size + 0 ≤ w4.heap.size := by rw [hw]; first | omega | (simp [World.setCell]; done) | (simp [World.setCell]; omega)
     have hzz4 : w.heap.size ≤ w4.heap.size := by omega
     replace HB : Hid (Below w.heap.size w w4) := by rw [Hid, hw]; exact (by ((repeat (first | ((with_reducible refine Below.alloc ?_ ?_ _); rotate_left 1; (focus (first | omega | (simp; done) | (simp; omega)))) | (with_reducible refine Below.drew ?_) | ((with_reducible refine Below.setCell ?_ ?_ _); rotate_left 1; (focus (first | omega | (simp; done) | (simp; omega)))))); exact HB.out))
     replace HXq : Hid (NewBox w4 (w.heap.size) [.int .i64 0, .slice none 0 0, .int .i64 0, .slice none 0 0, .int .i64 0, .int .i64 0, .string ⟨#[]⟩, .int .i64 0, .string ⟨#[]⟩]) := by rw [Hid, hw]; apply NewBox.cast; (focus ((repeat (first | (with_reducible apply NewBox.alloc) | (with_reducible apply NewBox.drew) | (with_reducible apply NewBox.set1) | ((with_reducible apply NewBox.far); (focus (first | omega | (simp; done) | (simp; omega)))))); exact HXq.out)); rfl
     clear hxq hfq hkq
     have hxq := HXq.out.2.1
     have hfq := HXq.out.2.2
     have hkq := HXq.out.1
     clear hw
     refine bodyPost_ret (v := .tuple #[.agg #[.int .i64 0, .slice none 0 0, .int .i64 0, .slice none 0 0, .int .i64 0, .int .i64 0, .string ⟨#[]⟩, .int .i64 0, .string ⟨#[]⟩], .bool false]) (by simp [results, Tryz.results120, go_sem, hxq]) rfl ?_
     exact ⟨none, 0, none, 0, by rw [HRO.out]; rfl, Rd.nil, Rd.nil, HB.out⟩
    ·have HNX := Lib.hid (prevHd_s (width := width) HX.out)
     have HE1 := Lib.hid (HEX.out hd)
     have HR1 : Hid (rootsTo width L T hs (k + 1) = true) := Lib.hid (by rw [rootsTo_succ HX.out, HRT.out, hd]; rfl)
     have HF1 := Lib.hid (HFST.out hk0)
     rw [hd] at heq
     clear hd HEX
     go_wp2
     go_roundw
     case rel => exact ⟨k + 1, m1, m2, by omega, by go_num, HR1.out, fun _ => HF1.out, by rw [HNX.out]; exact HM12.out.1, by rw [HNX.out]; exact HM12.out.2, hs1, hs2, by rw [HNX.out, ← HE1.out]; exact HS7.out, (by (repeat (first | (with_reducible refine NewBox.alloc ?_ _) | (with_reducible refine NewBox.drew ?_) | ((with_reducible refine NewBox.setCell ?_ ?_ _); rotate_left 1; (focus (first | omega | (simp; done) | (simp; omega)))))); exact HXq.out), (by ((repeat (first | ((with_reducible refine Below.alloc ?_ ?_ _); rotate_left 1; (focus (first | omega | (simp; done) | (simp; omega)))) | (with_reducible refine Below.drew ?_) | ((with_reducible refine Below.setCell ?_ ?_ _); rotate_left 1; (focus (first | omega | (simp; done) | (simp; omega)))))); exact HB.out))⟩
     case measure => simp [intOf]; omega
  ·obtain rfl : k = nh := by omega
   have HRO := Lib.hid (rootsOk_all (L := L) (T := T) (HFST.out hpos) (by rw [HNH.out]; exact HRT.out))
   obtain ⟨e1, e2, e3, e4, e5⟩ := HGOOD.out HRO.out
   have hgl : lastHd hs = g := by rw [HG.out, ← HNH.out]; exact (prevHd_last (by rw [HNH.out]; exact hpos)).symm
   have f1 := HN12.out.1
   have f2 := HN12.out.2
   rw [hgl, f1] at e1
   rw [hgl, f1, Int.toNat_natCast] at e2
   rw [hgl, f2] at e3
   rw [hgl, f2, Int.toNat_natCast] at e4
   rw [hgl] at e5
   subst e1 e2 e3 e4 e5
   have l1 := growUp_len (width := width) (leaves := L) (show ([] : List ByteArray).length = popN 0 by decide) (k := n1) (by omega)
   have l2 := growUp_len (width := width) (leaves := T) (show ([] : List ByteArray).length = popN 0 by decide) (k := n2) (by omega)
   rw [Nat.zero_add] at l1 l2
   obtain ⟨A1, c1, A2, c2, r1, r2, _⟩ := HSA.out.ex
   have y0 : (wr).cell? ⟨p, 0, none⟩ = some (.int .i64 n1) := r1.c0
   have y1 : (wr).cell? ⟨p, 1, none⟩ = some (.slice A1 (popN n1) c1) := r1.c1
   have y2 : (wr).cell? ⟨p, 2, none⟩ = some (.int .i64 n2) := r2.c0
   have y3 : (wr).cell? ⟨p, 3, none⟩ = some (.slice A2 (popN n2) c2) := r2.c1
   have y4 := HSA.out.c4
   have y5 := HSA.out.c5
   have y6 := HSA.out.c6
   have y7 := HSA.out.c7
   have y8 := HSA.out.c8
   rw [f1] at y5
   rw [f2] at y7
   have HL12 := Lib.hid (And.intro l1 l2)
   have HF12 := Lib.hid (And.intro f1 f2)
   clear l1 l2 f1 f2 hgl HBAD HGOOD HG HFST HN12 HSA
   generalize hgl1 : growUp width 0 [] L n1 = gl1 at *
   generalize hgl2 : growUp width 0 [] T n2 = gl2 at *
   have HGL := Lib.hid (And.intro hgl1 hgl2)
   clear hgl1 hgl2
   generalize popN n1 = q1 at *
   generalize popN n2 = q2 at *
   have HOU : Hid (Rd wr (p) (wr.heap.size) (A1) (strs gl1)) := (Own.of_ownsRow r1.row).rd
   have HOV : Hid (Rd wr (p) (wr.heap.size) (A2) (strs gl2)) := (Own.of_ownsRow r2.row).rd
   clear r1 r2
   go_wp2
   refine bodyPost_named (fun w3 hw => ?_)
   have hz3 : wr.heap.size + 0 ≤ w3.heap.size := by rw [hw]; first | omega | (simp [World.setCell]; done) | (simp [World.setCell]; omega)
   have hzz3 : w.heap.size ≤ w3.heap.size := by omega
   replace HB : Hid (Below w.heap.size w w3) := by rw [Hid, hw]; exact (by ((repeat (first | ((with_reducible refine Below.alloc ?_ ?_ _); rotate_left 1; (focus (first | omega | (simp; done) | (simp; omega)))) | (with_reducible refine Below.drew ?_) | ((with_reducible refine Below.setCell ?_ ?_ _); rotate_left 1; (focus (first | omega | (simp; done) | (simp; omega)))))); exact HB.out))
   replace HOU : Hid (Rd w3 (p) (wr.heap.size) (A1) (strs gl1)) := by rw [Hid, hw]; (repeat (first | (with_reducible refine Rd.alloc ?_ _) | (with_reducible refine Rd.drew ?_) | ((with_reducible refine Rd.setCell ?_ ?_ _); rotate_left 1; (focus (first | omega | (simp; done) | (simp; omega)))))); exact HOU.out
   replace HOV : Hid (Rd w3 (p) (wr.heap.size) (A2) (strs gl2)) := by rw [Hid, hw]; (repeat (first | (with_reducible refine Rd.alloc ?_ _) | (with_reducible refine Rd.drew ?_) | ((with_reducible refine Rd.setCell ?_ ?_ _); rotate_left 1; (focus (first | omega | (simp; done) | (simp; omega)))))); exact HOV.out
   replace HXq : Hid (NewBox w3 (w.heap.size) [.int .i64 n1, .slice A1 q1 c1, .int .i64 n2, .slice A2 q2 c2, .int .i64 sh.num, .int .i64 n1, .string sh.root, .int .i64 n2, .string sh.troot]) := by rw [Hid, hw]; apply NewBox.cast; (focus ((repeat (first | (with_reducible apply NewBox.alloc) | (with_reducible apply NewBox.drew) | (with_reducible apply NewBox.set1) | ((with_reducible apply NewBox.far); (focus (first | omega | (simp; done) | (simp; omega)))))); exact HXq.out)); rfl
   clear hxq hfq hkq
   have hxq := HXq.out.2.1
   have hfq := HXq.out.2.2
   have hkq := HXq.out.1
   clear hw
   refine bodyPost_ret (v := .tuple #[.agg #[.int .i64 n1, .slice A1 q1 c1, .int .i64 n2, .slice A2 q2 c2, .int .i64 sh.num, .int .i64 n1, .string sh.root, .int .i64 n2, .string sh.troot], .bool true]) (by simp [results, Tryz.results120, go_sem, hxq]) rfl ?_
   obtain ⟨t1, t2⟩ := HGL.out
   exact ⟨A1, c1, A2, c2, by rw [HRO.out, t1, t2, HL12.out.1, HL12.out.2, HF12.out.1, HF12.out.2], by rw [t1]; exact HOU.out.mono (by omega) (by omega) (Nat.le_refl _), by rw [t2]; exact HOV.out.mono (by omega) (by omega) (Nat.le_refl _), HB.out⟩
end Go.Proofs.YtmmepogjocfefaaGreat

namespace Go.Proofs.YtmmepogjocfefaaGreat
set_option linter.unusedVariables false
set_option linter.unusedSimpArgs false
open Go.RowKit

theorem row_cap {w : World} {base e size n c : Nat} {A : Option Addr} {xs : List Value} (h : w.ownsRow base e size (.slice A n c) n xs) : n ≤ c := by
 obtain ⟨A', c', e1, h1, _⟩ := ownsRow_slice h
 injection e1 with _ _ e2
 omega
def pfZ1 (width : Int) (es : List Ent) (rs : List Rcp) (hs : List Hd) : Int := if brkParts width es rs hs then (lastHd hs).size else 0
def pfZ2 (width : Int) (es : List Ent) (rs : List Rcp) (hs : List Hd) : Int := if brkParts width es rs hs then (lastHd hs).taken else 0
def pfL1 (width : Int) (es : List Ent) (rs : List Rcp) (hs : List Hd) : List ByteArray := if brkParts width es rs hs then growUp width 0 [] (leavesM width es) (lastHd hs).size.toNat else []
def pfL2 (width : Int) (es : List Ent) (rs : List Rcp) (hs : List Hd) : List ByteArray := if brkParts width es rs hs then growUp width 0 [] (takenM width rs) (lastHd hs).taken.toNat else []
def pfH (width : Int) (es : List Ent) (rs : List Rcp) (hs : List Hd) : Hd := if brkParts width es rs hs then lastHd hs else noHd
theorem pf_bad {width : Int} {es : List Ent} {rs : List Rcp} {hs : List Hd} (h : brkParts width es rs hs = false) : pfZ1 width es rs hs = 0 ∧ pfL1 width es rs hs = [] ∧ pfZ2 width es rs hs = 0 ∧ pfL2 width es rs hs = [] ∧ pfH width es rs hs = noHd := by
 rw [pfZ1, pfL1, pfZ2, pfL2, pfH, h]; exact ⟨rfl, rfl, rfl, rfl, rfl⟩
theorem pf_eq {width : Int} {es : List Ent} {rs : List Rcp} {hs : List Hd} (h : brkParts width es rs hs = true) : pfZ1 width es rs hs = slZ1 width (leavesM width es) (takenM width rs) hs ∧ pfL1 width es rs hs = slL1 width (leavesM width es) (takenM width rs) hs ∧ pfZ2 width es rs hs = slZ2 width (leavesM width es) (takenM width rs) hs ∧
  pfL2 width es rs hs = slL2 width (leavesM width es) (takenM width rs) hs ∧ pfH width es rs hs = slH width (leavesM width es) (takenM width rs) hs := by
 have h1 := (brkParts_all h).roots
 rw [pfZ1, pfL1, pfZ2, pfL2, pfH, h, slZ1, slL1, slZ2, slL2, slH, h1]; exact ⟨rfl, rfl, rfl, rfl, rfl⟩
theorem allTo_bad {α : Type} {p : α → Bool} {l : List α} {k : Nat} {x : α} (h : l[k]? = some x) (hp : p x = false) : l.all p = false := by
 rw [List.all_eq_false]
 exact ⟨x, List.mem_of_getElem? h, by simp [hp]⟩
theorem allTo_succ {α : Type} {p : α → Bool} {l : List α} {k : Nat} {x : α} (h : l[k]? = some x) : (l.take (k + 1)).all p = ((l.take k).all p && p x) := by
 rw [take_succ h, List.all_append]; simp
theorem hdField1 (n s t : Int) (r u : ByteArray) (W : World) : (Instr.field 48 (.agg #[.int .i64 n, .int .i64 s, .string r, .int .i64 t, .string u]) 1).run Tryz.prog W = .ok (.int .i64 s) W := by kernel_rfl
theorem hdField3 (n s t : Int) (r u : ByteArray) (W : World) : (Instr.field 48 (.agg #[.int .i64 n, .int .i64 s, .string r, .int .i64 t, .string u]) 3).run Tryz.prog W = .ok (.int .i64 t) W := by kernel_rfl
theorem idxRcp (R : Option Addr) (b off nr cr k : Nat) (hR : R = some ⟨b, off, none⟩) (hk : k < nr) (W : World) : (Instr.indexAt 45 (.slice R nr cr) (.int .i64 k)).run Tryz.prog W = .ok (.pointer (some ⟨b, off + k * 3, none⟩)) W := by
 subst hR
 have h1 : (k : Int) < nr := by omega
 go_simp
theorem idxEnt (R : Option Addr) (b off nr cr k : Nat) (hR : R = some ⟨b, off, none⟩) (hk : k < nr) (W : World) : (Instr.indexAt 42 (.slice R nr cr) (.int .i64 k)).run Tryz.prog W = .ok (.pointer (some ⟨b, off + k * 5, none⟩)) W := by
 subst hR
 have h1 : (k : Int) < nr := by omega
 go_simp
theorem idxHd (R : Option Addr) (b off nr cr k : Nat) (hR : R = some ⟨b, off, none⟩) (hk : k < nr) (W : World) : (Instr.indexAt 46 (.slice R nr cr) (.int .i64 k)).run Tryz.prog W = .ok (.pointer (some ⟨b, off + k * 5, none⟩)) W := by
 subst hR
 have h1 : (k : Int) < nr := by omega
 go_simp
set_option maxRecDepth 100000 in
set_option maxHeartbeats 4000000 in
theorem partsFit_c (width z1 z2 : Int) (p : Nat) (E R H A1 A2 : Option Addr) (ne nr nh ce cr ch c1 c2 lo1 hi1 lo2 hi2 lo3 hi3 m1 m2 : Nat) (es : List Ent) (rs : List Rcp) (hs : List Hd) (h : Hd) (w : World) (hbx : NewBox w p [.int .i64 width, .slice E ne ce, .slice R nr cr, .slice H nh ch, .int .i64 z1, .slice A1 m1 c1, .int .i64 z2, .slice A2 m2 c2, .int .i64 h.num, .int .i64 h.size, .string h.root, .int .i64 h.taken, .string h.troot])
  (hE : Rd w lo1 hi1 E (ents es)) (hR : Rd w lo2 hi2 R (rcps rs)) (hH : Rd w lo3 hi3 H (hds hs)) (hne : es.length = ne) (hnr : rs.length = nr) (hnh : hs.length = nh) (h1 : ne ≤ 1048576) (h2 : nr ≤ 1048576) (h3 : nh + sumBy Hd.bulk hs ≤ 1048576) (hfe : ∀ x ∈ es, x.fits) (hfr : ∀ x ∈ rs, x.fits) (hfh : ∀ x ∈ hs, x.fits) :
  Calls Tryz.prog 73 #[.pointer (some ⟨p, 0, none⟩)] w fun e w' => ∃ A3 c3 A4 c4, e = .returned (.tuple #[.agg #[.int .i64 (pfZ1 width es rs hs), .slice A3 (pfL1 width es rs hs).length c3, .int .i64 (pfZ2 width es rs hs), .slice A4 (pfL2 width es rs hs).length c4, .int .i64 (pfH width es rs hs).num, .int .i64 (pfH width es rs hs).size, .string (pfH width es rs hs).root, .int .i64 (pfH width es rs hs).taken, .string (pfH width es rs hs).troot], .bool (brkParts width es rs hs)]) ∧
   Rd w' w.heap.size w'.heap.size A3 (strs (pfL1 width es rs hs)) ∧ Rd w' w.heap.size w'.heap.size A4 (strs (pfL2 width es rs hs)) ∧ Below w.heap.size w w' := by
 have HBAD := Lib.hid (pf_bad (width := width) (es := es) (rs := rs) (hs := hs))
 have HEQ := Lib.hid (pf_eq (width := width) (es := es) (rs := rs) (hs := hs))
 have HDEF : Hid (brkParts width es rs hs = (inR width 1 32 && (logOk es && (rcpsOk rs && (decide (0 < nh) && (headsOk width hs && (rootsOk width (leavesM width es) (takenM width rs) hs && rs.all (leafIn es (lastHd hs).size.toNat)))))))) := Lib.hid (by rw [brkParts, hnh])
 have HLG := Lib.hid (fun W (a : Rd W 0 W.heap.size E (ents es)) => implLogOk_c E ce 0 W.heap.size ne es W a hne h1 hfe)
 have HRC := Lib.hid (fun W (a : Rd W 0 W.heap.size R (rcps rs)) => receiptsOk_c R cr 0 W.heap.size nr rs W a hnr h2 hfr)
 have HHD := Lib.hid (fun W (a : Rd W 0 W.heap.size H (hds hs)) => implHeadsOk_c width H ch 0 W.heap.size nh hs W a hnh h3)
 have HC1 := Lib.hid (fun W (a : Rd W 0 W.heap.size E (ents es)) => hashesOf_c width E ce 0 W.heap.size ne es W a hne h1 hfe)
 have HC2 := Lib.hid (fun W (a : Rd W 0 W.heap.size R (rcps rs)) => receiptHashes_c width R cr 0 W.heap.size nr rs W a hnr h2 hfr)
 have HFIT := Lib.hid (And.intro hfe (And.intro hfr hfh))
 have HLEN := Lib.hid (And.intro hne (And.intro hnr hnh))
 have HLE := Lib.hid (And.intro h1 (And.intro h2 h3))
 generalize brkParts width es rs hs = bp at *
 generalize pfZ1 width es rs hs = pz1 at *
 generalize pfZ2 width es rs hs = pz2 at *
 generalize pfL1 width es rs hs = pl1 at *
 generalize pfL2 width es rs hs = pl2 at *
 generalize pfH width es rs hs = ph at *
 have hpw : p < w.heap.size := hbx.1
 have HB : Hid (Below w.heap.size w w) := Below.refl _ _
 have HOE : Hid (Rd w (0) (w.heap.size) (E) (ents es)) := Rd.base hE
 have HOR : Hid (Rd w (0) (w.heap.size) (R) (rcps rs)) := Rd.base hR
 have HOH : Hid (Rd w (0) (w.heap.size) (H) (hds hs)) := Rd.base hH
 replace HB : Hid (Below w.heap.size w w) := (Below.refl _ _)
 have HXb : Hid (NewBox w (p) [.int .i64 width, .slice E ne ce, .slice R nr cr, .slice H nh ch, .int .i64 z1, .slice A1 m1 c1, .int .i64 z2, .slice A2 m2 c2, .int .i64 h.num, .int .i64 h.size, .string h.root, .int .i64 h.taken, .string h.troot]) := hbx
 have hxb := HXb.out.2.1
 have hfb := HXb.out.2.2
 have hkb := HXb.out.1
 clear hbx hE hR hH hne hnr hnh hfe hfr hfh
 go_enter Tryz.func73, Tryz.ntmps73
 go_wp2_with fail
 refine calls_named (fun w1 hw => ?_)
 have hz1 : w.heap.size + 1 ≤ w1.heap.size := by rw [hw]; first | omega | (simp [World.setCell]; done) | (simp [World.setCell]; omega)
 have hzz1 : w.heap.size ≤ w1.heap.size := by omega
 have hbn : Below w.heap.size w w1 := by rw [hw]; exact (by ((repeat (first | ((with_reducible refine Below.alloc ?_ ?_ _); rotate_left 1; (focus (first | omega | (simp; done) | (simp; omega)))) | (with_reducible refine Below.drew ?_) | ((with_reducible refine Below.setCell ?_ ?_ _); rotate_left 1; (focus (first | omega | (simp; done) | (simp; omega)))))); exact Below.refl _ _))
 replace HB := Lib.hid (below_then HB.out hbn HB.out.size)
 replace HOE := Lib.hid (HOE.out.below hbn)
 replace HOR := Lib.hid (HOR.out.below hbn)
 replace HOH := Lib.hid (HOH.out.below hbn)
 replace HXb := Lib.hid (HXb.out.below hbn)
 clear hxb hfb hkb
 have hxb := HXb.out.2.1
 have hfb := HXb.out.2.2
 have hkb := HXb.out.1
 clear hbn
 have HXq : Hid (NewBox w1 (w.heap.size) [.int .i64 0, .slice none 0 0, .int .i64 0, .slice none 0 0, .int .i64 0, .int .i64 0, .string ⟨#[]⟩, .int .i64 0, .string ⟨#[]⟩]) := by rw [Hid, hw]; exact ⟨by first | omega | (simp [World.setCell]; done) | (simp [World.setCell]; omega), fun o => by rcases o with _ | _ | _ | _ | _ | _ | _ | _ | _ | o <;> go_simp, fun o => by go_simp⟩
 have hxq := HXq.out.2.1
 have hfq := HXq.out.2.2
 have hkq := HXq.out.1
 clear hw
 refine (isWidth_c width _).mono ?_
 rintro e w2_ ⟨rfl, rfl⟩
 rcases hq : inR width 1 32 with _ | _
 ·have HNO : Hid (bp = false) := Lib.hid (by rw [HDEF.out, hq]; rfl)
  obtain ⟨rfl, rfl, rfl, rfl, rfl⟩ := HBAD.out HNO.out
  clear HBAD HEQ
  go_wp2
  refine bodyPost_named (fun w3 hw => ?_)
  have hz3 : w1.heap.size + 0 ≤ w3.heap.size := by rw [hw]; first | omega | (simp [World.setCell]; done) | (simp [World.setCell]; omega)
  have hzz3 : w.heap.size ≤ w3.heap.size := by omega
  replace HB : Hid (Below w.heap.size w w3) := by rw [Hid, hw]; exact (by ((repeat (first | ((with_reducible refine Below.alloc ?_ ?_ _); rotate_left 1; (focus (first | omega | (simp; done) | (simp; omega)))) | (with_reducible refine Below.drew ?_) | ((with_reducible refine Below.setCell ?_ ?_ _); rotate_left 1; (focus (first | omega | (simp; done) | (simp; omega)))))); exact HB.out))
  replace HXq : Hid (NewBox w3 (w.heap.size) [.int .i64 0, .slice none 0 0, .int .i64 0, .slice none 0 0, .int .i64 0, .int .i64 0, .string ⟨#[]⟩, .int .i64 0, .string ⟨#[]⟩]) := by rw [Hid, hw]; apply NewBox.cast; (focus ((repeat (first | (with_reducible apply NewBox.alloc) | (with_reducible apply NewBox.drew) | (with_reducible apply NewBox.set1) | ((with_reducible apply NewBox.far); (focus (first | omega | (simp; done) | (simp; omega)))))); exact HXq.out)); rfl
  clear hxq hfq hkq
  have hxq := HXq.out.2.1
  have hfq := HXq.out.2.2
  have hkq := HXq.out.1
  clear hw
  refine bodyPost_ret (v := .tuple #[.agg #[.int .i64 0, .slice none 0 0, .int .i64 0, .slice none 0 0, .int .i64 0, .int .i64 0, .string ⟨#[]⟩, .int .i64 0, .string ⟨#[]⟩], .bool false]) (by simp [results, Tryz.results73, go_sem, hxq]) rfl ?_
  exact ⟨none, 0, none, 0, by rw [HNO.out]; rfl, Rd.nil, Rd.nil, HB.out⟩
 have HW1 := Lib.hid hq
 rw [hq] at HDEF
 clear hq
 go_wp2_with fail
 refine calls_named (fun w3 hw => ?_)
 have hz3 : w1.heap.size + 0 ≤ w3.heap.size := by rw [hw]; first | omega | (simp [World.setCell]; done) | (simp [World.setCell]; omega)
 have hzz3 : w.heap.size ≤ w3.heap.size := by omega
 have hbn : Below w1.heap.size w1 w3 := by rw [hw]; exact (by ((repeat (first | ((with_reducible refine Below.alloc ?_ ?_ _); rotate_left 1; (focus (first | omega | (simp; done) | (simp; omega)))) | (with_reducible refine Below.drew ?_) | ((with_reducible refine Below.setCell ?_ ?_ _); rotate_left 1; (focus (first | omega | (simp; done) | (simp; omega)))))); exact Below.refl _ _))
 replace HB := Lib.hid (below_then HB.out hbn HB.out.size)
 replace HOE := Lib.hid (HOE.out.below hbn)
 replace HOR := Lib.hid (HOR.out.below hbn)
 replace HOH := Lib.hid (HOH.out.below hbn)
 replace HXb := Lib.hid (HXb.out.below hbn)
 clear hxb hfb hkb
 have hxb := HXb.out.2.1
 have hfb := HXb.out.2.2
 have hkb := HXb.out.1
 replace HXq := Lib.hid (HXq.out.below hbn)
 clear hxq hfq hkq
 have hxq := HXq.out.2.1
 have hfq := HXq.out.2.2
 have hkq := HXq.out.1
 clear hbn
 clear hw
 refine (HLG.out _ HOE.out.base).mono ?_
 rintro e w4 ⟨rfl, hb⟩
 have hzw4 : w3.heap.size ≤ w4.heap.size := hb.size
 have hzzw4 : w.heap.size ≤ w4.heap.size := by omega
 replace HB := Lib.hid (below_then HB.out hb HB.out.size)
 replace HOE := Lib.hid (HOE.out.below hb)
 replace HOR := Lib.hid (HOR.out.below hb)
 replace HOH := Lib.hid (HOH.out.below hb)
 replace HXb := Lib.hid (HXb.out.below hb)
 clear hxb hfb hkb
 have hxb := HXb.out.2.1
 have hfb := HXb.out.2.2
 have hkb := HXb.out.1
 replace HXq := Lib.hid (HXq.out.below hb)
 clear hxq hfq hkq
 have hxq := HXq.out.2.1
 have hfq := HXq.out.2.2
 have hkq := HXq.out.1
 clear hb
 rcases hq : logOk es with _ | _
 ·have HNO : Hid (bp = false) := Lib.hid (by rw [HDEF.out, hq]; rfl)
  obtain ⟨rfl, rfl, rfl, rfl, rfl⟩ := HBAD.out HNO.out
  clear HBAD HEQ
  go_wp2
  refine bodyPost_named (fun w5 hw => ?_)
  have hz5 : w4.heap.size + 0 ≤ w5.heap.size := by rw [hw]; first | omega | (simp [World.setCell]; done) | (simp [World.setCell]; omega)
  have hzz5 : w.heap.size ≤ w5.heap.size := by omega
  replace HB : Hid (Below w.heap.size w w5) := by rw [Hid, hw]; exact (by ((repeat (first | ((with_reducible refine Below.alloc ?_ ?_ _); rotate_left 1; (focus (first | omega | (simp; done) | (simp; omega)))) | (with_reducible refine Below.drew ?_) | ((with_reducible refine Below.setCell ?_ ?_ _); rotate_left 1; (focus (first | omega | (simp; done) | (simp; omega)))))); exact HB.out))
  replace HXq : Hid (NewBox w5 (w.heap.size) [.int .i64 0, .slice none 0 0, .int .i64 0, .slice none 0 0, .int .i64 0, .int .i64 0, .string ⟨#[]⟩, .int .i64 0, .string ⟨#[]⟩]) := by rw [Hid, hw]; apply NewBox.cast; (focus ((repeat (first | (with_reducible apply NewBox.alloc) | (with_reducible apply NewBox.drew) | (with_reducible apply NewBox.set1) | ((with_reducible apply NewBox.far); (focus (first | omega | (simp; done) | (simp; omega)))))); exact HXq.out)); rfl
  clear hxq hfq hkq
  have hxq := HXq.out.2.1
  have hfq := HXq.out.2.2
  have hkq := HXq.out.1
  clear hw
  refine bodyPost_ret (v := .tuple #[.agg #[.int .i64 0, .slice none 0 0, .int .i64 0, .slice none 0 0, .int .i64 0, .int .i64 0, .string ⟨#[]⟩, .int .i64 0, .string ⟨#[]⟩], .bool false]) (by simp [results, Tryz.results73, go_sem, hxq]) rfl ?_
  exact ⟨none, 0, none, 0, by rw [HNO.out]; rfl, Rd.nil, Rd.nil, HB.out⟩
 have HW2 := Lib.hid hq
 rw [hq] at HDEF
 clear hq
 go_wp2_with fail
 refine calls_named (fun w5 hw => ?_)
 have hz5 : w4.heap.size + 0 ≤ w5.heap.size := by rw [hw]; first | omega | (simp [World.setCell]; done) | (simp [World.setCell]; omega)
 have hzz5 : w.heap.size ≤ w5.heap.size := by omega
 have hbn : Below w4.heap.size w4 w5 := by rw [hw]; exact (by ((repeat (first | ((with_reducible refine Below.alloc ?_ ?_ _); rotate_left 1; (focus (first | omega | (simp; done) | (simp; omega)))) | (with_reducible refine Below.drew ?_) | ((with_reducible refine Below.setCell ?_ ?_ _); rotate_left 1; (focus (first | omega | (simp; done) | (simp; omega)))))); exact Below.refl _ _))
 replace HB := Lib.hid (below_then HB.out hbn HB.out.size)
 replace HOE := Lib.hid (HOE.out.below hbn)
 replace HOR := Lib.hid (HOR.out.below hbn)
 replace HOH := Lib.hid (HOH.out.below hbn)
 replace HXb := Lib.hid (HXb.out.below hbn)
 clear hxb hfb hkb
 have hxb := HXb.out.2.1
 have hfb := HXb.out.2.2
 have hkb := HXb.out.1
 replace HXq := Lib.hid (HXq.out.below hbn)
 clear hxq hfq hkq
 have hxq := HXq.out.2.1
 have hfq := HXq.out.2.2
 have hkq := HXq.out.1
 clear hbn
 clear hw
 refine (HRC.out _ HOR.out.base).mono ?_
 rintro e w6 ⟨rfl, hb⟩
 have hzw6 : w5.heap.size ≤ w6.heap.size := hb.size
 have hzzw6 : w.heap.size ≤ w6.heap.size := by omega
 replace HB := Lib.hid (below_then HB.out hb HB.out.size)
 replace HOE := Lib.hid (HOE.out.below hb)
 replace HOR := Lib.hid (HOR.out.below hb)
 replace HOH := Lib.hid (HOH.out.below hb)
 replace HXb := Lib.hid (HXb.out.below hb)
 clear hxb hfb hkb
 have hxb := HXb.out.2.1
 have hfb := HXb.out.2.2
 have hkb := HXb.out.1
 replace HXq := Lib.hid (HXq.out.below hb)
 clear hxq hfq hkq
 have hxq := HXq.out.2.1
 have hfq := HXq.out.2.2
 have hkq := HXq.out.1
 clear hb
 rcases hq : rcpsOk rs with _ | _
 ·have HNO : Hid (bp = false) := Lib.hid (by rw [HDEF.out, hq]; rfl)
  obtain ⟨rfl, rfl, rfl, rfl, rfl⟩ := HBAD.out HNO.out
  clear HBAD HEQ
  go_wp2
  refine bodyPost_named (fun w7 hw => ?_)
  have hz7 : w6.heap.size + 0 ≤ w7.heap.size := by rw [hw]; first | omega | (simp [World.setCell]; done) | (simp [World.setCell]; omega)
  have hzz7 : w.heap.size ≤ w7.heap.size := by omega
  replace HB : Hid (Below w.heap.size w w7) := by rw [Hid, hw]; exact (by ((repeat (first | ((with_reducible refine Below.alloc ?_ ?_ _); rotate_left 1; (focus (first | omega | (simp; done) | (simp; omega)))) | (with_reducible refine Below.drew ?_) | ((with_reducible refine Below.setCell ?_ ?_ _); rotate_left 1; (focus (first | omega | (simp; done) | (simp; omega)))))); exact HB.out))
  replace HXq : Hid (NewBox w7 (w.heap.size) [.int .i64 0, .slice none 0 0, .int .i64 0, .slice none 0 0, .int .i64 0, .int .i64 0, .string ⟨#[]⟩, .int .i64 0, .string ⟨#[]⟩]) := by rw [Hid, hw]; apply NewBox.cast; (focus ((repeat (first | (with_reducible apply NewBox.alloc) | (with_reducible apply NewBox.drew) | (with_reducible apply NewBox.set1) | ((with_reducible apply NewBox.far); (focus (first | omega | (simp; done) | (simp; omega)))))); exact HXq.out)); rfl
  clear hxq hfq hkq
  have hxq := HXq.out.2.1
  have hfq := HXq.out.2.2
  have hkq := HXq.out.1
  clear hw
  refine bodyPost_ret (v := .tuple #[.agg #[.int .i64 0, .slice none 0 0, .int .i64 0, .slice none 0 0, .int .i64 0, .int .i64 0, .string ⟨#[]⟩, .int .i64 0, .string ⟨#[]⟩], .bool false]) (by simp [results, Tryz.results73, go_sem, hxq]) rfl ?_
  exact ⟨none, 0, none, 0, by rw [HNO.out]; rfl, Rd.nil, Rd.nil, HB.out⟩
 have HW3 := Lib.hid hq
 rw [hq] at HDEF
 clear hq
 rcases (show nh = 0 ∨ 0 < nh by omega) with hn0 | hn0
 ·have HNO : Hid (bp = false) := Lib.hid (by rw [HDEF.out, decide_eq_false (by omega)]; rfl)
  have e0 : ((nh : Int) == 0) = true := beq_iff_eq.2 (by omega)
  clear hn0
  have l0 : ∀ v : Later w6, v.v.cell? ⟨p, 0, none⟩ = some (.int .i64 width) := fun v => (later_cell v _ _ hkb).trans (hxb 0)
  have l3 : ∀ v : Later w6, v.v.cell? ⟨p, 3, none⟩ = some (.slice H nh ch) := fun v => (later_cell v _ _ hkb).trans (hxb 3)
  go_wp2_with fail
  refine wp_region_later (by kernel_rfl) (by kernel_rfl) ?_
  repeat (go_big_quiet_step (fail))
  refine wpQuiet_nil ?_
  intro w9 h9
  have hb9 := later_below h9
  have hzw9 : w6.heap.size ≤ w9.heap.size := hb9.size
  have hzzw9 : w.heap.size ≤ w9.heap.size := by omega
  replace HB := Lib.hid (below_then HB.out hb9 HB.out.size)
  replace HOE := Lib.hid (HOE.out.below hb9)
  replace HOR := Lib.hid (HOR.out.below hb9)
  replace HOH := Lib.hid (HOH.out.below hb9)
  replace HXb := Lib.hid (HXb.out.below hb9)
  clear hxb hfb hkb
  have hxb := HXb.out.2.1
  have hfb := HXb.out.2.2
  have hkb := HXb.out.1
  replace HXq := Lib.hid (HXq.out.below hb9)
  clear hxq hfq hkq
  have hxq := HXq.out.2.1
  have hfq := HXq.out.2.2
  have hkq := HXq.out.1
  clear l0 l3 h9 hb9
  obtain ⟨rfl, rfl, rfl, rfl, rfl⟩ := HBAD.out HNO.out
  clear HBAD HEQ
  go_wp2
  refine bodyPost_named (fun w7 hw => ?_)
  have hz7 : w9.heap.size + 0 ≤ w7.heap.size := by rw [hw]; first | omega | (simp [World.setCell]; done) | (simp [World.setCell]; omega)
  have hzz7 : w.heap.size ≤ w7.heap.size := by omega
  replace HB : Hid (Below w.heap.size w w7) := by rw [Hid, hw]; exact (by ((repeat (first | ((with_reducible refine Below.alloc ?_ ?_ _); rotate_left 1; (focus (first | omega | (simp; done) | (simp; omega)))) | (with_reducible refine Below.drew ?_) | ((with_reducible refine Below.setCell ?_ ?_ _); rotate_left 1; (focus (first | omega | (simp; done) | (simp; omega)))))); exact HB.out))
  replace HXq : Hid (NewBox w7 (w.heap.size) [.int .i64 0, .slice none 0 0, .int .i64 0, .slice none 0 0, .int .i64 0, .int .i64 0, .string ⟨#[]⟩, .int .i64 0, .string ⟨#[]⟩]) := by rw [Hid, hw]; apply NewBox.cast; (focus ((repeat (first | (with_reducible apply NewBox.alloc) | (with_reducible apply NewBox.drew) | (with_reducible apply NewBox.set1) | ((with_reducible apply NewBox.far); (focus (first | omega | (simp; done) | (simp; omega)))))); exact HXq.out)); rfl
  clear hxq hfq hkq
  have hxq := HXq.out.2.1
  have hfq := HXq.out.2.2
  have hkq := HXq.out.1
  clear hw
  refine bodyPost_ret (v := .tuple #[.agg #[.int .i64 0, .slice none 0 0, .int .i64 0, .slice none 0 0, .int .i64 0, .int .i64 0, .string ⟨#[]⟩, .int .i64 0, .string ⟨#[]⟩], .bool false]) (by simp [results, Tryz.results73, go_sem, hxq]) rfl ?_
  exact ⟨none, 0, none, 0, by rw [HNO.out]; rfl, Rd.nil, Rd.nil, HB.out⟩
 have e0 : ((nh : Int) == 0) = false := beq_eq_false_iff_ne.2 (by omega)
 have HH2 := Lib.hid (fun v : Later w6 => HHD.out v.v (HOH.out.below v.h).base)
 have l0 : ∀ v : Later w6, v.v.cell? ⟨p, 0, none⟩ = some (.int .i64 width) := fun v => (later_cell v _ _ hkb).trans (hxb 0)
 have l3 : ∀ v : Later w6, v.v.cell? ⟨p, 3, none⟩ = some (.slice H nh ch) := fun v => (later_cell v _ _ hkb).trans (hxb 3)
 go_wp2_with fail
 rcases hq : headsOk width hs with _ | _
 ·have HNO : Hid (bp = false) := Lib.hid (by rw [HDEF.out, hq, Bool.false_and, Bool.and_false]; rfl)
  rw [hq] at HH2
  clear hq
  refine wp_region_later (by kernel_rfl) (by kernel_rfl) ?_
  repeat (go_big_quiet_step ((with_reducible exact later_call (HH2.out _))))
  refine wpQuiet_nil ?_
  intro w9 h9
  have hb9 := later_below h9
  have hzw9 : w6.heap.size ≤ w9.heap.size := hb9.size
  have hzzw9 : w.heap.size ≤ w9.heap.size := by omega
  replace HB := Lib.hid (below_then HB.out hb9 HB.out.size)
  replace HOE := Lib.hid (HOE.out.below hb9)
  replace HOR := Lib.hid (HOR.out.below hb9)
  replace HOH := Lib.hid (HOH.out.below hb9)
  replace HXb := Lib.hid (HXb.out.below hb9)
  clear hxb hfb hkb
  have hxb := HXb.out.2.1
  have hfb := HXb.out.2.2
  have hkb := HXb.out.1
  replace HXq := Lib.hid (HXq.out.below hb9)
  clear hxq hfq hkq
  have hxq := HXq.out.2.1
  have hfq := HXq.out.2.2
  have hkq := HXq.out.1
  clear l0 l3 h9 hb9
  obtain ⟨rfl, rfl, rfl, rfl, rfl⟩ := HBAD.out HNO.out
  clear HBAD HEQ
  go_wp2
  refine bodyPost_named (fun w7 hw => ?_)
  have hz7 : w9.heap.size + 0 ≤ w7.heap.size := by rw [hw]; first | omega | (simp [World.setCell]; done) | (simp [World.setCell]; omega)
  have hzz7 : w.heap.size ≤ w7.heap.size := by omega
  replace HB : Hid (Below w.heap.size w w7) := by rw [Hid, hw]; exact (by ((repeat (first | ((with_reducible refine Below.alloc ?_ ?_ _); rotate_left 1; (focus (first | omega | (simp; done) | (simp; omega)))) | (with_reducible refine Below.drew ?_) | ((with_reducible refine Below.setCell ?_ ?_ _); rotate_left 1; (focus (first | omega | (simp; done) | (simp; omega)))))); exact HB.out))
  replace HXq : Hid (NewBox w7 (w.heap.size) [.int .i64 0, .slice none 0 0, .int .i64 0, .slice none 0 0, .int .i64 0, .int .i64 0, .string ⟨#[]⟩, .int .i64 0, .string ⟨#[]⟩]) := by rw [Hid, hw]; apply NewBox.cast; (focus ((repeat (first | (with_reducible apply NewBox.alloc) | (with_reducible apply NewBox.drew) | (with_reducible apply NewBox.set1) | ((with_reducible apply NewBox.far); (focus (first | omega | (simp; done) | (simp; omega)))))); exact HXq.out)); rfl
  clear hxq hfq hkq
  have hxq := HXq.out.2.1
  have hfq := HXq.out.2.2
  have hkq := HXq.out.1
  clear hw
  refine bodyPost_ret (v := .tuple #[.agg #[.int .i64 0, .slice none 0 0, .int .i64 0, .slice none 0 0, .int .i64 0, .int .i64 0, .string ⟨#[]⟩, .int .i64 0, .string ⟨#[]⟩], .bool false]) (by simp [results, Tryz.results73, go_sem, hxq]) rfl ?_
  exact ⟨none, 0, none, 0, by rw [HNO.out]; rfl, Rd.nil, Rd.nil, HB.out⟩
 have HW4 := Lib.hid hq
 rw [hq] at HDEF HH2
 clear hq
 refine wp_region_later (by kernel_rfl) (by kernel_rfl) ?_
 repeat (go_big_quiet_step ((with_reducible exact later_call (HH2.out _))))
 refine wpQuiet_nil ?_
 intro w9 h9
 have hb9 := later_below h9
 have hzw9 : w6.heap.size ≤ w9.heap.size := hb9.size
 have hzzw9 : w.heap.size ≤ w9.heap.size := by omega
 replace HB := Lib.hid (below_then HB.out hb9 HB.out.size)
 replace HOE := Lib.hid (HOE.out.below hb9)
 replace HOR := Lib.hid (HOR.out.below hb9)
 replace HOH := Lib.hid (HOH.out.below hb9)
 replace HXb := Lib.hid (HXb.out.below hb9)
 clear hxb hfb hkb
 have hxb := HXb.out.2.1
 have hfb := HXb.out.2.2
 have hkb := HXb.out.1
 replace HXq := Lib.hid (HXq.out.below hb9)
 clear hxq hfq hkq
 have hxq := HXq.out.2.1
 have hfq := HXq.out.2.2
 have hkq := HXq.out.1
 clear l0 l3 h9 hb9 HH2
 have hlM : es.map (leafHashM width) = leavesM width es := rfl
 have htM : rs.map (rcpHashM width) = takenM width rs := rfl
 rw [hlM] at HC1
 rw [htM] at HC2
 have h51 : ne ≤ 512 := by rw [← HLEN.out.1]; exact logOk_len HW2.out
 have h52 : nr ≤ 512 := by rw [← HLEN.out.2.1]; exact rcpsOk_len HW3.out
 have HSL := Lib.hid (fun W X1 X2 d1 d2 (a : Rd W 0 W.heap.size X1 (strs (leavesM width es))) (b : Rd W 0 W.heap.size X2 (strs (takenM width rs))) (c : Rd W 0 W.heap.size H (hds hs)) (e1 : ne ≤ d1) (e2 : nr ≤ d2) => sealsOf_c width X1 X2 H d1 d2 ne nr nh ch 0 W.heap.size (leavesM width es) (takenM width rs) hs W HW1.out (leavesM_are HW1.out HW2.out) (takenM_are HW1.out HW3.out) a b c (by rw [leavesM_len]; exact HLEN.out.1) (by rw [takenM_len]; exact HLEN.out.2.1) HLEN.out.2.2 h51 h52 e1 e2 hn0 (by omega) HW4.out HFIT.out.2.2)
 clear hlM htM
 generalize slZ1 width (leavesM width es) (takenM width rs) hs = sz1 at *
 generalize slZ2 width (leavesM width es) (takenM width rs) hs = sz2 at *
 generalize slL1 width (leavesM width es) (takenM width rs) hs = sl1 at *
 generalize slL2 width (leavesM width es) (takenM width rs) hs = sl2 at *
 generalize slH width (leavesM width es) (takenM width rs) hs = sh at *
 generalize rootsOk width (leavesM width es) (takenM width rs) hs = ro at *
 generalize leavesM width es = ll at *
 generalize takenM width rs = tt at *
 go_wp2_with fail
 refine wp_named (fun w7 hw => ?_)
 have hz7 : w9.heap.size + 0 ≤ w7.heap.size := by rw [hw]; first | omega | (simp [World.setCell]; done) | (simp [World.setCell]; omega)
 have hzz7 : w.heap.size ≤ w7.heap.size := by omega
 have hbn : Below w9.heap.size w9 w7 := by rw [hw]; exact (by ((repeat (first | ((with_reducible refine Below.alloc ?_ ?_ _); rotate_left 1; (focus (first | omega | (simp; done) | (simp; omega)))) | (with_reducible refine Below.drew ?_) | ((with_reducible refine Below.setCell ?_ ?_ _); rotate_left 1; (focus (first | omega | (simp; done) | (simp; omega)))))); exact Below.refl _ _))
 replace HB := Lib.hid (below_then HB.out hbn HB.out.size)
 replace HOE := Lib.hid (HOE.out.below hbn)
 replace HOR := Lib.hid (HOR.out.below hbn)
 replace HOH := Lib.hid (HOH.out.below hbn)
 replace HXb := Lib.hid (HXb.out.below hbn)
 clear hxb hfb hkb
 have hxb := HXb.out.2.1
 have hfb := HXb.out.2.2
 have hkb := HXb.out.1
 replace HXq := Lib.hid (HXq.out.below hbn)
 clear hxq hfq hkq
 have hxq := HXq.out.2.1
 have hfq := HXq.out.2.2
 have hkq := HXq.out.1
 clear hbn
 clear hw
 obtain ⟨F, HF⟩ : ∃ F : Facts, Hid (F = fun iq xq tqs dsq uq => match iq with
  | 0 => xq.v = .pointer (some ⟨p, 0, none⟩)
  | 1 => xq.v = .pointer (some ⟨p, 0, none⟩)
  | 2 => xq.v = .pointer (some ⟨p, 0, none⟩)
  | 3 => xq.v = .int .i64 width
  | 4 => xq.v = .pointer (some ⟨p, 0, none⟩)
  | 5 => xq.v = .pointer (some ⟨p, 0, none⟩)
  | 6 => xq.v = .pointer (some ⟨p, 0, none⟩)
  | 7 => xq.v = .int .i64 width
  | 8 => xq.v = .pointer (some ⟨p, 0, none⟩)
  | 9 => xq.v = .pointer (some ⟨p, 0, none⟩)
  | 10 => xq.v = .pointer (some ⟨p, 1, none⟩)
  | 11 => xq.v = .agg #[.slice E ne ce]
  | 12 => ∃ (X1 : Option Addr) (d1 : Nat), xq.v = .slice X1 ne d1 ∧ (RowB uq xq.s xq.e (.slice X1 ne d1, ne) (strs ll))
  | 13 => xq.v = .pointer (some ⟨p, 0, none⟩)
  | 14 => xq.v = .pointer (some ⟨p, 0, none⟩)
  | 15 => xq.v = .pointer (some ⟨p, 0, none⟩)
  | 16 => xq.v = .int .i64 width
  | 17 => xq.v = .pointer (some ⟨p, 0, none⟩)
  | 18 => xq.v = .pointer (some ⟨p, 0, none⟩)
  | 19 => xq.v = .pointer (some ⟨p, 2, none⟩)
  | 20 => xq.v = .slice R nr cr
  | 21 => ∃ (X2 : Option Addr) (d2 : Nat), xq.v = .slice X2 nr d2 ∧ (RowB uq xq.s xq.e (.slice X2 nr d2, nr) (strs tt))
  | 22 => xq.v = .pointer (some ⟨p, 0, none⟩)
  | 23 => xq.v = .pointer (some ⟨p, 0, none⟩)
  | 24 => xq.v = .pointer (some ⟨p, 3, none⟩)
  | 25 => xq.v = .slice H nh ch
  | 26 => ∃ (X3 : Option Addr) (d3 : Nat) (X4 : Option Addr) (d4 : Nat), xq.v = .tuple #[.agg #[.int .i64 sz1, .slice X3 sl1.length d3, .int .i64 sz2, .slice X4 sl2.length d4, .int .i64 sh.num, .int .i64 sh.size, .string sh.root, .int .i64 sh.taken, .string sh.troot], .bool ro] ∧ (Rd uq xq.s xq.e X3 (strs sl1)) ∧ (Rd uq xq.s xq.e X4 (strs sl2))
  | 27 => (match tqs, dsq with | [], [yq0] => ∃ (X3 : Option Addr) (d3 : Nat) (X4 : Option Addr) (d4 : Nat), yq0.v = .tuple #[.agg #[.int .i64 sz1, .slice X3 sl1.length d3, .int .i64 sz2, .slice X4 sl2.length d4, .int .i64 sh.num, .int .i64 sh.size, .string sh.root, .int .i64 sh.taken, .string sh.troot], .bool ro] ∧ xq.v = .tuple #[.agg #[.int .i64 sz1, .slice X3 sl1.length d3, .int .i64 sz2, .slice X4 sl2.length d4, .int .i64 sh.num, .int .i64 sh.size, .string sh.root, .int .i64 sh.taken, .string sh.troot], .bool ro] | _, _ => False)
  | 28 => (match tqs, dsq with | [], [yq0] => ∃ (X3 : Option Addr) (d3 : Nat) (X4 : Option Addr) (d4 : Nat), yq0.v = .tuple #[.agg #[.int .i64 sz1, .slice X3 sl1.length d3, .int .i64 sz2, .slice X4 sl2.length d4, .int .i64 sh.num, .int .i64 sh.size, .string sh.root, .int .i64 sh.taken, .string sh.troot], .bool ro] ∧ xq.v = .agg #[.int .i64 sz1, .slice X3 sl1.length d3, .int .i64 sz2, .slice X4 sl2.length d4, .int .i64 sh.num, .int .i64 sh.size, .string sh.root, .int .i64 sh.taken, .string sh.troot] | _, _ => False)
  | 29 => (match tqs, dsq with | [], [yq0] => ∃ (X3 : Option Addr) (d3 : Nat) (X4 : Option Addr) (d4 : Nat), yq0.v = .tuple #[.agg #[.int .i64 sz1, .slice X3 sl1.length d3, .int .i64 sz2, .slice X4 sl2.length d4, .int .i64 sh.num, .int .i64 sh.size, .string sh.root, .int .i64 sh.taken, .string sh.troot], .bool ro] ∧ xq.v = .bool ro | _, _ => False)
  | 30 => xq.v = .pointer (some ⟨xq.s, 0, none⟩) ∧ xq.s < xq.e ∧ NewBox uq xq.s [.int .i64 0, .slice none 0 0, .int .i64 0, .slice none 0 0, .int .i64 0, .int .i64 0, .string ⟨#[]⟩, .int .i64 0, .string ⟨#[]⟩]
  | 31 => (match tqs, dsq with | [tq0], [yq0] => tq0.v = .pointer (some ⟨tq0.s, 0, none⟩) ∧ tq0.s < tq0.e ∧ ∃ (X3 : Option Addr) (d3 : Nat) (X4 : Option Addr) (d4 : Nat), yq0.v = .tuple #[.agg #[.int .i64 sz1, .slice X3 sl1.length d3, .int .i64 sz2, .slice X4 sl2.length d4, .int .i64 sh.num, .int .i64 sh.size, .string sh.root, .int .i64 sh.taken, .string sh.troot], .bool ro] ∧ NewBox uq tq0.s [.int .i64 sz1, .slice X3 sl1.length d3, .int .i64 sz2, .slice X4 sl2.length d4, .int .i64 sh.num, .int .i64 sh.size, .string sh.root, .int .i64 sh.taken, .string sh.troot] | _, _ => False)
  | 32 => (match tqs, dsq with | [], [yq0] => ∃ (X3 : Option Addr) (d3 : Nat) (X4 : Option Addr) (d4 : Nat), yq0.v = .tuple #[.agg #[.int .i64 sz1, .slice X3 sl1.length d3, .int .i64 sz2, .slice X4 sl2.length d4, .int .i64 sh.num, .int .i64 sh.size, .string sh.root, .int .i64 sh.taken, .string sh.troot], .bool ro] ∧ xq.v = .bool ro | _, _ => False)
  | _ => False) := ⟨_, rfl⟩
 refine wp_region_facts [[], [], [], [], [], [], [], [], [], [], [], [], [], [], [], [], [], [], [], [], [], [], [], [], [], [], [], [26], [26], [26], [], [26], [26]] [[], [], [], [], [], [], [], [], [], [], [], [], [], [], [], [], [], [], [], [], [], [], [], [], [], [], [], [], [], [], [], [30], []] [some 52, some 53, some 54, some 55, some 56, some 57, some 58, some 59, some 60, some 61, some 62, some 63, some 64, some 65, some 66, some 67, some 68, some 69, some 70, some 71, some 72, some 73, some 74, some 75, some 76, some 77, some 78, some 51, some 79, some 80, some 4, none, some 5] none 0 0 (.inl rfl) F (by kernel_rfl) (by kernel_rfl) (by kernel_rfl) ?_ ⟨?_, ?_, ?_, ?_, ?_, ?_, ?_, ?_, ?_, ?_, ?_, ?_, ?_, ?_, ?_, ?_, ?_, ?_, ?_, ?_, ?_, ?_, ?_, ?_, ?_, ?_, ?_, ?_, ?_, ?_, ?_, ?_, ?_, trivial⟩ ?_
 ·rw [HF.out]; intro iq xq tqs dsq uq u' hi hf hs hW hx hbk
  have kx : ∀ b, xq.s ≤ b → b < xq.e → u'.heap[b]? = uq.heap[b]? := fun b h1 h2 => hbk b (.inr (.inl ⟨h1, h2⟩))
  have kt : ∀ t ∈ tqs, ∀ b, t.s ≤ b → b < t.e → u'.heap[b]? = uq.heap[b]? := fun t ht b h1 h2 => hbk b (.inr (.inr ⟨t, ht, h1, h2⟩))
  match iq with
  | 0 => exact hf
  | 1 => exact hf
  | 2 => exact hf
  | 3 => exact hf
  | 4 => exact hf
  | 5 => exact hf
  | 6 => exact hf
  | 7 => exact hf
  | 8 => exact hf
  | 9 => exact hf
  | 10 => exact hf
  | 11 => exact hf
  | 12 => obtain ⟨X1, d1, hv, p0⟩ := hf; exact ⟨X1, d1, hv, p0.keep (fun k _ h1 h2 => kx k h1 h2)⟩
  | 13 => exact hf
  | 14 => exact hf
  | 15 => exact hf
  | 16 => exact hf
  | 17 => exact hf
  | 18 => exact hf
  | 19 => exact hf
  | 20 => exact hf
  | 21 => obtain ⟨X2, d2, hv, p0⟩ := hf; exact ⟨X2, d2, hv, p0.keep (fun k _ h1 h2 => kx k h1 h2)⟩
  | 22 => exact hf
  | 23 => exact hf
  | 24 => exact hf
  | 25 => exact hf
  | 26 => obtain ⟨X3, d3, X4, d4, hv, p0, p1⟩ := hf; exact ⟨X3, d3, X4, d4, hv, p0.keep hs (fun k h1 h2 => kx k h1 h2), p1.keep hs (fun k h1 h2 => kx k h1 h2)⟩
  | 27 => exact hf
  | 28 => exact hf
  | 29 => exact hf
  | 30 => exact ⟨hf.1, hf.2.1, hf.2.2.keep hs (kx _ (Nat.le_refl _) hf.2.1)⟩
  | 31 => match tqs, dsq, hf with | [tq0], [yq0], hf => obtain ⟨h1, h2, X3, d3, X4, d4, hvr26, hb⟩ := hf; exact ⟨h1, h2, X3, d3, X4, d4, hvr26, hb.keep hs (kt tq0 List.mem_cons_self _ (Nat.le_refl _) h2)⟩
  | 32 => exact hf
 ·intro gh ρ u hc hf1 hg1 hd h0 hb he ha hF
  have r0 : ρ (.tmp 0) = .pointer (some ⟨p, 0, none⟩) := (h0 0 (by decide +kernel)).trans rfl
  clear  hd h0 he ha hF
  go_simp
  rw [HF.out]
  exact ⟨OnlyL.refl _ _, rfl⟩
 ·intro gh ρ u hc hf1 hg1 hd h0 hb he ha hF
  have r52 : ρ (.tmp 52) = .pointer (some ⟨p, 0, none⟩) := by have h := hF 0 (by decide +kernel) (by decide +kernel); rw [HF.out] at h; exact (hd 0 (by decide +kernel) 52 (by kernel_rfl)).trans h
  clear  hd h0 he ha hF
  go_simp
  rw [HF.out]
  exact ⟨OnlyL.refl _ _, rfl⟩
 ·intro gh ρ u hc hf1 hg1 hd h0 hb he ha hF
  have r53 : ρ (.tmp 53) = .pointer (some ⟨p, 0, none⟩) := by have h := hF 1 (by decide +kernel) (by decide +kernel); rw [HF.out] at h; exact (hd 1 (by decide +kernel) 53 (by kernel_rfl)).trans h
  clear  hd h0 he ha hF
  go_simp
  rw [HF.out]
  exact ⟨OnlyL.refl _ _, rfl⟩
 ·intro gh ρ u hc hf1 hg1 hd h0 hb he ha hF
  replace hb : Below w7.heap.size w7 u := hb.drew.below (by decide +kernel)
  have hbz : w7.heap.size ≤ u.heap.size := hb.size
  have r54 : ρ (.tmp 54) = .pointer (some ⟨p, 0, none⟩) := by have h := hF 2 (by decide +kernel) (by decide +kernel); rw [HF.out] at h; exact (hd 2 (by decide +kernel) 54 (by kernel_rfl)).trans h
  have q_b := (HXb.out.below hb).2.1
  have k_b : p < u.heap.size := by have := HXb.out.1; omega
  clear  hd h0 he ha hF
  go_simp
  rw [HF.out]
  exact ⟨OnlyL.refl _ _, rfl⟩
 ·intro gh ρ u hc hf1 hg1 hd h0 hb he ha hF
  have r0 : ρ (.tmp 0) = .pointer (some ⟨p, 0, none⟩) := (h0 0 (by decide +kernel)).trans rfl
  clear  hd h0 he ha hF
  go_simp
  rw [HF.out]
  exact ⟨OnlyL.refl _ _, rfl⟩
 ·intro gh ρ u hc hf1 hg1 hd h0 hb he ha hF
  have r56 : ρ (.tmp 56) = .pointer (some ⟨p, 0, none⟩) := by have h := hF 4 (by decide +kernel) (by decide +kernel); rw [HF.out] at h; exact (hd 4 (by decide +kernel) 56 (by kernel_rfl)).trans h
  clear  hd h0 he ha hF
  go_simp
  rw [HF.out]
  exact ⟨OnlyL.refl _ _, rfl⟩
 ·intro gh ρ u hc hf1 hg1 hd h0 hb he ha hF
  have r57 : ρ (.tmp 57) = .pointer (some ⟨p, 0, none⟩) := by have h := hF 5 (by decide +kernel) (by decide +kernel); rw [HF.out] at h; exact (hd 5 (by decide +kernel) 57 (by kernel_rfl)).trans h
  clear  hd h0 he ha hF
  go_simp
  rw [HF.out]
  exact ⟨OnlyL.refl _ _, rfl⟩
 ·intro gh ρ u hc hf1 hg1 hd h0 hb he ha hF
  replace hb : Below w7.heap.size w7 u := hb.drew.below (by decide +kernel)
  have hbz : w7.heap.size ≤ u.heap.size := hb.size
  have r58 : ρ (.tmp 58) = .pointer (some ⟨p, 0, none⟩) := by have h := hF 6 (by decide +kernel) (by decide +kernel); rw [HF.out] at h; exact (hd 6 (by decide +kernel) 58 (by kernel_rfl)).trans h
  have q_b := (HXb.out.below hb).2.1
  have k_b : p < u.heap.size := by have := HXb.out.1; omega
  clear  hd h0 he ha hF
  go_simp
  rw [HF.out]
  exact ⟨OnlyL.refl _ _, rfl⟩
 ·intro gh ρ u hc hf1 hg1 hd h0 hb he ha hF
  have r0 : ρ (.tmp 0) = .pointer (some ⟨p, 0, none⟩) := (h0 0 (by decide +kernel)).trans rfl
  clear  hd h0 he ha hF
  go_simp
  rw [HF.out]
  exact ⟨OnlyL.refl _ _, rfl⟩
 ·intro gh ρ u hc hf1 hg1 hd h0 hb he ha hF
  have r60 : ρ (.tmp 60) = .pointer (some ⟨p, 0, none⟩) := by have h := hF 8 (by decide +kernel) (by decide +kernel); rw [HF.out] at h; exact (hd 8 (by decide +kernel) 60 (by kernel_rfl)).trans h
  clear  hd h0 he ha hF
  go_simp
  rw [HF.out]
  exact ⟨OnlyL.refl _ _, rfl⟩
 ·intro gh ρ u hc hf1 hg1 hd h0 hb he ha hF
  have r61 : ρ (.tmp 61) = .pointer (some ⟨p, 0, none⟩) := by have h := hF 9 (by decide +kernel) (by decide +kernel); rw [HF.out] at h; exact (hd 9 (by decide +kernel) 61 (by kernel_rfl)).trans h
  clear  hd h0 he ha hF
  go_simp
  rw [HF.out]
  exact ⟨OnlyL.refl _ _, rfl⟩
 ·intro gh ρ u hc hf1 hg1 hd h0 hb he ha hF
  replace hb : Below w7.heap.size w7 u := hb.drew.below (by decide +kernel)
  have hbz : w7.heap.size ≤ u.heap.size := hb.size
  have r62 : ρ (.tmp 62) = .pointer (some ⟨p, 1, none⟩) := by have h := hF 10 (by decide +kernel) (by decide +kernel); rw [HF.out] at h; exact (hd 10 (by decide +kernel) 62 (by kernel_rfl)).trans h
  have q_b := (HXb.out.below hb).2.1
  have k_b : p < u.heap.size := by have := HXb.out.1; omega
  clear  hd h0 he ha hF
  go_simp
  rw [HF.out]
  exact ⟨OnlyL.refl _ _, rfl⟩
 ·intro gh ρ u hc hf1 hg1 hd h0 hb he ha hF
  replace hb : Below w7.heap.size w7 u := hb.drew.below (by decide +kernel)
  have hbz : w7.heap.size ≤ u.heap.size := hb.size
  have r59 : ρ (.tmp 59) = .int .i64 width := by have h := hF 7 (by decide +kernel) (by decide +kernel); rw [HF.out] at h; exact (hd 7 (by decide +kernel) 59 (by kernel_rfl)).trans h
  have r63 : ρ (.tmp 63) = .agg #[.slice E ne ce] := by have h := hF 11 (by decide +kernel) (by decide +kernel); rw [HF.out] at h; exact (hd 11 (by decide +kernel) 63 (by kernel_rfl)).trans h
  clear  hd h0 he ha hF
  go_simp
  have q_b := (HXb.out.below hb)
  refine (HC1.out _ (HOE.out.below hb).base).mono ?_
  rintro e u1 ⟨X1, d1, rfl, ho, hb1⟩
  rw [HF.out]
  exact ⟨_, rfl, OnlyL.of_below hb1, X1, d1, rfl, RowB.of ho⟩
 ·intro gh ρ u hc hf1 hg1 hd h0 hb he ha hF
  have r0 : ρ (.tmp 0) = .pointer (some ⟨p, 0, none⟩) := (h0 0 (by decide +kernel)).trans rfl
  clear  hd h0 he ha hF
  go_simp
  rw [HF.out]
  exact ⟨OnlyL.refl _ _, rfl⟩
 ·intro gh ρ u hc hf1 hg1 hd h0 hb he ha hF
  have r65 : ρ (.tmp 65) = .pointer (some ⟨p, 0, none⟩) := by have h := hF 13 (by decide +kernel) (by decide +kernel); rw [HF.out] at h; exact (hd 13 (by decide +kernel) 65 (by kernel_rfl)).trans h
  clear  hd h0 he ha hF
  go_simp
  rw [HF.out]
  exact ⟨OnlyL.refl _ _, rfl⟩
 ·intro gh ρ u hc hf1 hg1 hd h0 hb he ha hF
  have r66 : ρ (.tmp 66) = .pointer (some ⟨p, 0, none⟩) := by have h := hF 14 (by decide +kernel) (by decide +kernel); rw [HF.out] at h; exact (hd 14 (by decide +kernel) 66 (by kernel_rfl)).trans h
  clear  hd h0 he ha hF
  go_simp
  rw [HF.out]
  exact ⟨OnlyL.refl _ _, rfl⟩
 ·intro gh ρ u hc hf1 hg1 hd h0 hb he ha hF
  replace hb : Below w7.heap.size w7 u := hb.drew.below (by decide +kernel)
  have hbz : w7.heap.size ≤ u.heap.size := hb.size
  have r67 : ρ (.tmp 67) = .pointer (some ⟨p, 0, none⟩) := by have h := hF 15 (by decide +kernel) (by decide +kernel); rw [HF.out] at h; exact (hd 15 (by decide +kernel) 67 (by kernel_rfl)).trans h
  have q_b := (HXb.out.below hb).2.1
  have k_b : p < u.heap.size := by have := HXb.out.1; omega
  clear  hd h0 he ha hF
  go_simp
  rw [HF.out]
  exact ⟨OnlyL.refl _ _, rfl⟩
 ·intro gh ρ u hc hf1 hg1 hd h0 hb he ha hF
  have r0 : ρ (.tmp 0) = .pointer (some ⟨p, 0, none⟩) := (h0 0 (by decide +kernel)).trans rfl
  clear  hd h0 he ha hF
  go_simp
  rw [HF.out]
  exact ⟨OnlyL.refl _ _, rfl⟩
 ·intro gh ρ u hc hf1 hg1 hd h0 hb he ha hF
  have r69 : ρ (.tmp 69) = .pointer (some ⟨p, 0, none⟩) := by have h := hF 17 (by decide +kernel) (by decide +kernel); rw [HF.out] at h; exact (hd 17 (by decide +kernel) 69 (by kernel_rfl)).trans h
  clear  hd h0 he ha hF
  go_simp
  rw [HF.out]
  exact ⟨OnlyL.refl _ _, rfl⟩
 ·intro gh ρ u hc hf1 hg1 hd h0 hb he ha hF
  have r70 : ρ (.tmp 70) = .pointer (some ⟨p, 0, none⟩) := by have h := hF 18 (by decide +kernel) (by decide +kernel); rw [HF.out] at h; exact (hd 18 (by decide +kernel) 70 (by kernel_rfl)).trans h
  clear  hd h0 he ha hF
  go_simp
  rw [HF.out]
  exact ⟨OnlyL.refl _ _, rfl⟩
 ·intro gh ρ u hc hf1 hg1 hd h0 hb he ha hF
  replace hb : Below w7.heap.size w7 u := hb.drew.below (by decide +kernel)
  have hbz : w7.heap.size ≤ u.heap.size := hb.size
  have r71 : ρ (.tmp 71) = .pointer (some ⟨p, 2, none⟩) := by have h := hF 19 (by decide +kernel) (by decide +kernel); rw [HF.out] at h; exact (hd 19 (by decide +kernel) 71 (by kernel_rfl)).trans h
  have q_b := (HXb.out.below hb).2.1
  have k_b : p < u.heap.size := by have := HXb.out.1; omega
  clear  hd h0 he ha hF
  go_simp
  rw [HF.out]
  exact ⟨OnlyL.refl _ _, rfl⟩
 ·intro gh ρ u hc hf1 hg1 hd h0 hb he ha hF
  replace hb : Below w7.heap.size w7 u := hb.drew.below (by decide +kernel)
  have hbz : w7.heap.size ≤ u.heap.size := hb.size
  have r68 : ρ (.tmp 68) = .int .i64 width := by have h := hF 16 (by decide +kernel) (by decide +kernel); rw [HF.out] at h; exact (hd 16 (by decide +kernel) 68 (by kernel_rfl)).trans h
  have r72 : ρ (.tmp 72) = .slice R nr cr := by have h := hF 20 (by decide +kernel) (by decide +kernel); rw [HF.out] at h; exact (hd 20 (by decide +kernel) 72 (by kernel_rfl)).trans h
  clear  hd h0 he ha hF
  go_simp
  have q_b := (HXb.out.below hb)
  refine (HC2.out _ (HOR.out.below hb).base).mono ?_
  rintro e u1 ⟨X2, d2, rfl, ho, hb1⟩
  rw [HF.out]
  exact ⟨_, rfl, OnlyL.of_below hb1, X2, d2, rfl, RowB.of ho⟩
 ·intro gh ρ u hc hf1 hg1 hd h0 hb he ha hF
  have r0 : ρ (.tmp 0) = .pointer (some ⟨p, 0, none⟩) := (h0 0 (by decide +kernel)).trans rfl
  clear  hd h0 he ha hF
  go_simp
  rw [HF.out]
  exact ⟨OnlyL.refl _ _, rfl⟩
 ·intro gh ρ u hc hf1 hg1 hd h0 hb he ha hF
  have r74 : ρ (.tmp 74) = .pointer (some ⟨p, 0, none⟩) := by have h := hF 22 (by decide +kernel) (by decide +kernel); rw [HF.out] at h; exact (hd 22 (by decide +kernel) 74 (by kernel_rfl)).trans h
  clear  hd h0 he ha hF
  go_simp
  rw [HF.out]
  exact ⟨OnlyL.refl _ _, rfl⟩
 ·intro gh ρ u hc hf1 hg1 hd h0 hb he ha hF
  have r75 : ρ (.tmp 75) = .pointer (some ⟨p, 0, none⟩) := by have h := hF 23 (by decide +kernel) (by decide +kernel); rw [HF.out] at h; exact (hd 23 (by decide +kernel) 75 (by kernel_rfl)).trans h
  clear  hd h0 he ha hF
  go_simp
  rw [HF.out]
  exact ⟨OnlyL.refl _ _, rfl⟩
 ·intro gh ρ u hc hf1 hg1 hd h0 hb he ha hF
  replace hb : Below w7.heap.size w7 u := hb.drew.below (by decide +kernel)
  have hbz : w7.heap.size ≤ u.heap.size := hb.size
  have r76 : ρ (.tmp 76) = .pointer (some ⟨p, 3, none⟩) := by have h := hF 24 (by decide +kernel) (by decide +kernel); rw [HF.out] at h; exact (hd 24 (by decide +kernel) 76 (by kernel_rfl)).trans h
  have q_b := (HXb.out.below hb).2.1
  have k_b : p < u.heap.size := by have := HXb.out.1; omega
  clear  hd h0 he ha hF
  go_simp
  rw [HF.out]
  exact ⟨OnlyL.refl _ _, rfl⟩
 ·intro gh ρ u hc hf1 hg1 hd h0 hb he ha hF
  replace hb : Below w7.heap.size w7 u := hb.drew.below (by decide +kernel)
  have hbz : w7.heap.size ≤ u.heap.size := hb.size
  have r55 : ρ (.tmp 55) = .int .i64 width := by have h := hF 3 (by decide +kernel) (by decide +kernel); rw [HF.out] at h; exact (hd 3 (by decide +kernel) 55 (by kernel_rfl)).trans h
  have f12 : ∃ (X1 : Option Addr) (d1 : Nat), (gh 12).v = .slice X1 ne d1 ∧ (RowB u (gh 12).s (gh 12).e (.slice X1 ne d1, ne) (strs ll)) := by have h := hF 12 (by decide +kernel) (by decide +kernel); rw [HF.out] at h; exact h
  obtain ⟨X1, d1, hv12, g12_0⟩ := f12
  have r64 : ρ (.tmp 64) = .slice X1 ne d1 := (hd 12 (by decide +kernel) 64 (by kernel_rfl)).trans hv12
  have f21 : ∃ (X2 : Option Addr) (d2 : Nat), (gh 21).v = .slice X2 nr d2 ∧ (RowB u (gh 21).s (gh 21).e (.slice X2 nr d2, nr) (strs tt)) := by have h := hF 21 (by decide +kernel) (by decide +kernel); rw [HF.out] at h; exact h
  obtain ⟨X2, d2, hv21, g21_0⟩ := f21
  have r73 : ρ (.tmp 73) = .slice X2 nr d2 := (hd 21 (by decide +kernel) 73 (by kernel_rfl)).trans hv21
  have r77 : ρ (.tmp 77) = .slice H nh ch := by have h := hF 25 (by decide +kernel) (by decide +kernel); rw [HF.out] at h; exact (hd 25 (by decide +kernel) 77 (by kernel_rfl)).trans h
  clear hv12 hv21 hd h0 he ha hF
  go_simp
  have q_b := (HXb.out.below hb)
  refine (HSL.out _ _ _ _ _ (Own.of_ownsRow g12_0.1).rd.base (Own.of_ownsRow g21_0.1).rd.base (HOH.out.below hb).base (row_cap g12_0.1) (row_cap g21_0.1)).mono ?_
  rintro e u1 ⟨X3, d3, X4, d4, rfl, ho3, ho4, hb1⟩
  rw [HF.out]
  exact ⟨_, rfl, OnlyL.of_below hb1, X3, d3, X4, d4, rfl, ho3, ho4⟩
 ·intro gh ρ u hc hf1 hg1 hd h0 hb he ha hF
  have f26 : ∃ (X3 : Option Addr) (d3 : Nat) (X4 : Option Addr) (d4 : Nat), (gh 26).v = .tuple #[.agg #[.int .i64 sz1, .slice X3 sl1.length d3, .int .i64 sz2, .slice X4 sl2.length d4, .int .i64 sh.num, .int .i64 sh.size, .string sh.root, .int .i64 sh.taken, .string sh.troot], .bool ro] ∧ (Rd u (gh 26).s (gh 26).e X3 (strs sl1)) ∧ (Rd u (gh 26).s (gh 26).e X4 (strs sl2)) := by have h := hF 26 (by decide +kernel) (by decide +kernel); rw [HF.out] at h; exact h
  obtain ⟨X3, d3, X4, d4, hv26, g26_0, g26_1⟩ := f26
  have hrt26 := hv26
  have r78 : ρ (.tmp 78) = .tuple #[.agg #[.int .i64 sz1, .slice X3 sl1.length d3, .int .i64 sz2, .slice X4 sl2.length d4, .int .i64 sh.num, .int .i64 sh.size, .string sh.root, .int .i64 sh.taken, .string sh.troot], .bool ro] := (hd 26 (by decide +kernel) 78 (by kernel_rfl)).trans hv26
  have HRT26 := Lib.hid hrt26
  clear hv26 hrt26 hd h0 he ha hF
  go_simp
  rw [HF.out]
  exact ⟨OnlyL.refl _ _, X3, d3, X4, d4, HRT26.out, rfl⟩
 ·intro gh ρ u hc hf1 hg1 hd h0 hb he ha hF
  have f27 : ∃ (X3 : Option Addr) (d3 : Nat) (X4 : Option Addr) (d4 : Nat), (gh 26).v = .tuple #[.agg #[.int .i64 sz1, .slice X3 sl1.length d3, .int .i64 sz2, .slice X4 sl2.length d4, .int .i64 sh.num, .int .i64 sh.size, .string sh.root, .int .i64 sh.taken, .string sh.troot], .bool ro] ∧ (gh 27).v = .tuple #[.agg #[.int .i64 sz1, .slice X3 sl1.length d3, .int .i64 sz2, .slice X4 sl2.length d4, .int .i64 sh.num, .int .i64 sh.size, .string sh.root, .int .i64 sh.taken, .string sh.troot], .bool ro] := by have h := hF 27 (by decide +kernel) (by decide +kernel); rw [HF.out] at h; exact h
  obtain ⟨X3, d3, X4, d4, hrt26, hv27⟩ := f27
  have r51 : ρ (.tmp 51) = .tuple #[.agg #[.int .i64 sz1, .slice X3 sl1.length d3, .int .i64 sz2, .slice X4 sl2.length d4, .int .i64 sh.num, .int .i64 sh.size, .string sh.root, .int .i64 sh.taken, .string sh.troot], .bool ro] := (hd 27 (by decide +kernel) 51 (by kernel_rfl)).trans hv27
  have HRT26 := Lib.hid hrt26
  clear hv27 hrt26 hd h0 he ha hF
  go_simp
  rw [HF.out]
  exact ⟨OnlyL.refl _ _, X3, d3, X4, d4, HRT26.out, rfl⟩
 ·intro gh ρ u hc hf1 hg1 hd h0 hb he ha hF
  have f27 : ∃ (X3 : Option Addr) (d3 : Nat) (X4 : Option Addr) (d4 : Nat), (gh 26).v = .tuple #[.agg #[.int .i64 sz1, .slice X3 sl1.length d3, .int .i64 sz2, .slice X4 sl2.length d4, .int .i64 sh.num, .int .i64 sh.size, .string sh.root, .int .i64 sh.taken, .string sh.troot], .bool ro] ∧ (gh 27).v = .tuple #[.agg #[.int .i64 sz1, .slice X3 sl1.length d3, .int .i64 sz2, .slice X4 sl2.length d4, .int .i64 sh.num, .int .i64 sh.size, .string sh.root, .int .i64 sh.taken, .string sh.troot], .bool ro] := by have h := hF 27 (by decide +kernel) (by decide +kernel); rw [HF.out] at h; exact h
  obtain ⟨X3, d3, X4, d4, hrt26, hv27⟩ := f27
  have r51 : ρ (.tmp 51) = .tuple #[.agg #[.int .i64 sz1, .slice X3 sl1.length d3, .int .i64 sz2, .slice X4 sl2.length d4, .int .i64 sh.num, .int .i64 sh.size, .string sh.root, .int .i64 sh.taken, .string sh.troot], .bool ro] := (hd 27 (by decide +kernel) 51 (by kernel_rfl)).trans hv27
  have HRT26 := Lib.hid hrt26
  clear hv27 hrt26 hd h0 he ha hF
  go_simp
  rw [HF.out]
  exact ⟨OnlyL.refl _ _, X3, d3, X4, d4, HRT26.out, rfl⟩
 ·intro gh ρ u hc hf1 hg1 hd h0 hb he ha hF
  replace hb : Below w7.heap.size w7 u := hb.drew.below (by decide +kernel)
  have hbz : w7.heap.size ≤ u.heap.size := hb.size
  clear  hd h0 he ha hF
  go_simp
  rw [HF.out]
  exact ⟨OnlyL.of_below ((Below.refl _ _).alloc (Nat.le_refl _) _), rfl, by simp, NewBox.new _ _ _⟩
 ·intro gh ρ u hc hf1 hg1 hd h0 hb he ha hF
  replace hb : Below w7.heap.size w7 u := hb.drew.below (by decide +kernel)
  have hbz : w7.heap.size ≤ u.heap.size := hb.size
  have f30 : (gh 30).v = .pointer (some ⟨(gh 30).s, 0, none⟩) ∧ (gh 30).s < (gh 30).e ∧ NewBox u (gh 30).s [.int .i64 0, .slice none 0 0, .int .i64 0, .slice none 0 0, .int .i64 0, .int .i64 0, .string ⟨#[]⟩, .int .i64 0, .string ⟨#[]⟩] := by have h := hF 30 (by decide +kernel) (by decide +kernel); rw [HF.out] at h; exact h
  obtain ⟨hv30, hpl, hpz, hpc, hpf⟩ := f30
  have r4 : ρ (.tmp 4) = .pointer (some ⟨(gh 30).s, 0, none⟩) := (hd 30 (by decide +kernel) 4 (by kernel_rfl)).trans hv30
  have HP := Lib.hid hv30
  have f28 : ∃ (X3 : Option Addr) (d3 : Nat) (X4 : Option Addr) (d4 : Nat), (gh 26).v = .tuple #[.agg #[.int .i64 sz1, .slice X3 sl1.length d3, .int .i64 sz2, .slice X4 sl2.length d4, .int .i64 sh.num, .int .i64 sh.size, .string sh.root, .int .i64 sh.taken, .string sh.troot], .bool ro] ∧ (gh 28).v = .agg #[.int .i64 sz1, .slice X3 sl1.length d3, .int .i64 sz2, .slice X4 sl2.length d4, .int .i64 sh.num, .int .i64 sh.size, .string sh.root, .int .i64 sh.taken, .string sh.troot] := by have h := hF 28 (by decide +kernel) (by decide +kernel); rw [HF.out] at h; exact h
  obtain ⟨X3, d3, X4, d4, hrt26, hv28⟩ := f28
  have r79 : ρ (.tmp 79) = .agg #[.int .i64 sz1, .slice X3 sl1.length d3, .int .i64 sz2, .slice X4 sl2.length d4, .int .i64 sh.num, .int .i64 sh.size, .string sh.root, .int .i64 sh.taken, .string sh.troot] := (hd 28 (by decide +kernel) 79 (by kernel_rfl)).trans hv28
  have HRT26 := Lib.hid hrt26
  obtain ⟨_, _, _⟩ := he 30 (by decide +kernel)
  clear hv30 hv28 hrt26 hd h0 he ha hF
  go_simp
  rw [HF.out]
  refine ⟨?_, HP.out, hpl, X3, d3, X4, d4, HRT26.out, ?_⟩
  ·refine OnlyL.of_only (t := gh 30) ?_; refine Only.setCell ?_ (by exact Nat.le_refl _) (by exact hpl) _; refine Only.setCell ?_ (by exact Nat.le_refl _) (by exact hpl) _; refine Only.setCell ?_ (by exact Nat.le_refl _) (by exact hpl) _; refine Only.setCell ?_ (by exact Nat.le_refl _) (by exact hpl) _; refine Only.setCell ?_ (by exact Nat.le_refl _) (by exact hpl) _; refine Only.setCell ?_ (by exact Nat.le_refl _) (by exact hpl) _; refine Only.setCell ?_ (by exact Nat.le_refl _) (by exact hpl) _; refine Only.setCell ?_ (by exact Nat.le_refl _) (by exact hpl) _; refine Only.setCell ?_ (by exact Nat.le_refl _) (by exact hpl) _; exact Only.refl _ _ _
  ·show NewBox _ (gh 30).s _
   exact ⟨by simpa [World.setCell] using hpz, fun o => by rcases o with _ | _ | _ | _ | _ | _ | _ | _ | _ | o <;> go_simp, fun o => by go_simp⟩
 ·intro gh ρ u hc hf1 hg1 hd h0 hb he ha hF
  have f29 : ∃ (X3 : Option Addr) (d3 : Nat) (X4 : Option Addr) (d4 : Nat), (gh 26).v = .tuple #[.agg #[.int .i64 sz1, .slice X3 sl1.length d3, .int .i64 sz2, .slice X4 sl2.length d4, .int .i64 sh.num, .int .i64 sh.size, .string sh.root, .int .i64 sh.taken, .string sh.troot], .bool ro] ∧ (gh 29).v = .bool ro := by have h := hF 29 (by decide +kernel) (by decide +kernel); rw [HF.out] at h; exact h
  obtain ⟨X3, d3, X4, d4, hrt26, hv29⟩ := f29
  have r80 : ρ (.tmp 80) = .bool ro := (hd 29 (by decide +kernel) 80 (by kernel_rfl)).trans hv29
  have HRT26 := Lib.hid hrt26
  clear hv29 hrt26 hd h0 he ha hF
  go_simp
  rw [HF.out]
  exact ⟨OnlyL.refl _ _, X3, d3, X4, d4, HRT26.out, rfl⟩
 intro gh w8 hB hE hA hF
 replace hB : Below w7.heap.size w7 w8 := hB.below rfl
 have f0 : (gh 0).v = .pointer (some ⟨p, 0, none⟩) := by have h := hF 0 (by decide +kernel) (by decide +kernel); rw [HF.out] at h; exact h
 have f1 : (gh 1).v = .pointer (some ⟨p, 0, none⟩) := by have h := hF 1 (by decide +kernel) (by decide +kernel); rw [HF.out] at h; exact h
 have f2 : (gh 2).v = .pointer (some ⟨p, 0, none⟩) := by have h := hF 2 (by decide +kernel) (by decide +kernel); rw [HF.out] at h; exact h
 have f3 : (gh 3).v = .int .i64 width := by have h := hF 3 (by decide +kernel) (by decide +kernel); rw [HF.out] at h; exact h
 have f4 : (gh 4).v = .pointer (some ⟨p, 0, none⟩) := by have h := hF 4 (by decide +kernel) (by decide +kernel); rw [HF.out] at h; exact h
 have f5 : (gh 5).v = .pointer (some ⟨p, 0, none⟩) := by have h := hF 5 (by decide +kernel) (by decide +kernel); rw [HF.out] at h; exact h
 have f6 : (gh 6).v = .pointer (some ⟨p, 0, none⟩) := by have h := hF 6 (by decide +kernel) (by decide +kernel); rw [HF.out] at h; exact h
 have f7 : (gh 7).v = .int .i64 width := by have h := hF 7 (by decide +kernel) (by decide +kernel); rw [HF.out] at h; exact h
 have f8 : (gh 8).v = .pointer (some ⟨p, 0, none⟩) := by have h := hF 8 (by decide +kernel) (by decide +kernel); rw [HF.out] at h; exact h
 have f9 : (gh 9).v = .pointer (some ⟨p, 0, none⟩) := by have h := hF 9 (by decide +kernel) (by decide +kernel); rw [HF.out] at h; exact h
 have f10 : (gh 10).v = .pointer (some ⟨p, 1, none⟩) := by have h := hF 10 (by decide +kernel) (by decide +kernel); rw [HF.out] at h; exact h
 have f11 : (gh 11).v = .agg #[.slice E ne ce] := by have h := hF 11 (by decide +kernel) (by decide +kernel); rw [HF.out] at h; exact h
 have f12 : ∃ (X1 : Option Addr) (d1 : Nat), (gh 12).v = .slice X1 ne d1 ∧ (RowB w8 (gh 12).s (gh 12).e (.slice X1 ne d1, ne) (strs ll)) := by have h := hF 12 (by decide +kernel) (by decide +kernel); rw [HF.out] at h; exact h
 have f13 : (gh 13).v = .pointer (some ⟨p, 0, none⟩) := by have h := hF 13 (by decide +kernel) (by decide +kernel); rw [HF.out] at h; exact h
 have f14 : (gh 14).v = .pointer (some ⟨p, 0, none⟩) := by have h := hF 14 (by decide +kernel) (by decide +kernel); rw [HF.out] at h; exact h
 have f15 : (gh 15).v = .pointer (some ⟨p, 0, none⟩) := by have h := hF 15 (by decide +kernel) (by decide +kernel); rw [HF.out] at h; exact h
 have f16 : (gh 16).v = .int .i64 width := by have h := hF 16 (by decide +kernel) (by decide +kernel); rw [HF.out] at h; exact h
 have f17 : (gh 17).v = .pointer (some ⟨p, 0, none⟩) := by have h := hF 17 (by decide +kernel) (by decide +kernel); rw [HF.out] at h; exact h
 have f18 : (gh 18).v = .pointer (some ⟨p, 0, none⟩) := by have h := hF 18 (by decide +kernel) (by decide +kernel); rw [HF.out] at h; exact h
 have f19 : (gh 19).v = .pointer (some ⟨p, 2, none⟩) := by have h := hF 19 (by decide +kernel) (by decide +kernel); rw [HF.out] at h; exact h
 have f20 : (gh 20).v = .slice R nr cr := by have h := hF 20 (by decide +kernel) (by decide +kernel); rw [HF.out] at h; exact h
 have f21 : ∃ (X2 : Option Addr) (d2 : Nat), (gh 21).v = .slice X2 nr d2 ∧ (RowB w8 (gh 21).s (gh 21).e (.slice X2 nr d2, nr) (strs tt)) := by have h := hF 21 (by decide +kernel) (by decide +kernel); rw [HF.out] at h; exact h
 have f22 : (gh 22).v = .pointer (some ⟨p, 0, none⟩) := by have h := hF 22 (by decide +kernel) (by decide +kernel); rw [HF.out] at h; exact h
 have f23 : (gh 23).v = .pointer (some ⟨p, 0, none⟩) := by have h := hF 23 (by decide +kernel) (by decide +kernel); rw [HF.out] at h; exact h
 have f24 : (gh 24).v = .pointer (some ⟨p, 3, none⟩) := by have h := hF 24 (by decide +kernel) (by decide +kernel); rw [HF.out] at h; exact h
 have f25 : (gh 25).v = .slice H nh ch := by have h := hF 25 (by decide +kernel) (by decide +kernel); rw [HF.out] at h; exact h
 have f26 : ∃ (X3 : Option Addr) (d3 : Nat) (X4 : Option Addr) (d4 : Nat), (gh 26).v = .tuple #[.agg #[.int .i64 sz1, .slice X3 sl1.length d3, .int .i64 sz2, .slice X4 sl2.length d4, .int .i64 sh.num, .int .i64 sh.size, .string sh.root, .int .i64 sh.taken, .string sh.troot], .bool ro] ∧ (Rd w8 (gh 26).s (gh 26).e X3 (strs sl1)) ∧ (Rd w8 (gh 26).s (gh 26).e X4 (strs sl2)) := by have h := hF 26 (by decide +kernel) (by decide +kernel); rw [HF.out] at h; exact h
 have f27 : ∃ (X3 : Option Addr) (d3 : Nat) (X4 : Option Addr) (d4 : Nat), (gh 26).v = .tuple #[.agg #[.int .i64 sz1, .slice X3 sl1.length d3, .int .i64 sz2, .slice X4 sl2.length d4, .int .i64 sh.num, .int .i64 sh.size, .string sh.root, .int .i64 sh.taken, .string sh.troot], .bool ro] ∧ (gh 27).v = .tuple #[.agg #[.int .i64 sz1, .slice X3 sl1.length d3, .int .i64 sz2, .slice X4 sl2.length d4, .int .i64 sh.num, .int .i64 sh.size, .string sh.root, .int .i64 sh.taken, .string sh.troot], .bool ro] := by have h := hF 27 (by decide +kernel) (by decide +kernel); rw [HF.out] at h; exact h
 have f28 : ∃ (X3 : Option Addr) (d3 : Nat) (X4 : Option Addr) (d4 : Nat), (gh 26).v = .tuple #[.agg #[.int .i64 sz1, .slice X3 sl1.length d3, .int .i64 sz2, .slice X4 sl2.length d4, .int .i64 sh.num, .int .i64 sh.size, .string sh.root, .int .i64 sh.taken, .string sh.troot], .bool ro] ∧ (gh 28).v = .agg #[.int .i64 sz1, .slice X3 sl1.length d3, .int .i64 sz2, .slice X4 sl2.length d4, .int .i64 sh.num, .int .i64 sh.size, .string sh.root, .int .i64 sh.taken, .string sh.troot] := by have h := hF 28 (by decide +kernel) (by decide +kernel); rw [HF.out] at h; exact h
 have f29 : ∃ (X3 : Option Addr) (d3 : Nat) (X4 : Option Addr) (d4 : Nat), (gh 26).v = .tuple #[.agg #[.int .i64 sz1, .slice X3 sl1.length d3, .int .i64 sz2, .slice X4 sl2.length d4, .int .i64 sh.num, .int .i64 sh.size, .string sh.root, .int .i64 sh.taken, .string sh.troot], .bool ro] ∧ (gh 29).v = .bool ro := by have h := hF 29 (by decide +kernel) (by decide +kernel); rw [HF.out] at h; exact h
 have f31 : (gh 30).v = .pointer (some ⟨(gh 30).s, 0, none⟩) ∧ (gh 30).s < (gh 30).e ∧ ∃ (X3 : Option Addr) (d3 : Nat) (X4 : Option Addr) (d4 : Nat), (gh 26).v = .tuple #[.agg #[.int .i64 sz1, .slice X3 sl1.length d3, .int .i64 sz2, .slice X4 sl2.length d4, .int .i64 sh.num, .int .i64 sh.size, .string sh.root, .int .i64 sh.taken, .string sh.troot], .bool ro] ∧ NewBox w8 (gh 30).s [.int .i64 sz1, .slice X3 sl1.length d3, .int .i64 sz2, .slice X4 sl2.length d4, .int .i64 sh.num, .int .i64 sh.size, .string sh.root, .int .i64 sh.taken, .string sh.troot] := by have h := hF 31 (by decide +kernel) (by decide +kernel); rw [HF.out] at h; exact h
 have f32 : ∃ (X3 : Option Addr) (d3 : Nat) (X4 : Option Addr) (d4 : Nat), (gh 26).v = .tuple #[.agg #[.int .i64 sz1, .slice X3 sl1.length d3, .int .i64 sz2, .slice X4 sl2.length d4, .int .i64 sh.num, .int .i64 sh.size, .string sh.root, .int .i64 sh.taken, .string sh.troot], .bool ro] ∧ (gh 32).v = .bool ro := by have h := hF 32 (by decide +kernel) (by decide +kernel); rw [HF.out] at h; exact h
 obtain ⟨X1, d1, hv12, _⟩ := f12
 obtain ⟨X2, d2, hv21, _⟩ := f21
 obtain ⟨X3, d3, X4, d4, hv26, hr3, hr4⟩ := f26
 have hv0 := f0
 have hv1 := f1
 have hv2 := f2
 have hv3 := f3
 have hv4 := f4
 have hv5 := f5
 have hv6 := f6
 have hv7 := f7
 have hv8 := f8
 have hv9 := f9
 have hv10 := f10
 have hv11 := f11
 have hv13 := f13
 have hv14 := f14
 have hv15 := f15
 have hv16 := f16
 have hv17 := f17
 have hv18 := f18
 have hv19 := f19
 have hv20 := f20
 have hv22 := f22
 have hv23 := f23
 have hv24 := f24
 have hv25 := f25
 obtain ⟨X3_27, d3_27, X4_27, d4_27, hu26, hv27⟩ := f27
 replace hu26 := hv26.symm.trans hu26
 simp at hu26
 try simp only [and_assoc] at hu26
 obtain ⟨rfl, rfl, rfl, rfl⟩ := hu26
 obtain ⟨X3_28, d3_28, X4_28, d4_28, hu26, hv28⟩ := f28
 replace hu26 := hv26.symm.trans hu26
 simp at hu26
 try simp only [and_assoc] at hu26
 obtain ⟨rfl, rfl, rfl, rfl⟩ := hu26
 obtain ⟨X3_29, d3_29, X4_29, d4_29, hu26, hv29⟩ := f29
 replace hu26 := hv26.symm.trans hu26
 simp at hu26
 try simp only [and_assoc] at hu26
 obtain ⟨rfl, rfl, rfl, rfl⟩ := hu26
 obtain ⟨hv30, hl30, f31⟩ := f31
 obtain ⟨X3_31, d3_31, X4_31, d4_31, hu26, hx31⟩ := f31
 replace hu26 := hv26.symm.trans hu26
 simp at hu26
 try simp only [and_assoc] at hu26
 obtain ⟨rfl, rfl, rfl, rfl⟩ := hu26
 obtain ⟨X3_32, d3_32, X4_32, d4_32, hu26, hv32⟩ := f32
 replace hu26 := hv26.symm.trans hu26
 simp at hu26
 try simp only [and_assoc] at hu26
 obtain ⟨rfl, rfl, rfl, rfl⟩ := hu26
 obtain ⟨hs26, hse26, he26⟩ := hE 26 (by decide +kernel)
 obtain ⟨hs30, hse30, he30⟩ := hE 30 (by decide +kernel)
 have hdj8_26_30 := hA 26 (by decide +kernel) 30 (by decide +kernel) (by decide)
 change w7.heap.size ≤ _ at hs26 hs30
 clear hE hA hF
 simp only [putDs, Nat.reduceAdd, hv0, hv1, hv2, hv3, hv4, hv5, hv6, hv7, hv8, hv9, hv10, hv11, hv12, hv13, hv14, hv15, hv16, hv17, hv18, hv19, hv20, hv21, hv22, hv23, hv24, hv25, hv26, hv27, hv28, hv29, hv30, hv32]
 clear hv0 hv1 hv2 hv3 hv4 hv5 hv6 hv7 hv8 hv9 hv10 hv11 hv12 hv13 hv14 hv15 hv16 hv17 hv18 hv19 hv20 hv21 hv22 hv23 hv24 hv25 hv26 hv27 hv28 hv29 hv30 hv32
 generalize (gh 26).s = s8_26 at *
 generalize (gh 26).e = e8_26 at *
 generalize (gh 30).s = s8_30 at *
 generalize (gh 30).e = e8_30 at *
 clear HF
 have hb := hB
 clear hB
 have hzw8 : w7.heap.size ≤ w8.heap.size := hb.size
 have hzzw8 : w.heap.size ≤ w8.heap.size := by omega
 replace HB := Lib.hid (below_then HB.out hb HB.out.size)
 replace HOE := Lib.hid (HOE.out.below hb)
 replace HOR := Lib.hid (HOR.out.below hb)
 replace HOH := Lib.hid (HOH.out.below hb)
 replace HXb := Lib.hid (HXb.out.below hb)
 clear hxb hfb hkb
 have hxb := HXb.out.2.1
 have hfb := HXb.out.2.2
 have hkb := HXb.out.1
 replace HXq := Lib.hid (HXq.out.below hb)
 clear hxq hfq hkq
 have hxq := HXq.out.2.1
 have hfq := HXq.out.2.2
 have hkq := HXq.out.1
 clear hb
 have HXs : Hid (NewBox w8 (s8_30) [.int .i64 sz1, .slice X3 sl1.length d3, .int .i64 sz2, .slice X4 sl2.length d4, .int .i64 sh.num, .int .i64 sh.size, .string sh.root, .int .i64 sh.taken, .string sh.troot]) := hx31
 have hxs := HXs.out.2.1
 have hfs := HXs.out.2.2
 have hks := HXs.out.1
 clear hx31
 have HOU : Hid (Rd w8 (s8_26) (e8_26) (X3) (strs sl1)) := hr3
 have HOV : Hid (Rd w8 (s8_26) (e8_26) (X4) (strs sl2)) := hr4
 clear hr3 hr4 HSL HC1 HC2 HLG HRC HHD
 rcases ro with _ | _
 ·have HNO : Hid (bp = false) := Lib.hid (by rw [HDEF.out, Bool.false_and, Bool.and_false, Bool.and_false]; rfl)
  obtain ⟨rfl, rfl, rfl, rfl, rfl⟩ := HBAD.out HNO.out
  clear HBAD HEQ
  go_wp2
  refine bodyPost_named (fun w9 hw => ?_)
  have hz9 : w8.heap.size + 0 ≤ w9.heap.size := by rw [hw]; first | omega | (simp [World.setCell]; done) | (simp [World.setCell]; omega)
  have hzz9 : w.heap.size ≤ w9.heap.size := by omega
  replace HB : Hid (Below w.heap.size w w9) := by rw [Hid, hw]; exact (by ((repeat (first | ((with_reducible refine Below.alloc ?_ ?_ _); rotate_left 1; (focus (first | omega | (simp; done) | (simp; omega)))) | (with_reducible refine Below.drew ?_) | ((with_reducible refine Below.setCell ?_ ?_ _); rotate_left 1; (focus (first | omega | (simp; done) | (simp; omega)))))); exact HB.out))
  replace HXq : Hid (NewBox w9 (w.heap.size) [.int .i64 0, .slice none 0 0, .int .i64 0, .slice none 0 0, .int .i64 0, .int .i64 0, .string ⟨#[]⟩, .int .i64 0, .string ⟨#[]⟩]) := by rw [Hid, hw]; apply NewBox.cast; (focus ((repeat (first | (with_reducible apply NewBox.alloc) | (with_reducible apply NewBox.drew) | (with_reducible apply NewBox.set1) | ((with_reducible apply NewBox.far); (focus (first | omega | (simp; done) | (simp; omega)))))); exact HXq.out)); rfl
  clear hxq hfq hkq
  have hxq := HXq.out.2.1
  have hfq := HXq.out.2.2
  have hkq := HXq.out.1
  clear hw
  refine bodyPost_ret (v := .tuple #[.agg #[.int .i64 0, .slice none 0 0, .int .i64 0, .slice none 0 0, .int .i64 0, .int .i64 0, .string ⟨#[]⟩, .int .i64 0, .string ⟨#[]⟩], .bool false]) (by simp [results, Tryz.results73, go_sem, hxq]) rfl ?_
  exact ⟨none, 0, none, 0, by rw [HNO.out]; rfl, Rd.nil, Rd.nil, HB.out⟩
 have hlo := headOk_all (headsOk_at HW4.out (lastHd_get (by rw [HLEN.out.2.2]; exact hn0))).2.1
 obtain ⟨m, hm⟩ : ∃ m : Nat, (lastHd hs).size = m := ⟨(lastHd hs).size.toNat, by omega⟩
 have hm5 : m ≤ 512 := by omega
 have HM := Lib.hid hm
 rw [hm, Int.toNat_natCast] at HDEF
 clear hm hlo
 go_wp2
 go_loopw [8, 89] (fun _ i wr => ∃ k : Nat, k ≤ nr ∧ i = .int .i64 k ∧ (rs.take k).all (leafIn es m) = true ∧ Below w8.heap.size w8 wr) (fun _ i _ => nr - (intOf i).toNat)
 case atStart => exact ⟨0, Nat.zero_le _, rfl, rfl, Below.refl _ _⟩
 case round =>
  obtain ⟨k, hk, rfl, hal, hbr⟩ := hrel
  have HAL := Lib.hid hal
  clear hal
  have hbr9 := hbr
  have hzwr : w8.heap.size ≤ wr.heap.size := hbr.size
  have hzzwr : w.heap.size ≤ wr.heap.size := by omega
  replace HB := Lib.hid (below_then HB.out hbr HB.out.size)
  replace HOE := Lib.hid (HOE.out.below hbr)
  replace HOR := Lib.hid (HOR.out.below hbr)
  replace HOH := Lib.hid (HOH.out.below hbr)
  replace HOU := Lib.hid (HOU.out.below hbr)
  replace HOV := Lib.hid (HOV.out.below hbr)
  replace HXb := Lib.hid (HXb.out.below hbr)
  clear hxb hfb hkb
  have hxb := HXb.out.2.1
  have hfb := HXb.out.2.2
  have hkb := HXb.out.1
  replace HXq := Lib.hid (HXq.out.below hbr)
  clear hxq hfq hkq
  have hxq := HXq.out.2.1
  have hfq := HXq.out.2.2
  have hkq := HXq.out.1
  replace HXs := Lib.hid (HXs.out.below hbr)
  clear hxs hfs hks
  have hxs := HXs.out.2.1
  have hfs := HXs.out.2.2
  have hks := HXs.out.1
  clear hbr
  have HBR := Lib.hid hbr9
  clear hbr9
  by_cases hlt : k < nr
  ·obtain ⟨b2, off, x, hRe, hb2, hx, hc⟩ := rcp_cells HOR.out (k := k) (by rw [HLEN.out.2.1]; exact hlt)
   have hc0 := hc.1
   have hc1 := hc.2.1
   have hc2 := hc.2.2
   have HX := Lib.hid hx
   have hix := idxRcp R b2 off nr cr k hRe hlt
   have hI : (k : Int) < nr := by omega
   clear hc hx hRe
   go_wp2_with fail
   refine wp_named (fun w9 hw => ?_)
   have hz9 : wr.heap.size + 1 ≤ w9.heap.size := by rw [hw]; first | omega | (simp [World.setCell]; done) | (simp [World.setCell]; omega)
   have hzz9 : w.heap.size ≤ w9.heap.size := by omega
   have hbn : Below wr.heap.size wr w9 := by rw [hw]; exact (by ((repeat (first | ((with_reducible refine Below.alloc ?_ ?_ _); rotate_left 1; (focus (first | omega | (simp; done) | (simp; omega)))) | (with_reducible refine Below.drew ?_) | ((with_reducible refine Below.setCell ?_ ?_ _); rotate_left 1; (focus (first | omega | (simp; done) | (simp; omega)))))); exact Below.refl _ _))
   replace HB := Lib.hid (below_then HB.out hbn HB.out.size)
   replace HOE := Lib.hid (HOE.out.below hbn)
   replace HOR := Lib.hid (HOR.out.below hbn)
   replace HOH := Lib.hid (HOH.out.below hbn)
   replace HOU := Lib.hid (HOU.out.below hbn)
   replace HOV := Lib.hid (HOV.out.below hbn)
   replace HXb := Lib.hid (HXb.out.below hbn)
   clear hxb hfb hkb
   have hxb := HXb.out.2.1
   have hfb := HXb.out.2.2
   have hkb := HXb.out.1
   replace HXq := Lib.hid (HXq.out.below hbn)
   clear hxq hfq hkq
   have hxq := HXq.out.2.1
   have hfq := HXq.out.2.2
   have hkq := HXq.out.1
   replace HXs := Lib.hid (HXs.out.below hbn)
   clear hxs hfs hks
   have hxs := HXs.out.2.1
   have hfs := HXs.out.2.2
   have hks := HXs.out.1
   clear hbn
   have HXr : Hid (NewBox w9 (wr.heap.size) [.string x.reader, .string x.topic, .int .i64 x.index]) := by rw [Hid, hw]; exact ⟨by first | omega | (simp [World.setCell]; done) | (simp [World.setCell]; omega), fun o => by rcases o with _ | _ | _ | o <;> go_simp, fun o => by go_simp⟩
   have hxr := HXr.out.2.1
   have hfr := HXr.out.2.2
   have hkr := HXr.out.1
   have hbr9 : Below wr.heap.size wr w9 := by rw [hw]; exact (Below.refl _ _).alloc (Nat.le_refl _) _
   replace HBR := Lib.hid (below_then HBR.out hbr9 HBR.out.size)
   clear hw hbr9 hc0 hc1 hc2
   have HLF := Lib.hid (fun v : Later w9 => leafOf_c E ce 0 v.v.heap.size ne es x.topic x.index v.v (HOE.out.below v.h).base HLEN.out.1 h1)
   have l1 : ∀ v : Later w9, v.v.cell? ⟨p, 1, none⟩ = some (.slice E ne ce) := fun v => (later_cell v _ _ hkb).trans (hxb 1)
   have l5 : ∀ v : Later w9, v.v.cell? ⟨(wr.heap.size), 1, none⟩ = some (.string x.topic) := fun v => (later_cell v _ _ hkr).trans (hxr 1)
   have l6 : ∀ v : Later w9, v.v.cell? ⟨(wr.heap.size), 2, none⟩ = some (.int .i64 x.index) := fun v => (later_cell v _ _ hkr).trans (hxr 2)
   have HLI := Lib.hid (leafIn_eq es m x)
   generalize firstFrom (isTI x.topic x.index) es 0 = fz at *
   refine wp_region_later (by kernel_rfl) (by kernel_rfl) ?_
   repeat (go_big_quiet_step ((with_reducible exact later_call (HLF.out _))))
   refine wpQuiet_nil ?_
   intro wL h9
   have hb9 := later_below h9
   replace HBR := Lib.hid (below_then HBR.out hb9 HBR.out.size)
   have hzwL : w9.heap.size ≤ wL.heap.size := hb9.size
   have hzzwL : w.heap.size ≤ wL.heap.size := by omega
   replace HB := Lib.hid (below_then HB.out hb9 HB.out.size)
   replace HOE := Lib.hid (HOE.out.below hb9)
   replace HOR := Lib.hid (HOR.out.below hb9)
   replace HOH := Lib.hid (HOH.out.below hb9)
   replace HOU := Lib.hid (HOU.out.below hb9)
   replace HOV := Lib.hid (HOV.out.below hb9)
   replace HXb := Lib.hid (HXb.out.below hb9)
   clear hxb hfb hkb
   have hxb := HXb.out.2.1
   have hfb := HXb.out.2.2
   have hkb := HXb.out.1
   replace HXq := Lib.hid (HXq.out.below hb9)
   clear hxq hfq hkq
   have hxq := HXq.out.2.1
   have hfq := HXq.out.2.2
   have hkq := HXq.out.1
   replace HXs := Lib.hid (HXs.out.below hb9)
   clear hxs hfs hks
   have hxs := HXs.out.2.1
   have hfs := HXs.out.2.2
   have hks := HXs.out.1
   replace HXr := Lib.hid (HXr.out.below hb9)
   clear hxr hfr hkr
   have hxr := HXr.out.2.1
   have hfr := HXr.out.2.2
   have hkr := HXr.out.1
   clear l1 l5 l6 h9 hb9 HLF
   have HLA := Lib.hid (last_c p nh ch 0 (wL).heap.size H hs wL hkb (hxb 3) HOH.out.base HLEN.out.2.2 hn0 (by omega))
   rw [HM.out] at HLA
   have E1 : IntKind.i64.wrap ((m : Int) - 1) = (m : Int) - 1 := by rw [IntKind.wrap_i64]; omega
   generalize lastHd hs = lh at *
   have hfd := hdField1 lh.num m lh.taken lh.root lh.troot
   go_wp2_with fail
   refine HLA.out.mono ?_
   rintro e wM ⟨rfl, hb8⟩
   replace HBR := Lib.hid (below_then HBR.out hb8 HBR.out.size)
   have hzwM : wL.heap.size ≤ wM.heap.size := hb8.size
   have hzzwM : w.heap.size ≤ wM.heap.size := by omega
   replace HB := Lib.hid (below_then HB.out hb8 HB.out.size)
   replace HOE := Lib.hid (HOE.out.below hb8)
   replace HOR := Lib.hid (HOR.out.below hb8)
   replace HOH := Lib.hid (HOH.out.below hb8)
   replace HOU := Lib.hid (HOU.out.below hb8)
   replace HOV := Lib.hid (HOV.out.below hb8)
   replace HXb := Lib.hid (HXb.out.below hb8)
   clear hxb hfb hkb
   have hxb := HXb.out.2.1
   have hfb := HXb.out.2.2
   have hkb := HXb.out.1
   replace HXq := Lib.hid (HXq.out.below hb8)
   clear hxq hfq hkq
   have hxq := HXq.out.2.1
   have hfq := HXq.out.2.2
   have hkq := HXq.out.1
   replace HXs := Lib.hid (HXs.out.below hb8)
   clear hxs hfs hks
   have hxs := HXs.out.2.1
   have hfs := HXs.out.2.2
   have hks := HXs.out.1
   replace HXr := Lib.hid (HXr.out.below hb8)
   clear hxr hfr hkr
   have hxr := HXr.out.2.1
   have hfr := HXr.out.2.2
   have hkr := HXr.out.1
   clear hb8 HLA
   go_wp2_with fail
   refine (inRange_c fz 0 ((m : Int) - 1) _).mono ?_
   rintro e w10_ ⟨rfl, rfl⟩
   rw [← HLI.out]
   rcases hq : leafIn es m x with _ | _
   ·have HNO : Hid (bp = false) := Lib.hid (by rw [HDEF.out, allTo_bad HX.out hq, Bool.and_false, Bool.and_false, Bool.and_false]; rfl)
    obtain ⟨rfl, rfl, rfl, rfl, rfl⟩ := HBAD.out HNO.out
    clear HBAD HEQ
    go_wp2
    refine bodyPost_named (fun w11 hw => ?_)
    have hz11 : wM.heap.size + 0 ≤ w11.heap.size := by rw [hw]; first | omega | (simp [World.setCell]; done) | (simp [World.setCell]; omega)
    have hzz11 : w.heap.size ≤ w11.heap.size := by omega
    replace HB : Hid (Below w.heap.size w w11) := by rw [Hid, hw]; exact (by ((repeat (first | ((with_reducible refine Below.alloc ?_ ?_ _); rotate_left 1; (focus (first | omega | (simp; done) | (simp; omega)))) | (with_reducible refine Below.drew ?_) | ((with_reducible refine Below.setCell ?_ ?_ _); rotate_left 1; (focus (first | omega | (simp; done) | (simp; omega)))))); exact HB.out))
    replace HXq : Hid (NewBox w11 (w.heap.size) [.int .i64 0, .slice none 0 0, .int .i64 0, .slice none 0 0, .int .i64 0, .int .i64 0, .string ⟨#[]⟩, .int .i64 0, .string ⟨#[]⟩]) := by rw [Hid, hw]; apply NewBox.cast; (focus ((repeat (first | (with_reducible apply NewBox.alloc) | (with_reducible apply NewBox.drew) | (with_reducible apply NewBox.set1) | ((with_reducible apply NewBox.far); (focus (first | omega | (simp; done) | (simp; omega)))))); exact HXq.out)); rfl
    clear hxq hfq hkq
    have hxq := HXq.out.2.1
    have hfq := HXq.out.2.2
    have hkq := HXq.out.1
    clear hw
    refine bodyPost_ret (v := .tuple #[.agg #[.int .i64 0, .slice none 0 0, .int .i64 0, .slice none 0 0, .int .i64 0, .int .i64 0, .string ⟨#[]⟩, .int .i64 0, .string ⟨#[]⟩], .bool false]) (by simp [results, Tryz.results73, go_sem, hxq]) rfl ?_
    exact ⟨none, 0, none, 0, by rw [HNO.out]; rfl, Rd.nil, Rd.nil, HB.out⟩
   ·have HA2 : Hid ((rs.take (k + 1)).all (leafIn es m) = true) := Lib.hid (by rw [allTo_succ HX.out, HAL.out, hq]; rfl)
    clear hq
    go_wp2
    go_roundw
    case rel => exact ⟨k + 1, by omega, by go_num, HA2.out, HBR.out⟩
    case measure => simp [intOf]; omega
  ·obtain rfl : nr = k := by omega
   have HYES : Hid (bp = true) := Lib.hid (by
    have h5 := HAL.out
    rw [List.take_of_length_le (by rw [HLEN.out.2.1]; exact Nat.le_refl _)] at h5
    rw [HDEF.out, h5, decide_eq_true hn0]; rfl)
   obtain ⟨e1, e2, e3, e4, e5⟩ := HEQ.out HYES.out
   replace e1 := e1.symm
   replace e2 := e2.symm
   replace e3 := e3.symm
   replace e4 := e4.symm
   replace e5 := e5.symm
   subst e1 e2 e3 e4 e5
   clear HBAD HEQ
   go_wp2
   refine bodyPost_named (fun w9 hw => ?_)
   have hz9 : wr.heap.size + 0 ≤ w9.heap.size := by rw [hw]; first | omega | (simp [World.setCell]; done) | (simp [World.setCell]; omega)
   have hzz9 : w.heap.size ≤ w9.heap.size := by omega
   replace HB : Hid (Below w.heap.size w w9) := by rw [Hid, hw]; exact (by ((repeat (first | ((with_reducible refine Below.alloc ?_ ?_ _); rotate_left 1; (focus (first | omega | (simp; done) | (simp; omega)))) | (with_reducible refine Below.drew ?_) | ((with_reducible refine Below.setCell ?_ ?_ _); rotate_left 1; (focus (first | omega | (simp; done) | (simp; omega)))))); exact HB.out))
   replace HOE : Hid (Rd w9 (0) (w.heap.size) (E) (ents es)) := by rw [Hid, hw]; (repeat (first | (with_reducible refine Rd.alloc ?_ _) | (with_reducible refine Rd.drew ?_) | ((with_reducible refine Rd.setCell ?_ ?_ _); rotate_left 1; (focus (first | omega | (simp; done) | (simp; omega)))))); exact HOE.out
   replace HOR : Hid (Rd w9 (0) (w.heap.size) (R) (rcps rs)) := by rw [Hid, hw]; (repeat (first | (with_reducible refine Rd.alloc ?_ _) | (with_reducible refine Rd.drew ?_) | ((with_reducible refine Rd.setCell ?_ ?_ _); rotate_left 1; (focus (first | omega | (simp; done) | (simp; omega)))))); exact HOR.out
   replace HOH : Hid (Rd w9 (0) (w.heap.size) (H) (hds hs)) := by rw [Hid, hw]; (repeat (first | (with_reducible refine Rd.alloc ?_ _) | (with_reducible refine Rd.drew ?_) | ((with_reducible refine Rd.setCell ?_ ?_ _); rotate_left 1; (focus (first | omega | (simp; done) | (simp; omega)))))); exact HOH.out
   replace HOU : Hid (Rd w9 (s8_26) (e8_26) (X3) (strs sl1)) := by rw [Hid, hw]; (repeat (first | (with_reducible refine Rd.alloc ?_ _) | (with_reducible refine Rd.drew ?_) | ((with_reducible refine Rd.setCell ?_ ?_ _); rotate_left 1; (focus (first | omega | (simp; done) | (simp; omega)))))); exact HOU.out
   replace HOV : Hid (Rd w9 (s8_26) (e8_26) (X4) (strs sl2)) := by rw [Hid, hw]; (repeat (first | (with_reducible refine Rd.alloc ?_ _) | (with_reducible refine Rd.drew ?_) | ((with_reducible refine Rd.setCell ?_ ?_ _); rotate_left 1; (focus (first | omega | (simp; done) | (simp; omega)))))); exact HOV.out
   replace HXb : Hid (NewBox w9 (p) [.int .i64 width, .slice E ne ce, .slice R nr cr, .slice H nh ch, .int .i64 z1, .slice A1 m1 c1, .int .i64 z2, .slice A2 m2 c2, .int .i64 h.num, .int .i64 h.size, .string h.root, .int .i64 h.taken, .string h.troot]) := by rw [Hid, hw]; (repeat (first | (with_reducible refine NewBox.alloc ?_ _) | (with_reducible refine NewBox.drew ?_) | ((with_reducible refine NewBox.setCell ?_ ?_ _); rotate_left 1; (focus (first | omega | (simp; done) | (simp; omega)))))); exact HXb.out
   clear hxb hfb hkb
   have hxb := HXb.out.2.1
   have hfb := HXb.out.2.2
   have hkb := HXb.out.1
   replace HXq : Hid (NewBox w9 (w.heap.size) [.int .i64 sz1, .slice X3 sl1.length d3, .int .i64 sz2, .slice X4 sl2.length d4, .int .i64 sh.num, .int .i64 sh.size, .string sh.root, .int .i64 sh.taken, .string sh.troot]) := by rw [Hid, hw]; apply NewBox.cast; (focus ((repeat (first | (with_reducible apply NewBox.alloc) | (with_reducible apply NewBox.drew) | (with_reducible apply NewBox.set1) | ((with_reducible apply NewBox.far); (focus (first | omega | (simp; done) | (simp; omega)))))); exact HXq.out)); rfl
   clear hxq hfq hkq
   have hxq := HXq.out.2.1
   have hfq := HXq.out.2.2
   have hkq := HXq.out.1
   replace HXs : Hid (NewBox w9 (s8_30) [.int .i64 sz1, .slice X3 sl1.length d3, .int .i64 sz2, .slice X4 sl2.length d4, .int .i64 sh.num, .int .i64 sh.size, .string sh.root, .int .i64 sh.taken, .string sh.troot]) := by rw [Hid, hw]; (repeat (first | (with_reducible refine NewBox.alloc ?_ _) | (with_reducible refine NewBox.drew ?_) | ((with_reducible refine NewBox.setCell ?_ ?_ _); rotate_left 1; (focus (first | omega | (simp; done) | (simp; omega)))))); exact HXs.out
   clear hxs hfs hks
   have hxs := HXs.out.2.1
   have hfs := HXs.out.2.2
   have hks := HXs.out.1
   clear hw
   refine bodyPost_ret (v := .tuple #[.agg #[.int .i64 sz1, .slice X3 sl1.length d3, .int .i64 sz2, .slice X4 sl2.length d4, .int .i64 sh.num, .int .i64 sh.size, .string sh.root, .int .i64 sh.taken, .string sh.troot], .bool true]) (by simp [results, Tryz.results73, go_sem, hxq]) rfl ?_
   exact ⟨X3, d3, X4, d4, by rw [HYES.out], HOU.out.mono (by omega) (by omega) (Nat.le_refl _), HOV.out.mono (by omega) (by omega) (Nat.le_refl _), HB.out⟩
end Go.Proofs.YtmmepogjocfefaaGreat

namespace Go.Proofs.YtmmepogjocfefaaGreat
set_option linter.unusedVariables false
set_option linter.unusedSimpArgs false
open Go.RowKit

theorem dec_comm {α : Type} [DecidableEq α] (a b : α) : decide (a = b) = decide (b = a) := decide_eq_decide.2 ⟨Eq.symm, Eq.symm⟩
theorem pf_same {width : Int} {es : List Ent} {rs : List Rcp} {hs : List Hd} {z1 : Int} {l1 : List ByteArray} {z2 : Int} {l2 : List ByteArray} {h : Hd} (hb : brkParts width es rs hs = true) :
  sameS (pfZ1 width es rs hs) (pfL1 width es rs hs) (pfZ2 width es rs hs) (pfL2 width es rs hs) (pfH width es rs hs) z1 l1 z2 l2 h = sealIs width (leavesM width es) (takenM width rs) (lastHd hs) z1 l1 z2 l2 h := by
 rw [pfZ1, pfL1, pfZ2, pfL2, pfH, hb, if_pos rfl, if_pos rfl, if_pos rfl, if_pos rfl, if_pos rfl, sameS, sameR, sameR, sealIs, dec_comm _ z1, dec_comm _ l1, dec_comm _ z2, dec_comm _ l2, dec_comm _ h, Bool.and_assoc]
theorem pfH_fits {width : Int} {es : List Ent} {rs : List Rcp} {hs : List Hd} (hf : ∀ x ∈ hs, x.fits) : (pfH width es rs hs).fits := by
 rw [pfH]
 split
 ·rename_i hb
  exact hf _ (List.mem_of_getElem? (lastHd_get (brkParts_all hb).pos))
 ·have h0 : I64 0 := ⟨by decide, by decide⟩
  exact ⟨h0, h0, h0, Nat.zero_le _, Nat.zero_le _⟩
theorem pfL1_len {width : Int} {es : List Ent} {rs : List Rcp} {hs : List Hd} : (pfL1 width es rs hs).length ≤ 1000 ∧ (pfL2 width es rs hs).length ≤ 1000 := by
 rw [pfL1, pfL2]
 split
 ·rename_i hb
  have hp := (brkParts_all hb).last
  have h1 := growUp_len (width := width) (leaves := leavesM width es) (show ([] : List ByteArray).length = popN 0 by decide) (k := (lastHd hs).size.toNat) (by omega)
  have h2 := growUp_len (width := width) (leaves := takenM width rs) (show ([] : List ByteArray).length = popN 0 by decide) (k := (lastHd hs).taken.toNat) (by omega)
  rw [h1, h2]
  have h3 : popN (0 + (lastHd hs).size.toNat) ≤ 10 := popUp_le _ 10
  have h4 : popN (0 + (lastHd hs).taken.toNat) ≤ 10 := popUp_le _ 10
  omega
 ·exact ⟨Nat.zero_le _, Nat.zero_le _⟩
set_option maxRecDepth 100000 in
set_option maxHeartbeats 4000000 in
theorem implBrokerOk_c (width z1 z2 : Int) (E R H A1 A2 : Option Addr) (ne nr nh ce cr ch c1 c2 lo1 hi1 lo2 hi2 lo3 hi3 lo4 hi4 lo5 hi5 m1 m2 : Nat) (es : List Ent) (rs : List Rcp) (hs : List Hd) (l1 l2 : List ByteArray) (h : Hd) (w : World) (hE : Rd w lo1 hi1 E (ents es)) (hR : Rd w lo2 hi2 R (rcps rs)) (hH : Rd w lo3 hi3 H (hds hs)) (hA1 : Rd w lo4 hi4 A1 (strs l1)) (hA2 : Rd w lo5 hi5 A2 (strs l2)) (hne : es.length = ne) (hnr : rs.length = nr) (hnh : hs.length = nh) (hm1 : l1.length = m1) (hm2 : l2.length = m2)
  (b1 : ne ≤ 1048576) (b2 : nr ≤ 1048576) (b3 : nh + sumBy Hd.bulk hs ≤ 1048576) (b4 : m1 ≤ 1048576) (b5 : m2 ≤ 1048576) (b6 : ne ≤ ce) (b7 : nr ≤ cr) (b8 : nh ≤ ch) (hfe : ∀ x ∈ es, x.fits) (hfr : ∀ x ∈ rs, x.fits) (hfh : ∀ x ∈ hs, x.fits) (hf : h.fits) (hsb : h.bulk ≤ 1048576) :
  Calls Tryz.prog 30 #[.agg #[.int .i64 width, .slice E ne ce, .slice R nr cr, .slice H nh ch, .int .i64 z1, .slice A1 m1 c1, .int .i64 z2, .slice A2 m2 c2, .int .i64 h.num, .int .i64 h.size, .string h.root, .int .i64 h.taken, .string h.troot]] w fun e w' => e = .returned (.bool (brkOk width es rs hs z1 l1 z2 l2 h)) ∧ Below w.heap.size w w' := by
 have HPF := Lib.hid (fun W p (hb : NewBox W p [.int .i64 width, .slice E ne ce, .slice R nr cr, .slice H nh ch, .int .i64 z1, .slice A1 m1 c1, .int .i64 z2, .slice A2 m2 c2, .int .i64 h.num, .int .i64 h.size, .string h.root, .int .i64 h.taken, .string h.troot]) (a1 : Rd W 0 W.heap.size E (ents es)) (a2 : Rd W 0 W.heap.size R (rcps rs)) (a3 : Rd W 0 W.heap.size H (hds hs)) => partsFit_c width z1 z2 p E R H A1 A2 ne nr nh ce cr ch c1 c2 0 W.heap.size 0 W.heap.size 0 W.heap.size m1 m2 es rs hs h W hb a1 a2 a3 hne hnr hnh b1 b2 b3 hfe hfr hfh)
 have HDEF : Hid (brkOk width es rs hs z1 l1 z2 l2 h = (brkParts width es rs hs && sealIs width (leavesM width es) (takenM width rs) (lastHd hs) z1 l1 z2 l2 h)) := Lib.hid rfl
 have HSM := Lib.hid (pf_same (width := width) (es := es) (rs := rs) (hs := hs) (z1 := z1) (l1 := l1) (z2 := z2) (l2 := l2) (h := h))
 have hpl := pfL1_len (width := width) (es := es) (rs := rs) (hs := hs)
 have HSS := Lib.hid (fun W A3 A4 c3 c4 (a1 : Rd W 0 W.heap.size A3 (strs (pfL1 width es rs hs))) (a2 : Rd W 0 W.heap.size A4 (strs (pfL2 width es rs hs))) (a3 : Rd W 0 W.heap.size A1 (strs l1)) (a4 : Rd W 0 W.heap.size A2 (strs l2)) => sameSeal_c (pfZ1 width es rs hs) (pfZ2 width es rs hs) z1 z2 A3 A4 A1 A2 c3 c4 c1 c2 0 W.heap.size 0 W.heap.size 0 W.heap.size 0 W.heap.size _ _ m1 m2 _ _ l1 l2 (pfH width es rs hs) h W a1 a2 a3 a4 rfl rfl hm1 hm2 (by omega) (by omega) b4 b5 (pfH_fits hfh) hf)
 generalize brkOk width es rs hs z1 l1 z2 l2 h = bk at *
 generalize brkParts width es rs hs = bp at *
 generalize pfZ1 width es rs hs = pz1 at *
 generalize pfZ2 width es rs hs = pz2 at *
 generalize pfL1 width es rs hs = pl1 at *
 generalize pfL2 width es rs hs = pl2 at *
 generalize pfH width es rs hs = ph at *
 generalize sealIs width (leavesM width es) (takenM width rs) (lastHd hs) z1 l1 z2 l2 h = si at *
 generalize sameS pz1 pl1 pz2 pl2 ph z1 l1 z2 l2 h = ss at *
 have HB : Hid (Below w.heap.size w w) := Below.refl _ _
 have HOE : Hid (Rd w (0) (w.heap.size) (E) (ents es)) := Rd.base hE
 have HOR : Hid (Rd w (0) (w.heap.size) (R) (rcps rs)) := Rd.base hR
 have HOH : Hid (Rd w (0) (w.heap.size) (H) (hds hs)) := Rd.base hH
 have HOX : Hid (Rd w (0) (w.heap.size) (A1) (strs l1)) := Rd.base hA1
 have HOY : Hid (Rd w (0) (w.heap.size) (A2) (strs l2)) := Rd.base hA2
 clear hE hR hH hA1 hA2 hne hnr hnh hm1 hm2 hfe hfr hfh hf hpl
 go_enter Tryz.func30, Tryz.ntmps30
 go_wp2_with fail
 refine calls_named (fun w1 hw => ?_)
 have hz1 : w.heap.size + 1 ≤ w1.heap.size := by rw [hw]; first | omega | (simp [World.setCell]; done) | (simp [World.setCell]; omega)
 have hzz1 : w.heap.size ≤ w1.heap.size := by omega
 have hbn : Below w.heap.size w w1 := by rw [hw]; exact (by ((repeat (first | ((with_reducible refine Below.alloc ?_ ?_ _); rotate_left 1; (focus (first | omega | (simp; done) | (simp; omega)))) | (with_reducible refine Below.drew ?_) | ((with_reducible refine Below.setCell ?_ ?_ _); rotate_left 1; (focus (first | omega | (simp; done) | (simp; omega)))))); exact Below.refl _ _))
 replace HB := Lib.hid (below_then HB.out hbn HB.out.size)
 replace HOE := Lib.hid (HOE.out.below hbn)
 replace HOR := Lib.hid (HOR.out.below hbn)
 replace HOH := Lib.hid (HOH.out.below hbn)
 replace HOX := Lib.hid (HOX.out.below hbn)
 replace HOY := Lib.hid (HOY.out.below hbn)
 clear hbn
 have HXb : Hid (NewBox w1 (w.heap.size) [.int .i64 width, .slice E ne ce, .slice R nr cr, .slice H nh ch, .int .i64 z1, .slice A1 m1 c1, .int .i64 z2, .slice A2 m2 c2, .int .i64 h.num, .int .i64 h.size, .string h.root, .int .i64 h.taken, .string h.troot]) := by rw [Hid, hw]; exact ⟨by first | omega | (simp [World.setCell]; done) | (simp [World.setCell]; omega), fun o => by rcases o with _ | _ | _ | _ | _ | _ | _ | _ | _ | _ | _ | _ | _ | o <;> go_simp, fun o => by go_simp⟩
 have hxb := HXb.out.2.1
 have hfb := HXb.out.2.2
 have hkb := HXb.out.1
 clear hw
 refine (HPF.out _ _ HXb.out HOE.out.base HOR.out.base HOH.out.base).mono ?_
 rintro e w2 ⟨A3, c3, A4, c4, rfl, hr3, hr4, hb⟩
 have hzw2 : w1.heap.size ≤ w2.heap.size := hb.size
 have hzzw2 : w.heap.size ≤ w2.heap.size := by omega
 replace HB := Lib.hid (below_then HB.out hb HB.out.size)
 replace HOE := Lib.hid (HOE.out.below hb)
 replace HOR := Lib.hid (HOR.out.below hb)
 replace HOH := Lib.hid (HOH.out.below hb)
 replace HOX := Lib.hid (HOX.out.below hb)
 replace HOY := Lib.hid (HOY.out.below hb)
 replace HXb := Lib.hid (HXb.out.below hb)
 clear hxb hfb hkb
 have hxb := HXb.out.2.1
 have hfb := HXb.out.2.2
 have hkb := HXb.out.1
 clear hb
 have HOU : Hid (Rd w2 (w1.heap.size) (w2.heap.size) (A3) (strs pl1)) := hr3
 have HOV : Hid (Rd w2 (w1.heap.size) (w2.heap.size) (A4) (strs pl2)) := hr4
 clear hr3 hr4 HPF
 rcases bp with _ | _
 ·go_wp2
  refine bodyPost_named (fun w7 hw => ?_)
  have hb7 : Hid (Below w.heap.size w w7) := by rw [Hid, hw]; exact (by ((repeat (first | ((with_reducible refine Below.alloc ?_ ?_ _); rotate_left 1; (focus (first | omega | (simp; done) | (simp; omega)))) | (with_reducible refine Below.drew ?_) | ((with_reducible refine Below.setCell ?_ ?_ _); rotate_left 1; (focus (first | omega | (simp; done) | (simp; omega)))))); exact HB.out))
  clear hw
  go_ret
  exact ⟨ret_bool (by rw [HDEF.out]; rfl), hb7.out⟩
 ·obtain rfl := HSM.out rfl
  go_wp2_with fail
  refine calls_named (fun w3 hw => ?_)
  have hz3 : w2.heap.size + 1 ≤ w3.heap.size := by rw [hw]; first | omega | (simp [World.setCell]; done) | (simp [World.setCell]; omega)
  have hzz3 : w.heap.size ≤ w3.heap.size := by omega
  have hbn : Below w2.heap.size w2 w3 := by rw [hw]; exact (by ((repeat (first | ((with_reducible refine Below.alloc ?_ ?_ _); rotate_left 1; (focus (first | omega | (simp; done) | (simp; omega)))) | (with_reducible refine Below.drew ?_) | ((with_reducible refine Below.setCell ?_ ?_ _); rotate_left 1; (focus (first | omega | (simp; done) | (simp; omega)))))); exact Below.refl _ _))
  replace HB := Lib.hid (below_then HB.out hbn HB.out.size)
  replace HOE := Lib.hid (HOE.out.below hbn)
  replace HOR := Lib.hid (HOR.out.below hbn)
  replace HOH := Lib.hid (HOH.out.below hbn)
  replace HOX := Lib.hid (HOX.out.below hbn)
  replace HOY := Lib.hid (HOY.out.below hbn)
  replace HOU := Lib.hid (HOU.out.below hbn)
  replace HOV := Lib.hid (HOV.out.below hbn)
  replace HXb := Lib.hid (HXb.out.below hbn)
  clear hxb hfb hkb
  have hxb := HXb.out.2.1
  have hfb := HXb.out.2.2
  have hkb := HXb.out.1
  clear hbn
  have HXs : Hid (NewBox w3 (w2.heap.size) [.int .i64 pz1, .slice A3 pl1.length c3, .int .i64 pz2, .slice A4 pl2.length c4, .int .i64 ph.num, .int .i64 ph.size, .string ph.root, .int .i64 ph.taken, .string ph.troot]) := by rw [Hid, hw]; exact ⟨by first | omega | (simp [World.setCell]; done) | (simp [World.setCell]; omega), fun o => by rcases o with _ | _ | _ | _ | _ | _ | _ | _ | _ | o <;> go_simp, fun o => by go_simp⟩
  have hxs := HXs.out.2.1
  have hfs := HXs.out.2.2
  have hks := HXs.out.1
  clear hw
  refine (HSS.out _ _ _ _ _ HOU.out.base HOV.out.base HOX.out.base HOY.out.base).mono ?_
  rintro e w4 ⟨rfl, hb⟩
  have hzw4 : w3.heap.size ≤ w4.heap.size := hb.size
  have hzzw4 : w.heap.size ≤ w4.heap.size := by omega
  replace HB := Lib.hid (below_then HB.out hb HB.out.size)
  replace HOE := Lib.hid (HOE.out.below hb)
  replace HOR := Lib.hid (HOR.out.below hb)
  replace HOH := Lib.hid (HOH.out.below hb)
  replace HOX := Lib.hid (HOX.out.below hb)
  replace HOY := Lib.hid (HOY.out.below hb)
  replace HOU := Lib.hid (HOU.out.below hb)
  replace HOV := Lib.hid (HOV.out.below hb)
  replace HXb := Lib.hid (HXb.out.below hb)
  clear hxb hfb hkb
  have hxb := HXb.out.2.1
  have hfb := HXb.out.2.2
  have hkb := HXb.out.1
  replace HXs := Lib.hid (HXs.out.below hb)
  clear hxs hfs hks
  have hxs := HXs.out.2.1
  have hfs := HXs.out.2.2
  have hks := HXs.out.1
  clear hb
  go_wp2
  go_ret
  exact ⟨ret_bool (by rw [HDEF.out]; rfl), HB.out⟩
end Go.Proofs.YtmmepogjocfefaaGreat

