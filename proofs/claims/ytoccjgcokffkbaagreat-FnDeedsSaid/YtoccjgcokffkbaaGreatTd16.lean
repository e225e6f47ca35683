/- Part 16 of the proof of FnDeeds: lemmas and contracts. -/
import Derived.Test.YtoccjgcokffkbaaGreatTd14
import Derived.Test.YtoccjgcokffkbaaGreatTd15
import Derived.Deep.AppendLies
namespace Go.Proofs.YtoccjgcokffkbaaGreat
set_option linter.unusedVariables false
set_option linter.unusedSimpArgs false
set_option maxHeartbeats 20000000
section
open Go.RowKit
theorem rightAt_snoc {l : List Ent} {e : Ent} {k : Nat} (hk : k < l.length) : rightAt (l ++ [e]) k = rightAt l k := by
 rw [rightAt, rightAt, List.getElem?_append_left hk, List.take_append_of_le_length (Nat.le_of_lt hk)]
theorem logOk_snoc {l : List Ent} {e : Ent} (h : gy l = true) (hl : l.length < 512) (he : aV e = true) (hi : (cnt l e.topic : Int) = e.index) : gy (l ++ [e]) = true := by
 rw [gy, Bool.and_eq_true] at *
 refine ⟨decide_eq_true (by rw [List.length_append]; show l.length + 1 ≤ 512; omega), ?_⟩
 rw [List.length_append, show [e].length = 1 from rfl, rightTo_succ, Bool.and_eq_true]
 refine ⟨?_, ?_⟩
 ·have h2 := h.2
  rw [gH, List.all_eq_true] at *
  intro k hk
  rw [rightAt_snoc (List.mem_range.1 hk)]
  exact h2 k hk
 rw [rightAt_eq (e := e) (by rw [List.getElem?_append_right (Nat.le_refl _), Nat.sub_self]; rfl), List.take_append_of_le_length (Nat.le_refl _), List.take_length, he, hi]
 simp
theorem rcpAt_snoc {l : List Rcp} {e : Rcp} {k : Nat} (hk : k < l.length) : rcpAt (l ++ [e]) k = rcpAt l k := by
 rw [rcpAt, rcpAt, List.getElem?_append_left hk, List.take_append_of_le_length (Nat.le_of_lt hk)]
theorem rcpsOk_snoc {l : List Rcp} {r : Rcp} (h : eu l = true) (hl : l.length < 512) (hr : bX r = true) (hn : r ∉ l) : eu (l ++ [r]) = true := by
 rw [eu, Bool.and_eq_true] at *
 refine ⟨decide_eq_true (by rw [List.length_append]; show l.length + 1 ≤ 512; omega), ?_⟩
 rw [List.length_append, show [r].length = 1 from rfl, rcpsTo_succ, Bool.and_eq_true]
 refine ⟨?_, ?_⟩
 ·have h2 := h.2
  rw [rcpsTo, List.all_eq_true] at *
  intro k hk
  rw [rcpAt_snoc (List.mem_range.1 hk)]
  exact h2 k hk
 rw [rcpAt_eq (r := r) (by rw [List.getElem?_append_right (Nat.le_refl _), Nat.sub_self]; rfl), List.take_append_of_le_length (Nat.le_refl _), List.take_length, hr, decide_eq_true hn]
 rfl
theorem headAt_snoc {width : Int} {l : List Hd} {e : Hd} {k : Nat} (hk : k < l.length) : fV width (l ++ [e]) k = fV width l k := by
 obtain ⟨x, hx⟩ : ∃ x, l[k]? = some x := ⟨_, List.getElem?_eq_getElem hk⟩
 have hx2 : (l ++ [e])[k]? = some x := by rw [List.getElem?_append_left hk]; exact hx
 rcases Nat.eq_zero_or_pos k with h0 | h0
 ·subst h0
  rw [headAt_0 hx, headAt_0 hx2]
 obtain ⟨p, hp⟩ : ∃ p, l[k - 1]? = some p := ⟨_, List.getElem?_eq_getElem (by omega)⟩
 have hp2 : (l ++ [e])[k - 1]? = some p := by rw [List.getElem?_append_left (by omega)]; exact hp
 rw [headAt_s hx hp (by omega), headAt_s hx2 hp2 (by omega)]
theorem headsUp_snoc {width : Int} {l : List Hd} {e : Hd} : ∀ {k : Nat}, k ≤ l.length → dA width (l ++ [e]) k = dA width l k
 | 0, _ => rfl
 | k + 1, h => by rw [dA, dA, headsUp_snoc (by omega), headAt_snoc (by omega)]
theorem dN (l : List Hd) (x : Hd) : ae (l ++ [x]) = x := by
 rw [ae, List.length_append, show l.length + [x].length - 1 = l.length from rfl, List.getD_eq_getElem?_getD, List.getElem?_append_right (Nat.le_refl _), Nat.sub_self]; rfl
theorem headsOk_snoc {width : Int} {l : List Hd} {x : Hd} (h : eB width l = true) (h0 : 0 < l.length) (hl : l.length < 400) (hn : x.num = (l.length : Int)) (hx : bu width x = true) (hf : fq width (ae l) x = true) : eB width (l ++ [x]) = true := by
 rw [eB, Bool.and_eq_true, Bool.and_eq_true] at *
 refine ⟨⟨h.1.1, decide_eq_true (by rw [List.length_append]; show l.length + 1 ≤ 400; omega)⟩, ?_⟩
 rw [List.length_append, show [x].length = 1 from rfl, dA, headsUp_snoc (Nat.le_refl _), h.2, Bool.true_and,
  headAt_s (x := x) (p := ae l) (q := l.length - 1) (by rw [List.getElem?_append_right (Nat.le_refl _), Nat.sub_self]; rfl) (by rw [List.getElem?_append_left (by omega)]; exact dP h0) (by omega), hx, hf, hn]
 simp
theorem headsOk_len {width : Int} {l : List Hd} (h : eB width l = true) : l.length ≤ 400 := by
 rw [eB, Bool.and_eq_true, Bool.and_eq_true] at h
 exact of_decide_eq_true h.1.2
theorem dX {width : Int} {L T : List ByteArray} {hs : List Hd} : cZ width L T hs = true ↔ hs[0]? = some (bF width) ∧ ∀ x ∈ hs, dx width L T x = true := by
 rw [cZ, Bool.and_eq_true, decide_eq_true_iff, fA, List.take_length, List.all_eq_true]
theorem rootsAt_more {width : Int} {L T M N : List ByteArray} {x : Hd} (h : dx width L T x = true) : dx width (L ++ M) (T ++ N) x = true := by
 obtain ⟨h1, h2, h3, h4⟩ := rootsAt_all h
 rw [dx, decide_eq_true (show x.size ≤ ((L ++ M).length : Nat) by rw [List.length_append]; omega), decide_eq_true (show x.taken ≤ ((T ++ N).length : Nat) by rw [List.length_append]; omega),
  List.take_append_of_le_length (by omega), List.take_append_of_le_length (by omega), ← h3, ← h4]
 simp
theorem leavesM_app (width : Int) (a b : List Ent) : aF width (a ++ b) = aF width a ++ aF width b := List.map_append
theorem takenM_app (width : Int) (a b : List Rcp) : aM width (a ++ b) = aM width a ++ aM width b := List.map_append
theorem leavesM_drop (width : Int) (a : List Ent) (n : Nat) : aF width (a.drop n) = (aF width a).drop n := List.map_drop
theorem takenM_drop (width : Int) (a : List Rcp) (n : Nat) : aM width (a.drop n) = (aM width a).drop n := List.map_drop
theorem leafIn_more {es fs : List Ent} {m k : Nat} {r : Rcp} (h : dJ es m r = true) (hm : m ≤ es.length) (hk : m ≤ k) : dJ (es ++ fs) k r = true := by
 rw [dJ, decide_eq_true_iff] at *
 have h2 : aN (fK r.topic r.index) (((es ++ fs).take k).take m) 0 = aN (fK r.topic r.index) (es.take m) 0 := by
  rw [List.take_take, Nat.min_eq_left hk, List.take_append_of_le_length hm]
 have h3 := firstFrom_take (p := fK r.topic r.index) ((es ++ fs).take k) m 0
 rw [h2, decide_eq_true h] at h3
 have h4 := h3.symm
 rw [Bool.and_eq_true] at h4
 exact of_decide_eq_true h4.1
theorem addCode_0 {l : List Ent} {t k b : ByteArray} {ti : Int} (h : bK l t ti k b = 0) : bU t = true ∧ dG ti k b = true ∧ l.length < 512 := by
 rw [bK] at h
 by_cases h1 : bU t = true
 ·rw [if_pos h1] at h
  by_cases h2 : dG ti k b = true
  ·rw [if_pos h2] at h
   by_cases h3 : 512 ≤ l.length
   ·rw [if_pos (by simpa using h3)] at h; omega
   exact ⟨h1, h2, by omega⟩
  rw [if_neg h2] at h; omega
 rw [if_neg h1] at h; omega
theorem newEnt_ok {l : List Ent} {t k b : ByteArray} {ti : Int} (h : bK l t ti k b = 0) : aV (aY l t ti k b) = true := by
 obtain ⟨h1, h2, h3⟩ := addCode_0 h
 rw [aV, aY]
 show (bU t && (inR (cnt l t : Nat) 0 511 && dG ti k b)) = true
 rw [h1, h2, az.2 ⟨Int.natCast_nonneg _, by have := cnt_le l t; omega⟩]; rfl
theorem logOk_add {l : List Ent} {t k b : ByteArray} {ti : Int} (hl : gy l = true) (h : bK l t ti k b = 0) : gy (l ++ [aY l t ti k b]) = true :=
 logOk_snoc hl (addCode_0 h).2.2 (newEnt_ok h) rfl
section
variable {width : Int} {es : List Ent} {rs : List Rcp} {hs : List Hd}
theorem aB.publish (h : aB width es rs hs) {t k b : ByteArray} {ti : Int} (hc : bK es t ti k b = 0) : aB width (es ++ [aY es t ti k b]) rs hs := by
 refine ⟨h.wd, logOk_add h.log hc, h.bf, h.pos, h.heads, ?_, fun r hr => leafIn_more (h.ins r hr) (by have := h.last; omega) (Nat.le_refl _)⟩
 obtain ⟨h1, h2⟩ := dX.1 h.roots
 refine dX.2 ⟨h1, fun x hx => ?_⟩
 rw [leavesM_app, ← List.append_nil (aM width rs)]
 exact rootsAt_more (h2 x hx)
theorem aB.take (h : aB width es rs hs) {r : Rcp} (h1 : bX r = true) (h2 : dJ es (ae hs).size.toNat r = true) (h3 : r ∉ rs) (h4 : rs.length < 512) : aB width es (rs ++ [r]) hs := by
 refine ⟨h.wd, h.log, rcpsOk_snoc h.bf h4 h1 h3, h.pos, h.heads, ?_, fun x hx => ?_⟩
 ·obtain ⟨k1, k2⟩ := dX.1 h.roots
  refine dX.2 ⟨k1, fun x hx => ?_⟩
  rw [takenM_app, ← List.append_nil (aF width es)]
  exact rootsAt_more (k2 x hx)
 rcases List.mem_append.1 hx with hx | hx
 ·exact h.ins x hx
 rw [List.mem_singleton.1 hx]; exact h2
def pk1 (width : Int) (es : List Ent) (hs : List Hd) : List ByteArray := ax width 0 [] (aF width es) (ae hs).size.toNat
def pk2 (width : Int) (rs : List Rcp) (hs : List Hd) : List ByteArray := ax width 0 [] (aM width rs) (ae hs).taken.toNat
theorem aB.ok (h : aB width es rs hs) : brkOk width es rs hs (ae hs).size (pk1 width es hs) (ae hs).taken (pk2 width rs hs) (ae hs) = true := by
 rw [brkOk, h.mk_, sealIs, pk1, pk2]; simp
theorem aB.sealed (h : aB width es rs hs) : ed width (ae hs).size (pk1 width es hs) (ae hs).taken (pk2 width rs hs) (ae hs) = true :=
 seal_right h (by rw [sealIs, pk1, pk2]; simp)
def eH (width : Int) (es : List Ent) (rs : List Rcp) (hs : List Hd) : Hd := ⟨hs.length, (es.length : Nat), bz width 513 (aF width es), (rs.length : Nat), bz width 513 (aM width rs)⟩
theorem smP_all {width z : Int} {L : List ByteArray} (h0 : 0 ≤ z) (hz : z ≤ (L.length : Nat)) : smP width z (ax width 0 [] L z.toNat) (L.drop z.toNat) = ax width 0 [] L L.length := by
 rw [smP, List.length_drop]
 have h := growUp_part (width := width) (L := L) (n := z.toNat) (m := L.length) (by omega) (Nat.le_refl _)
 rwa [List.take_of_length_le (by rw [List.length_drop]; exact Nat.le_refl _)] at h
theorem aB.lastAt (h : aB width es rs hs) : (ae hs).num = ((hs.length - 1 : Nat) : Int) ∧ dx width (aF width es) (aM width rs) (ae hs) = true := by
 have hg := dP h.pos
 exact ⟨(fU h.heads hg).1, (dX.1 h.roots).2 _ (List.mem_of_getElem? hg)⟩
theorem aB.sm (h : aB width es rs hs) (hl : hs.length < 400) :
  smOk width (ae hs).size (pk1 width es hs) (ae hs).taken (pk2 width rs hs) (ae hs) (aF width (es.drop (ae hs).size.toNat)) (aM width (rs.drop (ae hs).taken.toNat)) = true ∧
  smP width (ae hs).size (pk1 width es hs) (aF width (es.drop (ae hs).size.toNat)) = ax width 0 [] (aF width es) es.length ∧
  smP width (ae hs).taken (pk2 width rs hs) (aM width (rs.drop (ae hs).taken.toNat)) = ax width 0 [] (aM width rs) rs.length ∧
  nextHd width (ae hs).size (pk1 width es hs) (ae hs).taken (pk2 width rs hs) (ae hs) (aF width (es.drop (ae hs).size.toNat)) (aM width (rs.drop (ae hs).taken.toNat)) = eH width es rs hs := by
 obtain ⟨b1, b2, b3, b4, b5, b6, b7⟩ := h.last
 have hn := h.lastAt.1
 have hp := h.pos
 have g1 := logOk_len h.log
 have g2 := rcpsOk_len h.bf
 have e1 : smP width (ae hs).size (pk1 width es hs) (aF width (es.drop (ae hs).size.toNat)) = ax width 0 [] (aF width es) es.length := by
  rw [leavesM_drop, pk1, smP_all b1 (by rw [bH]; exact b2), bH]
 have e2 : smP width (ae hs).taken (pk2 width rs hs) (aM width (rs.drop (ae hs).taken.toNat)) = ax width 0 [] (aM width rs) rs.length := by
  rw [takenM_drop, pk2, smP_all b4 (by rw [bO]; exact b5), bO]
 refine ⟨smOk_of h.sealed ?_ ?_ ?_ ?_ (by omega), e1, e2, ?_⟩
 ·rw [leavesM_drop]; exact (take_are (leavesM_are h.wd h.log) _).2
 ·rw [takenM_drop]; exact (take_are (takenM_are h.wd h.bf) _).2
 ·rw [bH, List.length_drop]; omega
 ·rw [bO, List.length_drop]; omega
 rw [nextHd, e1, e2, growUp_root (by rw [bH]; exact Nat.le_refl _) g1, growUp_root (by rw [bO]; exact Nat.le_refl _) g2, List.take_of_length_le (by rw [bH]; exact Nat.le_refl _), List.take_of_length_le (by rw [bO]; exact Nat.le_refl _), bH, bO, List.length_drop, List.length_drop, hn, eH]
 refine Hd.eq_of ?_ ?_ rfl ?_ rfl
 ·show ((hs.length - 1 : Nat) : Int) + 1 = (hs.length : Int); omega
 ·show (ae hs).size + ((es.length - (ae hs).size.toNat : Nat) : Int) = (es.length : Int); omega
 show (ae hs).taken + ((rs.length - (ae hs).taken.toNat : Nat) : Int) = (rs.length : Int); omega
theorem aB.nextOk (h : aB width es rs hs) (hl : hs.length < 400) : bu width (eH width es rs hs) = true := by
 obtain ⟨s1, s2, s3, s4⟩ := h.sm hl
 have := seal_next s1
 rw [s4, ed, Bool.and_eq_true, Bool.and_eq_true] at this
 exact this.1.2
theorem bl_eq {a b : ByteArray} (h : a = b) : (a.toList == b.toList) = true := by rw [h]; exact beq_self_eq_true _
theorem aB.seal_ (h : aB width es rs hs) (hl : hs.length < 400) : aB width es rs (hs ++ [eH width es rs hs]) := by
 obtain ⟨b1, b2, b3, b4, b5, b6, b7⟩ := h.last
 obtain ⟨hn, hra⟩ := h.lastAt
 have hp := h.pos
 have hno := h.nextOk hl
 obtain ⟨r1, r2, r3, r4⟩ := rootsAt_all hra
 have hf : fq width (ae hs) (eH width es rs hs) = true := by
  have p1 : aheadM (ae hs) (eH width es rs hs) = false := by
   rw [aheadM, Bool.or_eq_false_iff, Bool.or_eq_false_iff]
   refine ⟨⟨decide_eq_false ?_, decide_eq_false ?_⟩, decide_eq_false ?_⟩
   ·show ¬ (hs.length : Int) ≤ (ae hs).num; omega
   ·show ¬ (es.length : Int) < (ae hs).size; omega
   show ¬ (rs.length : Int) < (ae hs).taken; omega
  have p2 : partedM (ae hs) (eH width es rs hs) = false := by
   rw [partedM]
   have q1 : ((ae hs).size == (eH width es rs hs).size) = true → ((ae hs).root.toList == (eH width es rs hs).root.toList) = true := fun e => bl_eq (by
    have e2 : (ae hs).size = (es.length : Int) := eq_of_beq e
    rw [r3, e2]
    show _ = bz width 513 (aF width es)
    rw [Int.toNat_natCast, List.take_of_length_le (by rw [bH]; exact Nat.le_refl _)])
   have q2 : ((ae hs).taken == (eH width es rs hs).taken) = true → ((ae hs).troot.toList == (eH width es rs hs).troot.toList) = true := fun e => bl_eq (by
    have e2 : (ae hs).taken = (rs.length : Int) := eq_of_beq e
    rw [r4, e2]
    show _ = bz width 513 (aM width rs)
    rw [Int.toNat_natCast, List.take_of_length_le (by rw [bO]; exact Nat.le_refl _)])
   rcases a1 : ((ae hs).size == (eH width es rs hs).size) with _ | _ <;> rcases a2 : ((ae hs).taken == (eH width es rs hs).taken) with _ | _
   ·cases h7 : ((ae hs).root.toList == (eH width es rs hs).root.toList) <;> cases h8 : ((ae hs).troot.toList == (eH width es rs hs).troot.toList) <;> rfl
   ·rw [q2 a2]; cases h7 : ((ae hs).root.toList == (eH width es rs hs).root.toList) <;> rfl
   ·rw [q1 a1]; cases h8 : ((ae hs).troot.toList == (eH width es rs hs).troot.toList) <;> rfl
   rw [q1 a1, q2 a2]; rfl
  rw [fq, b7, hno, p1, p2]; rfl
 refine ⟨h.wd, h.log, h.bf, by rw [List.length_append]; omega, headsOk_snoc h.heads hp hl rfl hno hf, ?_, fun r hr => ?_⟩
 ·obtain ⟨k1, k2⟩ := dX.1 h.roots
  refine dX.2 ⟨by rw [List.getElem?_append_left hp]; exact k1, fun x hx => ?_⟩
  rcases List.mem_append.1 hx with hx | hx
  ·exact k2 x hx
  rw [List.mem_singleton.1 hx, dx]
  show (decide ((es.length : Int) ≤ ((aF width es).length : Nat)) && (decide ((rs.length : Int) ≤ ((aM width rs).length : Nat)) && (decide (bz width 513 (aF width es) = bz width 513 ((aF width es).take (es.length : Int).toNat)) && decide (bz width 513 (aM width rs) = bz width 513 ((aM width rs).take (rs.length : Int).toNat))))) = true
  rw [Int.toNat_natCast, Int.toNat_natCast, List.take_of_length_le (by rw [bH]; exact Nat.le_refl _), List.take_of_length_le (by rw [bO]; exact Nat.le_refl _), bH, bO]
  simp
 rw [dN]
 have := leafIn_more (fs := []) (k := es.length) (h.ins r hr) (by omega) (by omega)
 rw [List.append_nil] at this
 exact this
theorem pk_next (h : aB width es rs hs) : pk1 width es (hs ++ [eH width es rs hs]) = ax width 0 [] (aF width es) es.length ∧ pk2 width rs (hs ++ [eH width es rs hs]) = ax width 0 [] (aM width rs) rs.length := by
 rw [pk1, pk2, dN]; exact ⟨rfl, rfl⟩
theorem growUp_sameR {L M : List ByteArray} {n : Nat} : ∀ {k : Nat}, k ≤ L.length → ax width n [] (L ++ M) k = ax width n [] L k
 | 0, _ => rfl
 | k + 1, h => by rw [ax, ax, growUp_sameR (by omega), List.getD_eq_getElem?_getD, List.getD_eq_getElem?_getD, List.getElem?_append_left (by omega)]
theorem pk1_more (h : aB width es rs hs) (fs : List Ent) : pk1 width (es ++ fs) hs = pk1 width es hs := by
 rw [pk1, pk1, leavesM_app, growUp_sameR (by rw [bH]; have := h.last; omega)]
theorem pk2_more (h : aB width es rs hs) (fs : List Rcp) : pk2 width (rs ++ fs) hs = pk2 width rs hs := by
 rw [pk2, pk2, takenM_app, growUp_sameR (by rw [bO]; have := h.last; omega)]
theorem aB.new (hw : inR width 1 32 = true) : aB width [] [] [bF width] := by
 have hk : bu width (bF width) = true := by
  rw [bu, hw, dS]
  have he := emptyT_size hw
  show ((true && inR 0 0 399 && (inR 0 0 512 && decide (((aQ width).size : Int) = width) && (decide ((0 : Int) < 0) || decide (aQ width = aQ width)))) && dS width 0 (aQ width)) = true
  rw [dS]
  have he2 : ((aQ width).size : Int) = width := by first | exact he | omega
  rw [decide_eq_true he2, decide_eq_true (rfl : aQ width = aQ width)]
  rfl
 refine ⟨hw, rfl, rfl, Nat.succ_pos _, ?_, dX.2 ⟨rfl, fun x hx => by rw [List.mem_singleton.1 hx]; exact headZero_roots _ _ _⟩, fun r hr => by cases hr⟩
 rw [eB, hw, show [bF width].length = 1 from rfl, dA, dA, headAt_0 (x := bF width) rfl, hk]
 rfl
end
structure Bk where
 E : Option Addr
 R : Option Addr
 H : Option Addr
 A1 : Option Addr
 A2 : Option Addr
 ce : Nat
 cr : Nat
 ch : Nat
 c1 : Nat
 c2 : Nat
structure Bm where
 width : Int
 es : List Ent
 rs : List Rcp
 hs : List Hd
structure aG (w : World) (lo hi : Nat) (a : Bk) (m : Bm) : Prop where
 ok : aB m.width m.es m.rs m.hs
 rE : Rd w lo hi a.E (aR m.es)
 rR : Rd w lo hi a.R (bf m.rs)
 rH : Rd w lo hi a.H (hds m.hs)
 r1 : Rd w lo hi a.A1 (strs (pk1 m.width m.es m.hs))
 r2 : Rd w lo hi a.A2 (strs (pk2 m.width m.rs m.hs))
 kE : m.es.length ≤ a.ce
 kR : m.rs.length ≤ a.cr
 kH : m.hs.length ≤ a.ch
 nE : a.E = none → a.ce = 0
 nR : a.R = none → a.cr = 0
 nH : a.H = none → a.ch = 0
 n1 : a.A1 = none → a.c1 = 0
 n2 : a.A2 = none → a.c2 = 0
section
variable {w w' : World} {lo hi lo' hi' : Nat} {a : Bk} {m : Bm}
theorem aG.map (h : aG w lo hi a m) (f : ∀ A xs, Rd w lo hi A xs → Rd w' lo' hi' A xs) : aG w' lo' hi' a m :=
 ⟨h.ok, f _ _ h.rE, f _ _ h.rR, f _ _ h.rH, f _ _ h.r1, f _ _ h.r2, h.kE, h.kR, h.kH, h.nE, h.nR, h.nH, h.n1, h.n2⟩
theorem aG.below (h : aG w lo hi a m) (hb : Below w.heap.size w w') : aG w' lo hi a m := h.map fun _ _ r => r.below hb
theorem aG.only (h : aG w lo hi a m) (ho : Only lo' hi' w w') (hd : hi ≤ lo' ∨ hi' ≤ lo) : aG w' lo hi a m := h.map fun _ _ r => r.only ho hd
theorem aG.alloc (h : aG w lo hi a m) (o : Obj) : aG (w.alloc o) lo hi a m := h.map fun _ _ r => r.alloc o
theorem aG.drew (h : aG w lo hi a m) : aG w.drew lo hi a m := h.map fun _ _ r => r.drew
theorem aG.setCell (h : aG w lo hi a m) {p : Addr} (hp : p.block < lo ∨ hi ≤ p.block) (u : Value) : aG (w.setCell p u) lo hi a m := h.map fun _ _ r => r.setCell hp u
theorem aG.mono (h : aG w lo hi a m) (h1 : lo' ≤ lo) (h2 : hi ≤ hi') (h3 : hi' ≤ w.heap.size) : aG w lo' hi' a m := h.map fun _ _ r => r.mono h1 h2 h3
theorem aG.base (h : aG w lo hi a m) : aG w 0 w.heap.size a m := h.map fun _ _ r => r.base
end
theorem eU {t : ByteArray} (h : bU t = true) : t.size ≤ 20 := by
 rw [bU, Bool.and_eq_true] at h
 have := az.1 h.1
 omega
theorem ent_fit {e : Ent} (h : aV e = true) : e.fits := by
 rw [aV, Bool.and_eq_true, Bool.and_eq_true, dG, Bool.and_eq_true, Bool.and_eq_true] at h
 obtain ⟨h1, h2, h3, h4, h5⟩ := h
 have a1 := eU h1
 have a2 := az.1 h2
 have a3 := az.1 h3
 have a4 := of_decide_eq_true h4
 have a5 := of_decide_eq_true h5
 exact ⟨⟨by omega, by omega⟩, ⟨by omega, by omega⟩, by unfold maxLen; omega, by unfold maxLen; omega, by unfold maxLen; omega⟩
theorem rcp_fit {r : Rcp} (h : bX r = true) : r.fits := by
 rw [bX, Bool.and_eq_true, Bool.and_eq_true] at h
 obtain ⟨h1, h2, h3⟩ := h
 have a1 := eU h1
 have a2 := eU h2
 have a3 := az.1 h3
 exact ⟨⟨by omega, by omega⟩, by unfold maxLen; omega, by unfold maxLen; omega⟩
theorem bN {width : Int} {es : List Ent} {rs : List Rcp} {hs : List Hd} (h : aB width es rs hs) :
  (∀ x ∈ es, x.fits) ∧ (∀ x ∈ rs, x.fits) ∧ (∀ x ∈ hs, x.fits) ∧ es.length ≤ 512 ∧ rs.length ≤ 512 ∧ hs.length ≤ 400 ∧ hs.length + dW Hd.bulk hs ≤ 1048576 ∧ (ae hs).fits ∧ (ae hs).bulk ≤ 64 ∧
  (pk1 width es hs).length ≤ 20 ∧ (pk2 width rs hs).length ≤ 20 := by
 have hh : ∀ x ∈ hs, x.fits ∧ x.bulk ≤ 64 := fun x hx => by
  obtain ⟨k, hk⟩ := List.mem_iff_getElem?.1 hx
  have h1 := dQ (fU h.heads hk).2.1
  exact ⟨⟨⟨by omega, by omega⟩, ⟨by omega, by omega⟩, ⟨by omega, by omega⟩, by unfold maxLen; omega, by unfold maxLen; omega⟩, by show x.root.size + x.troot.size ≤ 64; omega⟩
 have hl : ∀ l : List Hd, (∀ x ∈ l, x.bulk ≤ 64) → dW Hd.bulk l ≤ l.length * 64 := by
  intro l
  induction l with
  | nil => intro _; exact Nat.zero_le _
  | cons x l ih =>
    intro hx
    have h1 := hx x List.mem_cons_self
    have h2 := ih (fun y hy => hx y (List.mem_cons_of_mem _ hy))
    show x.bulk + dW Hd.bulk l ≤ _
    rw [List.length_cons, Nat.add_mul]; omega
 have hb := hl hs (fun x hx => (hh x hx).2)
 have hn := headsOk_len h.heads
 have hlast := hh (ae hs) (List.mem_of_getElem? (dP h.pos))
 obtain ⟨r1, r2, _, _⟩ := sealOk_all h.sealed
 have p1 := (bZ r1)
 have p2 := (bZ r2)
 have q1 := popC_le (ae hs).size
 have q2 := popC_le (ae hs).taken
 refine ⟨fun x hx => ?_, fun x hx => ?_, fun x hx => (hh x hx).1, logOk_len h.log, rcpsOk_len h.bf, hn, by omega, hlast.1, hlast.2, by omega, by omega⟩
 ·exact ent_fit (logOk_mem h.log x hx)
 exact rcp_fit (rcpsOk_mem h.bf x hx)
theorem info_Head : (Tryz.prog.info? 33).map (fun i => (i.zero, i.size, i.bytes)) = some (some (.agg #[.int .i64 0, .int .i64 0, .string ByteArray.empty, .int .i64 0, .string ByteArray.empty]), 5, 56) := by kernel_rfl
theorem rcps_one (l : List Rcp) : ∀ u ∈ bf l, u.oneCell' = true := by
 intro u hu
 obtain ⟨x, _, h⟩ := List.mem_flatMap.1 hu
 simp only [Rcp.cells, List.mem_cons, List.not_mem_nil, or_false] at h
 rcases h with rfl | rfl | rfl <;> rfl
theorem hds_one (l : List Hd) : ∀ u ∈ hds l, u.oneCell' = true := by
 intro u hu
 obtain ⟨x, _, h⟩ := List.mem_flatMap.1 hu
 simp only [Hd.cells, List.mem_cons, List.not_mem_nil, or_false] at h
 rcases h with rfl | rfl | rfl | rfl | rfl <;> rfl
theorem rcps_app (a b : List Rcp) : bf (a ++ b) = bf a ++ bf b := by rw [bf, List.flatMap_append]; rfl
theorem hds_app (a b : List Hd) : hds (a ++ b) = hds a ++ hds b := by rw [hds, List.flatMap_append]; rfl
theorem gappRcp {w : World} {ρ : Operand → Value} {o : Oper} {R : Value → World → Prop} (s x : Operand)
  (ho : o.op = .call { callee := .builtin .append, args := #[s, x], argTypes := #[27, 27] }) (v : Value) (n : Nat) (xs : List Value) (hs : ρ s = v) {S : Nat → Prop} (hown : bL S w 43 3 v n xs)
  (A : Option Addr) (q c lo hi' : Nat) (l : List Rcp) (hx : ρ x = .slice A q c) (hl : l.length = q) (hr : Rd w lo hi' A (bf l)) (hA : A = none → c = 0) (h63 : n + q ≤ 100000000)
  (h : ∀ A' c' w', bL (fun k => S k ∨ k = w.heap.size) w' 43 3 (.slice A' (n + q) c') (n + q) (xs ++ bf l) → (∀ k, (.slice A' (n + q) c' : Value).ownBlock = some k → k < w'.heap.size) → w.grownBy w' v.ownBlock → R (.slice A' (n + q) c') w') :
  Gives Tryz.prog R ((execOp ρ o).run Tryz.prog w) := by
 obtain ⟨i0, hi0, hz0, hz1, hz2⟩ := info_parts gL
 exact gives_append_rd s x _ ho _ i0 (.agg #[.string ByteArray.empty, .string ByteArray.empty, .int .i64 0]) 3 40 Tryz.underlying27 hi0 hz0 hz1 hz2 rfl (by decide) v n xs hs hown A q c lo hi' _ hx (by rw [rcps_len, hl]; try omega) hr hA (rcps_one _) (by unfold maxLen; omega) (by omega) h
theorem gappHd {w : World} {ρ : Operand → Value} {o : Oper} {R : Value → World → Prop} (s x : Operand)
  (ho : o.op = .call { callee := .builtin .append, args := #[s, x], argTypes := #[28, 28] }) (v : Value) (n : Nat) (xs : List Value) (hs : ρ s = v) {S : Nat → Prop} (hown : bL S w 33 5 v n xs)
  (A : Option Addr) (q c lo hi' : Nat) (l : List Hd) (hx : ρ x = .slice A q c) (hl : l.length = q) (hr : Rd w lo hi' A (hds l)) (hA : A = none → c = 0) (h63 : n + q ≤ 100000000)
  (h : ∀ A' c' w', bL (fun k => S k ∨ k = w.heap.size) w' 33 5 (.slice A' (n + q) c') (n + q) (xs ++ hds l) → (∀ k, (.slice A' (n + q) c' : Value).ownBlock = some k → k < w'.heap.size) → w.grownBy w' v.ownBlock → R (.slice A' (n + q) c') w') :
  Gives Tryz.prog R ((execOp ρ o).run Tryz.prog w) := by
 obtain ⟨i0, hi0, hz0, hz1, hz2⟩ := info_parts info_Head
 exact gives_append_rd s x _ ho _ i0 (.agg #[.int .i64 0, .int .i64 0, .string ByteArray.empty, .int .i64 0, .string ByteArray.empty]) 5 56 Tryz.underlying28 hi0 hz0 hz1 hz2 rfl (by decide) v n xs hs hown A q c lo hi' _ hx (by rw [hds_len, hl]; try omega) hr hA (hds_one _) (by unfold maxLen; omega) (by omega) h
def aT (w : World) (lo hi : Nat) (a : Value × Nat) (xs : List Value) : Prop := w.ownsRow lo 9 1 a.1 a.2 xs ∧ ∀ k, a.1.ownBlock = some k → k < hi
section
variable {w w' : World} {lo hi lo' hi' : Nat} {a : Value × Nat} {xs : List Value}
theorem aT.keep (h : aT w lo hi a xs) (hb : ∀ k, k < w.heap.size → lo ≤ k → k < hi → w'.heap[k]? = w.heap[k]?) : aT w' lo hi a xs := by
 refine ⟨⟨h.1.1, ?_⟩, h.2⟩
 rcases h.1.2 with h1 | ⟨g, cap, cur, h1, h2, h3, h4⟩
 ·exact .inl h1
 ·exact .inr ⟨g, cap, cur, h1, h2, (hb g (Array.getElem?_eq_some_iff.1 h3).1 h2 (h.2 g (by rw [h1]; rfl))).trans h3, h4⟩
theorem aT.of {n : Nat} {v : Value} (h : w.ownsRow lo 9 1 v n xs) : aT w lo w.heap.size (v, n) xs := ⟨h, fun k hk => (h.lt k hk).2⟩
theorem aT.mono (h : aT w lo hi a xs) (h1 : lo' ≤ lo) (h2 : hi ≤ hi') : aT w lo' hi' a xs := ⟨row_mono h.1 h1, fun k hk => Nat.lt_of_lt_of_le (h.2 k hk) h2⟩
theorem aT.below (h : aT w lo hi a xs) (hb : Below w.heap.size w w') : aT w' lo hi a xs := h.keep (fun k hk _ _ => hb.block k hk)
theorem aT.alloc (h : aT w lo hi a xs) (o : Obj) : aT (w.alloc o) lo hi a xs := h.below ((Below.refl _ _).alloc (Nat.le_refl _) o)
theorem aT.drew (h : aT w lo hi a xs) : aT w.drew lo hi a xs := h
theorem aT.setCell (h : aT w lo hi a xs) {p : Addr} (hp : p.block < lo ∨ hi ≤ p.block) (u : Value) : aT (w.setCell p u) lo hi a xs := h.keep (fun k _ h1 h2 => Below.heap_setCell _ _ _ _ (by omega))
theorem aT.only (h : aT w lo hi a xs) (ho : Only lo' hi' w w') (hd : hi ≤ lo' ∨ hi' ≤ lo) : aT w' lo hi a xs := h.keep (fun k hk h1 h2 => ho.block k hk (by omega))
theorem aT.own {A : Option Addr} {n c m : Nat} (h : aT w lo hi (.slice A n c, m) xs) (hm : m = n) : Own w lo w.heap.size A xs := by
 subst hm; exact Own.bg h.1
end
theorem rowB_app {w w5 : World} {lo n m : Nat} {v v5 : Value} {xs ys : List Value} (h : w.ownsRow lo 9 1 v n xs) (t : Obj) (h5 : w5.ownsRow lo 9 1 v5 m ys) (hg : (w.alloc t).grownBy w5 v.ownBlock) :
  aT w5 lo w5.heap.size (v5, m) ys ∧ Only lo (w.heap.size + 1) w w5 := by
 refine ⟨aT.of h5, ?_⟩
 have h1 : Only lo (w.heap.size + 1) (w.alloc t) w5 := by
  have := bG (h.alloc t) hg
  simpa using this
 exact (Only.of_below ((Below.refl _ _).alloc (Nat.le_refl _) t)).trans h1
def aI (w : World) (lo hi : Nat) (a : (TypeId × Nat) × Value × Nat) (xs : List Value) : Prop := w.ownsRow lo a.1.1 a.1.2 a.2.1 a.2.2 xs ∧ ∀ k, a.2.1.ownBlock = some k → k < hi
section
variable {w w' : World} {lo hi lo' hi' : Nat} {a : (TypeId × Nat) × Value × Nat} {xs : List Value}
theorem aI.keep (h : aI w lo hi a xs) (hb : ∀ k, k < w.heap.size → lo ≤ k → k < hi → w'.heap[k]? = w.heap[k]?) : aI w' lo hi a xs := by
 refine ⟨⟨h.1.1, ?_⟩, h.2⟩
 rcases h.1.2 with h1 | ⟨g, cap, cur, h1, h2, h3, h4⟩
 ·exact .inl h1
 ·exact .inr ⟨g, cap, cur, h1, h2, (hb g (Array.getElem?_eq_some_iff.1 h3).1 h2 (h.2 g (by rw [h1]; rfl))).trans h3, h4⟩
theorem aI.of {e : TypeId} {size n : Nat} {v : Value} (h : w.ownsRow lo e size v n xs) : aI w lo w.heap.size ((e, size), v, n) xs := ⟨h, fun k hk => (h.lt k hk).2⟩
theorem aI.mono (h : aI w lo hi a xs) (h1 : lo' ≤ lo) (h2 : hi ≤ hi') : aI w lo' hi' a xs := ⟨row_mono h.1 h1, fun k hk => Nat.lt_of_lt_of_le (h.2 k hk) h2⟩
theorem aI.below (h : aI w lo hi a xs) (hb : Below w.heap.size w w') : aI w' lo hi a xs := h.keep (fun k hk _ _ => hb.block k hk)
theorem aI.alloc (h : aI w lo hi a xs) (o : Obj) : aI (w.alloc o) lo hi a xs := h.below ((Below.refl _ _).alloc (Nat.le_refl _) o)
theorem aI.drew (h : aI w lo hi a xs) : aI w.drew lo hi a xs := h
theorem aI.setCell (h : aI w lo hi a xs) {p : Addr} (hp : p.block < lo ∨ hi ≤ p.block) (u : Value) : aI (w.setCell p u) lo hi a xs := h.keep (fun k _ h1 h2 => Below.heap_setCell _ _ _ _ (by omega))
theorem aI.only (h : aI w lo hi a xs) (ho : Only lo' hi' w w') (hd : hi ≤ lo' ∨ hi' ≤ lo) : aI w' lo hi a xs := h.keep (fun k hk h1 h2 => ho.block k hk (by omega))
theorem aI.own {e : TypeId} {size n c : Nat} {A : Option Addr} (h : aI w lo hi ((e, size), .slice A n c, n) xs) (hh : hi ≤ w.heap.size) : n ≤ c ∧ (A = none → c = 0) ∧ Own w lo hi A xs := by
 obtain ⟨A', c', e1, h1, h2, h3⟩ := ay h.1
 injection e1 with e1 _ e3
 subst e1
 subst e3
 refine ⟨h1, h2, fun hn => ?_⟩
 obtain ⟨b, off, g1, g2, g3, g4, g5, g6⟩ := h3 hn
 subst g1
 exact ⟨b, off, rfl, g2, h.2 b rfl, hh, g5, g6⟩
theorem aI.rd {e : TypeId} {size n c : Nat} {A : Option Addr} (h : aI w lo hi ((e, size), .slice A n c, n) xs) (hh : hi ≤ w.heap.size) : Rd w lo hi A xs := (h.own hh).2.2.rd
end
theorem aI.keepB {w w' : World} {lo hi : Nat} {a : (TypeId × Nat) × Value × Nat} {xs : List Value} (h : aI w lo hi a xs) (hb : ∀ k, a.2.1.ownBlock = some k → k < w.heap.size → w'.heap[k]? = w.heap[k]?) : aI w' lo hi a xs := by
 refine ⟨⟨h.1.1, ?_⟩, h.2⟩
 rcases h.1.2 with h1 | ⟨g, cap, cur, h1, h2, h3, h4⟩
 ·exact .inl h1
 exact .inr ⟨g, cap, cur, h1, h2, (hb g (by rw [h1]; rfl) (Array.getElem?_eq_some_iff.1 h3).1).trans h3, h4⟩
theorem aI.grown {w w' : World} {lo hi : Nat} {a : (TypeId × Nat) × Value × Nat} {xs : List Value} (h : aI w lo hi a xs) {r : Option Nat} (hg : w.grownBy w' r) (hap : ∀ k, a.2.1.ownBlock = some k → r ≠ some k) : aI w' lo hi a xs :=
 h.keepB fun k hk hl => hg.block k hl (fun e => hap k hk e.symm)
theorem aI.of0 {w : World} {lo hi n size : Nat} {e : TypeId} {v : Value} {xs : List Value} (h : w.ownsRow 0 e size v n xs) (hb : ∀ k, v.ownBlock = some k → lo ≤ k ∧ k < hi) : aI w lo hi ((e, size), v, n) xs := by
 refine ⟨⟨h.1, ?_⟩, fun k hk => (hb k hk).2⟩
 rcases h.2 with h1 | ⟨g, cap, cur, h1, _, h3, h4⟩
 ·exact .inl h1
 exact .inr ⟨g, cap, cur, h1, (hb g (by rw [h1]; rfl)).1, h3, h4⟩
theorem aI.at_ {w : World} {lo hi : Nat} {a : (TypeId × Nat) × Value × Nat} {xs : List Value} (h : aI w lo hi a xs) : ∀ k, a.2.1.ownBlock = some k → lo ≤ k ∧ k < hi := fun k hk => ⟨(h.1.lt k hk).1, h.2 k hk⟩
theorem aI.onlyG {w w' : World} {lo hi : Nat} {a : (TypeId × Nat) × Value × Nat} {xs : List Value} (h : aI w lo hi a xs) (hg : w.grownBy w' a.2.1.ownBlock) : Only lo hi w w' :=
 ⟨hg.os, hg.tape, hg.output, hg.size, fun k hk hd => hg.block k hk (fun e => by have := h.at_ k e.symm; omega)⟩
def Ap (v1 v2 : Value) : Prop := ∀ k, v1.ownBlock = some k → v2.ownBlock ≠ some k
theorem Ap.symm {v1 v2 : Value} (h : Ap v1 v2) : Ap v2 v1 := fun k h1 h2 => h k h2 h1
structure Bl where
 es : List Ent
 rs : List Rcp
 hs : List Hd
 l1 : List ByteArray
 l2 : List ByteArray
def Bm.bl (m : Bm) : Bl := ⟨m.es, m.rs, m.hs, pk1 m.width m.es m.hs, pk2 m.width m.rs m.hs⟩
structure bW (w : World) (lo hi : Nat) (a : Bk) (m : Bl) : Prop where
 e : aI w lo hi ((41, 5), .slice a.E m.es.length a.ce, m.es.length) (aR m.es)
 r : aI w lo hi ((43, 3), .slice a.R m.rs.length a.cr, m.rs.length) (bf m.rs)
 h : aI w lo hi ((33, 5), .slice a.H m.hs.length a.ch, m.hs.length) (hds m.hs)
 a1 : aI w lo hi ((9, 1), .slice a.A1 m.l1.length a.c1, m.l1.length) (strs m.l1)
 a2 : aI w lo hi ((9, 1), .slice a.A2 m.l2.length a.c2, m.l2.length) (strs m.l2)
 er : Ap (.slice a.E m.es.length a.ce) (.slice a.R m.rs.length a.cr)
 eh : Ap (.slice a.E m.es.length a.ce) (.slice a.H m.hs.length a.ch)
 rh : Ap (.slice a.R m.rs.length a.cr) (.slice a.H m.hs.length a.ch)
 r1 : Ap (.slice a.A1 m.l1.length a.c1) (.slice a.R m.rs.length a.cr)
 r2 : Ap (.slice a.A2 m.l2.length a.c2) (.slice a.R m.rs.length a.cr)
 h1 : Ap (.slice a.A1 m.l1.length a.c1) (.slice a.H m.hs.length a.ch)
 h2 : Ap (.slice a.A2 m.l2.length a.c2) (.slice a.H m.hs.length a.ch)
section
variable {w w' : World} {lo hi lo' hi' : Nat} {a : Bk} {m : Bl}
theorem bW.map (h : bW w lo hi a m) (f : ∀ {a xs}, aI w lo hi a xs → aI w' lo' hi' a xs) : bW w' lo' hi' a m :=
 ⟨f h.e, f h.r, f h.h, f h.a1, f h.a2, h.er, h.eh, h.rh, h.r1, h.r2, h.h1, h.h2⟩
theorem bW.below (h : bW w lo hi a m) (hb : Below w.heap.size w w') : bW w' lo hi a m := h.map fun r => r.below hb
theorem bW.only (h : bW w lo hi a m) (ho : Only lo' hi' w w') (hd : hi ≤ lo' ∨ hi' ≤ lo) : bW w' lo hi a m := h.map fun r => r.only ho hd
theorem bW.alloc (h : bW w lo hi a m) (o : Obj) : bW (w.alloc o) lo hi a m := h.map fun r => r.alloc o
theorem bW.drew (h : bW w lo hi a m) : bW w.drew lo hi a m := h.map fun r => r.drew
theorem bW.setCell (h : bW w lo hi a m) {p : Addr} (hp : p.block < lo ∨ hi ≤ p.block) (u : Value) : bW (w.setCell p u) lo hi a m := h.map fun r => r.setCell hp u
theorem bW.mono (h : bW w lo hi a m) (h1 : lo' ≤ lo) (h2 : hi ≤ hi') : bW w lo' hi' a m := h.map fun r => r.mono h1 h2
end
theorem brk_rows {w : World} {lo ea eb ra rb ha hb ne nr nh ce cr ch c1 c2 : Nat} {E R H A1 A2 : Option Addr} {width : Int} {es : List Ent} {rs : List Rcp} {hs : List Hd} (ok : aB width es rs hs) (hne : es.length = ne) (hnr : rs.length = nr) (hnh : hs.length = nh)
  (e : aI w ea eb ((41, 5), .slice E ne ce, ne) (aR es)) (r : aI w ra rb ((43, 3), .slice R nr cr, nr) (bf rs)) (h : aI w ha hb ((33, 5), .slice H nh ch, nh) (hds hs))
  (a1 : Rd w lo w.heap.size A1 (strs (pk1 width es hs))) (a2 : Rd w lo w.heap.size A2 (strs (pk2 width rs hs))) (n1 : A1 = none → c1 = 0) (n2 : A2 = none → c2 = 0) (h1 : lo ≤ ea ∧ eb ≤ w.heap.size) (h2 : lo ≤ ra ∧ rb ≤ w.heap.size) (h3 : lo ≤ ha ∧ hb ≤ w.heap.size) :
  aG w lo w.heap.size ⟨E, R, H, A1, A2, ce, cr, ch, c1, c2⟩ ⟨width, es, rs, hs⟩ := by
 subst hne
 subst hnr
 subst hnh
 obtain ⟨p1, p2, p3⟩ := e.own h1.2
 obtain ⟨q1, q2, q3⟩ := r.own h2.2
 obtain ⟨r1, r2, r3⟩ := h.own h3.2
 exact ⟨ok, p3.rd.mono h1.1 h1.2 (Nat.le_refl _), q3.rd.mono h2.1 h2.2 (Nat.le_refl _), r3.rd.mono h3.1 h3.2 (Nat.le_refl _), a1, a2, p1, q1, r1, p2, q2, r2, n1, n2⟩
theorem aI.cast {w : World} {lo hi : Nat} {a a' : (TypeId × Nat) × Value × Nat} {xs : List Value} (h : aI w lo hi a xs) (e : a = a') : aI w lo hi a' xs := e ▸ h
set_option maxRecDepth 100000 in
theorem app1LRcp {w : World} {ops : Array Oper} {rest : List Oper} {o : Oper} {a : Act} {Q : Exit → Act → World → Prop} (hgd : o.guard = none) (s x : Operand)
  (ho : o.op = .call { callee := .builtin .append, args := #[s, x], argTypes := #[27, 27] }) (lo hi k : Nat) (v : Value) (n : Nat) (xs : List Value) (x0 : Rcp) (hs : a.eval s = v) (h0 : aI w lo hi ((43, 3), v, n) xs)
  (hx : a.eval x = .slice (some ⟨k, 0, none⟩) 1 1) (hr : aa w k (bf [x0])) (h63 : n + 1 ≤ 100000000) (hbase : lo ≤ w.heap.size) (H : Nat) (hH : w.heap.size = H)
  (h : ∀ g cap w', lo ≤ g → (g < hi ∨ g = H) → g < w'.heap.size → aI w' g (g + 1) ((43, 3), .slice (some ⟨g, 0, none⟩) (n + 1) cap, n + 1) (xs ++ bf [x0]) → w.grownBy w' v.ownBlock → wpList Tryz.prog ops Q rest (a.put o.dst (.slice (some ⟨g, 0, none⟩) (n + 1) cap)) w') : wpList Tryz.prog ops Q (o :: rest) a w := by
 obtain ⟨i0, hi0, hz0, hz1, hz2⟩ := info_parts gL
 refine wpList_append_lies _ hgd s x _ ho lo _ i0 (.agg #[.string ByteArray.empty, .string ByteArray.empty, .int .i64 0]) 3 40 Tryz.underlying27 hi0 hz0 hz1 hz2 rfl (by decide) v n xs hs h0.1 ⟨k, 0, none⟩ 1 1 (bf [x0]) hx (by rw [rcps_len]; try rfl) (fun j u hu => by rw [Addr.add_lit, Nat.zero_add]; exact (hr.2.1 j).trans hu) (rcps_one _) (by omega) (by unfold maxLen; omega) (by omega) hbase H hH ?_
 intro g cap w' h1 h2 h3 h4
 have hlo : lo ≤ g := (h1.lt g rfl).1
 refine h g cap w' hlo (h3.elim (fun e => .inl (h0.2 g e)) .inr) h4 ⟨?_, fun k hk => by have hk' : g = k := (by injection hk); show k < g + 1; omega⟩ h2
 refine ⟨h1.1, ?_⟩
 rcases h1.2 with ⟨e, _⟩ | ⟨g', cap', cur, e, h5, h6⟩
 ·cases e
 cases e; exact .inr ⟨g, cap, cur, rfl, Nat.le_refl _, h6⟩
set_option maxRecDepth 100000 in
theorem app1LHd {w : World} {ops : Array Oper} {rest : List Oper} {o : Oper} {a : Act} {Q : Exit → Act → World → Prop} (hgd : o.guard = none) (s x : Operand)
  (ho : o.op = .call { callee := .builtin .append, args := #[s, x], argTypes := #[28, 28] }) (lo hi k : Nat) (v : Value) (n : Nat) (xs : List Value) (x0 : Hd) (hs : a.eval s = v) (h0 : aI w lo hi ((33, 5), v, n) xs)
  (hx : a.eval x = .slice (some ⟨k, 0, none⟩) 1 1) (hr : aa w k (hds [x0])) (h63 : n + 1 ≤ 100000000) (hbase : lo ≤ w.heap.size) (H : Nat) (hH : w.heap.size = H)
  (h : ∀ g cap w', lo ≤ g → (g < hi ∨ g = H) → g < w'.heap.size → aI w' g (g + 1) ((33, 5), .slice (some ⟨g, 0, none⟩) (n + 1) cap, n + 1) (xs ++ hds [x0]) → w.grownBy w' v.ownBlock → wpList Tryz.prog ops Q rest (a.put o.dst (.slice (some ⟨g, 0, none⟩) (n + 1) cap)) w') : wpList Tryz.prog ops Q (o :: rest) a w := by
 obtain ⟨i0, hi0, hz0, hz1, hz2⟩ := info_parts info_Head
 refine wpList_append_lies _ hgd s x _ ho lo _ i0 (.agg #[.int .i64 0, .int .i64 0, .string ByteArray.empty, .int .i64 0, .string ByteArray.empty]) 5 56 Tryz.underlying28 hi0 hz0 hz1 hz2 rfl (by decide) v n xs hs h0.1 ⟨k, 0, none⟩ 1 1 (hds [x0]) hx (by rw [hds_len]; try rfl) (fun j u hu => by rw [Addr.add_lit, Nat.zero_add]; exact (hr.2.1 j).trans hu) (hds_one _) (by omega) (by unfold maxLen; omega) (by omega) hbase H hH ?_
 intro g cap w' h1 h2 h3 h4
 have hlo : lo ≤ g := (h1.lt g rfl).1
 refine h g cap w' hlo (h3.elim (fun e => .inl (h0.2 g e)) .inr) h4 ⟨?_, fun k hk => by have hk' : g = k := (by injection hk); show k < g + 1; omega⟩ h2
 refine ⟨h1.1, ?_⟩
 rcases h1.2 with ⟨e, _⟩ | ⟨g', cap', cur, e, h5, h6⟩
 ·cases e
 cases e; exact .inr ⟨g, cap, cur, rfl, Nat.le_refl _, h6⟩
theorem bW.pushE {w : World} {lo hi lo0 : Nat} {a : Bk} {m : Bm} (h : bW w lo hi a m.bl) (hh : hi ≤ w.heap.size) (h0 : lo0 ≤ lo) (ok : aB m.width m.es m.rs m.hs) {x : Ent} {E' : Option Addr} {c' : Nat} (hn : aB m.width (m.es ++ [x]) m.rs m.hs)
  (hE : Rd w lo0 hi E' (aR (m.es ++ [x]))) (hc : m.es.length + 1 ≤ c') (he : E' = none → c' = 0) : aG w lo0 hi { a with E := E', ce := c' } { m with es := m.es ++ [x] } := by
 obtain ⟨q1, q2, q3⟩ := h.r.own hh
 obtain ⟨r1, r2, r3⟩ := h.h.own hh
 obtain ⟨_, s2, s3⟩ := h.a1.own hh
 obtain ⟨_, t2, t3⟩ := h.a2.own hh
 refine ⟨hn, hE, q3.rd.mono h0 (Nat.le_refl _) hh, r3.rd.mono h0 (Nat.le_refl _) hh, ?_, t3.rd.mono h0 (Nat.le_refl _) hh, by show (m.es ++ [x]).length ≤ c'; rw [List.length_append]; exact hc, q1, r1, he, q2, r2, s2, t2⟩
 show Rd w lo0 hi a.A1 (strs (pk1 m.width (m.es ++ [x]) m.hs))
 rw [pk1_more ok]
 exact s3.rd.mono h0 (Nat.le_refl _) hh
end
end Go.Proofs.YtoccjgcokffkbaaGreat
