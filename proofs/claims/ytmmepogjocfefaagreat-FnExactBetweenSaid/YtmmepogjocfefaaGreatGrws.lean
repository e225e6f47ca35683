/- Ranges that grow: the plain law, and the rows in memory. Ranges that grow by many leaves. GrowAll, Grow and RangeOf of the program. GrowAll, Grow and RangeOf of the reference. -/
import Derived.Test.YtmmepogjocfefaaGreatPks
import Derived.Test.YtmmepogjocfefaaGreatHsh
import Derived.Deep.AppendLies
import Derived.Test.YtmmepogjocfefaaGreatClone
namespace Go.Proofs.YtmmepogjocfefaaGreat
set_option linter.unusedVariables false
set_option linter.unusedSimpArgs false
open Go.RowKit

/-- how many trees are joined when a leaf is added to so many -/
def tzF : Nat → Nat → Nat
 | 0, _ => 0
 | f + 1, n => if n % 2 = 1 then tzF f (n / 2) + 1 else 0
def tz (n : Nat) : Nat := tzF 10 n
theorem tz_pop : ∀ n : Nat, n < 512 → popN n + 1 = popN (n + 1) + tz n ∧ 1 ≤ popN (n + 1) := by decide +kernel
theorem tz_le (n : Nat) : tz n ≤ 10 := by
 have : ∀ f n, tzF f n ≤ f := by
  intro f
  induction f with
  | zero => intro n; exact Nat.le_refl _
  | succ f ih => intro n; rw [tzF]; split
                 ·have := ih (n / 2); omega
                 ·exact Nat.zero_le _
 exact this 10 n
theorem tzF_odd {f s : Nat} (hs : s < 2 ^ f) (h : s % 2 = 1) : ∃ g, f = g + 1 ∧ s / 2 < 2 ^ g ∧ tzF f s = tzF g (s / 2) + 1 := by
 cases f with
 | zero => rw [Nat.pow_zero] at hs; omega
 | succ g =>
   refine ⟨g, rfl, ?_, by rw [tzF, if_pos h]⟩
   rw [Nat.pow_succ] at hs; omega
theorem tzF_even {f s : Nat} (h : ¬ s % 2 = 1) : tzF f s = 0 := by
 cases f with
 | zero => rfl
 | succ g => rw [tzF, if_neg h]
/-- the last two joined -/
def merge1 (width : Int) (l : List ByteArray) : List ByteArray := l.take (l.length - 2) ++ [nodeT width (l.getD (l.length - 2) ByteArray.empty) (l.getD (l.length - 1) ByteArray.empty)]
def mergeK (width : Int) (l : List ByteArray) : Nat → List ByteArray
 | 0 => l
 | j + 1 => merge1 width (mergeK width l j)
theorem merge1_len {width : Int} {l : List ByteArray} (h : 2 ≤ l.length) : (merge1 width l).length = l.length - 1 := by
 rw [merge1, List.length_append, List.length_take]; simp; omega
theorem mergeK_len {width : Int} {l : List ByteArray} : ∀ {j : Nat}, j < l.length → (mergeK width l j).length = l.length - j
 | 0, _ => rfl
 | j + 1, h => by
   have ih := mergeK_len (width := width) (l := l) (j := j) (by omega)
   rw [mergeK, merge1_len (by omega), ih]; omega
theorem areH_of {width : Int} {l : List ByteArray} (h : ∀ s ∈ l, (s.size : Int) = width) : areH width l = true := by
 rw [areH, List.all_eq_true]; intro s hs; exact decide_eq_true (h s hs)
theorem getD_mem {l : List ByteArray} {i : Nat} (h : i < l.length) : l.getD i ByteArray.empty ∈ l := by
 rw [List.getD_eq_getElem?_getD, List.getElem?_eq_getElem h]; exact List.getElem_mem h
theorem merge1_are {width : Int} {l : List ByteArray} (hw : inR width 1 32 = true) (h : areH width l = true) (h2 : 2 ≤ l.length) : areH width (merge1 width l) = true := by
 have hm := areH_mem h
 refine areH_of fun s hs => ?_
 rw [merge1, List.mem_append] at hs
 rcases hs with hs | hs
 ·exact hm s (List.mem_of_mem_take hs)
 ·rw [List.mem_singleton.1 hs]
  exact nodeT_size hw (hm _ (getD_mem (by omega))) (hm _ (getD_mem (by omega)))
theorem mergeK_are {width : Int} {l : List ByteArray} (hw : inR width 1 32 = true) (h : areH width l = true) : ∀ {j : Nat}, j < l.length → areH width (mergeK width l j) = true
 | 0, _ => h
 | j + 1, hj => by
   have hl := mergeK_len (width := width) (l := l) (j := j) (by omega)
   exact merge1_are hw (mergeK_are hw h (by omega)) (by omega)
def growOne (width : Int) (n : Nat) (l : List ByteArray) (leaf : ByteArray) : List ByteArray := mergeK width (l ++ [leaf]) (tz n)
theorem growOne_len {width : Int} {n : Nat} {l : List ByteArray} {leaf : ByteArray} (hn : n < 512) (hl : l.length = popN n) : (growOne width n l leaf).length = popN (n + 1) := by
 obtain ⟨h1, h2⟩ := tz_pop n hn
 rw [growOne, mergeK_len (by simp; omega)]
 simp; omega
theorem growOne_are {width : Int} {n : Nat} {l : List ByteArray} {leaf : ByteArray} (hw : inR width 1 32 = true) (hn : n < 512) (hl : l.length = popN n) (ha : areH width l = true) (hf : (leaf.size : Int) = width) : areH width (growOne width n l leaf) = true := by
 obtain ⟨h1, h2⟩ := tz_pop n hn
 refine mergeK_are hw (areH_of fun s hs => ?_) (by simp; omega)
 rw [List.mem_append] at hs
 rcases hs with hs | hs
 ·exact areH_mem ha s hs
 ·rw [List.mem_singleton.1 hs]; exact hf
def growUp (width : Int) (n : Nat) (l leaves : List ByteArray) : Nat → List ByteArray
 | 0 => l
 | k + 1 => growOne width (n + k) (growUp width n l leaves k) (leaves.getD k ByteArray.empty)
def callsUp (n : Nat) : Nat → Nat
 | 0 => 0
 | k + 1 => callsUp n k + tz (n + k)
theorem callsUp_le (n : Nat) : ∀ k, callsUp n k ≤ 10 * k
 | 0 => Nat.le_refl _
 | k + 1 => by have := callsUp_le n k; have := tz_le (n + k); rw [callsUp]; omega
theorem growUp_len {width : Int} {n : Nat} {l leaves : List ByteArray} (hl : l.length = popN n) : ∀ {k : Nat}, n + k ≤ 512 → (growUp width n l leaves k).length = popN (n + k)
 | 0, _ => hl
 | k + 1, h => growOne_len (by omega) (growUp_len hl (by omega))
theorem growUp_are {width : Int} {n : Nat} {l leaves : List ByteArray} (hw : inR width 1 32 = true) (hl : l.length = popN n) (ha : areH width l = true) (hv : areH width leaves = true) : ∀ {k : Nat}, n + k ≤ 512 → k ≤ leaves.length → areH width (growUp width n l leaves k) = true
 | 0, _, _ => ha
 | k + 1, h, hk => growOne_are hw (by omega) (growUp_len hl (by omega)) (growUp_are hw hl ha hv (by omega) (by omega)) (areH_mem hv _ (getD_mem (by omega)))

/-- the same row, seen shorter -/
theorem row_take {w : World} {base e g n cap : Nat} {xs : List Value} (h : w.ownsRow base e 1 (.slice (some ⟨g, 0, none⟩) n cap) n xs) {k : Nat} (hk : k ≤ n) : w.ownsRow base e 1 (.slice (some ⟨g, 0, none⟩) k cap) k (xs.take k) := by
 refine ⟨by rw [List.length_take, h.1]; omega, ?_⟩
 rcases h.2 with ⟨h1, _⟩ | ⟨g', cap', cur, h1, h2, h3, h4, h5, h6, h7⟩
 ·cases h1
 ·injection h1 with e1 _ e3
  cases e1
  subst e3
  refine .inr ⟨g, cap, cur, rfl, h2, h3, by omega, h5, h6, ?_⟩
  rw [← h7, List.take_take]
  congr 1
  omega
/-- a block whose cells are no strings -/
def Typed (w : World) (p : Nat) : Prop := ∃ cs T, w.heap[p]? = some (.cells cs T (0, 0)) ∧ T ≠ 9
theorem Typed.lt {w : World} {p : Nat} (h : Typed w p) : p < w.heap.size := by
 obtain ⟨cs, T, h1, _⟩ := h
 exact (Array.getElem?_eq_some_iff.1 h1).1
theorem Typed.frozen {w : World} {p : Nat} (h : Typed w p) (o : Nat) : w.frozen? ⟨p, o, none⟩ = false := by
 obtain ⟨cs, T, h1, _⟩ := h
 exact frozen_of_row w p o cs T h1
theorem Typed.keep {w w' : World} {p : Nat} (h : Typed w p) (hb : w'.heap[p]? = w.heap[p]?) : Typed w' p := by
 obtain ⟨cs, T, h1, h2⟩ := h
 exact ⟨cs, T, hb.trans h1, h2⟩
theorem Typed.below {w w' : World} {p : Nat} (h : Typed w p) (hb : Below w.heap.size w w') : Typed w' p := h.keep (hb.block p h.lt)
theorem Typed.set {w : World} {p : Nat} (h : Typed w p) (a : Addr) (v : Value) : Typed (w.setCell a v) p := by
 obtain ⟨cs, T, h1, h2⟩ := h
 by_cases ha : a.block = p
 ·subst ha
  refine ⟨if a.spot.isSome then cs else cs.setIfInBounds a.off v, T, ?_, h2⟩
  simp [World.setCell, Array.getElem?_modify, h1]
 ·refine ⟨cs, T, ?_, h2⟩
  simp [World.setCell, Array.getElem?_modify, ha, h1]
theorem Typed.not_row {w : World} {p base n : Nat} {v : Value} {xs : List Value} (h : Typed w p) (hr : w.ownsRow base 9 1 v n xs) : some p ≠ v.ownBlock := by
 obtain ⟨cs, T, h1, h2⟩ := h
 intro e
 rcases hr.2 with ⟨rfl, _⟩ | ⟨g, cap, cur, rfl, _, h3, _⟩
 ·cases e
 ·injection e with e
  have e' : p = g := e
  subst e'
  rw [h1] at h3
  injection h3 with h3
  injection h3 with _ h4
  exact h2 h4
/-- a range in memory: its size and its peaks at two cells of block p -/
structure RngAt (w : World) (base p o : Nat) (n : Int) (v : Value) (m : Nat) (l : List ByteArray) : Prop where
 typed : Typed w p
 c0 : w.cell? ⟨p, o, none⟩ = some (.int .i64 n)
 c1 : w.cell? ⟨p, o + 1, none⟩ = some v
 row : w.ownsRow base 9 1 v m (strs l)
/-- what a range that grows may turn: its two cells, its row -/
structure GrowRel (p o : Nat) (v v' : Value) (w w' : World) : Prop where
 os : w'.os = w.os
 tape : w'.tape = w.tape
 output : w'.output = w.output
 size : w.heap.size ≤ w'.heap.size
 block : ∀ k, k < w.heap.size → k ≠ p → some k ≠ v.ownBlock → w'.heap[k]? = w.heap[k]?
 cell : ∀ j, j ≠ o → j ≠ o + 1 → w'.cell? ⟨p, j, none⟩ = w.cell? ⟨p, j, none⟩
 own : ∀ k, v'.ownBlock = some k → v.ownBlock = some k ∨ w.heap.size ≤ k
theorem GrowRel.refl (p o : Nat) (v : Value) (w : World) : GrowRel p o v v w w := ⟨rfl, rfl, rfl, Nat.le_refl _, fun _ _ _ _ => rfl, fun _ _ _ => rfl, fun _ h => .inl h⟩
theorem GrowRel.trans {p o : Nat} {v1 v2 v3 : Value} {a b c : World} (h : GrowRel p o v1 v2 a b) (k : GrowRel p o v2 v3 b c) : GrowRel p o v1 v3 a c := by
 refine ⟨k.os.trans h.os, k.tape.trans h.tape, k.output.trans h.output, Nat.le_trans h.size k.size, fun i h1 h2 h3 => ?_, fun j h1 h2 => (k.cell j h1 h2).trans (h.cell j h1 h2), fun i hi => ?_⟩
 ·refine (k.block i (Nat.lt_of_lt_of_le h1 h.size) h2 (fun e => ?_)).trans (h.block i h1 h2 h3)
  rcases h.own i e.symm with h4 | h4
  ·exact h3 h4.symm
  ·omega
 ·rcases k.own i hi with h4 | h4
  ·exact h.own i h4
  ·exact .inr (Nat.le_trans h.size h4)
theorem GrowRel.of_below {p o : Nat} {v : Value} {w w' : World} (h : Below w.heap.size w w') (hp : p < w.heap.size) : GrowRel p o v v w w' :=
 ⟨h.os, h.tape, h.output, h.size, fun k hk _ _ => h.block k hk, fun j _ _ => h.cell (p := ⟨p, j, none⟩) hp, fun _ h => .inl h⟩
theorem GrowRel.toBelow {p o B base : Nat} {v v' : Value} {w w' : World} {m : Nat} {xs : List Value} (h : GrowRel p o v v' w w') (hr : w.ownsRow base 9 1 v m xs) (hp : B ≤ p) (hb : B ≤ base) (hs : B ≤ w.heap.size) : Below B w w' :=
 ⟨h.os, h.tape, h.output, h.size, fun k hk => h.block k (by omega) (by omega) (fun e => by have := (hr.lt k e.symm).1; omega)⟩
theorem RngAt.below {w w' : World} {base p o : Nat} {n : Int} {v : Value} {m : Nat} {l : List ByteArray} (h : RngAt w base p o n v m l) (hb : Below w.heap.size w w') : RngAt w' base p o n v m l :=
 ⟨h.typed.below hb, (hb.cell (p := ⟨p, o, none⟩) h.typed.lt).trans h.c0, (hb.cell (p := ⟨p, o + 1, none⟩) h.typed.lt).trans h.c1, row_below h.row hb⟩
/-- a string is put behind the row, and the row's header is stored -/
theorem rng_push {w w0 w1 : World} {base p o g cap m m0 : Nat} {n : Int} {v v0 : Value} {l0 l' : List ByteArray} (h : RngAt w base p o n v m0 l0) (hw0 : Below w.heap.size w w0)
  (hv : v0.ownBlock = v.ownBlock) (hr : w1.ownsRow base 9 1 (.slice (some ⟨g, 0, none⟩) m cap) m (strs l')) (hg : w0.grownBy w1 v0.ownBlock) (hat : v0.ownBlock = some g ∨ g = w0.heap.size) :
  RngAt (w1.setCell ⟨p, o + 1, none⟩ (.slice (some ⟨g, 0, none⟩) m cap)) base p o n (.slice (some ⟨g, 0, none⟩) m cap) m l' ∧ GrowRel p o v (.slice (some ⟨g, 0, none⟩) m cap) w (w1.setCell ⟨p, o + 1, none⟩ (.slice (some ⟨g, 0, none⟩) m cap)) := by
 have hp := h.typed.lt
 have hne := h.typed.not_row h.row
 have hb1 : ∀ k, k < w.heap.size → some k ≠ v.ownBlock → w1.heap[k]? = w.heap[k]? := fun k hk hn => (hg.block k (Nat.lt_of_lt_of_le hk hw0.size) (by rw [hv]; exact hn)).trans (hw0.block k hk)
 have ht1 : Typed w1 p := h.typed.keep (hb1 p hp hne)
 have hc : ∀ j, w1.cell? ⟨p, j, none⟩ = w.cell? ⟨p, j, none⟩ := fun j => World.cell?_of_block (hb1 p hp hne)
 have hgp : g ≠ p := fun e => ht1.not_row hr (by subst e; rfl)
 have hs1 : w.heap.size ≤ w1.heap.size := Nat.le_trans hw0.size hg.size
 refine ⟨⟨ht1.set _ _, ?_, ?_, ?_⟩, ⟨hg.os.trans hw0.os, hg.tape.trans hw0.tape, hg.output.trans hw0.output, by simpa [World.setCell] using hs1, fun k hk h1 h2 => ?_, fun j h1 h2 => ?_, fun k hk => ?_⟩⟩
 ·rw [World.cell?_setCell_other _ _ _ _ (by simp only [ne_eq, Addr.mk.injEq, and_true, true_and]; omega), hc, h.c0]
 ·exact World.cell?_setCell_same _ _ _ ((hc _).trans h.c1)
 ·refine hr.kept (row := some p) ⟨rfl, rfl, rfl, by simp [World.setCell], fun k hk hn => Below.heap_setCell _ _ _ _ (fun e => hn (congrArg some e))⟩ (.inr ?_)
  show some g ≠ some p
  intro e
  injection e with e
  exact hgp e
 ·rw [Below.heap_setCell _ _ _ _ (fun e => h1 e), hb1 k hk h2]
 ·rw [World.cell?_setCell_other _ _ _ _ (by simp only [ne_eq, Addr.mk.injEq, and_true, true_and]; omega), hc]
 ·have hk' : g = k := by injection hk
  subst hk'
  rcases hat with e | e
  ·exact .inl (by rw [← hv]; exact e)
  ·exact .inr (by rw [e]; exact hw0.size)
theorem rng_mid {w w0 w1 : World} {base p o m0 : Nat} {n : Int} {v v0 : Value} {l0 : List ByteArray} (h : RngAt w base p o n v m0 l0) (hw0 : Below w.heap.size w w0) (hv : v0.ownBlock = v.ownBlock) (hg : w0.grownBy w1 v0.ownBlock) :
  (∀ j, w1.cell? ⟨p, j, none⟩ = w.cell? ⟨p, j, none⟩) ∧ (∀ j, w1.frozen? ⟨p, j, none⟩ = false) ∧ p < w1.heap.size ∧ w.heap.size ≤ w1.heap.size := by
 have hp := h.typed.lt
 have hne := h.typed.not_row h.row
 have hb1 : w1.heap[p]? = w.heap[p]? := (hg.block p (Nat.lt_of_lt_of_le hp hw0.size) (by rw [hv]; exact hne)).trans (hw0.block p hp)
 have hs1 : w.heap.size ≤ w1.heap.size := Nat.le_trans hw0.size hg.size
 exact ⟨fun j => World.cell?_of_block hb1, fun j => (h.typed.keep hb1).frozen j, by omega, hs1⟩
/-- the size is stored -/
theorem rng_size {w : World} {base p o m : Nat} {n : Int} {v : Value} {l : List ByteArray} (h : RngAt w base p o n v m l) (n' : Int) :
  RngAt (w.setCell ⟨p, o, none⟩ (.int .i64 n')) base p o n' v m l ∧ GrowRel p o v v w (w.setCell ⟨p, o, none⟩ (.int .i64 n')) := by
 have hp := h.typed.lt
 have hne := h.typed.not_row h.row
 refine ⟨⟨h.typed.set _ _, World.cell?_setCell_same _ _ _ h.c0, ?_, ?_⟩, ⟨rfl, rfl, rfl, by simp [World.setCell], fun k hk h1 h2 => Below.heap_setCell _ _ _ _ (fun e => h1 e), fun j h1 h2 => World.cell?_setCell_other _ _ _ _ (by simp only [ne_eq, Addr.mk.injEq, and_true, true_and]; omega), fun k hk => .inl hk⟩⟩
 ·rw [World.cell?_setCell_other _ _ _ _ (by simp only [ne_eq, Addr.mk.injEq, and_true, true_and]; omega), h.c1]
 ·exact h.row.kept (row := some p) ⟨rfl, rfl, rfl, by simp [World.setCell], fun k hk hn => Below.heap_setCell _ _ _ _ (fun e => hn (congrArg some e))⟩ (.inr (fun e => hne e.symm))

set_option maxRecDepth 100000 in
set_option maxHeartbeats 4000000 in
theorem grow_c (width : Int) (n p o base c : Nat) (A : Option Addr) (l : List ByteArray) (leaf : ByteArray) (w : World) (hw : inR width 1 32 = true) (hn : n < 512) (hl : l.length = popN n) (ha : areH width l = true) (hf : (leaf.size : Int) = width)
  (hbase : base ≤ w.heap.size) (hR : RngAt w base p o n (.slice A (popN n) c) (popN n) l) :
  Calls Tryz.prog 209 #[.pointer (some ⟨p, o, none⟩), .int .i64 width, .string leaf] w fun e w' => ∃ A' c', e = .returned (.int .i64 (tz n : Nat)) ∧ RngAt w' base p o ((n + 1 : Nat) : Int) (.slice A' (popN (n + 1)) c') (popN (n + 1)) (growOne width n l leaf) ∧
   GrowRel p o (.slice A (popN n) c) (.slice A' (popN (n + 1)) c') w w' := by
 obtain ⟨hpop, hpop1⟩ := tz_pop n hn
 obtain ⟨m, hm⟩ : ∃ m, m = popN n := ⟨_, rfl⟩
 have hm10 : m ≤ 10 := by rw [hm]; exact popUp_le n 10
 obtain ⟨i0, hi0, hz0, hz1, hz2⟩ := info_parts info_string
 have HI := Lib.hid (And.intro hi0 (And.intro hz0 (And.intro hz1 hz2)))
 have hw2 := inR_true.1 hw
 have hL : (l ++ [leaf]).length = m + 1 := by simp [hl, hm]
 have hLA : areH width (l ++ [leaf]) = true := areH_of fun s hs => by
  rw [List.mem_append] at hs
  rcases hs with hs | hs
  ·exact areH_mem ha s hs
  ·rw [List.mem_singleton.1 hs]; exact hf
 have HFIN : Hid (growOne width n l leaf = mergeK width (l ++ [leaf]) (tz n)) := Lib.hid rfl
 have HSA : Hid (strs (l ++ [leaf]) = strs l ++ [.string leaf]) := Lib.hid (by simp [strs])
 rw [← hm] at hpop hR
 rw [← hm]
 have HW := Lib.hid hw
 have HR := Lib.hid hR
 have HLL := Lib.hid hL
 have HLA := Lib.hid hLA
 have HPOP := Lib.hid hpop
 have HPOP1 := Lib.hid hpop1
 have htz := tz_le n
 have hc0 := hR.c0
 have hc1 := hR.c1
 have hpl := hR.typed.lt
 clear hl ha hf hm hR hL hLA hi0 hz0 hz1 hz2 hw hpop hpop1
 generalize growOne width n l leaf = fin at *
 generalize l ++ [leaf] = L at *
 have HT : Hid (tz n = tzF 10 n) := Lib.hid rfl
 generalize tz n = t at *
 generalize popN (n + 1) = m1 at *
 go_enter Tryz.func209, Tryz.ntmps209
 go_wp2_with (at_builtin; refine stop_here ?_)
 intro _
 refine wpList_append_lies _ rfl _ _ 27 rfl base 9 i0 _ 1 16 Tryz.underlying27 HI.out.1 HI.out.2.1 HI.out.2.2.1 HI.out.2.2.2 rfl (by omega) (.slice A m c) m (strs l) rfl (HR.out.row.alloc _) ⟨w.heap.size, 0, none⟩ 1 1 [.string leaf] rfl rfl (World.news_of_block (cs := #[.string leaf]) (t := 9) (fr := (0, 0)) (heap_alloc_new w _)) (by simp [Value.oneCell']) (by omega) (by unfold maxLen; omega) (by omega) (by simp; omega) (w.heap.size + 1) (by simp) ?_
 intro g1 cap1 w1 hown1 hg1 hat1 hlt1
 rw [← HSA.out] at hown1
 have hb0 : Below w.heap.size w (w.alloc (.cells #[.string leaf] 9)) := (Below.refl _ _).alloc (Nat.le_refl _) _
 obtain ⟨hmc, hmf, hmp, hms⟩ := rng_mid HR.out hb0 rfl hg1
 have HP1 := Lib.hid (rng_push HR.out hb0 rfl hown1 hg1 (by simpa using hat1))
 have hd1 := (hmc (o + 1)).trans hc1
 have hd0 := (hmc o).trans hc0
 have hfr := hmf (o + 1)
 clear hown1 hg1 hat1 hlt1 hb0 hmc hmf hc0 hc1
 go_wp2
 go_loopw [7, 8] (fun md sz wx => ∃ (j s f g cap q : Nat), md = .int .i64 j ∧ sz = .int .i64 s ∧ s < 2 ^ f ∧ s < 512 ∧ t = j + tzF f s ∧ q + j = m + 1 ∧ RngAt wx base p o n (.slice (some ⟨g, 0, none⟩) q cap) q (mergeK width L j) ∧ GrowRel p o (.slice A m c) (.slice (some ⟨g, 0, none⟩) q cap) w wx) (fun _ sz _ => (intOf sz).toNat)
 case atStart => exact ⟨0, n, 10, g1, cap1, m + 1, rfl, rfl, by omega, hn, by rw [Nat.zero_add]; exact HT.out, by omega, HP1.out.1, HP1.out.2⟩
 case round =>
  clear hd1 hd0 hfr HP1
  obtain ⟨j, s, f, g, cap, q, rfl, rfl, hs2, hs5, htj, hq, hR, hG⟩ := hrel
  have HR2 := Lib.hid hR
  have HG := Lib.hid hG
  have hc0 := hR.c0
  have hc1 := hR.c1
  have hpr := hR.typed.lt
  have hrow := hR.row
  have hfr := hR.typed.frozen
  have hsz := hG.size
  by_cases hodd : s % 2 = 1
  ·obtain ⟨f2, hf2, hs3, htz2⟩ := tzF_odd hs2 hodd
   have hp := HPOP.out
   have hp1 := HPOP1.out
   obtain ⟨q0, hq0⟩ : ∃ q0, q = q0 + 2 := ⟨q - 2, by omega⟩
   obtain ⟨q1, hq1⟩ : ∃ q1, q1 = q0 + 1 := ⟨_, rfl⟩
   have hjl : j < L.length := by rw [HLL.out]; omega
   have hlen := mergeK_len (width := width) hjl
   have hare := mergeK_are HW.out HLA.out hjl
   have HMK : Hid (mergeK width L (j + 1) = merge1 width (mergeK width L j)) := Lib.hid rfl
   rw [HLL.out] at hlen
   generalize mergeK width L j = M at *
   have hMl : M.length = q := by omega
   have hM1 : merge1 width M = M.take q0 ++ [nodeT width (M.getD q0 ByteArray.empty) (M.getD q1 ByteArray.empty)] := by
    rw [merge1, hMl, show q - 2 = q0 by omega, show q - 1 = q1 by omega]
   have ha0 := areH_mem hare _ (getD_mem (show q0 < M.length by omega))
   have ha1 := areH_mem hare _ (getD_mem (show q1 < M.length by omega))
   have hx0 := hrow.cellAt q0 (by omega)
   have hx1 := hrow.cellAt q1 (by omega)
   have hsg : ∀ i, i < M.length → (strs M)[i]? = some (.string (M.getD i ByteArray.empty)) := fun i hi => strs_get (by rw [List.getD_eq_getElem?_getD, List.getElem?_eq_getElem hi]; rfl)
   rw [hsg q0 (by omega)] at hx0
   rw [hsg q1 (by omega)] at hx1
   have hstk : strs (M.take q0) = (strs M).take q0 := by simp [strs]
   have HSTK := Lib.hid hstk
   have HM1 := Lib.hid hM1
   have HML := Lib.hid hMl
   generalize M.getD q0 ByteArray.empty = a0 at *
   generalize M.getD q1 ByteArray.empty = a1 at *
   have HND := Lib.hid (fun W => node_c width a0 a1 W (by omega) (by omega))
   generalize nodeT width a0 a1 = nd at *
   have hgb : g < wr.heap.size := (hrow.lt g rfl).2
   have l0 : ∀ v : Later wr, v.v.cell? ⟨p, o + 1, none⟩ = some (.slice (some ⟨g, 0, none⟩) q cap) := fun v => (later_cell v _ _ hpr).trans hc1
   have l1 : ∀ v : Later wr, v.v.cell? ⟨g, q0, none⟩ = some (.string a0) := fun v => (later_cell v _ _ hgb).trans hx0
   have l2 : ∀ v : Later wr, v.v.cell? ⟨g, q1, none⟩ = some (.string a1) := fun v => (later_cell v _ _ hgb).trans hx1
   have E1 : IntKind.i64.wrap ((q : Int) - 2) = q0 := by rw [IntKind.wrap_i64]; omega
   have E2 : IntKind.i64.wrap ((q : Int) - 1) = q1 := by rw [IntKind.wrap_i64]; omega
   have E3 : (q : Int) - 2 = q0 := by omega
   have E4 : (q : Int) - 1 = q1 := by omega
   have E5 : (q0 : Int) < q := by omega
   have E6 : (q1 : Int) < q := by omega
   have E7 : (s : Int).tmod 2 = 1 := by rw [Int.tmod_eq_emod_of_nonneg (by omega)]; omega
   have E8 : (s : Int).tdiv 2 = (s / 2 : Nat) := by rw [Int.tdiv_eq_ediv_of_nonneg (by omega)]; omega
   have hs9 : ((s / 2 : Nat) : Int) ≤ 512 := by omega
   have hq12 : (q : Int) ≤ 11 := by omega
   have hjb : (j : Int) ≤ 11 := by omega
   have HMEAS : Hid (s / 2 < s) := Lib.hid (by omega)
   have HQ := Lib.hid (And.intro hq (And.intro hq0 hq1))
   have HTJ := Lib.hid (And.intro htj (And.intro htz2 hs3))
   clear hR hG hrow hx0 hx1 hsg hstk hM1 hMl ha0 ha1 hare hlen hjl hq hq0 hq1 htj htz2 hs3 hf2 hs2 hp hp1 hodd
   generalize (s / 2 : Nat) = s2 at *
   go_wp2
   refine wp_region_later (by kernel_rfl) (by kernel_rfl) ?_
   repeat (go_big_quiet_step ((with_reducible exact later_call (HND.out _))))
   refine wpQuiet_nil ?_
   intro w5 h5
   have hb5 := later_below h5
   have HR5 := Lib.hid (HR2.out.below hb5)
   have HG5 := Lib.hid (HG.out.trans (GrowRel.of_below hb5 hpr))
   have hd1 := HR5.out.c1
   have hd0 := HR5.out.c0
   have hz5 := HG5.out.size
   clear l0 l1 l2 h5 hb5 hc0 hc1 HR2 HG
   have HRT := Lib.hid (row_take HR5.out.row (show q0 ≤ q by omega))
   have hE9 : (q0 : Int) ≤ (cap : Int) := by
    rcases HR5.out.row.2 with ⟨e, _⟩ | ⟨_, _, _, e, _, _, h9, _⟩
    ·cases e
    ·cases e; omega
   have HSN : Hid ((strs M).take q0 ++ [.string nd] = strs (merge1 width M)) := Lib.hid (by rw [HM1.out, strs_app, HSTK.out]; rfl)
   go_wp2_with (at_builtin; refine wpList_append_lies _ rfl _ _ 27 rfl base 9 i0 _ 1 16 Tryz.underlying27 HI.out.1 HI.out.2.1 HI.out.2.2.1 HI.out.2.2.2 rfl (by omega) (.slice (some ⟨g, 0, none⟩) q0 cap) q0 ((strs M).take q0) rfl (HRT.out.alloc _) ⟨w5.heap.size, 0, none⟩ 1 1 [.string nd] rfl rfl (World.news_of_block (cs := #[.string nd]) (t := 9) (fr := (0, 0)) (heap_alloc_new w5 _)) (by simp [Value.oneCell']) (by omega) (by unfold maxLen; omega) (by omega) (by simp; omega) (w5.heap.size + 1) (by simp) ?_)
   intro g6 cap6 w6 hown6 hg6 hat6 hlt6
   rw [HSN.out] at hown6
   have hb6 : Below w5.heap.size w5 (w5.alloc (.cells #[.string nd] 9)) := (Below.refl _ _).alloc (Nat.le_refl _) _
   obtain ⟨hmc, hmf, hmp, hms⟩ := rng_mid HR5.out hb6 (v0 := .slice (some ⟨g, 0, none⟩) q0 cap) rfl hg6
   have HP6 := Lib.hid (rng_push HR5.out hb6 (v0 := .slice (some ⟨g, 0, none⟩) q0 cap) rfl hown6 hg6 (by simpa using hat6))
   have he1 := (hmc (o + 1)).trans hd1
   have hef := hmf (o + 1)
   clear hown6 hg6 hat6 hlt6 hb6 hmc hmf hd0 hd1 HRT HR5 E1 E2 E3 E4 E5 E6 E7
   go_wp2
   go_roundw
   case rel =>
    obtain ⟨k1, k2, k3⟩ := HTJ.out
    obtain ⟨k4, k5, k6⟩ := HQ.out
    refine ⟨j + 1, s2, f2, g6, cap6, q0 + 1, by go_num, rfl, k3, by have := HMEAS.out; omega, by omega, by omega, ?_, HG5.out.trans HP6.out.2⟩
    rw [HMK.out]
    exact HP6.out.1
   case measure => simp [intOf]; have := HMEAS.out; omega
  ·have htz0 := tzF_even (f := f) hodd
   have hjt : j = t := by omega
   have hqm : q = m1 := by have := HPOP.out; omega
   subst hjt
   subst hqm
   have HEND := Lib.hid (rng_size HR2.out ((n + 1 : Nat) : Int))
   have E7 : (s : Int).tmod 2 = 0 := by rw [Int.tmod_eq_emod_of_nonneg (by omega)]; omega
   have hn5 : (n : Int) < 512 := by omega
   have hfo := hfr o
   clear hR hG hrow hc1 hodd htz0 htj hq hs2
   go_wp2
   refine bodyPost_named (fun w9 hw => ?_)
   have hE : RngAt w9 base p o ((n + 1 : Nat) : Int) (.slice (some ⟨g, 0, none⟩) q cap) q (mergeK width L j) ∧ GrowRel p o (.slice (some ⟨g, 0, none⟩) q cap) (.slice (some ⟨g, 0, none⟩) q cap) wr w9 := by
    rw [hw]; exact HEND.out
   have HE := Lib.hid hE
   clear hE hw HEND
   go_ret
   exact ⟨_, _, rfl, by rw [HFIN.out]; exact HE.out.1, HG.out.trans HE.out.2⟩
end Go.Proofs.YtmmepogjocfefaaGreat
namespace Go.Proofs.YtmmepogjocfefaaGreat
set_option linter.unusedVariables false
set_option linter.unusedSimpArgs false
open Go.RowKit

theorem Rd.lowB {w w' : World} {lo hi B : Nat} {A : Option Addr} {xs : List Value} (h : Rd w lo hi A xs) (hb : Below B w w') (hh : hi ≤ B) : Rd w' lo hi A xs := h.keep hb.size (fun k _ hk => hb.block k (by omega))
theorem row_mono {w : World} {b b' : Nat} {e : TypeId} {size n : Nat} {v : Value} {xs : List Value} (h : w.ownsRow b e size v n xs) (hb : b' ≤ b) : w.ownsRow b' e size v n xs := by
 refine ⟨h.1, ?_⟩
 rcases h.2 with h1 | ⟨g, cap, cur, h1, h2, h3⟩
 ·exact .inl h1
 ·exact .inr ⟨g, cap, cur, h1, Nat.le_trans hb h2, h3⟩
theorem row_set {w : World} {b : Nat} {e : TypeId} {size n : Nat} {v : Value} {xs : List Value} (h : w.ownsRow b e size v n xs) {p : Addr} (hp : p.block < b) (u : Value) : (w.setCell p u).ownsRow b e size v n xs :=
 h.kept (row := some p.block) ⟨rfl, rfl, rfl, by simp [World.setCell], fun k hk hn => Below.heap_setCell _ _ _ _ (fun e => hn (congrArg some e))⟩ (.inr (fun e => by have := (h.lt p.block e).1; omega))
set_option maxRecDepth 100000 in
set_option maxHeartbeats 4000000 in
theorem growAll_c (width : Int) (n p o base c B0 : Nat) (A : Option Addr) (l : List ByteArray) (X : Option Addr) (g k0 : Nat) (leaves : List ByteArray) (w : World) (hw : inR width 1 32 = true) (hl : l.length = popN n) (ha : areH width l = true)
  (hk : leaves.length = k0) (hv : areH width leaves = true) (hn : n + k0 ≤ 512) (hbase : base ≤ w.heap.size) (hB1 : B0 ≤ p) (hB2 : B0 ≤ base) (hX : Rd w 0 B0 X (strs leaves)) (hR : RngAt w base p o n (.slice A (popN n) c) (popN n) l) :
  Calls Tryz.prog 193 #[.pointer (some ⟨p, o, none⟩), .int .i64 width, .slice X k0 g] w fun e w' => ∃ A' c', e = .returned (.int .i64 (callsUp n k0 : Nat)) ∧ RngAt w' base p o ((n + k0 : Nat) : Int) (.slice A' (popN (n + k0)) c') (popN (n + k0)) (growUp width n l leaves k0) ∧
   GrowRel p o (.slice A (popN n) c) (.slice A' (popN (n + k0)) c') w w' := by
 have HW := Lib.hid hw
 have HL := Lib.hid hl
 have HA := Lib.hid ha
 have HK := Lib.hid hk
 have HV := Lib.hid hv
 have HX := Lib.hid hX
 have HR := Lib.hid hR
 clear hw hl ha hk hv hX hR
 go_enter Tryz.func193, Tryz.ntmps193
 go_wp2
 go_loopw [7, 12] (fun md i wx => ∃ (k : Nat) (A' : Option Addr) (c' : Nat), k ≤ k0 ∧ i = .int .i64 k ∧ md = .int .i64 (callsUp n k : Nat) ∧ RngAt wx base p o ((n + k : Nat) : Int) (.slice A' (popN (n + k)) c') (popN (n + k)) (growUp width n l leaves k) ∧ GrowRel p o (.slice A (popN n) c) (.slice A' (popN (n + k)) c') w wx) (fun _ i _ => k0 - (intOf i).toNat)
 case atStart => exact ⟨0, A, c, Nat.zero_le _, rfl, rfl, HR.out, GrowRel.refl _ _ _ _⟩
 case round =>
  obtain ⟨k, A1, c1, hk, rfl, rfl, hR1, hG1⟩ := hrel
  have HR1 := Lib.hid hR1
  have HG1 := Lib.hid hG1
  have hsz := hG1.size
  have hbel := hG1.toBelow HR.out.row hB1 hB2 (by omega)
  by_cases hlt : k < k0
  ·obtain ⟨b, off, s, rfl, hb, hks, hc⟩ := (HX.out.lowB hbel (Nat.le_refl _)).str (k := k) (by rw [HK.out]; exact hlt)
   have hsd : leaves.getD k ByteArray.empty = s := by rw [List.getD_eq_getElem?_getD, hks]; rfl
   have hss : (s.size : Int) = width := areH_mem HV.out s (List.mem_of_getElem? hks)
   have HGU : Hid (growUp width n l leaves (k + 1) = growOne width (n + k) (growUp width n l leaves k) s) := Lib.hid (by rw [growUp, hsd])
   have HCU : Hid (callsUp n (k + 1) = callsUp n k + tz (n + k)) := Lib.hid rfl
   have hgl := growUp_len (width := width) (leaves := leaves) HL.out (k := k) (by omega)
   have hga := growUp_are HW.out HL.out HA.out HV.out (k := k) (by omega) (by rw [HK.out]; omega)
   have hI : (k : Int) < k0 := by omega
   have hcl := callsUp_le n k
   have htl := tz_le (n + k)
   have HGR := Lib.hid (fun (W : World) (h : base ≤ W.heap.size) h2 => grow_c width (n + k) p o base c1 A1 (growUp width n l leaves k) s W HW.out (by omega) hgl hga hss h h2)
   have hcb : (callsUp n k : Int) ≤ 10000 := by omega
   have htb : (tz (n + k) : Int) ≤ 10 := by omega
   have hadd : n + (k + 1) = n + k + 1 := by omega
   have HADD := Lib.hid hadd
   clear hks hsd hss hgl hga hR1 hG1 hbel hadd
   generalize growUp width n l leaves k = gu at *
   generalize callsUp n k = cu at *
   generalize tz (n + k) = tk at *
   go_wp2_with fail
   refine (HGR.out _ (by omega) HR1.out).mono ?_
   rintro e w5 ⟨A5, c5, rfl, hR5, hG5⟩
   have HR5 := Lib.hid hR5
   have HG5 := Lib.hid (HG1.out.trans hG5)
   clear hR5 hG5 HR1 HG1 HGR
   go_wp2
   go_roundw
   case rel => exact ⟨k + 1, A5, c5, by omega, by go_num, by rw [HCU.out]; go_num, by rw [HADD.out, HGU.out]; exact HR5.out, by rw [HADD.out]; exact HG5.out⟩
   case measure => simp [intOf]; omega
  ·obtain rfl : k = k0 := by omega
   clear hR1 hG1 hbel
   go_wp2
   go_ret
   exact ⟨A1, c1, rfl, HR1.out, HG1.out⟩
end Go.Proofs.YtmmepogjocfefaaGreat


namespace Go.Proofs.YtmmepogjocfefaaGreat
set_option linter.unusedVariables false
set_option linter.unusedSimpArgs false
open Go.RowKit

def growOk (width z : Int) (l leaves : List ByteArray) : Bool := rngOk width z l && areH width leaves && decide ((leaves.length : Int) ≤ 512 - z)
def gSize (width z : Int) (l leaves : List ByteArray) : Int := if growOk width z l leaves then z + leaves.length else 0
def gPeaks (width z : Int) (l leaves : List ByteArray) : List ByteArray := if growOk width z l leaves then growUp width z.toNat l leaves leaves.length else []
def gCalls (width z : Int) (l leaves : List ByteArray) : Int := if growOk width z l leaves then (callsUp z.toNat leaves.length : Nat) else 0
theorem rngOk_all {width z : Int} {l : List ByteArray} (h : rngOk width z l = true) : 0 ≤ z ∧ z ≤ 512 ∧ l.length = popC z ∧ areH width l = true ∧ inR width 1 32 = true := by
 rw [rngOk, Bool.and_eq_true, Bool.and_eq_true, Bool.and_eq_true] at h
 have h1 := inR_true.1 h.1.1
 exact ⟨h1.1, h1.2, of_decide_eq_true h.1.2, h.2.1, h.2.2⟩
theorem popC_nat {n : Nat} (h : n ≤ 512) : popC n = popN n := by
 rw [popC, if_pos (inR_true.2 ⟨by omega, by omega⟩), Int.toNat_natCast]
theorem GrowRel.only {p o base m : Nat} {v v' : Value} {w w' : World} {xs : List Value} (h : GrowRel p o v v' w w') (hr : w.ownsRow base 9 1 v m xs) (hp : base ≤ p) : Only base w.heap.size w w' :=
 ⟨h.os, h.tape, h.output, h.size, fun k hk hd => h.block k hk (by omega) (fun e => by have := (hr.lt k e.symm).1; omega)⟩
theorem rng_new {w : World} {base m : Nat} {n : Int} {v : Value} {l : List ByteArray} (T : TypeId) (hT : T ≠ 9) (h : w.ownsRow base 9 1 v m (strs l)) : RngAt (w.alloc (.cells #[.int .i64 n, v] T)) base w.heap.size 0 n v m l := by
 have hx := NewBox.new w #[.int .i64 n, v] T
 exact ⟨⟨_, T, heap_alloc_new w _, hT⟩, hx.cell (o := 0) rfl, hx.cell (o := 1) rfl, h.alloc _⟩

end Go.Proofs.YtmmepogjocfefaaGreat

namespace Go.Proofs.YtmmepogjocfefaaGreat
set_option linter.unusedVariables false
set_option linter.unusedSimpArgs false
open Go.RowKit

structure GAt (w : World) (z : Int) (A : Option Addr) (m c : Nat) (wx : World) : Prop where
 below : Below w.heap.size w wx
 r : NewBox wx w.heap.size [.int .i64 z, .slice A m c]
 q : NewBox wx (w.heap.size + 1) [.int .i64 0, .slice none 0 0]
theorem GAt.next {w : World} {z : Int} {A : Option Addr} {m c : Nat} {wx wy : World} (h : GAt w z A m c wx) (hb : Below wx.heap.size wx wy) : GAt w z A m c wy := ⟨below_then h.below hb h.below.size, h.r.below hb, h.q.below hb⟩
theorem GAt.only {w : World} {z : Int} {A : Option Addr} {m c hi : Nat} {wx wy : World} (h : GAt w z A m c wx) (ho : Only (w.heap.size + 2) hi wx wy) : GAt w z A m c wy := ⟨below_only h.below ho (by omega) h.below.size, h.r.only ho (.inl (by omega)), h.q.only ho (.inl (by omega))⟩

def lenOfV : Value → Nat
 | .slice _ n _ => n
 | _ => 0
set_option maxRecDepth 100000 in
set_option maxHeartbeats 4000000 in
theorem specGrowAll_c (width z : Int) (A : Option Addr) (c lo hi m : Nat) (l : List ByteArray) (X : Option Addr) (g lo' hi' k0 : Nat) (leaves : List ByteArray) (w : World) (hr : Rd w lo hi A (strs l)) (hn : l.length = m) (hl : m ≤ 1048576) (hA : A = none → c = 0)
  (hX : Rd w lo' hi' X (strs leaves)) (hk : leaves.length = k0) (hkl : k0 ≤ 1048576) (hz : I64 z) :
  Calls Tryz.prog 114 #[.int .i64 width, .agg #[.int .i64 z, .slice A m c], .slice X k0 g] w fun e w' => ∃ A' c', e = .returned (.tuple #[.agg #[.int .i64 (gSize width z l leaves), .slice A' (gPeaks width z l leaves).length c'], .int .i64 (gCalls width z l leaves), .bool (growOk width z l leaves)]) ∧
   Own w' w.heap.size w'.heap.size A' (strs (gPeaks width z l leaves)) ∧ Below w.heap.size w w' := by
 have HDEF : Hid (growOk width z l leaves = (rngOk width z l && areH width leaves && decide ((k0 : Int) ≤ 512 - z))) := Lib.hid (by rw [growOk, hk])
 have HBAD : Hid (growOk width z l leaves = false → gSize width z l leaves = 0 ∧ gPeaks width z l leaves = [] ∧ gCalls width z l leaves = 0) := Lib.hid (fun h => by rw [gSize, gPeaks, gCalls, h]; exact ⟨rfl, rfl, rfl⟩)
 have HGOOD : Hid (growOk width z l leaves = true → gSize width z l leaves = z + k0 ∧ gPeaks width z l leaves = growUp width z.toNat l leaves k0 ∧ gCalls width z l leaves = (callsUp z.toNat k0 : Nat)) := Lib.hid (fun h => by rw [gSize, gPeaks, gCalls, h, hk]; exact ⟨rfl, rfl, rfl⟩)
 have HRK := Lib.hid (fun W (h : Rd W 0 W.heap.size A (strs l)) => specRangeOk_c width z A c 0 W.heap.size m l W h hn hl)
 have HAR := Lib.hid (fun W (h : Rd W 0 W.heap.size X (strs leaves)) => l04Hashes_c width X g 0 W.heap.size k0 leaves W h hk hkl)
 have HKN := Lib.hid (And.intro hn hk)
 have HX0 : Hid (Rd w 0 w.heap.size X (strs leaves)) := Lib.hid hX.base
 have HR0 : Hid (Rd w 0 w.heap.size A (strs l)) := Lib.hid hr.base
 have HAC := Lib.hid hA
 generalize growOk width z l leaves = ok at *
 generalize gSize width z l leaves = gs at *
 generalize gPeaks width z l leaves = gp at *
 generalize gCalls width z l leaves = gc at *
 have HB : Hid (Below w.heap.size w w) := Below.refl _ _
 have HOA : Hid (Rd w (0) (w.heap.size) (A) (strs l)) := Rd.base hr
 have HOX : Hid (Rd w (0) (w.heap.size) (X) (strs leaves)) := Rd.base hX
 clear hr hX hn hk hA
 go_enter Tryz.func114, Tryz.ntmps114
 go_wp2_with fail
 refine calls_named (fun w1 hw => ?_)
 have hz1 : w.heap.size + 2 ≤ w1.heap.size := by rw [hw]; first | omega | (simp [World.setCell]; done) | (simp [World.setCell]; omega)
 have hzz1 : w.heap.size ≤ w1.heap.size := by omega
 have hbn : Below w.heap.size w w1 := by rw [hw]; exact (by ((repeat (first | ((with_reducible refine Below.alloc ?_ ?_ _); rotate_left 1; (focus (first | omega | (simp; done) | (simp; omega)))) | (with_reducible refine Below.drew ?_) | ((with_reducible refine Below.setCell ?_ ?_ _); rotate_left 1; (focus (first | omega | (simp; done) | (simp; omega)))))); exact Below.refl _ _))
 replace HB := Lib.hid (below_then HB.out hbn HB.out.size)
 replace HOA := Lib.hid (HOA.out.below hbn)
 replace HOX := Lib.hid (HOX.out.below hbn)
 clear hbn
 have HXr : Hid (NewBox w1 (w.heap.size) [.int .i64 z, .slice A m c]) := by rw [Hid, hw]; exact ⟨by first | omega | (simp [World.setCell]; done) | (simp [World.setCell]; omega), fun o => by rcases o with _ | _ | o <;> go_simp, fun o => by go_simp⟩
 have hxr := HXr.out.2.1
 have hfr := HXr.out.2.2
 have hkr := HXr.out.1
 have HXq : Hid (NewBox w1 (w.heap.size + 1) [.int .i64 0, .slice none 0 0]) := by rw [Hid, hw]; exact ⟨by first | omega | (simp [World.setCell]; done) | (simp [World.setCell]; omega), fun o => by rcases o with _ | _ | o <;> go_simp, fun o => by go_simp⟩
 have hxq := HXq.out.2.1
 have hfq := HXq.out.2.2
 have hkq := HXq.out.1
 clear hw
 refine (HRK.out _ HOA.out.base).mono ?_
 rintro e w2 ⟨rfl, hb⟩
 have hzw2 : w1.heap.size ≤ w2.heap.size := hb.size
 have hzzw2 : w.heap.size ≤ w2.heap.size := by omega
 replace HB := Lib.hid (below_then HB.out hb HB.out.size)
 replace HOA := Lib.hid (HOA.out.below hb)
 replace HOX := Lib.hid (HOX.out.below hb)
 replace HXr := Lib.hid (HXr.out.below hb)
 clear hxr hfr hkr
 have hxr := HXr.out.2.1
 have hfr := HXr.out.2.2
 have hkr := HXr.out.1
 replace HXq := Lib.hid (HXq.out.below hb)
 clear hxq hfq hkq
 have hxq := HXq.out.2.1
 have hfq := HXq.out.2.2
 have hkq := HXq.out.1
 clear hb
 rcases hq1 : rngOk width z l with _ | _
 ·obtain ⟨rfl, rfl, rfl⟩ := HBAD.out (by rw [HDEF.out, hq1]; rfl)
  have hz0 : ok = false := by rw [HDEF.out, hq1]; rfl
  subst hz0
  go_wp2
  refine bodyPost_named (fun w3 hw => ?_)
  have hz3 : w2.heap.size + 0 ≤ w3.heap.size := by rw [hw]; first | omega | (simp [World.setCell]; done) | (simp [World.setCell]; omega)
  have hzz3 : w.heap.size ≤ w3.heap.size := by omega
  replace HB : Hid (Below w.heap.size w w3) := by rw [Hid, hw]; exact (by ((repeat (first | ((with_reducible refine Below.alloc ?_ ?_ _); rotate_left 1; (focus (first | omega | (simp; done) | (simp; omega)))) | (with_reducible refine Below.drew ?_) | ((with_reducible refine Below.setCell ?_ ?_ _); rotate_left 1; (focus (first | omega | (simp; done) | (simp; omega)))))); exact HB.out))
  replace HOA : Hid (Rd w3 (0) (w.heap.size) (A) (strs l)) := by rw [Hid, hw]; (repeat (first | (with_reducible refine Rd.alloc ?_ _) | (with_reducible refine Rd.drew ?_) | ((with_reducible refine Rd.setCell ?_ ?_ _); rotate_left 1; (focus (first | omega | (simp; done) | (simp; omega)))))); exact HOA.out
  replace HOX : Hid (Rd w3 (0) (w.heap.size) (X) (strs leaves)) := by rw [Hid, hw]; (repeat (first | (with_reducible refine Rd.alloc ?_ _) | (with_reducible refine Rd.drew ?_) | ((with_reducible refine Rd.setCell ?_ ?_ _); rotate_left 1; (focus (first | omega | (simp; done) | (simp; omega)))))); exact HOX.out
  replace HXr : Hid (NewBox w3 (w.heap.size) [.int .i64 z, .slice A m c]) := by rw [Hid, hw]; (repeat (first | (with_reducible refine NewBox.alloc ?_ _) | (with_reducible refine NewBox.drew ?_) | ((with_reducible refine NewBox.setCell ?_ ?_ _); rotate_left 1; (focus (first | omega | (simp; done) | (simp; omega)))))); exact HXr.out
  clear hxr hfr hkr
  have hxr := HXr.out.2.1
  have hfr := HXr.out.2.2
  have hkr := HXr.out.1
  replace HXq : Hid (NewBox w3 (w.heap.size + 1) [.int .i64 0, .slice none 0 0]) := by rw [Hid, hw]; apply NewBox.cast; (focus ((repeat (first | (with_reducible apply NewBox.alloc) | (with_reducible apply NewBox.drew) | (with_reducible apply NewBox.set1) | ((with_reducible apply NewBox.far); (focus (first | omega | (simp; done) | (simp; omega)))))); exact HXq.out)); rfl
  clear hxq hfq hkq
  have hxq := HXq.out.2.1
  have hfq := HXq.out.2.2
  have hkq := HXq.out.1
  clear hw
  refine bodyPost_ret (v := .tuple #[.agg #[.int .i64 0, .slice none 0 0], .int .i64 0, .bool false]) (by simp [results, Tryz.results114, go_sem, hxq]) rfl ?_
  exact ⟨none, 0, rfl, Own.nil, HB.out⟩
 ·obtain ⟨hz1, hz2, hpl, hah, hwd⟩ := rngOk_all hq1
  rw [hq1] at HDEF
  rw [hwd] at HAR
  clear hq1
  go_wp2_with fail
  refine (HAR.out _ HOX.out.base).mono ?_
  rintro e w3_ ⟨rfl, rfl⟩
  rcases hq2 : areH width leaves with _ | _
  ·obtain ⟨rfl, rfl, rfl⟩ := HBAD.out (by rw [HDEF.out, hq2]; rfl)
   have hz0 : ok = false := by rw [HDEF.out, hq2]; rfl
   subst hz0
   go_wp2
   refine bodyPost_named (fun w4 hw => ?_)
   have hz4 : w2.heap.size + 0 ≤ w4.heap.size := by rw [hw]; first | omega | (simp [World.setCell]; done) | (simp [World.setCell]; omega)
   have hzz4 : w.heap.size ≤ w4.heap.size := by omega
   replace HB : Hid (Below w.heap.size w w4) := by rw [Hid, hw]; exact (by ((repeat (first | ((with_reducible refine Below.alloc ?_ ?_ _); rotate_left 1; (focus (first | omega | (simp; done) | (simp; omega)))) | (with_reducible refine Below.drew ?_) | ((with_reducible refine Below.setCell ?_ ?_ _); rotate_left 1; (focus (first | omega | (simp; done) | (simp; omega)))))); exact HB.out))
   replace HOA : Hid (Rd w4 (0) (w.heap.size) (A) (strs l)) := by rw [Hid, hw]; (repeat (first | (with_reducible refine Rd.alloc ?_ _) | (with_reducible refine Rd.drew ?_) | ((with_reducible refine Rd.setCell ?_ ?_ _); rotate_left 1; (focus (first | omega | (simp; done) | (simp; omega)))))); exact HOA.out
   replace HOX : Hid (Rd w4 (0) (w.heap.size) (X) (strs leaves)) := by rw [Hid, hw]; (repeat (first | (with_reducible refine Rd.alloc ?_ _) | (with_reducible refine Rd.drew ?_) | ((with_reducible refine Rd.setCell ?_ ?_ _); rotate_left 1; (focus (first | omega | (simp; done) | (simp; omega)))))); exact HOX.out
   replace HXr : Hid (NewBox w4 (w.heap.size) [.int .i64 z, .slice A m c]) := by rw [Hid, hw]; (repeat (first | (with_reducible refine NewBox.alloc ?_ _) | (with_reducible refine NewBox.drew ?_) | ((with_reducible refine NewBox.setCell ?_ ?_ _); rotate_left 1; (focus (first | omega | (simp; done) | (simp; omega)))))); exact HXr.out
   clear hxr hfr hkr
   have hxr := HXr.out.2.1
   have hfr := HXr.out.2.2
   have hkr := HXr.out.1
   replace HXq : Hid (NewBox w4 (w.heap.size + 1) [.int .i64 0, .slice none 0 0]) := by rw [Hid, hw]; apply NewBox.cast; (focus ((repeat (first | (with_reducible apply NewBox.alloc) | (with_reducible apply NewBox.drew) | (with_reducible apply NewBox.set1) | ((with_reducible apply NewBox.far); (focus (first | omega | (simp; done) | (simp; omega)))))); exact HXq.out)); rfl
   clear hxq hfq hkq
   have hxq := HXq.out.2.1
   have hfq := HXq.out.2.2
   have hkq := HXq.out.1
   clear hw
   refine bodyPost_ret (v := .tuple #[.agg #[.int .i64 0, .slice none 0 0], .int .i64 0, .bool false]) (by simp [results, Tryz.results114, go_sem, hxq]) rfl ?_
   exact ⟨none, 0, rfl, Own.nil, HB.out⟩
  ·have HV := Lib.hid hq2
   rw [hq2] at HDEF
   clear hq2
   rcases (show (k0 : Int) ≤ 512 - z ∨ 512 - z < (k0 : Int) by omega) with h3 | h3
   ·have hok : ok = true := by rw [HDEF.out, decide_eq_true h3]; rfl
    obtain ⟨n, hnz⟩ : ∃ n, n = z.toNat := ⟨_, rfl⟩
    have hzn : (n : Int) = z := by omega
    have hg3 := HGOOD.out hok
    rw [← hnz] at hg3
    obtain ⟨rfl, rfl, rfl⟩ := hg3
    subst hok
    have hnk : n + k0 ≤ 512 := by omega
    have hpm : m = popN n := by rw [← HKN.out.1, hpl, ← hzn, popC_nat (by omega)]
    have hlm : l.length = popN n := by rw [HKN.out.1, hpm]
    have HGL := Lib.hid (growUp_len (width := width) (leaves := leaves) hlm hnk)
    have HZN := Lib.hid hzn
    have HLM := Lib.hid hlm
    have HAH := Lib.hid hah
    have HWD := Lib.hid hwd
    have HPM := Lib.hid hpm
    have hm10 : m ≤ 10 := by rw [hpm]; exact popUp_le n 10
    have HGT : Hid (GAt w z A m c w2) := Lib.hid ⟨HB.out, HXr.out, HXq.out⟩
    have HR2 := Lib.hid (HR0.out.lowB HB.out (Nat.le_refl _))
    have hrow := row_mono (row_made w2 9 0) (show w.heap.size + 2 ≤ w2.heap.size by omega)
    have HROW := Lib.hid hrow
    have hcb0 : w.heap.size + 2 ≤ w2.heap.size := by omega
    clear hpl hah hpm hlm hzn hnz hwd hrow HGOOD HBAD HDEF HRK HAR
    clear HOA HOX
    go_wp2_with (at_builtin; refine appStr rfl _ _ rfl (w.heap.size + 2) _ 0 [] rfl HROW.out A m c 0 w.heap.size l rfl HKN.out.1 (HR2.out.below ((Below.refl _ _).alloc (Nat.le_refl _) _)) HAC.out (by omega) (by simp; omega) ?_)
    intro v2 w12 hown2 hg2
    try simp only [Nat.zero_add, List.nil_append] at hown2
    have hon := grown_only HROW.out hg2
    obtain ⟨A2, c2, rfl, _, _, _⟩ := ownsRow_slice hown2
    have HGT2 := Lib.hid ((HGT.out.next ((Below.refl _ _).alloc (Nat.le_refl _) _)).only hon)
    have HO2 := Lib.hid hown2
    clear hown2 hg2 hon HROW HGT HXr HXq hxr hxq hfr hfq hkr hkq HR2
    go_wp2
    go_loopw [9, 10, 11] (fun pk cl i wx => ∃ (k : Nat) (A0 : Option Addr) (c0 : Nat), k ≤ k0 ∧ i = .int .i64 k ∧ cl = .int .i64 (callsUp n k : Nat) ∧ pk = .slice A0 (popN (n + k)) c0 ∧ wx.ownsRow (w.heap.size + 2) 9 1 (.slice A0 (popN (n + k)) c0) (popN (n + k)) (strs (growUp width n l leaves k)) ∧ GAt w z A m c wx ∧ w.heap.size + 2 ≤ wx.heap.size) (fun _ _ i _ => k0 - (intOf i).toNat)
    case atStart => exact ⟨0, A2, c2, Nat.zero_le _, rfl, rfl, by rw [HPM.out]; rfl, by have h := HO2.out; rw [HPM.out] at h; exact h, HGT2.out, by have := HGT2.out.q.1; omega⟩
    case round =>
     clear HO2 HGT2
     obtain ⟨k, A0, c0, hkk, rfl, rfl, rfl, how, hga, hwz⟩ := hrel
     have HOW := Lib.hid how
     have HGA := Lib.hid hga
     clear how
     by_cases hlt : k < k0
     ·obtain ⟨b, off, s, rfl, hb, hks, hc⟩ := (HX0.out.lowB hga.below (Nat.le_refl _)).str (k := k) (by rw [HKN.out.2]; exact hlt)
      have hsd : leaves.getD k ByteArray.empty = s := by rw [List.getD_eq_getElem?_getD, hks]; rfl
      have hss : (s.size : Int) = width := areH_mem HV.out s (List.mem_of_getElem? hks)
      have HGU : Hid (growUp width n l leaves (k + 1) = mergeK width (growUp width n l leaves k ++ [s]) (tz (n + k))) := Lib.hid (by rw [growUp, hsd]; rfl)
      have HCU : Hid (callsUp n (k + 1) = callsUp n k + tz (n + k)) := Lib.hid rfl
      have hgl := growUp_len (width := width) (leaves := leaves) HLM.out (k := k) (by omega)
      have hgaa := growUp_are HWD.out HLM.out HAH.out HV.out (k := k) (by omega) (by rw [HKN.out.2]; omega)
      obtain ⟨hpop, hpop1⟩ := tz_pop (n + k) (by omega)
      have hI : (k : Int) < k0 := by omega
      have hcl := callsUp_le n k
      have htl := tz_le (n + k)
      have hp10 : popN (n + k) ≤ 10 := popUp_le _ 10
      have HPK : Hid (∀ W, Calls Tryz.prog 157 #[.int .i64 (z + k + 1)] W fun e w' => ∃ A c, e = .returned (.slice A (popN (n + k + 1)) c) ∧ Below W.heap.size W w') := Lib.hid (fun W => by
       have h := specPeaksOf_c (n + k + 1) W (by omega)
       rw [popC_nat (by omega)] at h
       rwa [show ((n + k + 1 : Nat) : Int) = z + k + 1 by have := HZN.out; omega] at h)
      obtain ⟨L, hL⟩ : ∃ L, L = growUp width n l leaves k ++ [s] := ⟨_, rfl⟩
      have hLL : L.length = popN (n + k) + 1 := by rw [hL]; simp [hgl]
      have hLA : areH width L = true := areH_of fun x hx => by
       rw [hL, List.mem_append] at hx
       rcases hx with hx | hx
       ·exact areH_mem hgaa x hx
       ·rw [List.mem_singleton.1 hx]; exact hss
      have HSA : Hid (strs L = strs (growUp width n l leaves k) ++ strs [s]) := Lib.hid (by rw [hL, strs_app])
      rw [← hL] at HGU
      have hadd : n + (k + 1) = n + k + 1 := by omega
      have HLL := Lib.hid hLL
      have HLA := Lib.hid hLA
      have HPOP := Lib.hid (And.intro hpop hpop1)
      have hnk1 : n + k < 512 := by omega
      clear hks hsd hss hgl hgaa hL hLL hLA hadd hpop hpop1
      generalize growUp width n l leaves k = gu at *
      generalize callsUp n k = cu at *
      generalize tz (n + k) = tk at *
      generalize popN (n + k) = pm at *
      generalize hm1 : popN (n + k + 1) = m1 at *
      have HPN : Hid (popN (n + (k + 1)) = m1) := Lib.hid hm1
      clear hm1
      go_wp2_with (at_builtin; refine app1Str rfl _ _ rfl (w.heap.size + 2) _ _ _ rfl (HOW.out.alloc _) wr.heap.size s rfl (NewBox.new wr _ _) (by omega) (by first | omega | (simp; done) | (simp; omega)) ?_)
      intro v5 w5 hown5 hg5
      have hon5 := grown_only (HOW.out.alloc _) hg5
      obtain ⟨A5, c5, rfl, _, _, _⟩ := ownsRow_slice hown5
      rw [← HSA.out] at hown5
      have HGA5 := Lib.hid ((HGA.out.next ((Below.refl _ _).alloc (Nat.le_refl _) _)).only hon5)
      have HO5 := Lib.hid hown5
      have hz5 : w.heap.size + 2 ≤ w5.heap.size := by have := HGA5.out.q.1; omega
      have hxr := HGA5.out.r.2.1
      clear hown5 hg5 hon5 HOW HGA hga hc hb hwz
      go_wp2
      obtain ⟨wo, rfl⟩ : ∃ wo : World, wo = wr := ⟨_, rfl⟩
      clear hxr
      go_loopw [9, 10] (fun pk cl wx => ∃ (j q : Nat) (A0 : Option Addr) (c0 : Nat), j ≤ tk ∧ q + j = pm + 1 ∧ pk = .slice A0 q c0 ∧ cl = .int .i64 ((cu + j : Nat) : Int) ∧ wx.ownsRow (w.heap.size + 2) 9 1 (.slice A0 q c0) q (strs (mergeK width L j)) ∧ GAt w z A m c wx ∧ w.heap.size + 2 ≤ wx.heap.size) (fun pk _ _ => lenOfV pk)
      case atStart => exact ⟨0, pm + 1, A5, c5, Nat.zero_le _, rfl, rfl, rfl, HO5.out, HGA5.out, hz5⟩
      case round =>
       clear HO5 HGA5 hz5
       obtain ⟨j, q, A0, c0, hj, hq, rfl, rfl, how, hga, hwz⟩ := hrel
       have HOW := Lib.hid how
       have HGA := Lib.hid hga
       have hpop := HPOP.out
       clear hga
       by_cases hlj : j < tk
       ·obtain ⟨q0, hq0⟩ : ∃ q0, q = q0 + 2 := ⟨q - 2, by omega⟩
        obtain ⟨q1, hq1⟩ : ∃ q1, q1 = q0 + 1 := ⟨_, rfl⟩
        have hjl : j < L.length := by rw [HLL.out]; omega
        have hlen := mergeK_len (width := width) hjl
        have hare := mergeK_are HWD.out HLA.out hjl
        have HMK : Hid (mergeK width L (j + 1) = merge1 width (mergeK width L j)) := Lib.hid rfl
        rw [HLL.out] at hlen
        generalize mergeK width L j = M at *
        have hMl : M.length = q := by omega
        have hM1 : merge1 width M = M.take q0 ++ [nodeT width (M.getD q0 ByteArray.empty) (M.getD q1 ByteArray.empty)] := by
         rw [merge1, hMl, show q - 2 = q0 by omega, show q - 1 = q1 by omega]
        have ha0 := areH_mem hare _ (getD_mem (show q0 < M.length by omega))
        have ha1 := areH_mem hare _ (getD_mem (show q1 < M.length by omega))
        obtain ⟨gb, cap, hge⟩ := row_form how (by omega)
        injection hge with hge1 _ hge2
        subst hge1
        subst hge2
        have hx0 := how.cellAt q0 (by omega)
        have hx1 := how.cellAt q1 (by omega)
        have hsg : ∀ i, i < M.length → (strs M)[i]? = some (.string (M.getD i ByteArray.empty)) := fun i hi => strs_get (by rw [List.getD_eq_getElem?_getD, List.getElem?_eq_getElem hi]; rfl)
        rw [hsg q0 (by omega)] at hx0
        rw [hsg q1 (by omega)] at hx1
        have HTL : Hid ((M.take q0).length = q0) := Lib.hid (by rw [List.length_take]; omega)
        have HSTK : Hid (strs (M.take q0) = (strs M).take q0) := Lib.hid (by simp [strs])
        have HM1 := Lib.hid hM1
        generalize M.getD q0 ByteArray.empty = a0 at *
        generalize M.getD q1 ByteArray.empty = a1 at *
        have HND := Lib.hid (fun W => specNodeHash_c width a0 a1 W HWD.out ha0 ha1)
        generalize nodeT width a0 a1 = nd at *
        have hgb : gb < wr.heap.size := (how.lt gb rfl).2
        have E1 : IntKind.i64.wrap ((q : Int) - 2) = q0 := by rw [IntKind.wrap_i64]; omega
        have E2 : IntKind.i64.wrap ((q : Int) - 1) = q1 := by rw [IntKind.wrap_i64]; omega
        have E3 : (q : Int) - 2 = q0 := by omega
        have E4 : (q : Int) - 1 = q1 := by omega
        have E5 : (q0 : Int) < q := by omega
        have E6 : (q1 : Int) < q := by omega
        have hdm : decide (m1 < q) = true := decide_eq_true (by omega)
        have hq12 : (q : Int) ≤ 11 := by omega
        have hcub : ((cu + j : Nat) : Int) ≤ 100000 := by omega
        have HQ := Lib.hid (And.intro hq (And.intro hq0 hq1))
        clear how hsg hM1 hMl ha0 ha1 hare hlen hjl hq hq0 hq1 hpop
        generalize hcj : cu + j = cj at *
        have HCJ := Lib.hid hcj
        clear hcj
        go_wp2_with fail
        refine (HPK.out _).mono ?_
        rintro e w6 ⟨Ap, cp, rfl, hb6⟩
        have HGA6 := Lib.hid (HGA.out.next hb6)
        have HOW6 := Lib.hid (row_below HOW.out hb6)
        have hgb6 : gb < w6.heap.size := Nat.lt_of_lt_of_le hgb hb6.size
        have hz6 : w.heap.size + 2 ≤ w6.heap.size := by have := hb6.size; omega
        have l1 : ∀ v : Later w6, v.v.cell? ⟨gb, q0, none⟩ = some (.string a0) := fun v => (later_cell v _ _ hgb6).trans ((hb6.cell (p := ⟨gb, q0, none⟩) hgb).trans hx0)
        have l2 : ∀ v : Later w6, v.v.cell? ⟨gb, q1, none⟩ = some (.string a1) := fun v => (later_cell v _ _ hgb6).trans ((hb6.cell (p := ⟨gb, q1, none⟩) hgb).trans hx1)
        clear hb6 HGA HOW hx0 hx1
        go_wp2
        refine wp_region_later (by kernel_rfl) (by kernel_rfl) ?_
        repeat (go_big_quiet_step ((with_reducible exact later_call (HND.out _))))
        refine wpQuiet_nil ?_
        intro w7 h7
        have hb7 := later_below h7
        have HGA7 := Lib.hid (HGA6.out.next hb7)
        have HOW7 := Lib.hid (row_below HOW6.out hb7)
        have hz7 : w.heap.size + 2 ≤ w7.heap.size := by have := hb7.size; omega
        have hE9 : (q0 : Int) ≤ (c0 : Int) := by
         rcases HOW7.out.2 with ⟨e, _⟩ | ⟨_, _, _, e, _, _, h9, _⟩
         ·cases e
         ·cases e; omega
        clear l1 l2 h7 hb7 HGA6 HOW6
        have hsrc : Rd w7 0 w7.heap.size (some ⟨gb, 0, none⟩) (strs (M.take q0)) := by
         have h := (Own.of_ownsRow (row_take HOW7.out (show q0 ≤ q by omega))).rd.base
         rw [HSTK.out]; exact h
        have HSRC := Lib.hid hsrc
        have HROW := Lib.hid (row_mono (row_made w7 9 0) (show w.heap.size + 2 ≤ w7.heap.size by omega))
        clear hsrc
        go_wp2_with (at_builtin; refine appStr rfl _ _ rfl (w.heap.size + 2) _ 0 [] rfl HROW.out (some ⟨gb, 0, none⟩) q0 c0 0 w7.heap.size (M.take q0) rfl HTL.out (HSRC.out.below ((Below.refl _ _).alloc (Nat.le_refl _) _)) (fun h => by cases h) (by omega) (by simp; omega) ?_)
        intro v8 w8 hown8 hg8
        try simp only [Nat.zero_add, List.nil_append] at hown8
        have hon8 := grown_only HROW.out hg8
        obtain ⟨A8, c8, rfl, _, _, _⟩ := ownsRow_slice hown8
        have HGA8 := Lib.hid ((HGA7.out.next ((Below.refl _ _).alloc (Nat.le_refl _) _)).only hon8)
        have HO8 := Lib.hid hown8
        have hz8 : w.heap.size + 2 ≤ w8.heap.size := by have := HGA8.out.q.1; omega
        clear hown8 hg8 hon8 HROW HGA7 HOW7 HSRC
        go_wp2_with (at_builtin; refine app1Str rfl _ _ rfl (w.heap.size + 2) _ _ _ rfl (HO8.out.alloc _) w8.heap.size nd rfl (NewBox.new w8 _ _) (by omega) (by first | omega | (simp; done) | (simp; omega)) ?_)
        intro v9 w9 hown9 hg9
        have hon9 := grown_only (HO8.out.alloc _) hg9
        obtain ⟨A9, c9, rfl, _, _, _⟩ := ownsRow_slice hown9
        rw [← strs_app, ← HM1.out, ← HMK.out] at hown9
        have HGA9 := Lib.hid ((HGA8.out.next ((Below.refl _ _).alloc (Nat.le_refl _) _)).only hon9)
        have HO9 := Lib.hid hown9
        have hz9 : w.heap.size + 2 ≤ w9.heap.size := by have := HGA9.out.q.1; omega
        clear hown9 hg9 hon9 HO8 HGA8 E1 E2 E3 E4 E5 E6
        go_wp2
        go_roundw
        case rel =>
         obtain ⟨k4, k5, k6⟩ := HQ.out
         exact ⟨j + 1, q0 + 1, A9, c9, by omega, by omega, rfl, by rw [← HCJ.out]; go_num, HO9.out, HGA9.out, hz9⟩
        case measure => obtain ⟨k4, k5, k6⟩ := HQ.out; show q0 + 1 < q; omega
       ·obtain rfl : j = tk := by omega
        have hqm : q = m1 := by omega
        subst hqm
        have hdm : decide (q < q) = false := decide_eq_false (by omega)
        clear how hpop hq
        go_wp2_with fail
        refine (HPK.out _).mono ?_
        rintro e w6 ⟨Ap, cp, rfl, hb6⟩
        have HGA6 := Lib.hid (HGA.out.next hb6)
        have HOW6 := Lib.hid (row_below HOW.out hb6)
        have hz6 : w.heap.size + 2 ≤ w6.heap.size := by have := hb6.size; omega
        clear hb6 HGA HOW
        go_wp2
        go_roundw
        case rel => exact ⟨k + 1, A0, c0, by omega, by go_num, by rw [HCU.out]; go_num, by rw [HPN.out], by rw [HPN.out, HGU.out]; exact HOW6.out, HGA6.out, hz6⟩
        case measure => simp [intOf]; omega
     ·obtain rfl : k = k0 := by omega
      have hxr := HGA.out.r.2.1
      have hfq := HGA.out.q.2.2
      have hxq := HGA.out.q.2.1
      have hzb : z ≤ 512 := hz2
      have HGS : Hid (z + (k : Int) = z + k) := Lib.hid rfl
      have hwz2 : w.heap.size + 2 ≤ wr.heap.size := hwz
      clear hga
      go_wp2
      refine bodyPost_named (fun w9 hw => ?_)
      have hQ9 : NewBox w9 (w.heap.size + 1) [.int .i64 (z + k), .slice A0 (popN (n + k)) c0] := by rw [hw]; exact (HGA.out.q.set1 0 _).set1 1 _
      have hB9 : Hid (Below w.heap.size w w9) := by rw [Hid, hw]; exact (HGA.out.below.setCell (Nat.le_succ _) _).setCell (Nat.le_succ _) _
      have hR9 : Hid (w9.ownsRow (w.heap.size + 2) 9 1 (.slice A0 (popN (n + k)) c0) (popN (n + k)) (strs (growUp width n l leaves k))) := by rw [Hid, hw]; exact row_set (row_set HOW.out (Nat.lt_succ_self _) _) (Nat.lt_succ_self _) _
      have hx9 := hQ9.2.1
      clear hw hxr hxq hfq
      refine bodyPost_ret (v := .tuple #[.agg #[.int .i64 (z + k), .slice A0 (popN (n + k)) c0], .int .i64 (callsUp n k : Nat), .bool true]) (by simp [results, Tryz.results114, go_sem, hx9]) rfl ?_
      exact ⟨A0, ⟨c0, by rw [HGL.out]⟩, (Own.of_ownsRow hR9.out).mono (by omega) (Nat.le_refl _) (Nat.le_refl _), hB9.out⟩
   ·obtain ⟨rfl, rfl, rfl⟩ := HBAD.out (by rw [HDEF.out, decide_eq_false (by omega)]; rfl)
    have hz0 : ok = false := by rw [HDEF.out, decide_eq_false (by omega)]; rfl
    subst hz0
    go_wp2
    refine bodyPost_named (fun w4 hw => ?_)
    have hz4 : w2.heap.size + 0 ≤ w4.heap.size := by rw [hw]; first | omega | (simp [World.setCell]; done) | (simp [World.setCell]; omega)
    have hzz4 : w.heap.size ≤ w4.heap.size := by omega
    replace HB : Hid (Below w.heap.size w w4) := by rw [Hid, hw]; exact (by ((repeat (first | ((with_reducible refine Below.alloc ?_ ?_ _); rotate_left 1; (focus (first | omega | (simp; done) | (simp; omega)))) | (with_reducible refine Below.drew ?_) | ((with_reducible refine Below.setCell ?_ ?_ _); rotate_left 1; (focus (first | omega | (simp; done) | (simp; omega)))))); exact HB.out))
    replace HOA : Hid (Rd w4 (0) (w.heap.size) (A) (strs l)) := by rw [Hid, hw]; (repeat (first | (with_reducible refine Rd.alloc ?_ _) | (with_reducible refine Rd.drew ?_) | ((with_reducible refine Rd.setCell ?_ ?_ _); rotate_left 1; (focus (first | omega | (simp; done) | (simp; omega)))))); exact HOA.out
    replace HOX : Hid (Rd w4 (0) (w.heap.size) (X) (strs leaves)) := by rw [Hid, hw]; (repeat (first | (with_reducible refine Rd.alloc ?_ _) | (with_reducible refine Rd.drew ?_) | ((with_reducible refine Rd.setCell ?_ ?_ _); rotate_left 1; (focus (first | omega | (simp; done) | (simp; omega)))))); exact HOX.out
    replace HXr : Hid (NewBox w4 (w.heap.size) [.int .i64 z, .slice A m c]) := by rw [Hid, hw]; (repeat (first | (with_reducible refine NewBox.alloc ?_ _) | (with_reducible refine NewBox.drew ?_) | ((with_reducible refine NewBox.setCell ?_ ?_ _); rotate_left 1; (focus (first | omega | (simp; done) | (simp; omega)))))); exact HXr.out
    clear hxr hfr hkr
    have hxr := HXr.out.2.1
    have hfr := HXr.out.2.2
    have hkr := HXr.out.1
    replace HXq : Hid (NewBox w4 (w.heap.size + 1) [.int .i64 0, .slice none 0 0]) := by rw [Hid, hw]; apply NewBox.cast; (focus ((repeat (first | (with_reducible apply NewBox.alloc) | (with_reducible apply NewBox.drew) | (with_reducible apply NewBox.set1) | ((with_reducible apply NewBox.far); (focus (first | omega | (simp; done) | (simp; omega)))))); exact HXq.out)); rfl
    clear hxq hfq hkq
    have hxq := HXq.out.2.1
    have hfq := HXq.out.2.2
    have hkq := HXq.out.1
    clear hw
    refine bodyPost_ret (v := .tuple #[.agg #[.int .i64 0, .slice none 0 0], .int .i64 0, .bool false]) (by simp [results, Tryz.results114, go_sem, hxq]) rfl ?_
    exact ⟨none, 0, rfl, Own.nil, HB.out⟩
set_option maxRecDepth 100000 in
set_option maxHeartbeats 4000000 in
theorem specRangeOf_c (width : Int) (X : Option Addr) (g lo' hi' k0 : Nat) (leaves : List ByteArray) (w : World) (hX : Rd w lo' hi' X (strs leaves)) (hk : leaves.length = k0) (hkl : k0 ≤ 1048576) :
  Calls Tryz.prog 70 #[.int .i64 width, .slice X k0 g] w fun e w' => ∃ A' c', e = .returned (.tuple #[.agg #[.int .i64 (gSize width 0 [] leaves), .slice A' (gPeaks width 0 [] leaves).length c'], .bool (growOk width 0 [] leaves)]) ∧
   Own w' w.heap.size w'.heap.size A' (strs (gPeaks width 0 [] leaves)) ∧ Below w.heap.size w w' := by
 have HGA := Lib.hid (fun W (h : Rd W 0 W.heap.size X (strs leaves)) => specGrowAll_c width 0 none 0 0 0 0 [] X g 0 W.heap.size k0 leaves W Rd.nil rfl (by omega) (fun _ => rfl) h hk hkl ⟨by decide, by decide⟩)
 generalize growOk width 0 [] leaves = ok at *
 generalize gSize width 0 [] leaves = gs at *
 generalize gPeaks width 0 [] leaves = gp at *
 generalize gCalls width 0 [] leaves = gc at *
 have HB : Hid (Below w.heap.size w w) := Below.refl _ _
 have HOX : Hid (Rd w (0) (w.heap.size) (X) (strs leaves)) := Rd.base hX
 clear hX hk
 go_enter Tryz.func70, Tryz.ntmps70
 go_wp2_with fail
 refine calls_named (fun w1 hw => ?_)
 have hz1 : w.heap.size + 1 ≤ w1.heap.size := by rw [hw]; first | omega | (simp [World.setCell]; done) | (simp [World.setCell]; omega)
 have hzz1 : w.heap.size ≤ w1.heap.size := by omega
 have hbn : Below w.heap.size w w1 := by rw [hw]; exact (by ((repeat (first | ((with_reducible refine Below.alloc ?_ ?_ _); rotate_left 1; (focus (first | omega | (simp; done) | (simp; omega)))) | (with_reducible refine Below.drew ?_) | ((with_reducible refine Below.setCell ?_ ?_ _); rotate_left 1; (focus (first | omega | (simp; done) | (simp; omega)))))); exact Below.refl _ _))
 replace HB := Lib.hid (below_then HB.out hbn HB.out.size)
 replace HOX := Lib.hid (HOX.out.below hbn)
 clear hbn
 have HXq : Hid (NewBox w1 (w.heap.size) [.int .i64 0, .slice none 0 0]) := by rw [Hid, hw]; exact ⟨by first | omega | (simp [World.setCell]; done) | (simp [World.setCell]; omega), fun o => by rcases o with _ | _ | o <;> go_simp, fun o => by go_simp⟩
 have hxq := HXq.out.2.1
 have hfq := HXq.out.2.2
 have hkq := HXq.out.1
 clear hw
 refine (HGA.out _ HOX.out.base).mono ?_
 rintro e w2 ⟨A3, c3, rfl, hown3, hb⟩
 have hzw2 : w1.heap.size ≤ w2.heap.size := hb.size
 have hzzw2 : w.heap.size ≤ w2.heap.size := by omega
 replace HB := Lib.hid (below_then HB.out hb HB.out.size)
 replace HOX := Lib.hid (HOX.out.below hb)
 replace HXq := Lib.hid (HXq.out.below hb)
 clear hxq hfq hkq
 have hxq := HXq.out.2.1
 have hfq := HXq.out.2.2
 have hkq := HXq.out.1
 clear hb
 have HOR : Hid (Own w2 (w1.heap.size) (w2.heap.size) (A3) (strs gp)) := hown3
 have hb3 : w.heap.size + 1 ≤ w1.heap.size := by omega
 clear hown3
 go_wp2
 refine bodyPost_named (fun w3 hw => ?_)
 have hz3 : w2.heap.size + 1 ≤ w3.heap.size := by rw [hw]; first | omega | (simp [World.setCell]; done) | (simp [World.setCell]; omega)
 have hzz3 : w.heap.size ≤ w3.heap.size := by omega
 replace HB : Hid (Below w.heap.size w w3) := by rw [Hid, hw]; exact (by ((repeat (first | ((with_reducible refine Below.alloc ?_ ?_ _); rotate_left 1; (focus (first | omega | (simp; done) | (simp; omega)))) | (with_reducible refine Below.drew ?_) | ((with_reducible refine Below.setCell ?_ ?_ _); rotate_left 1; (focus (first | omega | (simp; done) | (simp; omega)))))); exact HB.out))
 replace HOX : Hid (Rd w3 (0) (w.heap.size) (X) (strs leaves)) := by rw [Hid, hw]; (repeat (first | (with_reducible refine Rd.alloc ?_ _) | (with_reducible refine Rd.drew ?_) | ((with_reducible refine Rd.setCell ?_ ?_ _); rotate_left 1; (focus (first | omega | (simp; done) | (simp; omega)))))); exact HOX.out
 replace HOR : Hid (Own w3 (w1.heap.size) (w2.heap.size) (A3) (strs gp)) := by rw [Hid, hw]; (repeat (first | (with_reducible refine Own.alloc ?_ _) | (with_reducible refine Own.drew ?_) | ((with_reducible refine Own.setCell ?_ ?_ _); rotate_left 1; (focus (first | omega | (simp; done) | (simp; omega)))))); exact HOR.out
 replace HXq : Hid (NewBox w3 (w.heap.size) [.int .i64 gs, .slice A3 gp.length c3]) := by rw [Hid, hw]; apply NewBox.cast; (focus ((repeat (first | (with_reducible apply NewBox.alloc) | (with_reducible apply NewBox.drew) | (with_reducible apply NewBox.set1) | ((with_reducible apply NewBox.far); (focus (first | omega | (simp; done) | (simp; omega)))))); exact HXq.out)); rfl
 clear hxq hfq hkq
 have hxq := HXq.out.2.1
 have hfq := HXq.out.2.2
 have hkq := HXq.out.1
 have HXv : Hid (NewBox w3 (w2.heap.size) [.int .i64 gs, .slice A3 gp.length c3]) := by rw [Hid, hw]; exact ⟨by first | omega | (simp [World.setCell]; done) | (simp [World.setCell]; omega), fun o => by rcases o with _ | _ | o <;> go_simp, fun o => by go_simp⟩
 have hxv := HXv.out.2.1
 have hfv := HXv.out.2.2
 have hkv := HXv.out.1
 clear hw
 refine bodyPost_ret (v := .tuple #[.agg #[.int .i64 gs, .slice A3 gp.length c3], .bool ok]) (by simp [results, Tryz.results70, go_sem, hxq]) rfl ?_
 exact ⟨A3, c3, rfl, HOR.out.mono (by omega) (by omega) (Nat.le_refl _), HB.out⟩
end Go.Proofs.YtmmepogjocfefaaGreat

