/- Ranges that grow: the plain law, and the rows in memory. Ranges that grow by many leaves. -/
import Derived.Test.YtojjjhbiccgjkaaPks
import Derived.Test.YtojjjhbiccgjkaaHsh
import Derived.Deep.AppendLies
import Derived.Test.YtojjjhbiccgjkaaClone
namespace Go.Proofs.Ytojjjhbiccgjkaa
set_option linter.unusedVariables false
set_option linter.unusedSimpArgs false
open Go.RowKit

/-- how many trees are joined when a leaf is added to so many -/
def tzF : Nat → Nat → Nat
  | 0, _ => 0
  | f + 1, n => if n % 2 = 1 then tzF f (n / 2) + 1 else 0
def tz (n : Nat) : Nat := tzF 10 n
theorem tz_pop : ∀ n : Nat, n < 512 → popN n + 1 = popN (n + 1) + tz n ∧ 1 ≤ popN (n + 1) := by decide +kernel
theorem tz_le (n : Nat) : tz n ≤ 10 := by
  have : ∀ f n, tzF f n ≤ f := by
    intro f
    induction f with
    | zero => intro n; exact Nat.le_refl _
    | succ f ih => intro n; rw [tzF]; split
                   · have := ih (n / 2); omega
                   · exact Nat.zero_le _
  exact this 10 n
theorem tzF_odd {f s : Nat} (hs : s < 2 ^ f) (h : s % 2 = 1) : ∃ g, f = g + 1 ∧ s / 2 < 2 ^ g ∧ tzF f s = tzF g (s / 2) + 1 := by
  cases f with
  | zero => rw [Nat.pow_zero] at hs; omega
  | succ g =>
    refine ⟨g, rfl, ?_, by rw [tzF, if_pos h]⟩
    rw [Nat.pow_succ] at hs; omega
theorem tzF_even {f s : Nat} (h : ¬ s % 2 = 1) : tzF f s = 0 := by
  cases f with
  | zero => rfl
  | succ g => rw [tzF, if_neg h]
/-- the last two joined -/
def merge1 (width : Int) (l : List ByteArray) : List ByteArray := l.take (l.length - 2) ++ [nodeT width (l.getD (l.length - 2) ByteArray.empty) (l.getD (l.length - 1) ByteArray.empty)]
def mergeK (width : Int) (l : List ByteArray) : Nat → List ByteArray
  | 0 => l
  | j + 1 => merge1 width (mergeK width l j)
theorem merge1_len {width : Int} {l : List ByteArray} (h : 2 ≤ l.length) : (merge1 width l).length = l.length - 1 := by
  rw [merge1, List.length_append, List.length_take]; simp; omega
theorem mergeK_len {width : Int} {l : List ByteArray} : ∀ {j : Nat}, j < l.length → (mergeK width l j).length = l.length - j
  | 0, _ => rfl
  | j + 1, h => by
    have ih := mergeK_len (width := width) (l := l) (j := j) (by omega)
    rw [mergeK, merge1_len (by omega), ih]; omega
theorem areH_of {width : Int} {l : List ByteArray} (h : ∀ s ∈ l, (s.size : Int) = width) : areH width l = true := by
  rw [areH, List.all_eq_true]; intro s hs; exact decide_eq_true (h s hs)
theorem getD_mem {l : List ByteArray} {i : Nat} (h : i < l.length) : l.getD i ByteArray.empty ∈ l := by
  rw [List.getD_eq_getElem?_getD, List.getElem?_eq_getElem h]; exact List.getElem_mem h
theorem merge1_are {width : Int} {l : List ByteArray} (hw : inR width 1 32 = true) (h : areH width l = true) (h2 : 2 ≤ l.length) : areH width (merge1 width l) = true := by
  have hm := areH_mem h
  refine areH_of fun s hs => ?_
  rw [merge1, List.mem_append] at hs
  rcases hs with hs | hs
  · exact hm s (List.mem_of_mem_take hs)
  · rw [List.mem_singleton.1 hs]
    exact nodeT_size hw (hm _ (getD_mem (by omega))) (hm _ (getD_mem (by omega)))
theorem mergeK_are {width : Int} {l : List ByteArray} (hw : inR width 1 32 = true) (h : areH width l = true) : ∀ {j : Nat}, j < l.length → areH width (mergeK width l j) = true
  | 0, _ => h
  | j + 1, hj => by
    have hl := mergeK_len (width := width) (l := l) (j := j) (by omega)
    exact merge1_are hw (mergeK_are hw h (by omega)) (by omega)
def growOne (width : Int) (n : Nat) (l : List ByteArray) (leaf : ByteArray) : List ByteArray := mergeK width (l ++ [leaf]) (tz n)
theorem growOne_len {width : Int} {n : Nat} {l : List ByteArray} {leaf : ByteArray} (hn : n < 512) (hl : l.length = popN n) : (growOne width n l leaf).length = popN (n + 1) := by
  obtain ⟨h1, h2⟩ := tz_pop n hn
  rw [growOne, mergeK_len (by simp; omega)]
  simp; omega
theorem growOne_are {width : Int} {n : Nat} {l : List ByteArray} {leaf : ByteArray} (hw : inR width 1 32 = true) (hn : n < 512) (hl : l.length = popN n) (ha : areH width l = true) (hf : (leaf.size : Int) = width) : areH width (growOne width n l leaf) = true := by
  obtain ⟨h1, h2⟩ := tz_pop n hn
  refine mergeK_are hw (areH_of fun s hs => ?_) (by simp; omega)
  rw [List.mem_append] at hs
  rcases hs with hs | hs
  · exact areH_mem ha s hs
  · rw [List.mem_singleton.1 hs]; exact hf
def growUp (width : Int) (n : Nat) (l leaves : List ByteArray) : Nat → List ByteArray
  | 0 => l
  | k + 1 => growOne width (n + k) (growUp width n l leaves k) (leaves.getD k ByteArray.empty)
def callsUp (n : Nat) : Nat → Nat
  | 0 => 0
  | k + 1 => callsUp n k + tz (n + k)
theorem callsUp_le (n : Nat) : ∀ k, callsUp n k ≤ 10 * k
  | 0 => Nat.le_refl _
  | k + 1 => by have := callsUp_le n k; have := tz_le (n + k); rw [callsUp]; omega
theorem growUp_len {width : Int} {n : Nat} {l leaves : List ByteArray} (hl : l.length = popN n) : ∀ {k : Nat}, n + k ≤ 512 → (growUp width n l leaves k).length = popN (n + k)
  | 0, _ => hl
  | k + 1, h => growOne_len (by omega) (growUp_len hl (by omega))
theorem growUp_are {width : Int} {n : Nat} {l leaves : List ByteArray} (hw : inR width 1 32 = true) (hl : l.length = popN n) (ha : areH width l = true) (hv : areH width leaves = true) : ∀ {k : Nat}, n + k ≤ 512 → k ≤ leaves.length → areH width (growUp width n l leaves k) = true
  | 0, _, _ => ha
  | k + 1, h, hk => growOne_are hw (by omega) (growUp_len hl (by omega)) (growUp_are hw hl ha hv (by omega) (by omega)) (areH_mem hv _ (getD_mem (by omega)))

/-- the same row, seen shorter -/
theorem row_take {w : World} {base e g n cap : Nat} {xs : List Value} (h : w.ownsRow base e 1 (.slice (some ⟨g, 0, none⟩) n cap) n xs) {k : Nat} (hk : k ≤ n) : w.ownsRow base e 1 (.slice (some ⟨g, 0, none⟩) k cap) k (xs.take k) := by
  refine ⟨by rw [List.length_take, h.1]; omega, ?_⟩
  rcases h.2 with ⟨h1, _⟩ | ⟨g', cap', cur, h1, h2, h3, h4, h5, h6, h7⟩
  · cases h1
  · injection h1 with e1 _ e3
    cases e1
    subst e3
    refine .inr ⟨g, cap, cur, rfl, h2, h3, by omega, h5, h6, ?_⟩
    rw [← h7, List.take_take]
    congr 1
    omega
/-- a block whose cells are no strings -/
def Typed (w : World) (p : Nat) : Prop := ∃ cs T, w.heap[p]? = some (.cells cs T (0, 0)) ∧ T ≠ 9
theorem Typed.lt {w : World} {p : Nat} (h : Typed w p) : p < w.heap.size := by
  obtain ⟨cs, T, h1, _⟩ := h
  exact (Array.getElem?_eq_some_iff.1 h1).1
theorem Typed.frozen {w : World} {p : Nat} (h : Typed w p) (o : Nat) : w.frozen? ⟨p, o, none⟩ = false := by
  obtain ⟨cs, T, h1, _⟩ := h
  exact frozen_of_row w p o cs T h1
theorem Typed.keep {w w' : World} {p : Nat} (h : Typed w p) (hb : w'.heap[p]? = w.heap[p]?) : Typed w' p := by
  obtain ⟨cs, T, h1, h2⟩ := h
  exact ⟨cs, T, hb.trans h1, h2⟩
theorem Typed.below {w w' : World} {p : Nat} (h : Typed w p) (hb : Below w.heap.size w w') : Typed w' p := h.keep (hb.block p h.lt)
theorem Typed.set {w : World} {p : Nat} (h : Typed w p) (a : Addr) (v : Value) : Typed (w.setCell a v) p := by
  obtain ⟨cs, T, h1, h2⟩ := h
  by_cases ha : a.block = p
  · subst ha
    refine ⟨if a.spot.isSome then cs else cs.setIfInBounds a.off v, T, ?_, h2⟩
    simp [World.setCell, Array.getElem?_modify, h1]
  · refine ⟨cs, T, ?_, h2⟩
    simp [World.setCell, Array.getElem?_modify, ha, h1]
theorem Typed.not_row {w : World} {p base n : Nat} {v : Value} {xs : List Value} (h : Typed w p) (hr : w.ownsRow base 9 1 v n xs) : some p ≠ v.ownBlock := by
  obtain ⟨cs, T, h1, h2⟩ := h
  intro e
  rcases hr.2 with ⟨rfl, _⟩ | ⟨g, cap, cur, rfl, _, h3, _⟩
  · cases e
  · injection e with e
    have e' : p = g := e
    subst e'
    rw [h1] at h3
    injection h3 with h3
    injection h3 with _ h4
    exact h2 h4
/-- a range in memory: its size and its peaks at two cells of block p -/
structure RngAt (w : World) (base p o : Nat) (n : Int) (v : Value) (m : Nat) (l : List ByteArray) : Prop where
  typed : Typed w p
  c0 : w.cell? ⟨p, o, none⟩ = some (.int .i64 n)
  c1 : w.cell? ⟨p, o + 1, none⟩ = some v
  row : w.ownsRow base 9 1 v m (strs l)
/-- what a range that grows may turn: its two cells, its row -/
structure GrowRel (p o : Nat) (v v' : Value) (w w' : World) : Prop where
  os : w'.os = w.os
  tape : w'.tape = w.tape
  output : w'.output = w.output
  size : w.heap.size ≤ w'.heap.size
  block : ∀ k, k < w.heap.size → k ≠ p → some k ≠ v.ownBlock → w'.heap[k]? = w.heap[k]?
  cell : ∀ j, j ≠ o → j ≠ o + 1 → w'.cell? ⟨p, j, none⟩ = w.cell? ⟨p, j, none⟩
  own : ∀ k, v'.ownBlock = some k → v.ownBlock = some k ∨ w.heap.size ≤ k
theorem GrowRel.refl (p o : Nat) (v : Value) (w : World) : GrowRel p o v v w w := ⟨rfl, rfl, rfl, Nat.le_refl _, fun _ _ _ _ => rfl, fun _ _ _ => rfl, fun _ h => .inl h⟩
theorem GrowRel.trans {p o : Nat} {v1 v2 v3 : Value} {a b c : World} (h : GrowRel p o v1 v2 a b) (k : GrowRel p o v2 v3 b c) : GrowRel p o v1 v3 a c := by
  refine ⟨k.os.trans h.os, k.tape.trans h.tape, k.output.trans h.output, Nat.le_trans h.size k.size, fun i h1 h2 h3 => ?_, fun j h1 h2 => (k.cell j h1 h2).trans (h.cell j h1 h2), fun i hi => ?_⟩
  · refine (k.block i (Nat.lt_of_lt_of_le h1 h.size) h2 (fun e => ?_)).trans (h.block i h1 h2 h3)
    rcases h.own i e.symm with h4 | h4
    · exact h3 h4.symm
    · omega
  · rcases k.own i hi with h4 | h4
    · exact h.own i h4
    · exact .inr (Nat.le_trans h.size h4)
theorem GrowRel.of_below {p o : Nat} {v : Value} {w w' : World} (h : Below w.heap.size w w') (hp : p < w.heap.size) : GrowRel p o v v w w' :=
  ⟨h.os, h.tape, h.output, h.size, fun k hk _ _ => h.block k hk, fun j _ _ => h.cell (p := ⟨p, j, none⟩) hp, fun _ h => .inl h⟩
theorem GrowRel.toBelow {p o B base : Nat} {v v' : Value} {w w' : World} {m : Nat} {xs : List Value} (h : GrowRel p o v v' w w') (hr : w.ownsRow base 9 1 v m xs) (hp : B ≤ p) (hb : B ≤ base) (hs : B ≤ w.heap.size) : Below B w w' :=
  ⟨h.os, h.tape, h.output, h.size, fun k hk => h.block k (by omega) (by omega) (fun e => by have := (hr.lt k e.symm).1; omega)⟩
theorem RngAt.below {w w' : World} {base p o : Nat} {n : Int} {v : Value} {m : Nat} {l : List ByteArray} (h : RngAt w base p o n v m l) (hb : Below w.heap.size w w') : RngAt w' base p o n v m l :=
  ⟨h.typed.below hb, (hb.cell (p := ⟨p, o, none⟩) h.typed.lt).trans h.c0, (hb.cell (p := ⟨p, o + 1, none⟩) h.typed.lt).trans h.c1, row_below h.row hb⟩
/-- a string is put behind the row, and the row's header is stored -/
theorem rng_push {w w0 w1 : World} {base p o g cap m m0 : Nat} {n : Int} {v v0 : Value} {l0 l' : List ByteArray} (h : RngAt w base p o n v m0 l0) (hw0 : Below w.heap.size w w0)
    (hv : v0.ownBlock = v.ownBlock) (hr : w1.ownsRow base 9 1 (.slice (some ⟨g, 0, none⟩) m cap) m (strs l')) (hg : w0.grownBy w1 v0.ownBlock) (hat : v0.ownBlock = some g ∨ g = w0.heap.size) :
    RngAt (w1.setCell ⟨p, o + 1, none⟩ (.slice (some ⟨g, 0, none⟩) m cap)) base p o n (.slice (some ⟨g, 0, none⟩) m cap) m l' ∧ GrowRel p o v (.slice (some ⟨g, 0, none⟩) m cap) w (w1.setCell ⟨p, o + 1, none⟩ (.slice (some ⟨g, 0, none⟩) m cap)) := by
  have hp := h.typed.lt
  have hne := h.typed.not_row h.row
  have hb1 : ∀ k, k < w.heap.size → some k ≠ v.ownBlock → w1.heap[k]? = w.heap[k]? := fun k hk hn => (hg.block k (Nat.lt_of_lt_of_le hk hw0.size) (by rw [hv]; exact hn)).trans (hw0.block k hk)
  have ht1 : Typed w1 p := h.typed.keep (hb1 p hp hne)
  have hc : ∀ j, w1.cell? ⟨p, j, none⟩ = w.cell? ⟨p, j, none⟩ := fun j => World.cell?_of_block (hb1 p hp hne)
  have hgp : g ≠ p := fun e => ht1.not_row hr (by subst e; rfl)
  have hs1 : w.heap.size ≤ w1.heap.size := Nat.le_trans hw0.size hg.size
  refine ⟨⟨ht1.set _ _, ?_, ?_, ?_⟩, ⟨hg.os.trans hw0.os, hg.tape.trans hw0.tape, hg.output.trans hw0.output, by simpa [World.setCell] using hs1, fun k hk h1 h2 => ?_, fun j h1 h2 => ?_, fun k hk => ?_⟩⟩
  · rw [World.cell?_setCell_other _ _ _ _ (by simp only [ne_eq, Addr.mk.injEq, and_true, true_and]; omega), hc, h.c0]
  · exact World.cell?_setCell_same _ _ _ ((hc _).trans h.c1)
  · refine hr.kept (row := some p) ⟨rfl, rfl, rfl, by simp [World.setCell], fun k hk hn => Below.heap_setCell _ _ _ _ (fun e => hn (congrArg some e))⟩ (.inr ?_)
    show some g ≠ some p
    intro e
    injection e with e
    exact hgp e
  · rw [Below.heap_setCell _ _ _ _ (fun e => h1 e), hb1 k hk h2]
  · rw [World.cell?_setCell_other _ _ _ _ (by simp only [ne_eq, Addr.mk.injEq, and_true, true_and]; omega), hc]
  · have hk' : g = k := by injection hk
    subst hk'
    rcases hat with e | e
    · exact .inl (by rw [← hv]; exact e)
    · exact .inr (by rw [e]; exact hw0.size)
theorem rng_mid {w w0 w1 : World} {base p o m0 : Nat} {n : Int} {v v0 : Value} {l0 : List ByteArray} (h : RngAt w base p o n v m0 l0) (hw0 : Below w.heap.size w w0) (hv : v0.ownBlock = v.ownBlock) (hg : w0.grownBy w1 v0.ownBlock) :
    (∀ j, w1.cell? ⟨p, j, none⟩ = w.cell? ⟨p, j, none⟩) ∧ (∀ j, w1.frozen? ⟨p, j, none⟩ = false) ∧ p < w1.heap.size ∧ w.heap.size ≤ w1.heap.size := by
  have hp := h.typed.lt
  have hne := h.typed.not_row h.row
  have hb1 : w1.heap[p]? = w.heap[p]? := (hg.block p (Nat.lt_of_lt_of_le hp hw0.size) (by rw [hv]; exact hne)).trans (hw0.block p hp)
  have hs1 : w.heap.size ≤ w1.heap.size := Nat.le_trans hw0.size hg.size
  exact ⟨fun j => World.cell?_of_block hb1, fun j => (h.typed.keep hb1).frozen j, by omega, hs1⟩
/-- the size is stored -/
theorem rng_size {w : World} {base p o m : Nat} {n : Int} {v : Value} {l : List ByteArray} (h : RngAt w base p o n v m l) (n' : Int) :
    RngAt (w.setCell ⟨p, o, none⟩ (.int .i64 n')) base p o n' v m l ∧ GrowRel p o v v w (w.setCell ⟨p, o, none⟩ (.int .i64 n')) := by
  have hp := h.typed.lt
  have hne := h.typed.not_row h.row
  refine ⟨⟨h.typed.set _ _, World.cell?_setCell_same _ _ _ h.c0, ?_, ?_⟩, ⟨rfl, rfl, rfl, by simp [World.setCell], fun k hk h1 h2 => Below.heap_setCell _ _ _ _ (fun e => h1 e), fun j h1 h2 => World.cell?_setCell_other _ _ _ _ (by simp only [ne_eq, Addr.mk.injEq, and_true, true_and]; omega), fun k hk => .inl hk⟩⟩
  · rw [World.cell?_setCell_other _ _ _ _ (by simp only [ne_eq, Addr.mk.injEq, and_true, true_and]; omega), h.c1]
  · exact h.row.kept (row := some p) ⟨rfl, rfl, rfl, by simp [World.setCell], fun k hk hn => Below.heap_setCell _ _ _ _ (fun e => hn (congrArg some e))⟩ (.inr (fun e => hne e.symm))

set_option maxRecDepth 100000 in
set_option maxHeartbeats 4000000 in
theorem grow_c (width : Int) (n p o base c : Nat) (A : Option Addr) (l : List ByteArray) (leaf : ByteArray) (w : World) (hw : inR width 1 32 = true) (hn : n < 512) (hl : l.length = popN n) (ha : areH width l = true) (hf : (leaf.size : Int) = width)
    (hbase : base ≤ w.heap.size) (hR : RngAt w base p o n (.slice A (popN n) c) (popN n) l) :
    Calls Try.prog 119 #[.pointer (some ⟨p, o, none⟩), .int .i64 width, .string leaf] w fun e w' => ∃ A' c', e = .returned (.int .i64 (tz n : Nat)) ∧ RngAt w' base p o ((n + 1 : Nat) : Int) (.slice A' (popN (n + 1)) c') (popN (n + 1)) (growOne width n l leaf) ∧
      GrowRel p o (.slice A (popN n) c) (.slice A' (popN (n + 1)) c') w w' := by
  obtain ⟨hpop, hpop1⟩ := tz_pop n hn
  obtain ⟨m, hm⟩ : ∃ m, m = popN n := ⟨_, rfl⟩
  have hm10 : m ≤ 10 := by rw [hm]; exact popUp_le n 10
  obtain ⟨i0, hi0, hz0, hz1, hz2⟩ := info_parts info_string
  have HI := Lib.hid (And.intro hi0 (And.intro hz0 (And.intro hz1 hz2)))
  have hw2 := inR_true.1 hw
  have hL : (l ++ [leaf]).length = m + 1 := by simp [hl, hm]
  have hLA : areH width (l ++ [leaf]) = true := areH_of fun s hs => by
    rw [List.mem_append] at hs
    rcases hs with hs | hs
    · exact areH_mem ha s hs
    · rw [List.mem_singleton.1 hs]; exact hf
  have HFIN : Hid (growOne width n l leaf = mergeK width (l ++ [leaf]) (tz n)) := Lib.hid rfl
  have HSA : Hid (strs (l ++ [leaf]) = strs l ++ [.string leaf]) := Lib.hid (by simp [strs])
  rw [← hm] at hpop hR
  rw [← hm]
  have HW := Lib.hid hw
  have HR := Lib.hid hR
  have HLL := Lib.hid hL
  have HLA := Lib.hid hLA
  have HPOP := Lib.hid hpop
  have HPOP1 := Lib.hid hpop1
  have htz := tz_le n
  have hc0 := hR.c0
  have hc1 := hR.c1
  have hpl := hR.typed.lt
  clear hl ha hf hm hR hL hLA hi0 hz0 hz1 hz2 hw hpop hpop1
  generalize growOne width n l leaf = fin at *
  generalize l ++ [leaf] = L at *
  have HT : Hid (tz n = tzF 10 n) := Lib.hid rfl
  generalize tz n = t at *
  generalize popN (n + 1) = m1 at *
  go_enter Try.func119, Try.ntmps119
  go_wp2_with (at_builtin; refine stop_here ?_)
  intro _
  refine wpList_append_lies _ rfl _ _ 39 rfl base 9 i0 _ 1 16 Try.underlying39 HI.out.1 HI.out.2.1 HI.out.2.2.1 HI.out.2.2.2 rfl (by omega) (.slice A m c) m (strs l) rfl (HR.out.row.alloc _) ⟨w.heap.size, 0, none⟩ 1 1 [.string leaf] rfl rfl (World.news_of_block (cs := #[.string leaf]) (t := 9) (fr := (0, 0)) (heap_alloc_new w _)) (by simp [Value.oneCell']) (by omega) (by unfold maxLen; omega) (by omega) (by simp; omega) (w.heap.size + 1) (by simp) ?_
  intro g1 cap1 w1 hown1 hg1 hat1 hlt1
  rw [← HSA.out] at hown1
  have hb0 : Below w.heap.size w (w.alloc (.cells #[.string leaf] 9)) := (Below.refl _ _).alloc (Nat.le_refl _) _
  obtain ⟨hmc, hmf, hmp, hms⟩ := rng_mid HR.out hb0 rfl hg1
  have HP1 := Lib.hid (rng_push HR.out hb0 rfl hown1 hg1 (by simpa using hat1))
  have hd1 := (hmc (o + 1)).trans hc1
  have hd0 := (hmc o).trans hc0
  have hfr := hmf (o + 1)
  clear hown1 hg1 hat1 hlt1 hb0 hmc hmf hc0 hc1
  go_wp2
  go_loopw [7, 8] (fun md sz wx => ∃ (j s f g cap q : Nat), md = .int .i64 j ∧ sz = .int .i64 s ∧ s < 2 ^ f ∧ s < 512 ∧ t = j + tzF f s ∧ q + j = m + 1 ∧ RngAt wx base p o n (.slice (some ⟨g, 0, none⟩) q cap) q (mergeK width L j) ∧ GrowRel p o (.slice A m c) (.slice (some ⟨g, 0, none⟩) q cap) w wx) (fun _ sz _ => (intOf sz).toNat)
  case atStart => exact ⟨0, n, 10, g1, cap1, m + 1, rfl, rfl, by omega, hn, by rw [Nat.zero_add]; exact HT.out, by omega, HP1.out.1, HP1.out.2⟩
  case round =>
    clear hd1 hd0 hfr HP1
    obtain ⟨j, s, f, g, cap, q, rfl, rfl, hs2, hs5, htj, hq, hR, hG⟩ := hrel
    have HR2 := Lib.hid hR
    have HG := Lib.hid hG
    have hc0 := hR.c0
    have hc1 := hR.c1
    have hpr := hR.typed.lt
    have hrow := hR.row
    have hfr := hR.typed.frozen
    have hsz := hG.size
    by_cases hodd : s % 2 = 1
    · obtain ⟨f2, hf2, hs3, htz2⟩ := tzF_odd hs2 hodd
      have hp := HPOP.out
      have hp1 := HPOP1.out
      obtain ⟨q0, hq0⟩ : ∃ q0, q = q0 + 2 := ⟨q - 2, by omega⟩
      obtain ⟨q1, hq1⟩ : ∃ q1, q1 = q0 + 1 := ⟨_, rfl⟩
      have hjl : j < L.length := by rw [HLL.out]; omega
      have hlen := mergeK_len (width := width) hjl
      have hare := mergeK_are HW.out HLA.out hjl
      have HMK : Hid (mergeK width L (j + 1) = merge1 width (mergeK width L j)) := Lib.hid rfl
      rw [HLL.out] at hlen
      generalize mergeK width L j = M at *
      have hMl : M.length = q := by omega
      have hM1 : merge1 width M = M.take q0 ++ [nodeT width (M.getD q0 ByteArray.empty) (M.getD q1 ByteArray.empty)] := by
        rw [merge1, hMl, show q - 2 = q0 by omega, show q - 1 = q1 by omega]
      have ha0 := areH_mem hare _ (getD_mem (show q0 < M.length by omega))
      have ha1 := areH_mem hare _ (getD_mem (show q1 < M.length by omega))
      have hx0 := hrow.cellAt q0 (by omega)
      have hx1 := hrow.cellAt q1 (by omega)
      have hsg : ∀ i, i < M.length → (strs M)[i]? = some (.string (M.getD i ByteArray.empty)) := fun i hi => strs_get (by rw [List.getD_eq_getElem?_getD, List.getElem?_eq_getElem hi]; rfl)
      rw [hsg q0 (by omega)] at hx0
      rw [hsg q1 (by omega)] at hx1
      have hstk : strs (M.take q0) = (strs M).take q0 := by simp [strs]
      have HSTK := Lib.hid hstk
      have HM1 := Lib.hid hM1
      have HML := Lib.hid hMl
      generalize M.getD q0 ByteArray.empty = a0 at *
      generalize M.getD q1 ByteArray.empty = a1 at *
      have HND := Lib.hid (fun W => node_c width a0 a1 W (by omega) (by omega))
      generalize nodeT width a0 a1 = nd at *
      have hgb : g < wr.heap.size := (hrow.lt g rfl).2
      have l0 : ∀ v : Later wr, v.v.cell? ⟨p, o + 1, none⟩ = some (.slice (some ⟨g, 0, none⟩) q cap) := fun v => (later_cell v _ _ hpr).trans hc1
      have l1 : ∀ v : Later wr, v.v.cell? ⟨g, q0, none⟩ = some (.string a0) := fun v => (later_cell v _ _ hgb).trans hx0
      have l2 : ∀ v : Later wr, v.v.cell? ⟨g, q1, none⟩ = some (.string a1) := fun v => (later_cell v _ _ hgb).trans hx1
      have E1 : IntKind.i64.wrap ((q : Int) - 2) = q0 := by rw [IntKind.wrap_i64]; omega
      have E2 : IntKind.i64.wrap ((q : Int) - 1) = q1 := by rw [IntKind.wrap_i64]; omega
      have E3 : (q : Int) - 2 = q0 := by omega
      have E4 : (q : Int) - 1 = q1 := by omega
      have E5 : (q0 : Int) < q := by omega
      have E6 : (q1 : Int) < q := by omega
      have E7 : (s : Int).tmod 2 = 1 := by rw [Int.tmod_eq_emod_of_nonneg (by omega)]; omega
      have E8 : (s : Int).tdiv 2 = (s / 2 : Nat) := by rw [Int.tdiv_eq_ediv_of_nonneg (by omega)]; omega
      have hs9 : ((s / 2 : Nat) : Int) ≤ 512 := by omega
      have hq12 : (q : Int) ≤ 11 := by omega
      have hjb : (j : Int) ≤ 11 := by omega
      have HMEAS : Hid (s / 2 < s) := Lib.hid (by omega)
      have HQ := Lib.hid (And.intro hq (And.intro hq0 hq1))
      have HTJ := Lib.hid (And.intro htj (And.intro htz2 hs3))
      clear hR hG hrow hx0 hx1 hsg hstk hM1 hMl ha0 ha1 hare hlen hjl hq hq0 hq1 htj htz2 hs3 hf2 hs2 hp hp1 hodd
      generalize (s / 2 : Nat) = s2 at *
      go_wp2
      refine wp_region_later (by kernel_rfl) (by kernel_rfl) ?_
      repeat (go_big_quiet_step ((with_reducible exact later_call (HND.out _))))
      refine wpQuiet_nil ?_
      intro w5 h5
      have hb5 := later_below h5
      have HR5 := Lib.hid (HR2.out.below hb5)
      have HG5 := Lib.hid (HG.out.trans (GrowRel.of_below hb5 hpr))
      have hd1 := HR5.out.c1
      have hd0 := HR5.out.c0
      have hz5 := HG5.out.size
      clear l0 l1 l2 h5 hb5 hc0 hc1 HR2 HG
      have HRT := Lib.hid (row_take HR5.out.row (show q0 ≤ q by omega))
      have hE9 : (q0 : Int) ≤ (cap : Int) := by
        rcases HR5.out.row.2 with ⟨e, _⟩ | ⟨_, _, _, e, _, _, h9, _⟩
        · cases e
        · cases e; omega
      have HSN : Hid ((strs M).take q0 ++ [.string nd] = strs (merge1 width M)) := Lib.hid (by rw [HM1.out, strs_app, HSTK.out]; rfl)
      go_wp2_with (at_builtin; refine wpList_append_lies _ rfl _ _ 39 rfl base 9 i0 _ 1 16 Try.underlying39 HI.out.1 HI.out.2.1 HI.out.2.2.1 HI.out.2.2.2 rfl (by omega) (.slice (some ⟨g, 0, none⟩) q0 cap) q0 ((strs M).take q0) rfl (HRT.out.alloc _) ⟨w5.heap.size, 0, none⟩ 1 1 [.string nd] rfl rfl (World.news_of_block (cs := #[.string nd]) (t := 9) (fr := (0, 0)) (heap_alloc_new w5 _)) (by simp [Value.oneCell']) (by omega) (by unfold maxLen; omega) (by omega) (by simp; omega) (w5.heap.size + 1) (by simp) ?_)
      intro g6 cap6 w6 hown6 hg6 hat6 hlt6
      rw [HSN.out] at hown6
      have hb6 : Below w5.heap.size w5 (w5.alloc (.cells #[.string nd] 9)) := (Below.refl _ _).alloc (Nat.le_refl _) _
      obtain ⟨hmc, hmf, hmp, hms⟩ := rng_mid HR5.out hb6 (v0 := .slice (some ⟨g, 0, none⟩) q0 cap) rfl hg6
      have HP6 := Lib.hid (rng_push HR5.out hb6 (v0 := .slice (some ⟨g, 0, none⟩) q0 cap) rfl hown6 hg6 (by simpa using hat6))
      have he1 := (hmc (o + 1)).trans hd1
      have hef := hmf (o + 1)
      clear hown6 hg6 hat6 hlt6 hb6 hmc hmf hd0 hd1 HRT HR5 E1 E2 E3 E4 E5 E6 E7
      go_wp2
      go_roundw
      case rel =>
        obtain ⟨k1, k2, k3⟩ := HTJ.out
        obtain ⟨k4, k5, k6⟩ := HQ.out
        refine ⟨j + 1, s2, f2, g6, cap6, q0 + 1, by go_num, rfl, k3, by have := HMEAS.out; omega, by omega, by omega, ?_, HG5.out.trans HP6.out.2⟩
        rw [HMK.out]
        exact HP6.out.1
      case measure => simp [intOf]; have := HMEAS.out; omega
    · have htz0 := tzF_even (f := f) hodd
      have hjt : j = t := by omega
      have hqm : q = m1 := by have := HPOP.out; omega
      subst hjt
      subst hqm
      have HEND := Lib.hid (rng_size HR2.out ((n + 1 : Nat) : Int))
      have E7 : (s : Int).tmod 2 = 0 := by rw [Int.tmod_eq_emod_of_nonneg (by omega)]; omega
      have hn5 : (n : Int) < 512 := by omega
      have hfo := hfr o
      clear hR hG hrow hc1 hodd htz0 htj hq hs2
      go_wp2
      refine bodyPost_named (fun w9 hw => ?_)
      have hE : RngAt w9 base p o ((n + 1 : Nat) : Int) (.slice (some ⟨g, 0, none⟩) q cap) q (mergeK width L j) ∧ GrowRel p o (.slice (some ⟨g, 0, none⟩) q cap) (.slice (some ⟨g, 0, none⟩) q cap) wr w9 := by
        rw [hw]; exact HEND.out
      have HE := Lib.hid hE
      clear hE hw HEND
      go_ret
      exact ⟨_, _, rfl, by rw [HFIN.out]; exact HE.out.1, HG.out.trans HE.out.2⟩
end Go.Proofs.Ytojjjhbiccgjkaa
namespace Go.Proofs.Ytojjjhbiccgjkaa
set_option linter.unusedVariables false
set_option linter.unusedSimpArgs false
open Go.RowKit

theorem Rd.lowB {w w' : World} {lo hi B : Nat} {A : Option Addr} {xs : List Value} (h : Rd w lo hi A xs) (hb : Below B w w') (hh : hi ≤ B) : Rd w' lo hi A xs := h.keep hb.size (fun k _ hk => hb.block k (by omega))
theorem row_mono {w : World} {b b' : Nat} {e : TypeId} {size n : Nat} {v : Value} {xs : List Value} (h : w.ownsRow b e size v n xs) (hb : b' ≤ b) : w.ownsRow b' e size v n xs := by
  refine ⟨h.1, ?_⟩
  rcases h.2 with h1 | ⟨g, cap, cur, h1, h2, h3⟩
  · exact .inl h1
  · exact .inr ⟨g, cap, cur, h1, Nat.le_trans hb h2, h3⟩
theorem row_set {w : World} {b : Nat} {e : TypeId} {size n : Nat} {v : Value} {xs : List Value} (h : w.ownsRow b e size v n xs) {p : Addr} (hp : p.block < b) (u : Value) : (w.setCell p u).ownsRow b e size v n xs :=
  h.kept (row := some p.block) ⟨rfl, rfl, rfl, by simp [World.setCell], fun k hk hn => Below.heap_setCell _ _ _ _ (fun e => hn (congrArg some e))⟩ (.inr (fun e => by have := (h.lt p.block e).1; omega))
set_option maxRecDepth 100000 in
set_option maxHeartbeats 4000000 in
theorem growAll_c (width : Int) (n p o base c B0 : Nat) (A : Option Addr) (l : List ByteArray) (X : Option Addr) (g k0 : Nat) (leaves : List ByteArray) (w : World) (hw : inR width 1 32 = true) (hl : l.length = popN n) (ha : areH width l = true)
    (hk : leaves.length = k0) (hv : areH width leaves = true) (hn : n + k0 ≤ 512) (hbase : base ≤ w.heap.size) (hB1 : B0 ≤ p) (hB2 : B0 ≤ base) (hX : Rd w 0 B0 X (strs leaves)) (hR : RngAt w base p o n (.slice A (popN n) c) (popN n) l) :
    Calls Try.prog 125 #[.pointer (some ⟨p, o, none⟩), .int .i64 width, .slice X k0 g] w fun e w' => ∃ A' c', e = .returned (.int .i64 (callsUp n k0 : Nat)) ∧ RngAt w' base p o ((n + k0 : Nat) : Int) (.slice A' (popN (n + k0)) c') (popN (n + k0)) (growUp width n l leaves k0) ∧
      GrowRel p o (.slice A (popN n) c) (.slice A' (popN (n + k0)) c') w w' := by
  have HW := Lib.hid hw
  have HL := Lib.hid hl
  have HA := Lib.hid ha
  have HK := Lib.hid hk
  have HV := Lib.hid hv
  have HX := Lib.hid hX
  have HR := Lib.hid hR
  clear hw hl ha hk hv hX hR
  go_enter Try.func125, Try.ntmps125
  go_wp2
  go_loopw [7, 12] (fun md i wx => ∃ (k : Nat) (A' : Option Addr) (c' : Nat), k ≤ k0 ∧ i = .int .i64 k ∧ md = .int .i64 (callsUp n k : Nat) ∧ RngAt wx base p o ((n + k : Nat) : Int) (.slice A' (popN (n + k)) c') (popN (n + k)) (growUp width n l leaves k) ∧ GrowRel p o (.slice A (popN n) c) (.slice A' (popN (n + k)) c') w wx) (fun _ i _ => k0 - (intOf i).toNat)
  case atStart => exact ⟨0, A, c, Nat.zero_le _, rfl, rfl, HR.out, GrowRel.refl _ _ _ _⟩
  case round =>
    obtain ⟨k, A1, c1, hk, rfl, rfl, hR1, hG1⟩ := hrel
    have HR1 := Lib.hid hR1
    have HG1 := Lib.hid hG1
    have hsz := hG1.size
    have hbel := hG1.toBelow HR.out.row hB1 hB2 (by omega)
    by_cases hlt : k < k0
    · obtain ⟨b, off, s, rfl, hb, hks, hc⟩ := (HX.out.lowB hbel (Nat.le_refl _)).str (k := k) (by rw [HK.out]; exact hlt)
      have hsd : leaves.getD k ByteArray.empty = s := by rw [List.getD_eq_getElem?_getD, hks]; rfl
      have hss : (s.size : Int) = width := areH_mem HV.out s (List.mem_of_getElem? hks)
      have HGU : Hid (growUp width n l leaves (k + 1) = growOne width (n + k) (growUp width n l leaves k) s) := Lib.hid (by rw [growUp, hsd])
      have HCU : Hid (callsUp n (k + 1) = callsUp n k + tz (n + k)) := Lib.hid rfl
      have hgl := growUp_len (width := width) (leaves := leaves) HL.out (k := k) (by omega)
      have hga := growUp_are HW.out HL.out HA.out HV.out (k := k) (by omega) (by rw [HK.out]; omega)
      have hI : (k : Int) < k0 := by omega
      have hcl := callsUp_le n k
      have htl := tz_le (n + k)
      have HGR := Lib.hid (fun (W : World) (h : base ≤ W.heap.size) h2 => grow_c width (n + k) p o base c1 A1 (growUp width n l leaves k) s W HW.out (by omega) hgl hga hss h h2)
      have hcb : (callsUp n k : Int) ≤ 10000 := by omega
      have htb : (tz (n + k) : Int) ≤ 10 := by omega
      have hadd : n + (k + 1) = n + k + 1 := by omega
      have HADD := Lib.hid hadd
      clear hks hsd hss hgl hga hR1 hG1 hbel hadd
      generalize growUp width n l leaves k = gu at *
      generalize callsUp n k = cu at *
      generalize tz (n + k) = tk at *
      go_wp2_with fail
      refine (HGR.out _ (by omega) HR1.out).mono ?_
      rintro e w5 ⟨A5, c5, rfl, hR5, hG5⟩
      have HR5 := Lib.hid hR5
      have HG5 := Lib.hid (HG1.out.trans hG5)
      clear hR5 hG5 HR1 HG1 HGR
      go_wp2
      go_roundw
      case rel => exact ⟨k + 1, A5, c5, by omega, by go_num, by rw [HCU.out]; go_num, by rw [HADD.out, HGU.out]; exact HR5.out, by rw [HADD.out]; exact HG5.out⟩
      case measure => simp [intOf]; omega
    · obtain rfl : k = k0 := by omega
      clear hR1 hG1 hbel
      go_wp2
      go_ret
      exact ⟨A1, c1, rfl, HR1.out, HG1.out⟩
set_option maxRecDepth 100000 in
set_option maxHeartbeats 4000000 in
theorem copyRange_c (size : Int) (A : Option Addr) (c lo hi m : Nat) (l : List ByteArray) (w : World) (hr : Rd w lo hi A (strs l)) (hn : l.length = m) (hl : m ≤ 1048576) (hA : A = none → c = 0) :
    Calls Try.prog 118 #[.agg #[.int .i64 size, .slice A m c]] w fun e w' => ∃ A' c', e = .returned (.agg #[.int .i64 size, .slice A' m c']) ∧ w'.ownsRow w.heap.size 9 1 (.slice A' m c') m (strs l) ∧ Below w.heap.size w w' := by
  have HR := Lib.hid hr.base
  have HCL := Lib.hid (fun W (h : Rd W 0 W.heap.size A (strs l)) => cloneStrR_c A c 0 W.heap.size m l W h hn hl hA)
  clear hr hn hA
  have HB : Hid (Below w.heap.size w w) := Below.refl _ _
  go_enter Try.func118, Try.ntmps118
  go_wp2_with fail
  refine wp_named (fun w1 hw => ?_)
  have hz1 : w.heap.size + 2 ≤ w1.heap.size := by rw [hw]; first | omega | (simp [World.setCell]; done) | (simp [World.setCell]; omega)
  have hzz1 : w.heap.size ≤ w1.heap.size := by omega
  replace HB : Hid (Below w.heap.size w w1) := by rw [Hid, hw]; exact (by ((repeat (first | ((with_reducible refine Below.alloc ?_ ?_ _); rotate_left 1; (focus (first | omega | (simp; done) | (simp; omega)))) | (with_reducible refine Below.drew ?_) | ((with_reducible refine Below.setCell ?_ ?_ _); rotate_left 1; (focus (first | omega | (simp; done) | (simp; omega)))))); exact HB.out))
  have HXr : Hid (NewBox w1 (w.heap.size) [.int .i64 size, .slice A m c]) := by rw [Hid, hw]; exact ⟨by first | omega | (simp [World.setCell]; done) | (simp [World.setCell]; omega), fun o => by rcases o with _ | _ | o <;> go_simp, fun o => by go_simp⟩
  have hxr := HXr.out.2.1
  have hfr := HXr.out.2.2
  have hkr := HXr.out.1
  have HXq : Hid (NewBox w1 (w.heap.size + 1) [.int .i64 0, .slice none 0 0]) := by rw [Hid, hw]; exact ⟨by first | omega | (simp [World.setCell]; done) | (simp [World.setCell]; omega), fun o => by rcases o with _ | _ | o <;> go_simp, fun o => by go_simp⟩
  have hxq := HXq.out.2.1
  have hfq := HXq.out.2.2
  have hkq := HXq.out.1
  clear hw
  have hqw : w.heap.size + 1 < w1.heap.size := hkq
  have HROW : Hid (w1 = w1) := Lib.hid rfl
  go_region_held3 (fun w' => (∀ o, w'.cell? ⟨w.heap.size, o, none⟩ = [.int .i64 size, .slice A m c][o]?))
    (first | exact hxr | (intro o; rw [World.cell?_setCell_other _ _ _ _ (by simp), World.cell?_setCell_other _ _ _ _ (by simp)]; exact hxr o))
    (first
      | (go_at_call 171
         with_reducible refine (HCL.out _ (HR.out.below (by first | exact HB.out | exact HB.out.drew)).base).mono ?_
         rintro e w9 ⟨A9, c9, rfl, hrow9, hb9⟩
         have HR9 : Hid (w9.ownsRow (w.heap.size + 2) 9 1 (.slice A9 m c9) m (strs l)) := Lib.hid (row_mono hrow9 (by exact hkq))
         replace HB : Hid (Below w.heap.size w w9) := Lib.hid (below_then (by first | exact HB.out | exact HB.out.drew) hb9 (by exact HB.out.size))
         replace hxr : ∀ o, w9.cell? ⟨w.heap.size, o, none⟩ = [.int .i64 size, .slice A m c][o]? := fun o => (hb9.cell (p := ⟨w.heap.size, o, none⟩) (by exact hkr)).trans (hxr o)
         replace hxq : ∀ o, w9.cell? ⟨w.heap.size + 1, o, none⟩ = [.int .i64 0, .slice none 0 0][o]? := fun o => (hb9.cell (p := ⟨w.heap.size + 1, o, none⟩) (by exact hkq)).trans (hxq o)
         replace hfq : ∀ o, w9.frozen? ⟨w.heap.size + 1, o, none⟩ = false := fun o => (hb9.frozen (p := ⟨w.heap.size + 1, o, none⟩) (by exact hkq)).trans (hfq o)
         replace HXq : Hid (NewBox w9 (w.heap.size + 1) [.int .i64 0, .slice none 0 0]) := Lib.hid (by first | exact HXq.out.below hb9 | exact HXq.out.drew.below hb9)
         replace hkr : w.heap.size < w9.heap.size := Nat.lt_of_lt_of_le (by exact hkr) hb9.size
         replace hkq : w.heap.size + 1 < w9.heap.size := Nat.lt_of_lt_of_le (by exact hkq) hb9.size
         clear hb9 hrow9))
  go_wp2
  refine bodyPost_named (fun w8 hw => ?_)
  have hB8 : Hid (Below w.heap.size w w8) := by rw [Hid, hw]; exact (HB.out.setCell (Nat.le_succ _) _).setCell (Nat.le_succ _) _
  have hR8 : Hid (w8.ownsRow (w.heap.size + 2) 9 1 (.slice A9 m c9) m (strs l)) := by rw [Hid, hw]; exact row_set (row_set HR9.out (Nat.lt_succ_self _) _) (Nat.lt_succ_self _) _
  have hX8 : NewBox w8 (w.heap.size + 1) [.int .i64 size, .slice A9 m c9] := by rw [hw]; exact (HXq.out.set1 0 _).set1 1 _
  have hx8 := hX8.2.1
  clear hw hxr hxq hfq hfr
  refine bodyPost_ret (v := .agg #[.int .i64 size, .slice A9 m c9]) (by simp [results, Try.results118, go_sem, hx8]) rfl ?_
  exact ⟨A9, c9, rfl, row_mono hR8.out (by omega), hB8.out⟩
end Go.Proofs.Ytojjjhbiccgjkaa

