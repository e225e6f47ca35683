/- Words on memory for the walks: slices that read as lists of cells, later worlds, what a call may turn. -/
import Derived.WalkKit
import Derived.WalkSpells
import Derived.WalkLawsBesides
import Derived.Lib.Hide
import Derived.BigQuiet
import Derived.Deep.QuietTactic
import Derived.Deep.RegionHeld3
import Derived.Deep.DrawnRows
namespace Go.Proofs.YtmmepogjocfefaaGreat
set_option linter.unusedVariables false
set_option linter.unusedSimpArgs false
open Go.RowKit

/-- the slice address A reads as the cells xs; its block lies from lo on and below hi -/
def Rd (w : World) (lo hi : Nat) (A : Option Addr) (xs : List Value) : Prop :=
 xs ≠ [] → ∃ b off, A = some ⟨b, off, none⟩ ∧ lo ≤ b ∧ b < hi ∧ hi ≤ w.heap.size ∧ ∀ j u, xs[j]? = some u → w.cell? ⟨b, off + j, none⟩ = some u

/-- likewise, and the cells may be written -/
def Own (w : World) (lo hi : Nat) (A : Option Addr) (xs : List Value) : Prop :=
 xs ≠ [] → ∃ b off, A = some ⟨b, off, none⟩ ∧ lo ≤ b ∧ b < hi ∧ hi ≤ w.heap.size ∧ (∀ j u, xs[j]? = some u → w.cell? ⟨b, off + j, none⟩ = some u) ∧
  ∀ j, w.frozen? ⟨b, off + j, none⟩ = false

/-- from w to w': only blocks from lo on and below hi, and new ones, may have turned -/
structure Only (lo hi : Nat) (w w' : World) : Prop where
 os : w'.os = w.os
 tape : w'.tape = w.tape
 output : w'.output = w.output
 size : w.heap.size ≤ w'.heap.size
 block : ∀ k, k < w.heap.size → (k < lo ∨ hi ≤ k) → w'.heap[k]? = w.heap[k]?

section
variable {w w' w'' : World} {lo hi lo' hi' : Nat} {A : Option Addr} {xs : List Value}

theorem Rd.nil : Rd w lo hi A [] := fun h => absurd rfl h
theorem Own.nil : Own w lo hi A [] := fun h => absurd rfl h

theorem Own.rd (h : Own w lo hi A xs) : Rd w lo hi A xs := fun hn =>
 let ⟨b, off, h1, h2, h3, h4, h5, _⟩ := h hn
 ⟨b, off, h1, h2, h3, h4, h5⟩

theorem Rd.mono (h : Rd w lo hi A xs) (hl : lo' ≤ lo) (hh : hi ≤ hi') (hs : hi' ≤ w.heap.size) : Rd w lo' hi' A xs := fun hn =>
 let ⟨b, off, h1, h2, h3, _, h5⟩ := h hn
 ⟨b, off, h1, by omega, by omega, hs, h5⟩
theorem Own.mono (h : Own w lo hi A xs) (hl : lo' ≤ lo) (hh : hi ≤ hi') (hs : hi' ≤ w.heap.size) : Own w lo' hi' A xs := fun hn =>
 let ⟨b, off, h1, h2, h3, _, h5⟩ := h hn
 ⟨b, off, h1, by omega, by omega, hs, h5⟩

/-- the blocks below hi are as they were -/
theorem Rd.keep (h : Rd w lo hi A xs) (hs : w.heap.size ≤ w'.heap.size) (hb : ∀ k, lo ≤ k → k < hi → w'.heap[k]? = w.heap[k]?) : Rd w' lo hi A xs := fun hn =>
 let ⟨b, off, h1, h2, h3, h4, h5⟩ := h hn
 ⟨b, off, h1, h2, h3, by omega, fun j u hu => (World.cell?_of_block (hb b h2 h3)).trans (h5 j u hu)⟩
theorem Own.keep (h : Own w lo hi A xs) (hs : w.heap.size ≤ w'.heap.size) (hb : ∀ k, lo ≤ k → k < hi → w'.heap[k]? = w.heap[k]?) : Own w' lo hi A xs := fun hn =>
 let ⟨b, off, h1, h2, h3, h4, h5, h6⟩ := h hn
 ⟨b, off, h1, h2, h3, by omega, fun j u hu => (World.cell?_of_block (hb b h2 h3)).trans (h5 j u hu), fun j => (World.frozen?_of_block (hb b h2 h3)).trans (h6 j)⟩

theorem Rd.top (h : Rd w lo hi A xs) (hn : xs ≠ []) : hi ≤ w.heap.size := let ⟨_, _, _, _, _, h4, _⟩ := h hn; h4

theorem Rd.below (h : Rd w lo hi A xs) (hb : Below w.heap.size w w') : Rd w' lo hi A xs := fun hn =>
 h.keep hb.size (fun k _ hk => hb.block k (by have := h.top hn; omega)) hn
theorem Own.below (h : Own w lo hi A xs) (hb : Below w.heap.size w w') : Own w' lo hi A xs := fun hn =>
 h.keep hb.size (fun k _ hk => hb.block k (by have := h.rd.top hn; omega)) hn
theorem Rd.only (h : Rd w lo hi A xs) (ho : Only lo' hi' w w') (hd : hi ≤ lo' ∨ hi' ≤ lo) : Rd w' lo hi A xs := fun hn =>
 h.keep ho.size (fun k hk1 hk2 => ho.block k (by have := h.top hn; omega) (by omega)) hn
theorem Own.only (h : Own w lo hi A xs) (ho : Only lo' hi' w w') (hd : hi ≤ lo' ∨ hi' ≤ lo) : Own w' lo hi A xs := fun hn =>
 h.keep ho.size (fun k hk1 hk2 => ho.block k (by have := h.rd.top hn; omega) (by omega)) hn

theorem Rd.drew (h : Rd w lo hi A xs) : Rd w.drew lo hi A xs := h
theorem Rd.drewN (h : Rd w lo hi A xs) (n : Nat) : Rd (w.drewN n) lo hi A xs := h
theorem Rd.alloc (h : Rd w lo hi A xs) (o : Obj) : Rd (w.alloc o) lo hi A xs := h.below ((Below.refl _ _).alloc (Nat.le_refl _) o)
theorem Own.drew (h : Own w lo hi A xs) : Own w.drew lo hi A xs := h
theorem Own.drewN (h : Own w lo hi A xs) (n : Nat) : Own (w.drewN n) lo hi A xs := h
theorem Own.alloc (h : Own w lo hi A xs) (o : Obj) : Own (w.alloc o) lo hi A xs := h.below ((Below.refl _ _).alloc (Nat.le_refl _) o)
theorem Rd.setCell (h : Rd w lo hi A xs) {p : Addr} (hp : p.block < lo ∨ hi ≤ p.block) (u : Value) : Rd (w.setCell p u) lo hi A xs :=
 h.keep (by simp [World.setCell]) (fun k _ hk => Below.heap_setCell _ _ _ _ (by omega))
theorem Own.setCell (h : Own w lo hi A xs) {p : Addr} (hp : p.block < lo ∨ hi ≤ p.block) (u : Value) : Own (w.setCell p u) lo hi A xs :=
 h.keep (by simp [World.setCell]) (fun k _ hk => Below.heap_setCell _ _ _ _ (by omega))

theorem Only.refl (lo hi : Nat) (w : World) : Only lo hi w w := ⟨rfl, rfl, rfl, Nat.le_refl _, fun _ _ _ => rfl⟩
theorem Only.trans (h : Only lo hi w w') (k : Only lo hi w' w'') : Only lo hi w w'' :=
 ⟨k.os.trans h.os, k.tape.trans h.tape, k.output.trans h.output, Nat.le_trans h.size k.size, fun i hi' hd => (k.block i (Nat.lt_of_lt_of_le hi' h.size) hd).trans (h.block i hi' hd)⟩
theorem Only.mono (h : Only lo hi w w') (hl : lo' ≤ lo) (hh : hi ≤ hi') : Only lo' hi' w w' := ⟨h.os, h.tape, h.output, h.size, fun k hk hd => h.block k hk (by omega)⟩
theorem Only.of_below (h : Below w.heap.size w w') : Only lo hi w w' := ⟨h.os, h.tape, h.output, h.size, fun k hk _ => h.block k hk⟩
theorem Only.drew (h : Only lo hi w w') : Only lo hi w w'.drew := h.trans ⟨rfl, rfl, rfl, Nat.le_refl _, fun _ _ _ => rfl⟩
theorem Only.alloc (h : Only lo hi w w') (o : Obj) : Only lo hi w (w'.alloc o) := h.trans (Only.of_below ((Below.refl _ _).alloc (Nat.le_refl _) o))
theorem Only.setCell (h : Only lo hi w w') {p : Addr} (h1 : lo ≤ p.block) (h2 : p.block < hi) (u : Value) : Only lo hi w (w'.setCell p u) :=
 h.trans ⟨rfl, rfl, rfl, by simp [World.setCell], fun k _ hd => Below.heap_setCell _ _ _ _ (by omega)⟩
/-- what lies wholly above is new -/
theorem Only.toBelow {B : Nat} (h : Only lo hi w w') (hB : B ≤ lo) (hs : B ≤ w.heap.size) : Below B w w' :=
 ⟨h.os, h.tape, h.output, h.size, fun k hk => h.block k (by omega) (by omega)⟩

theorem below_then {B : Nat} {a : World} (h : Below B a w) (k : Below w.heap.size w w') (hB : B ≤ w.heap.size) : Below B a w' := h.trans (k.mono hB)
theorem below_only {B : Nat} {a : World} (h : Below B a w) (k : Only lo hi w w') (hB : B ≤ lo) (hs : B ≤ w.heap.size) : Below B a w' := h.trans (k.toBelow hB hs)
theorem Below.rfl' (w : World) : Below w.heap.size w w := Below.refl _ _

/-- an owned row of the call's own, as a slice that may be written -/
theorem Own.of_ownsRow {e size n c : Nat} (h : w.ownsRow lo e size (.slice A n c) n xs) : Own w lo w.heap.size A xs := by
 intro hn
 rcases h.2 with ⟨_, h0⟩ | ⟨g, cap, cur, hv, hg, hh, hnc, hcm, hsz, ht⟩
 ·exact absurd (List.eq_nil_of_length_eq_zero (by simpa [h0] using h.1)) hn
 ·injection hv with hv1 hv2 hv3
  subst hv1
  refine ⟨g, 0, rfl, hg, (Array.getElem?_eq_some_iff.1 hh).1, Nat.le_refl _, fun j u hu => ?_, fun j => ?_⟩
  ·have := h.cells (g := g) rfl j u hu
   rwa [Addr.add_lit] at this
  ·exact frozen_of_row w g (0 + j) cur e hh

theorem Own.set {b off : Nat} (h : Own w lo hi (some ⟨b, off, none⟩) xs) {j : Nat} (hj : j < xs.length) (u : Value) :
  Own (w.setCell ⟨b, off + j, none⟩ u) lo hi (some ⟨b, off, none⟩) (xs.set j u) := by
 have hn : xs ≠ [] := by intro e; subst e; simp at hj
 obtain ⟨b', off', h1, h2, h3, h4, h5, h6⟩ := h hn
 simp only [Option.some.injEq, Addr.mk.injEq, and_true] at h1
 obtain ⟨rfl, rfl⟩ := h1
 refine fun _ => ⟨b, off, rfl, h2, h3, by simpa [World.setCell] using h4, fun i v hv => ?_, fun i => by simpa using h6 i⟩
 by_cases hij : j = i
 ·subst hij
  rw [List.getElem?_set_self hj] at hv
  cases hv
  exact World.cell?_setCell_same _ _ _ (h5 j _ (List.getElem?_eq_getElem hj))
 ·rw [List.getElem?_set_ne hij] at hv
  rw [World.cell?_setCell_other _ _ _ _ (by simp only [ne_eq, Addr.mk.injEq, and_true, true_and]; omega)]
  exact h5 i v hv

theorem only_at (h : Only lo hi w w') {b : Nat} (h1 : b < w.heap.size) (h2 : b < lo ∨ hi ≤ b) : ∀ o, w'.cell? ⟨b, o, none⟩ = w.cell? ⟨b, o, none⟩ := fun _ => World.cell?_of_block (h.block b h1 h2)

/-- one cell of what is read -/
theorem Rd.at_ (h : Rd w lo hi A xs) {j : Nat} (hj : j < xs.length) : ∃ b off, A = some ⟨b, off, none⟩ ∧ b < w.heap.size ∧ ∀ j u, xs[j]? = some u → w.cell? ⟨b, off + j, none⟩ = some u := by
 have hn : xs ≠ [] := by intro e; subst e; simp at hj
 obtain ⟨b, off, h1, h2, h3, h4, h5⟩ := h hn
 exact ⟨b, off, h1, by omega, h5⟩
end

theorem Own.at_ {w : World} {lo hi : Nat} {A : Option Addr} {xs : List Value} (h : Own w lo hi A xs) {j : Nat} (hj : j < xs.length) : ∃ b off, A = some ⟨b, off, none⟩ ∧ lo ≤ b ∧ b < hi ∧ hi ≤ w.heap.size ∧
  (∀ j u, xs[j]? = some u → w.cell? ⟨b, off + j, none⟩ = some u) ∧ ∀ j, w.frozen? ⟨b, off + j, none⟩ = false := by
 have hn : xs ≠ [] := by intro e; subst e; simp at hj
 exact h hn

/-- block k of the world is known: its cells -/
def Box (w : World) (k : Nat) (cs : List Value) : Prop := k < w.heap.size ∧ ∀ o, w.cell? ⟨k, o, none⟩ = cs[o]?
section
variable {w w' : World} {k : Nat} {cs : List Value}
theorem Box.below (h : Box w k cs) (hb : Below w.heap.size w w') : Box w' k cs := ⟨Nat.lt_of_lt_of_le h.1 hb.size, fun o => (hb.cell (p := ⟨k, o, none⟩) h.1).trans (h.2 o)⟩
theorem Box.below2 (h : Box w k cs) (hb : Below w.heap.size w w') : Box w' k cs := h.below hb
theorem Box.only {lo hi : Nat} (h : Box w k cs) (ho : Only lo hi w w') (hk : k < lo ∨ hi ≤ k) : Box w' k cs := ⟨Nat.lt_of_lt_of_le h.1 ho.size, fun o => (only_at ho h.1 hk o).trans (h.2 o)⟩
theorem Box.alloc (h : Box w k cs) (o : Obj) : Box (w.alloc o) k cs := h.below ((Below.refl _ _).alloc (Nat.le_refl _) o)
theorem Box.drew (h : Box w k cs) : Box w.drew k cs := h
theorem Box.new0 (w : World) (cs : Array Value) (t : TypeId) : Box (w.alloc (.cells cs t)) w.heap.size cs.toList :=
 ⟨by simp, fun o => by rw [cell_of_row _ _ _ _ _ _ (heap_alloc_new w _)]; simp⟩
theorem Box.new1 (w : World) (o1 : Obj) (cs : Array Value) (t : TypeId) : Box ((w.alloc o1).alloc (.cells cs t)) (w.heap.size + 1) cs.toList := by
 have := Box.new0 (w.alloc o1) cs t
 simpa using this
theorem Box.new2 (w : World) (o1 o2 : Obj) (cs : Array Value) (t : TypeId) : Box (((w.alloc o1).alloc o2).alloc (.cells cs t)) (w.heap.size + 2) cs.toList := by
 have := Box.new0 ((w.alloc o1).alloc o2) cs t
 simpa using this
end

/-- strings as cells -/
def strs (l : List ByteArray) : List Value := l.map Value.string
def ints (l : List Int) : List Value := l.map (Value.int .i64)
theorem strs_len (l : List ByteArray) : (strs l).length = l.length := by simp [strs]
theorem ints_len (l : List Int) : (ints l).length = l.length := by simp [ints]
theorem strs_get {l : List ByteArray} {k : Nat} {s : ByteArray} (h : l[k]? = some s) : (strs l)[k]? = some (.string s) := by simp [strs, h]
theorem ints_get {l : List Int} {k : Nat} {s : Int} (h : l[k]? = some s) : (ints l)[k]? = some (.int .i64 s) := by simp [ints, h]

/-- string k of a slice of strings -/
theorem Rd.str {w : World} {lo hi : Nat} {A : Option Addr} {l : List ByteArray} (h : Rd w lo hi A (strs l)) {k : Nat} (hk : k < l.length) :
  ∃ b off s, A = some ⟨b, off, none⟩ ∧ b < w.heap.size ∧ l[k]? = some s ∧ w.cell? ⟨b, off + k, none⟩ = some (.string s) := by
 obtain ⟨b, off, h1, h2, h3⟩ := h.at_ (j := k) (by simpa [strs] using hk)
 exact ⟨b, off, l[k], h1, h2, List.getElem?_eq_getElem hk, h3 k _ (strs_get (List.getElem?_eq_getElem hk))⟩

/-- bytes that the call itself has just laid, made into a string -/
theorem conv_new {P : Program} (src e dst : TypeId) (hs : P.underlying src = some (.slice e)) (he : P.underlying e = some (.int .u8)) (hd : P.underlying dst = some .string) (W : World) (xs : List Int) (n : Nat) (hn : xs.length = n) :
  (convert src dst (.slice (some ⟨W.heap.size, 0, none⟩) n n)).run P (W.alloc (.cells (xs.map (Value.int .u8)).toArray e)) = .ok (.string (strOfNums xs)) (W.alloc (.cells (xs.map (Value.int .u8)).toArray e)) := by
 refine run_convert_bytes_arg _ src e hs he _ _ _ _ xs hn (fun i hi => ?_) dst hd
 rw [cell_of_row _ _ _ _ _ _ (heap_alloc_new W _)]
 simp [List.getD, show i < xs.length by omega]
theorem conv_1 {P : Program} (src e dst : TypeId) (hs : P.underlying src = some (.slice e)) (he : P.underlying e = some (.int .u8)) (hd : P.underlying dst = some .string) (W : World) (x : Int) :
  (convert src dst (.slice (some ⟨W.heap.size, 0, none⟩) 1 1)).run P (W.alloc (.cells #[.int .u8 x] e)) = .ok (.string (strOfNums [x])) (W.alloc (.cells #[.int .u8 x] e)) :=
 conv_new src e dst hs he hd W [x] 1 rfl
theorem conv_4 {P : Program} (src e dst : TypeId) (hs : P.underlying src = some (.slice e)) (he : P.underlying e = some (.int .u8)) (hd : P.underlying dst = some .string) (W : World) (x y z u : Int) :
  (convert src dst (.slice (some ⟨W.heap.size, 0, none⟩) 4 4)).run P (W.alloc (.cells #[.int .u8 x, .int .u8 y, .int .u8 z, .int .u8 u] e)) = .ok (.string (strOfNums [x, y, z, u])) (W.alloc (.cells #[.int .u8 x, .int .u8 y, .int .u8 z, .int .u8 u] e)) :=
 conv_new src e dst hs he hd W [x, y, z, u] 4 rfl

/-- what a contract's 'Below' says of old cells, as rules of the walk -/
theorem bcell {W w1 : World} (hb : Below W.heap.size W w1) : (∀ b o, b < W.heap.size → w1.cell? ⟨b, o, none⟩ = W.cell? ⟨b, o, none⟩) ∧ (∀ b o, b < W.heap.size → w1.frozen? ⟨b, o, none⟩ = W.frozen? ⟨b, o, none⟩) :=
 ⟨fun b o h => hb.cell (p := ⟨b, o, none⟩) h, fun b o h => hb.frozen (p := ⟨b, o, none⟩) h⟩

/-- a world in which nothing that W had has turned -/
structure Later (W : World) where
 v : World
 h : Below W.heap.size W v
theorem later_below {W w' : World} (h : ∃ n : Later W, w' = n.v) : Below W.heap.size W w' := let ⟨n, hn⟩ := h; hn ▸ n.h
instance (W : World) : Nonempty (Later W) := ⟨⟨W, Below.refl _ _⟩⟩
theorem later_cell {W : World} (v : Later W) (b o : Nat) (h : b < W.heap.size) : v.v.cell? ⟨b, o, none⟩ = W.cell? ⟨b, o, none⟩ := v.h.cell (p := ⟨b, o, none⟩) h
theorem later_frozen {W : World} (v : Later W) (b o : Nat) (h : b < W.heap.size) : v.v.frozen? ⟨b, o, none⟩ = W.frozen? ⟨b, o, none⟩ := v.h.frozen (p := ⟨b, o, none⟩) h
/-- A region that draws its order, whose own operations only read what W has, and whose calls hand back plain values and turn nothing that W has. -/
theorem wp_region_later {P : Program} {id : Nat} {Q : Exit → Act → World → Prop} {a : Act} {w : World} {l : List Oper} (hm : P.follows .mixedOrders = true) (hB : Region.lexB .any l.toArray = true)
  (h : wpQuiet P l.toArray (fun w' => ∃ n : Later w, w' = n.v) (fun a' => ∀ w', (∃ n : Later w, w' = n.v) → Q .normal a' w') l a) : (Code.region id l.toArray true).wp P Q a w :=
 wp_region_quiet (C := fun w' => ∃ n : Later w, w' = n.v) hm hB ⟨⟨_, (Below.refl w.heap.size w).drew⟩, rfl⟩ (by simpa using h)
/-- a callee that turns nothing, in such a region -/
theorem later_call {P : Program} {f : FuncId} {args : Array Value} {W : World} {n : Later W} {v : Value} (h : Calls P f args n.v fun e w' => e = .returned v ∧ Below n.v.heap.size n.v w') :
  Calls P f args n.v fun e w'' => e = .returned v ∧ ∃ m : Later W, w'' = m.v :=
 h.mono fun _ w' ⟨he, hb⟩ => ⟨he, ⟨w', below_then n.h hb n.h.size⟩, rfl⟩

/-- the outcome of counting what a value holds: what is left, or -1 -/
def szF (left : Int) (b : Nat) : Int := if (b : Int) ≤ left then left - b else -1
theorem szF_add {left : Int} {a b : Nat} (h : 0 ≤ szF left a) : szF (szF left a) b = szF left (a + b) := by
 unfold szF at *; split at h <;> rename_i h1
 ·rw [if_pos h1]; by_cases h2 : (b : Int) ≤ left - a
  ·rw [if_pos h2, if_pos (by omega)]; omega
  ·rw [if_neg h2, if_neg (by omega)]
 ·omega
theorem szF_le (left : Int) (b : Nat) (h : -1 ≤ left) : -1 ≤ szF left b ∧ szF left b ≤ left := by unfold szF; split <;> omega
theorem szF_neg1 {left : Int} {b : Nat} (h1 : -1 ≤ left) (h : szF left b < 0) : szF left b = -1 := by
 unfold szF at *
 by_cases h2 : (b : Int) ≤ left
 ·rw [if_pos h2] at h; omega
 ·rw [if_neg h2]
theorem szF_neg_more {left : Int} {a b : Nat} (h1 : -1 ≤ left) (h : szF left a < 0) (hab : a ≤ b) : -1 = szF left b := by
 unfold szF at *
 by_cases h2 : (a : Int) ≤ left
 ·rw [if_pos h2] at h; omega
 ·rw [if_neg (by omega)]
theorem szF_lt {left : Int} {b : Nat} (h : left < b) : szF left b = -1 := if_neg (by omega)
theorem szF_ge {left : Int} {b : Nat} (h : (b : Int) ≤ left) : szF left b = left - b := if_pos h
theorem szF_pos {left : Int} {b : Nat} (h : 0 ≤ szF left b) : (b : Int) ≤ left ∧ szF left b = left - b := by unfold szF at *; split at h <;> rename_i h1 <;> simp_all
theorem szF_neg {left : Int} {b : Nat} (h : szF left b < 0) (h0 : 0 ≤ left) : szF left b = -1 ∧ left < b := by unfold szF at *; split at h <;> rename_i h1 <;> simp_all <;> omega
/-- letters of strings, and how many they are -/
def bulkS : List ByteArray → Nat
 | [] => 0
 | s :: l => s.size + bulkS l
theorem bulkS_append (a b : List ByteArray) : bulkS (a ++ b) = bulkS a + bulkS b := by
 induction a with
 | nil => simp [bulkS]
 | cons x a ih => simp [bulkS, ih]; omega
theorem take_succ {α : Type} {l : List α} {k : Nat} {s : α} (h : l[k]? = some s) : l.take (k + 1) = l.take k ++ [s] := by
 rw [List.take_succ_eq_append_getElem (List.getElem?_eq_some_iff.1 h).1, (List.getElem?_eq_some_iff.1 h).2]
theorem bulkS_take {l : List ByteArray} {k : Nat} {s : ByteArray} (h : l[k]? = some s) : bulkS (l.take (k + 1)) = bulkS (l.take k) + s.size := by
 rw [take_succ h, bulkS_append]; simp [bulkS]
theorem bulkS_take_le (l : List ByteArray) (k : Nat) : bulkS (l.take k) ≤ bulkS l := by
 conv => rhs; rw [← List.take_append_drop k l, bulkS_append]
 omega
theorem bulkS_get {l : List ByteArray} {k : Nat} {s : ByteArray} (h : l[k]? = some s) : s.size ≤ bulkS l := by
 have := bulkS_take h; have := bulkS_take_le l (k + 1); omega

theorem ret_int {k : IntKind} {a b : Int} (h : a = b) : Ending.returned (.int k a) = .returned (.int k b) := by rw [h]
theorem ret_bool {a b : Bool} (h : a = b) : Ending.returned (.bool a) = .returned (.bool b) := by rw [h]

end Go.Proofs.YtmmepogjocfefaaGreat
