/- Part 1 of the proof of FnProofs: lemmas and contracts. -/
import Derived.WalkKit
import Derived.WalkSpells
import Derived.WalkLawsBesides
import Derived.Lib.Hide
import Derived.BigQuiet
import Derived.Deep.QuietTactic
import Derived.Deep.RegionHeld3
import Derived.Deep.DrawnRows
import Derived.ProofKit
import Derived.Deep.Slices
import Derived.Deep.Fields
import Derived.ChangeSame
import Derived.Test.YtoccjgcokffkbaaGreatRows
namespace Go.Proofs.YtoccjgcokffkbaaGreat
set_option linter.unusedVariables false
set_option linter.unusedSimpArgs false
set_option maxHeartbeats 20000000
section
open Go.RowKit
def Rd (w : World) (lo hi : Nat) (A : Option Addr) (xs : List Value) : Prop :=
 xs ≠ [] → ∃ b off, A = some ⟨b, off, none⟩ ∧ lo ≤ b ∧ b < hi ∧ hi ≤ w.heap.size ∧ ∀ j u, xs[j]? = some u → w.cell? ⟨b, off + j, none⟩ = some u
def Own (w : World) (lo hi : Nat) (A : Option Addr) (xs : List Value) : Prop :=
 xs ≠ [] → ∃ b off, A = some ⟨b, off, none⟩ ∧ lo ≤ b ∧ b < hi ∧ hi ≤ w.heap.size ∧ (∀ j u, xs[j]? = some u → w.cell? ⟨b, off + j, none⟩ = some u) ∧
  ∀ j, w.frozen? ⟨b, off + j, none⟩ = false
structure Only (lo hi : Nat) (w w' : World) : Prop where
 os : w'.os = w.os
 tape : w'.tape = w.tape
 output : w'.output = w.output
 size : w.heap.size ≤ w'.heap.size
 block : ∀ k, k < w.heap.size → (k < lo ∨ hi ≤ k) → w'.heap[k]? = w.heap[k]?
section
variable {w w' w'' : World} {lo hi lo' hi' : Nat} {A : Option Addr} {xs : List Value}
theorem Rd.nil : Rd w lo hi A [] := fun h => absurd rfl h
theorem Own.nil : Own w lo hi A [] := fun h => absurd rfl h
theorem Own.rd (h : Own w lo hi A xs) : Rd w lo hi A xs := fun hn =>
 let ⟨b, off, h1, h2, h3, h4, h5, _⟩ := h hn
 ⟨b, off, h1, h2, h3, h4, h5⟩
theorem Rd.mono (h : Rd w lo hi A xs) (hl : lo' ≤ lo) (hh : hi ≤ hi') (hs : hi' ≤ w.heap.size) : Rd w lo' hi' A xs := fun hn =>
 let ⟨b, off, h1, h2, h3, _, h5⟩ := h hn
 ⟨b, off, h1, by omega, by omega, hs, h5⟩
theorem Own.mono (h : Own w lo hi A xs) (hl : lo' ≤ lo) (hh : hi ≤ hi') (hs : hi' ≤ w.heap.size) : Own w lo' hi' A xs := fun hn =>
 let ⟨b, off, h1, h2, h3, _, h5⟩ := h hn
 ⟨b, off, h1, by omega, by omega, hs, h5⟩
theorem Rd.keep (h : Rd w lo hi A xs) (hs : w.heap.size ≤ w'.heap.size) (hb : ∀ k, lo ≤ k → k < hi → w'.heap[k]? = w.heap[k]?) : Rd w' lo hi A xs := fun hn =>
 let ⟨b, off, h1, h2, h3, h4, h5⟩ := h hn
 ⟨b, off, h1, h2, h3, by omega, fun j u hu => (World.cell?_of_block (hb b h2 h3)).trans (h5 j u hu)⟩
theorem Own.keep (h : Own w lo hi A xs) (hs : w.heap.size ≤ w'.heap.size) (hb : ∀ k, lo ≤ k → k < hi → w'.heap[k]? = w.heap[k]?) : Own w' lo hi A xs := fun hn =>
 let ⟨b, off, h1, h2, h3, h4, h5, h6⟩ := h hn
 ⟨b, off, h1, h2, h3, by omega, fun j u hu => (World.cell?_of_block (hb b h2 h3)).trans (h5 j u hu), fun j => (World.frozen?_of_block (hb b h2 h3)).trans (h6 j)⟩
theorem Rd.top (h : Rd w lo hi A xs) (hn : xs ≠ []) : hi ≤ w.heap.size := let ⟨_, _, _, _, _, h4, _⟩ := h hn; h4
theorem Rd.below (h : Rd w lo hi A xs) (hb : Below w.heap.size w w') : Rd w' lo hi A xs := fun hn =>
 h.keep hb.size (fun k _ hk => hb.block k (by have := h.top hn; omega)) hn
theorem Own.below (h : Own w lo hi A xs) (hb : Below w.heap.size w w') : Own w' lo hi A xs := fun hn =>
 h.keep hb.size (fun k _ hk => hb.block k (by have := h.rd.top hn; omega)) hn
theorem Rd.only (h : Rd w lo hi A xs) (ho : Only lo' hi' w w') (hd : hi ≤ lo' ∨ hi' ≤ lo) : Rd w' lo hi A xs := fun hn =>
 h.keep ho.size (fun k hk1 hk2 => ho.block k (by have := h.top hn; omega) (by omega)) hn
theorem Own.only (h : Own w lo hi A xs) (ho : Only lo' hi' w w') (hd : hi ≤ lo' ∨ hi' ≤ lo) : Own w' lo hi A xs := fun hn =>
 h.keep ho.size (fun k hk1 hk2 => ho.block k (by have := h.rd.top hn; omega) (by omega)) hn
theorem Rd.drew (h : Rd w lo hi A xs) : Rd w.drew lo hi A xs := h
theorem Rd.drewN (h : Rd w lo hi A xs) (n : Nat) : Rd (w.drewN n) lo hi A xs := h
theorem Rd.alloc (h : Rd w lo hi A xs) (o : Obj) : Rd (w.alloc o) lo hi A xs := h.below ((Below.refl _ _).alloc (Nat.le_refl _) o)
theorem Own.drew (h : Own w lo hi A xs) : Own w.drew lo hi A xs := h
theorem Own.drewN (h : Own w lo hi A xs) (n : Nat) : Own (w.drewN n) lo hi A xs := h
theorem Own.alloc (h : Own w lo hi A xs) (o : Obj) : Own (w.alloc o) lo hi A xs := h.below ((Below.refl _ _).alloc (Nat.le_refl _) o)
theorem Rd.setCell (h : Rd w lo hi A xs) {p : Addr} (hp : p.block < lo ∨ hi ≤ p.block) (u : Value) : Rd (w.setCell p u) lo hi A xs :=
 h.keep (by simp [World.setCell]) (fun k _ hk => Below.heap_setCell _ _ _ _ (by omega))
theorem Own.setCell (h : Own w lo hi A xs) {p : Addr} (hp : p.block < lo ∨ hi ≤ p.block) (u : Value) : Own (w.setCell p u) lo hi A xs :=
 h.keep (by simp [World.setCell]) (fun k _ hk => Below.heap_setCell _ _ _ _ (by omega))
theorem Only.refl (lo hi : Nat) (w : World) : Only lo hi w w := ⟨rfl, rfl, rfl, Nat.le_refl _, fun _ _ _ => rfl⟩
theorem Only.trans (h : Only lo hi w w') (k : Only lo hi w' w'') : Only lo hi w w'' :=
 ⟨k.os.trans h.os, k.tape.trans h.tape, k.output.trans h.output, Nat.le_trans h.size k.size, fun i hi' hd => (k.block i (Nat.lt_of_lt_of_le hi' h.size) hd).trans (h.block i hi' hd)⟩
theorem Only.mono (h : Only lo hi w w') (hl : lo' ≤ lo) (hh : hi ≤ hi') : Only lo' hi' w w' := ⟨h.os, h.tape, h.output, h.size, fun k hk hd => h.block k hk (by omega)⟩
theorem Only.of_below (h : Below w.heap.size w w') : Only lo hi w w' := ⟨h.os, h.tape, h.output, h.size, fun k hk _ => h.block k hk⟩
theorem Only.drew (h : Only lo hi w w') : Only lo hi w w'.drew := h.trans ⟨rfl, rfl, rfl, Nat.le_refl _, fun _ _ _ => rfl⟩
theorem Only.alloc (h : Only lo hi w w') (o : Obj) : Only lo hi w (w'.alloc o) := h.trans (Only.of_below ((Below.refl _ _).alloc (Nat.le_refl _) o))
theorem Only.setCell (h : Only lo hi w w') {p : Addr} (h1 : lo ≤ p.block) (h2 : p.block < hi) (u : Value) : Only lo hi w (w'.setCell p u) :=
 h.trans ⟨rfl, rfl, rfl, by simp [World.setCell], fun k _ hd => Below.heap_setCell _ _ _ _ (by omega)⟩
theorem Only.toBelow {B : Nat} (h : Only lo hi w w') (hB : B ≤ lo) (hs : B ≤ w.heap.size) : Below B w w' :=
 ⟨h.os, h.tape, h.output, h.size, fun k hk => h.block k (by omega) (by omega)⟩
theorem below_then {B : Nat} {a : World} (h : Below B a w) (k : Below w.heap.size w w') (hB : B ≤ w.heap.size) : Below B a w' := h.trans (k.mono hB)
theorem below_only {B : Nat} {a : World} (h : Below B a w) (k : Only lo hi w w') (hB : B ≤ lo) (hs : B ≤ w.heap.size) : Below B a w' := h.trans (k.toBelow hB hs)
theorem Own.of_ownsRow {e size n c : Nat} (h : w.ownsRow lo e size (.slice A n c) n xs) : Own w lo w.heap.size A xs := by
 intro hn
 rcases h.2 with ⟨_, h0⟩ | ⟨g, cap, cur, hv, hg, hh, hnc, hcm, hsz, ht⟩
 ·exact absurd (List.eq_nil_of_length_eq_zero (by simpa [h0] using h.1)) hn
 ·injection hv with hv1 hv2 hv3
  subst hv1
  refine ⟨g, 0, rfl, hg, (Array.getElem?_eq_some_iff.1 hh).1, Nat.le_refl _, fun j u hu => ?_, fun j => ?_⟩
  ·have := h.cells (g := g) rfl j u hu
   rwa [Addr.add_lit] at this
  ·exact frozen_of_row w g (0 + j) cur e hh
theorem Own.set {b off : Nat} (h : Own w lo hi (some ⟨b, off, none⟩) xs) {j : Nat} (hj : j < xs.length) (u : Value) :
  Own (w.setCell ⟨b, off + j, none⟩ u) lo hi (some ⟨b, off, none⟩) (xs.set j u) := by
 have hn : xs ≠ [] := by intro e; subst e; simp at hj
 obtain ⟨b', off', h1, h2, h3, h4, h5, h6⟩ := h hn
 simp only [Option.some.injEq, Addr.mk.injEq, and_true] at h1
 obtain ⟨rfl, rfl⟩ := h1
 refine fun _ => ⟨b, off, rfl, h2, h3, by simpa [World.setCell] using h4, fun i v hv => ?_, fun i => by simpa using h6 i⟩
 by_cases hij : j = i
 ·subst hij
  rw [List.getElem?_set_self hj] at hv
  cases hv
  exact World.cell?_setCell_same _ _ _ (h5 j _ (List.getElem?_eq_getElem hj))
 ·rw [List.getElem?_set_ne hij] at hv
  rw [World.cell?_setCell_other _ _ _ _ (by simp only [ne_eq, Addr.mk.injEq, and_true, true_and]; omega)]
  exact h5 i v hv
theorem only_at (h : Only lo hi w w') {b : Nat} (h1 : b < w.heap.size) (h2 : b < lo ∨ hi ≤ b) : ∀ o, w'.cell? ⟨b, o, none⟩ = w.cell? ⟨b, o, none⟩ := fun _ => World.cell?_of_block (h.block b h1 h2)
theorem Rd.at_ (h : Rd w lo hi A xs) {j : Nat} (hj : j < xs.length) : ∃ b off, A = some ⟨b, off, none⟩ ∧ b < w.heap.size ∧ ∀ j u, xs[j]? = some u → w.cell? ⟨b, off + j, none⟩ = some u := by
 have hn : xs ≠ [] := by intro e; subst e; simp at hj
 obtain ⟨b, off, h1, h2, h3, h4, h5⟩ := h hn
 exact ⟨b, off, h1, by omega, h5⟩
end
theorem Own.at_ {w : World} {lo hi : Nat} {A : Option Addr} {xs : List Value} (h : Own w lo hi A xs) {j : Nat} (hj : j < xs.length) : ∃ b off, A = some ⟨b, off, none⟩ ∧ lo ≤ b ∧ b < hi ∧ hi ≤ w.heap.size ∧
  (∀ j u, xs[j]? = some u → w.cell? ⟨b, off + j, none⟩ = some u) ∧ ∀ j, w.frozen? ⟨b, off + j, none⟩ = false := by
 have hn : xs ≠ [] := by intro e; subst e; simp at hj
 exact h hn
def Box (w : World) (k : Nat) (cs : List Value) : Prop := k < w.heap.size ∧ ∀ o, w.cell? ⟨k, o, none⟩ = cs[o]?
section
variable {w w' : World} {k : Nat} {cs : List Value}
theorem Box.below (h : Box w k cs) (hb : Below w.heap.size w w') : Box w' k cs := ⟨Nat.lt_of_lt_of_le h.1 hb.size, fun o => (hb.cell (p := ⟨k, o, none⟩) h.1).trans (h.2 o)⟩
theorem Box.only {lo hi : Nat} (h : Box w k cs) (ho : Only lo hi w w') (hk : k < lo ∨ hi ≤ k) : Box w' k cs := ⟨Nat.lt_of_lt_of_le h.1 ho.size, fun o => (only_at ho h.1 hk o).trans (h.2 o)⟩
theorem Box.alloc (h : Box w k cs) (o : Obj) : Box (w.alloc o) k cs := h.below ((Below.refl _ _).alloc (Nat.le_refl _) o)
theorem Box.drew (h : Box w k cs) : Box w.drew k cs := h
theorem Box.new0 (w : World) (cs : Array Value) (t : TypeId) : Box (w.alloc (.cells cs t)) w.heap.size cs.toList :=
 ⟨by simp, fun o => by rw [cell_of_row _ _ _ _ _ _ (heap_alloc_new w _)]; simp⟩
end
def strs (l : List ByteArray) : List Value := l.map Value.string
def ints (l : List Int) : List Value := l.map (Value.int .i64)
theorem strs_len (l : List ByteArray) : (strs l).length = l.length := by simp [strs]
theorem ints_len (l : List Int) : (ints l).length = l.length := by simp [ints]
theorem strs_get {l : List ByteArray} {k : Nat} {s : ByteArray} (h : l[k]? = some s) : (strs l)[k]? = some (.string s) := by simp [strs, h]
theorem ints_get {l : List Int} {k : Nat} {s : Int} (h : l[k]? = some s) : (ints l)[k]? = some (.int .i64 s) := by simp [ints, h]
theorem Rd.str {w : World} {lo hi : Nat} {A : Option Addr} {l : List ByteArray} (h : Rd w lo hi A (strs l)) {k : Nat} (hk : k < l.length) :
  ∃ b off s, A = some ⟨b, off, none⟩ ∧ b < w.heap.size ∧ l[k]? = some s ∧ w.cell? ⟨b, off + k, none⟩ = some (.string s) := by
 obtain ⟨b, off, h1, h2, h3⟩ := h.at_ (j := k) (by simpa [strs] using hk)
 exact ⟨b, off, l[k], h1, h2, List.getElem?_eq_getElem hk, h3 k _ (strs_get (List.getElem?_eq_getElem hk))⟩
theorem conv_new {P : Program} (src e dst : TypeId) (hs : P.underlying src = some (.slice e)) (he : P.underlying e = some (.int .u8)) (hd : P.underlying dst = some .string) (W : World) (xs : List Int) (n : Nat) (hn : xs.length = n) :
  (convert src dst (.slice (some ⟨W.heap.size, 0, none⟩) n n)).run P (W.alloc (.cells (xs.map (Value.int .u8)).toArray e)) = .ok (.string (strOfNums xs)) (W.alloc (.cells (xs.map (Value.int .u8)).toArray e)) := by
 refine run_convert_bytes_arg _ src e hs he _ _ _ _ xs hn (fun i hi => ?_) dst hd
 rw [cell_of_row _ _ _ _ _ _ (heap_alloc_new W _)]
 simp [List.getD, show i < xs.length by omega]
theorem conv_1 {P : Program} (src e dst : TypeId) (hs : P.underlying src = some (.slice e)) (he : P.underlying e = some (.int .u8)) (hd : P.underlying dst = some .string) (W : World) (x : Int) :
  (convert src dst (.slice (some ⟨W.heap.size, 0, none⟩) 1 1)).run P (W.alloc (.cells #[.int .u8 x] e)) = .ok (.string (strOfNums [x])) (W.alloc (.cells #[.int .u8 x] e)) :=
 conv_new src e dst hs he hd W [x] 1 rfl
theorem conv_4 {P : Program} (src e dst : TypeId) (hs : P.underlying src = some (.slice e)) (he : P.underlying e = some (.int .u8)) (hd : P.underlying dst = some .string) (W : World) (x y z u : Int) :
  (convert src dst (.slice (some ⟨W.heap.size, 0, none⟩) 4 4)).run P (W.alloc (.cells #[.int .u8 x, .int .u8 y, .int .u8 z, .int .u8 u] e)) = .ok (.string (strOfNums [x, y, z, u])) (W.alloc (.cells #[.int .u8 x, .int .u8 y, .int .u8 z, .int .u8 u] e)) :=
 conv_new src e dst hs he hd W [x, y, z, u] 4 rfl
structure Later (W : World) where
 v : World
 h : Below W.heap.size W v
theorem later_below {W w' : World} (h : ∃ n : Later W, w' = n.v) : Below W.heap.size W w' := let ⟨n, hn⟩ := h; hn ▸ n.h
instance (W : World) : Nonempty (Later W) := ⟨⟨W, Below.refl _ _⟩⟩
theorem later_cell {W : World} (v : Later W) (b o : Nat) (h : b < W.heap.size) : v.v.cell? ⟨b, o, none⟩ = W.cell? ⟨b, o, none⟩ := v.h.cell (p := ⟨b, o, none⟩) h
theorem wp_region_later {P : Program} {id : Nat} {Q : Exit → Act → World → Prop} {a : Act} {w : World} {l : List Oper} (hm : P.follows .mixedOrders = true) (hB : Region.lexB .any l.toArray = true)
  (h : wpQuiet P l.toArray (fun w' => ∃ n : Later w, w' = n.v) (fun a' => ∀ w', (∃ n : Later w, w' = n.v) → Q .normal a' w') l a) : (Code.region id l.toArray true).wp P Q a w :=
 wp_region_quiet (C := fun w' => ∃ n : Later w, w' = n.v) hm hB ⟨⟨_, (Below.refl w.heap.size w).drew⟩, rfl⟩ (by simpa using h)
theorem later_call {P : Program} {f : FuncId} {args : Array Value} {W : World} {n : Later W} {v : Value} (h : Calls P f args n.v fun e w' => e = .returned v ∧ Below n.v.heap.size n.v w') :
  Calls P f args n.v fun e w'' => e = .returned v ∧ ∃ m : Later W, w'' = m.v :=
 h.mono fun _ w' ⟨he, hb⟩ => ⟨he, ⟨w', below_then n.h hb n.h.size⟩, rfl⟩
def bulkS : List ByteArray → Nat
 | [] => 0
 | s :: l => s.size + bulkS l
theorem bulkS_append (a b : List ByteArray) : bulkS (a ++ b) = bulkS a + bulkS b := by
 induction a with
 | nil => simp [bulkS]
 | cons x a ih => simp [bulkS, ih]; omega
theorem take_succ {α : Type} {l : List α} {k : Nat} {s : α} (h : l[k]? = some s) : l.take (k + 1) = l.take k ++ [s] := by
 rw [List.take_succ_eq_append_getElem (List.getElem?_eq_some_iff.1 h).1, (List.getElem?_eq_some_iff.1 h).2]
theorem bulkS_take {l : List ByteArray} {k : Nat} {s : ByteArray} (h : l[k]? = some s) : bulkS (l.take (k + 1)) = bulkS (l.take k) + s.size := by
 rw [take_succ h, bulkS_append]; simp [bulkS]
theorem bulkS_take_le (l : List ByteArray) (k : Nat) : bulkS (l.take k) ≤ bulkS l := by
 conv => rhs; rw [← List.take_append_drop k l, bulkS_append]
 omega
theorem bulkS_get {l : List ByteArray} {k : Nat} {s : ByteArray} (h : l[k]? = some s) : s.size ≤ bulkS l := by
 have := bulkS_take h; have := bulkS_take_le l (k + 1); omega
theorem ret_int {k : IntKind} {a b : Int} (h : a = b) : Ending.returned (.int k a) = .returned (.int k b) := by rw [h]
theorem ret_bool {a b : Bool} (h : a = b) : Ending.returned (.bool a) = .returned (.bool b) := by rw [h]
theorem Own.tight {w : World} {lo hi b off : Nat} {xs : List Value} (h : Own w lo hi (some ⟨b, off, none⟩) xs) : Own w b (b + 1) (some ⟨b, off, none⟩) xs := by
 intro hn
 obtain ⟨b', off', h1, h2, h3, h4, h5, h6⟩ := h hn
 cases h1
 exact ⟨b, off, rfl, Nat.le_refl _, Nat.lt_succ_self _, by omega, h5, h6⟩
theorem Rd.tight {w : World} {lo hi b off : Nat} {xs : List Value} (h : Rd w lo hi (some ⟨b, off, none⟩) xs) : Rd w b (b + 1) (some ⟨b, off, none⟩) xs := by
 intro hn
 obtain ⟨b', off', h1, h2, h3, h4, h5⟩ := h hn
 cases h1
 exact ⟨b, off, rfl, Nat.le_refl _, Nat.lt_succ_self _, by omega, h5⟩
theorem Own.ends {w : World} {lo hi lo' hi' : Nat} {A : Option Addr} {xs : List Value} (h : Own w lo hi A xs) (hl : lo' ≤ lo) (hh : hi ≤ hi') (hs : hi' ≤ w.heap.size) : Own w lo' hi' A xs := h.mono hl hh hs
theorem later_pure {P : Program} {f : FuncId} {args : Array Value} {W : World} {n : Later W} {v v' : Value} (h : Calls P f args n.v fun e w' => e = .returned v ∧ n.v = w') (hv : v = v' := by rfl) :
  Calls P f args n.v fun e w'' => e = .returned v' ∧ ∃ m : Later W, w'' = m.v :=
 h.mono fun _ w' ⟨he, hb⟩ => ⟨hv ▸ he, n, hb ▸ rfl⟩
theorem later_vcall {P : Program} {f : FuncId} {args : Array Value} {W : World} {n : Later W} {v v' : Value} (h : Calls P f args n.v fun e w' => e = .returned v ∧ Below n.v.heap.size n.v w') (hv : v = v') :
  Calls P f args n.v fun e w'' => e = .returned v' ∧ ∃ m : Later W, w'' = m.v := later_call (hv ▸ h)
theorem bool_v {a b : Bool} (h : a = b) : Value.bool a = Value.bool b := by rw [h]
theorem beq_no {a b : ByteArray} (h : ¬ a = b) : (a.toList == b.toList) = false := by
 rw [beq_eq_false_iff_ne]
 intro h2
 simp only [ByteArray.toList_eq] at h2
 exact h (ByteArray.ext (Array.toList_inj.1 h2))
theorem beq_iff {a b : ByteArray} : (a.toList == b.toList) = decide (a = b) := by
 by_cases h : a = b
 ·subst h; simp
 ·rw [beq_no h]; simp [h]
end
section
open Go.RowKit Go.WideShapes Go.Deep
section
variable {H : Type} {enc : TypeId × Value → H} {P : Program} {w : World} {spare : Nat → Bool} {held : Bool}
theorem flatMap_get {α : Type} {f : α → List Value} {m : Nat} (hm : ∀ x, (f x).length = m) : ∀ (l : List α) (j : Nat) (u : Value), (l.flatMap f)[j]? = some u →
  ∃ (i : Nat) (x : α), l[i]? = some x ∧ i * m ≤ j ∧ j < i * m + m ∧ (f x)[j - i * m]? = some u
 | [], j, u, h => by simp at h
 | a :: l, j, u, h => by
   rw [List.flatMap_cons] at h
   by_cases hj : j < m
   ·rw [List.getElem?_append_left (by rw [hm]; exact hj)] at h
    exact ⟨0, a, rfl, by omega, by omega, by simpa using h⟩
   ·rw [List.getElem?_append_right (by rw [hm]; omega), hm] at h
    obtain ⟨i, x, h1, h2, h3, h4⟩ := flatMap_get hm l (j - m) u h
    refine ⟨i + 1, x, by simpa using h1, by rw [Nat.add_mul]; omega, by rw [Nat.add_mul]; omega, ?_⟩
    rw [Nat.add_mul, Nat.one_mul, Nat.add_comm, Nat.sub_add_eq]
    exact h4
theorem get_flatMap {α : Type} {f : α → List Value} {m : Nat} (hm : ∀ x, (f x).length = m) : ∀ (l : List α) (i r : Nat) (x : α) (u : Value), l[i]? = some x → (f x)[r]? = some u → (l.flatMap f)[i * m + r]? = some u
 | [], i, r, x, u, h, _ => by simp at h
 | a :: l, 0, r, x, u, h, hr => by
   have hlt : r < m := by have := (List.getElem?_eq_some_iff.1 hr).1; rwa [hm] at this
   simp only [List.getElem?_cons_zero, Option.some.injEq] at h
   subst h
   rw [List.flatMap_cons, Nat.zero_mul, Nat.zero_add, List.getElem?_append_left (by rw [hm]; exact hlt)]
   exact hr
 | a :: l, i + 1, r, x, u, h, hr => by
   rw [List.flatMap_cons, List.getElem?_append_right (by rw [hm, Nat.add_mul]; omega), hm, Nat.add_mul, show i * m + 1 * m + r - m = i * m + r from by omega]
   exact get_flatMap hm l i r x u (by simpa using h) hr
theorem flatMap_len {α : Type} {f : α → List Value} {m : Nat} (hm : ∀ x, (f x).length = m) (l : List α) : (l.flatMap f).length = l.length * m := by
 induction l with
 | nil => simp
 | cons a l ih => rw [List.flatMap_cons, List.length_append, hm, ih, List.length_cons, Nat.add_mul]; omega
theorem open_flat {α : Type} {t e : TypeId} {fuel : Nat} {cs : List Value} {r : DataW H × List MemPlace} (f : α → List Value) (wf : α → Prop) (m : Nat) (hm0 : 0 < m) (hm : ∀ x, (f x).length = m)
  (ht : P.underlying t = some (.slice e)) (hC : P.cellsOf e = m)
  (hE : ∀ (fuel : Nat) (cs : List Value) (r : DataW H × List MemPlace), DataW.trod enc P w 0 spare held fuel e cs = some r → ∃ x, cs = f x ∧ wf x)
  (h : DataW.trod enc P w 0 spare held fuel t cs = some r) :
  ∃ (A : Option Addr) (n c : Nat) (l : List α), cs = [.slice A n c] ∧ l.length = n ∧ n ≤ c ∧ c ≤ maxLen ∧ Rd w 0 w.heap.size A (l.flatMap f) ∧ ∀ x ∈ l, wf x := by
 rcases open_slice ht h with ⟨rfl, _⟩ | ⟨a, len, cap, m', n', D, Pl, rfl, _, hl, hmx, hmm, _, hx⟩
 ·exact ⟨none, 0, 0, [], rfl, rfl, Nat.le_refl _, Nat.zero_le _, Rd.nil, by simp⟩
 ·have hle : len ≤ m' := by rw [hmm]; split <;> omega
  obtain ⟨X, hX⟩ : ∃ X : Fin len → α, ∀ i : Fin len, w.cells? 0 (a.add (i.1 * m)) m = some (f (X i)) ∧ wf (X i) := by
   have : ∀ i : Fin len, ∃ x, w.cells? 0 (a.add (i.1 * m)) m = some (f x) ∧ wf x := fun i => by
    obtain ⟨cs', h1, h2⟩ := hx i.1 (by omega)
    obtain ⟨x, rfl, hw⟩ := hE _ _ _ h2
    rw [hC] at h1
    exact ⟨x, h1, hw⟩
   exact ⟨fun i => (this i).choose, fun i => (this i).choose_spec⟩
  have hget : ∀ (i : Nat) (x : α), (List.ofFn X)[i]? = some x → ∃ hi : i < len, X ⟨i, hi⟩ = x := fun i x hi => by
   obtain ⟨h1, h2⟩ := List.getElem?_eq_some_iff.1 hi
   have hlt : i < len := by simpa using h1
   exact ⟨hlt, by simpa using h2⟩
  refine ⟨some a, len, cap, List.ofFn X, rfl, by simp, hl, hmx, fun hne => ?_, ?_⟩
  ·have hcell : ∀ j u, ((List.ofFn X).flatMap f)[j]? = some u → w.cell? (a.add j) = some u := fun j u hj => by
    obtain ⟨i, x, h1, h2, h3, h4⟩ := flatMap_get hm _ _ _ hj
    obtain ⟨hi, rfl⟩ := hget i x h1
    obtain ⟨_, _, hat⟩ := World.cells?_some (hX ⟨i, hi⟩).1
    have := hat (j - i * m) (by omega)
    rw [Go.Deep.add_add, h4] at this
    rwa [show i * m + (j - i * m) = j from by omega] at this
   obtain ⟨u0, hu0⟩ : ∃ u, ((List.ofFn X).flatMap f)[0]? = some u := by
    cases hl2 : (List.ofFn X).flatMap f with
    | nil => exact absurd hl2 hne
    | cons u _ => exact ⟨u, rfl⟩
   have hc0 := hcell 0 u0 hu0
   obtain ⟨b, off, spot⟩ := a
   have hspot : spot = none := by simpa [Addr.add] using World.cell?_spot hc0
   subst hspot
   have hb := World.block_lt_of_cell? _ _ hc0
   refine ⟨b, off, rfl, Nat.zero_le _, by simpa [Addr.add] using hb, Nat.le_refl _, fun j u hj => ?_⟩
   have := hcell j u hj
   rwa [Addr.add_lit] at this
  ·intro x hx'
   obtain ⟨i, hi⟩ := List.getElem?_of_mem hx'
   obtain ⟨hlt, rfl⟩ := hget i x hi
   exact (hX ⟨i, hlt⟩).2
def I64 (n : Int) : Prop := -9223372036854775808 ≤ n ∧ n ≤ 9223372036854775807
theorem trod_u8 {t : TypeId} {fuel : Nat} {cs : List Value} {r : DataW H × List MemPlace} (ht : P.underlying t = some (.int .u8)) (h : DataW.trod enc P w 0 spare held fuel t cs = some r) : ∃ n : Int, cs = [.int .u8 n] ∧ 0 ≤ n ∧ n ≤ 255 := by
 obtain ⟨n, h1, _, h3⟩ := DataW.trod_int ht h
 exact ⟨n, h1, by simpa [Lit.wf, IntKind.min, IntKind.max, IntKind.signed, IntKind.bits] using h3⟩
end
end
section
open Go.RowKit
structure Ent where
 topic : ByteArray
 index : Int
 time : Int
 key : ByteArray
 body : ByteArray
structure Rcp where
 reader : ByteArray
 topic : ByteArray
 index : Int
structure Hd where
 num : Int
 size : Int
 root : ByteArray
 taken : Int
 troot : ByteArray
def Ent.cells (e : Ent) : List Value := [.string e.topic, .int .i64 e.index, .int .i64 e.time, .string e.key, .string e.body]
def Rcp.cells (e : Rcp) : List Value := [.string e.reader, .string e.topic, .int .i64 e.index]
def Hd.cells (e : Hd) : List Value := [.int .i64 e.num, .int .i64 e.size, .string e.root, .int .i64 e.taken, .string e.troot]
def ents (l : List Ent) : List Value := l.flatMap Ent.cells
def rcps (l : List Rcp) : List Value := l.flatMap Rcp.cells
def hds (l : List Hd) : List Value := l.flatMap Hd.cells
theorem ents_len (l : List Ent) : (ents l).length = l.length * 5 := flatMap_len (f := Ent.cells) (m := 5) (fun _ => rfl) l
theorem rcps_len (l : List Rcp) : (rcps l).length = l.length * 3 := flatMap_len (f := Rcp.cells) (m := 3) (fun _ => rfl) l
theorem hds_len (l : List Hd) : (hds l).length = l.length * 5 := flatMap_len (f := Hd.cells) (m := 5) (fun _ => rfl) l
def Ent.bulk (e : Ent) : Nat := e.topic.size + e.key.size + e.body.size
def Rcp.bulk (e : Rcp) : Nat := e.reader.size + e.topic.size
def Hd.bulk (e : Hd) : Nat := e.root.size + e.troot.size
def sumBy {α : Type} (f : α → Nat) : List α → Nat
 | [] => 0
 | a :: l => f a + sumBy f l
theorem sumBy_append {α : Type} (f : α → Nat) (a b : List α) : sumBy f (a ++ b) = sumBy f a + sumBy f b := by
 induction a with
 | nil => simp [sumBy]
 | cons x a ih => simp [sumBy, ih]; omega
theorem sumBy_take {α : Type} (f : α → Nat) {l : List α} {k : Nat} {s : α} (h : l[k]? = some s) : sumBy f (l.take (k + 1)) = sumBy f (l.take k) + f s := by
 rw [take_succ h, sumBy_append]; simp [sumBy]
theorem sumBy_take_le {α : Type} (f : α → Nat) (l : List α) (k : Nat) : sumBy f (l.take k) ≤ sumBy f l := by
 conv => rhs; rw [← List.take_append_drop k l, sumBy_append]
 omega
theorem sumBy_get {α : Type} (f : α → Nat) {l : List α} {k : Nat} {s : α} (h : l[k]? = some s) : f s ≤ sumBy f l := by
 have := sumBy_take f h; have := sumBy_take_le f l (k + 1); omega
theorem sumBy_mem {α : Type} (f : α → Nat) {l : List α} {s : α} (h : s ∈ l) : f s ≤ sumBy f l := by
 obtain ⟨k, hk⟩ := List.getElem?_of_mem h
 exact sumBy_get f hk
def Ent.fits (e : Ent) : Prop := I64 e.index ∧ I64 e.time ∧ e.topic.size ≤ maxLen ∧ e.key.size ≤ maxLen ∧ e.body.size ≤ maxLen
def Rcp.fits (e : Rcp) : Prop := I64 e.index ∧ e.reader.size ≤ maxLen ∧ e.topic.size ≤ maxLen
def Hd.fits (e : Hd) : Prop := I64 e.num ∧ I64 e.size ∧ I64 e.taken ∧ e.root.size ≤ maxLen ∧ e.troot.size ≤ maxLen
theorem Rd.flat {α : Type} {f : α → List Value} {m : Nat} {w : World} {lo hi : Nat} {A : Option Addr} {l : List α} (hm : ∀ x, (f x).length = m) (h0 : 0 < m) (h : Rd w lo hi A (l.flatMap f)) {k : Nat} (hk : k < l.length) :
  ∃ b off x, A = some ⟨b, off, none⟩ ∧ lo ≤ b ∧ b < hi ∧ b < w.heap.size ∧ l[k]? = some x ∧ ∀ j u, (f x)[j]? = some u → w.cell? ⟨b, off + k * m + j, none⟩ = some u := by
 have hlen := flatMap_len hm l
 have hpos : 0 < l.length * m := Nat.mul_pos (by omega) h0
 obtain ⟨b, off, h1, h2, h3, h4, h5⟩ := h (by intro e; rw [e] at hlen; simp at hlen; omega)
 refine ⟨b, off, l[k], h1, h2, h3, by omega, List.getElem?_eq_getElem hk, fun j u hj => ?_⟩
 have := h5 (k * m + j) u (get_flatMap hm l k j _ u (List.getElem?_eq_getElem hk) hj)
 rwa [← Nat.add_assoc] at this
theorem Rd.base {w : World} {lo hi : Nat} {A : Option Addr} {xs : List Value} (h : Rd w lo hi A xs) : Rd w 0 w.heap.size A xs := fun hn =>
 let ⟨b, off, h1, _, h3, h4, h5⟩ := h hn
 ⟨b, off, h1, Nat.zero_le _, by omega, Nat.le_refl _, h5⟩
theorem wp_named {P : Program} {c : Code} {Q : Exit → Act → World → Prop} {a : Act} {W : World} (h : ∀ W', W' = W → c.wp P Q a W') : c.wp P Q a W := h W rfl
theorem calls_named {P : Program} {f : FuncId} {args : Array Value} {W : World} {R : Ending → World → Prop} (h : ∀ W', W' = W → Calls P f args W' R) : Calls P f args W R := h W rfl
def NewBox (w : World) (k : Nat) (cs : List Value) : Prop := k < w.heap.size ∧ (∀ o, w.cell? ⟨k, o, none⟩ = cs[o]?) ∧ ∀ o, w.frozen? ⟨k, o, none⟩ = false
section
variable {w w' : World} {k lo hi : Nat} {cs : List Value}
theorem NewBox.keep (h : NewBox w k cs) (hs : w.heap.size ≤ w'.heap.size) (hb : w'.heap[k]? = w.heap[k]?) : NewBox w' k cs :=
 ⟨Nat.lt_of_lt_of_le h.1 hs, fun o => (World.cell?_of_block hb).trans (h.2.1 o), fun o => (World.frozen?_of_block hb).trans (h.2.2 o)⟩
theorem NewBox.below (h : NewBox w k cs) (hb : Below w.heap.size w w') : NewBox w' k cs := h.keep hb.size (hb.block k h.1)
theorem NewBox.only (h : NewBox w k cs) (ho : Only lo hi w w') (hk : k < lo ∨ hi ≤ k) : NewBox w' k cs := h.keep ho.size (ho.block k h.1 hk)
theorem NewBox.alloc (h : NewBox w k cs) (o : Obj) : NewBox (w.alloc o) k cs := h.below ((Below.refl _ _).alloc (Nat.le_refl _) o)
theorem NewBox.drew (h : NewBox w k cs) : NewBox w.drew k cs := h
theorem NewBox.drewN (h : NewBox w k cs) (n : Nat) : NewBox (w.drewN n) k cs := h
theorem NewBox.setCell (h : NewBox w k cs) {p : Addr} (hp : p.block ≠ k) (u : Value) : NewBox (w.setCell p u) k cs :=
 h.keep (by simp [World.setCell]) (by simp [World.setCell, Array.getElem?_modify, hp])
theorem NewBox.box (h : NewBox w k cs) : Box w k cs := ⟨h.1, h.2.1⟩
theorem Box.keep (h : Box w k cs) (hs : w.heap.size ≤ w'.heap.size) (hb : w'.heap[k]? = w.heap[k]?) : Box w' k cs :=
 ⟨Nat.lt_of_lt_of_le h.1 hs, fun o => (World.cell?_of_block hb).trans (h.2 o)⟩
theorem NewBox.new (w : World) (cs : Array Value) (t : TypeId) : NewBox (w.alloc (.cells cs t)) w.heap.size cs.toList :=
 ⟨by simp, (Box.new0 w cs t).2, fun o => by
   rw [World.frozen?, heap_alloc_new]
   simp⟩
theorem NewBox.cell (h : NewBox w k cs) {o : Nat} {v : Value} (hv : cs[o]? = some v) : w.cell? ⟨k, o, none⟩ = some v := (h.2.1 o).trans hv
end
end
section
open Go.RowKit
theorem lH {p : Prop} (h : p) : Hid p := Lib.hid h
theorem bR (w : World) : Below w.heap.size w w := Below.refl _ _
theorem bA {w w' : World} (o : Obj) (h : Below w.heap.size w w') : Below w.heap.size w (w'.alloc o) := h.alloc h.size o
theorem bD {B : Nat} {w w' : World} (h : Below B w w') : Below B w w'.drew := h.drew
theorem bS {B : Nat} {w w' : World} {p : Addr} {u : Value} (hp : B ≤ p.block) (h : Below B w w') : Below B w (w'.setCell p u) := h.setCell hp u
end
section
open Go.RowKit
def inR (x a b : Int) : Bool := decide (a ≤ x) && decide (x ≤ b)
theorem inR_true {x a b : Int} : inR x a b = true ↔ a ≤ x ∧ x ≤ b := by simp [inR]
theorem inR_false {x a b : Int} : inR x a b = false ↔ x < a ∨ b < x := by
 rw [Bool.eq_false_iff, ne_eq, inR_true]; omega
set_option maxRecDepth 100000 in
theorem inRange_c (x a b : Int) (w : World) : Calls Tryz.prog 73 #[.int .i64 x, .int .i64 a, .int .i64 b] w fun e w' => e = .returned (.bool (inR x a b)) ∧ w = w' := by
 rcases (show x < a ∨ a ≤ x by omega) with h | h
 ·have e1 : inR x a b = false := inR_false.2 (.inl h)
  have E := lH e1
  clear e1
  go_enter Tryz.func73, Tryz.ntmps73
  go_wp2
  go_ret
  exact ⟨ret_bool E.out.symm, rfl⟩
 ·rcases (show b < x ∨ x ≤ b by omega) with h2 | h2
  ·have E := lH (inR_false.2 (.inr h2) : inR x a b = false)
   go_enter Tryz.func73, Tryz.ntmps73
   go_wp2
   go_ret
   exact ⟨ret_bool (by first | exact E.out.symm | (rw [E.out]; simp; done) | (rw [E.out]; simp; omega)), rfl⟩
  ·have E := lH (inR_true.2 ⟨h, h2⟩ : inR x a b = true)
   go_enter Tryz.func73, Tryz.ntmps73
   go_wp2
   go_ret
   exact ⟨ret_bool (by first | exact E.out.symm | (rw [E.out]; simp; done) | (rw [E.out]; simp; omega)), rfl⟩
set_option maxRecDepth 100000 in
theorem l01In_c (x a b : Int) (w : World) : Calls Tryz.prog 125 #[.int .i64 x, .int .i64 a, .int .i64 b] w fun e w' => e = .returned (.bool (inR x a b)) ∧ w = w' := by
 rcases (show x < a ∨ a ≤ x by omega) with h | h
 ·have e1 : inR x a b = false := inR_false.2 (.inl h)
  have E := lH e1
  clear e1
  go_enter Tryz.func125, Tryz.ntmps125
  go_wp2
  go_ret
  exact ⟨ret_bool E.out.symm, rfl⟩
 ·rcases (show b < x ∨ x ≤ b by omega) with h2 | h2
  ·have E := lH (inR_false.2 (.inr h2) : inR x a b = false)
   go_enter Tryz.func125, Tryz.ntmps125
   go_wp2
   go_ret
   exact ⟨ret_bool (by first | exact E.out.symm | (rw [E.out]; simp; done) | (rw [E.out]; simp; omega)), rfl⟩
  ·have E := lH (inR_true.2 ⟨h, h2⟩ : inR x a b = true)
   go_enter Tryz.func125, Tryz.ntmps125
   go_wp2
   go_ret
   exact ⟨ret_bool (by first | exact E.out.symm | (rw [E.out]; simp; done) | (rw [E.out]; simp; omega)), rfl⟩
set_option maxRecDepth 100000 in
theorem isSize_c (x : Int) (w : World) : Calls Tryz.prog 41 #[.int .i64 x] w fun e w' => e = .returned (.bool (inR x 0 512)) ∧ w = w' := by
 go_enter Tryz.func41, Tryz.ntmps41
 go_wp2_with fail
 refine (inRange_c x 0 512 _).mono ?_
 rintro e w1 ⟨rfl, rfl⟩
 go_wp2
 go_ret
 exact ⟨rfl, rfl⟩
set_option maxRecDepth 100000 in
theorem isIndex_c (x : Int) (w : World) : Calls Tryz.prog 183 #[.int .i64 x] w fun e w' => e = .returned (.bool (inR x 0 511)) ∧ w = w' := by
 go_enter Tryz.func183, Tryz.ntmps183
 go_wp2_with fail
 refine (inRange_c x 0 511 _).mono ?_
 rintro e w1 ⟨rfl, rfl⟩
 go_wp2
 go_ret
 exact ⟨rfl, rfl⟩
set_option maxRecDepth 100000 in
theorem isWidth_c (x : Int) (w : World) : Calls Tryz.prog 40 #[.int .i64 x] w fun e w' => e = .returned (.bool (inR x 1 32)) ∧ w = w' := by
 go_enter Tryz.func40, Tryz.ntmps40
 go_wp2_with fail
 refine (inRange_c x 1 32 _).mono ?_
 rintro e w1 ⟨rfl, rfl⟩
 go_wp2
 go_ret
 exact ⟨rfl, rfl⟩
set_option maxRecDepth 100000 in
theorem isTag_c (x : Int) (w : World) : Calls Tryz.prog 170 #[.int .i64 x] w fun e w' => e = .returned (.bool (inR x 0 255)) ∧ w = w' := by
 go_enter Tryz.func170, Tryz.ntmps170
 go_wp2_with fail
 refine (inRange_c x 0 255 _).mono ?_
 rintro e w1 ⟨rfl, rfl⟩
 go_wp2
 go_ret
 exact ⟨rfl, rfl⟩
set_option maxRecDepth 100000 in
theorem l04Size_c (x : Int) (w : World) : Calls Tryz.prog 194 #[.int .i64 x] w fun e w' => e = .returned (.bool (inR x 0 512)) ∧ w = w' := by
 go_enter Tryz.func194, Tryz.ntmps194
 go_wp2_with fail
 refine (l01In_c x 0 512 _).mono ?_
 rintro e w1 ⟨rfl, rfl⟩
 go_wp2
 go_ret
 exact ⟨rfl, rfl⟩
set_option maxRecDepth 100000 in
theorem l02Width_c (x : Int) (w : World) : Calls Tryz.prog 77 #[.int .i64 x] w fun e w' => e = .returned (.bool (inR x 1 32)) ∧ w = w' := by
 go_enter Tryz.func77, Tryz.ntmps77
 go_wp2_with fail
 refine (l01In_c x 1 32 _).mono ?_
 rintro e w1 ⟨rfl, rfl⟩
 go_wp2
 go_ret
 exact ⟨rfl, rfl⟩
end
end Go.Proofs.YtoccjgcokffkbaaGreat
