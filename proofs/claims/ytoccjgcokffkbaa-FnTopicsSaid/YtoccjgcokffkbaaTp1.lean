/- Words on memory for the walks: slices that read as lists of cells, later worlds, what a call may turn. More words on memory. Arguments opened: flat values (strings, integers, structs of these) and slices of them. The program's data in plain Lean: entries, receipts, heads, writes, and their cells. Words for walks whose steps a program types out: worlds with names, blocks of variables. Ranges of numbers: inRange and what stands on it. A region that draws its order and whose operations may make memory: one fact for each operation, shown once, serves every order. What the laws' own helpers do to a slice of strings. What the laws' helpers do to a Entry and to a slice of them. Written by gen_struct.py. slices.Clone of strings and of entries. append of what came in, and of one element, to a row of the call's own. Draws: a cursor over the bytes of a code. The types of this program as arguments. Written by gen_open.py. What the rows ask of the program's head, in small steps: the kernel cannot hold the head's letters at once. FnTopics: the closing: from the walk of the law to its statement. Written by mkend.py. Words: constants and turns. Arrays of words in a variable's block. The mixing of a block into a state. Words read out of a text, and written into one. The blocks of a text, mixed into a state. append of words and of bytes. strings.Repeat, by the shelf's contract. strings.Builder, by the shelf's contracts. The pad of a text. Words written as a text; the Digest of the program. The Digest of the program. The reference's side of the hash. WordsOf of the reference, at a block. TextOf of the reference. l02First of the reference. PadOf of the reference. PadOf of the reference at any length. What the end of the mixing adds, as one list. MixIn of the reference. l02Mixed of the reference. Digest of the reference. Numbers in bytes. Hashes of nodes, of nothing; frames. Peaks of a size; hashes of a width; ranges that are right. Right names, entries, receipts. Right entries and receipts. -/
import Derived.WalkKit
import Derived.WalkSpells
import Derived.WalkLawsBesides
import Derived.Lib.Hide
import Derived.BigQuiet
import Derived.Deep.QuietTactic
import Derived.Deep.RegionHeld3
import Derived.Deep.DrawnRows
import Derived.ProofKit
import Derived.Deep.Slices
import Derived.Deep.Fields
import Derived.ChangeSame
import Derived.Test.YtoccjgcokffkbaaRows
import Derived.Still
import Derived.Laws.AppendOwnNone
import Derived.Deep.AppendLies
import Derived.Laws.BitsLemmas
import Derived.Laws.IdiomStrings
import Derived.OpenShut
import Derived.ChangeOld
import Derived.Laws.BitsAllLaws
import Derived.StillTailTactics
import Derived.Lib.UnsafeStr
import Derived.Shelf.Strings.Repeat
import Derived.Ground.NamesProg
import Derived.Lib.Agree
import Derived.Test.YtoccjgcokffkbaaProg
import Derived.Shelf.Strings.BuilderF
import Derived.Lib.ConvBytes
import Derived.Laws.OwnMore
import Derived.Deep.RegionWith
namespace Go.Proofs.Ytoccjgcokffkbaa
set_option linter.unusedVariables false
set_option linter.unusedSimpArgs false
open Go.RowKit
/-- the slice address A reads as the cells xs; its block lies from lo on and below hi -/
def Rd (w : World) (lo hi : Nat) (A : Option Addr) (xs : List Value) : Prop :=
 xs ≠ [] → ∃ b off, A = some ⟨b, off, none⟩ ∧ lo ≤ b ∧ b < hi ∧ hi ≤ w.heap.size ∧ ∀ j u, xs[j]? = some u → w.cell? ⟨b, off + j, none⟩ = some u
/-- likewise, and the cells may be written -/
def Own (w : World) (lo hi : Nat) (A : Option Addr) (xs : List Value) : Prop :=
 xs ≠ [] → ∃ b off, A = some ⟨b, off, none⟩ ∧ lo ≤ b ∧ b < hi ∧ hi ≤ w.heap.size ∧ (∀ j u, xs[j]? = some u → w.cell? ⟨b, off + j, none⟩ = some u) ∧
  ∀ j, w.frozen? ⟨b, off + j, none⟩ = false
/-- from w to w': only blocks from lo on and below hi, and new ones, may have turned -/
structure Only (lo hi : Nat) (w w' : World) : Prop where
 os : w'.os = w.os
 tape : w'.tape = w.tape
 output : w'.output = w.output
 size : w.heap.size ≤ w'.heap.size
 block : ∀ k, k < w.heap.size → (k < lo ∨ hi ≤ k) → w'.heap[k]? = w.heap[k]?
section
variable {w w' w'' : World} {lo hi lo' hi' : Nat} {A : Option Addr} {xs : List Value}
theorem Rd.nil : Rd w lo hi A [] := fun h => absurd rfl h
theorem Own.nil : Own w lo hi A [] := fun h => absurd rfl h
theorem Own.rd (h : Own w lo hi A xs) : Rd w lo hi A xs := fun hn =>
 let ⟨b, off, h1, h2, h3, h4, h5, _⟩ := h hn
 ⟨b, off, h1, h2, h3, h4, h5⟩
theorem Rd.mono (h : Rd w lo hi A xs) (hl : lo' ≤ lo) (hh : hi ≤ hi') (hs : hi' ≤ w.heap.size) : Rd w lo' hi' A xs := fun hn =>
 let ⟨b, off, h1, h2, h3, _, h5⟩ := h hn
 ⟨b, off, h1, by omega, by omega, hs, h5⟩
theorem Own.mono (h : Own w lo hi A xs) (hl : lo' ≤ lo) (hh : hi ≤ hi') (hs : hi' ≤ w.heap.size) : Own w lo' hi' A xs := fun hn =>
 let ⟨b, off, h1, h2, h3, _, h5⟩ := h hn
 ⟨b, off, h1, by omega, by omega, hs, h5⟩
/-- the blocks below hi are as they were -/
theorem Rd.keep (h : Rd w lo hi A xs) (hs : w.heap.size ≤ w'.heap.size) (hb : ∀ k, lo ≤ k → k < hi → w'.heap[k]? = w.heap[k]?) : Rd w' lo hi A xs := fun hn =>
 let ⟨b, off, h1, h2, h3, h4, h5⟩ := h hn
 ⟨b, off, h1, h2, h3, by omega, fun j u hu => (World.cell?_of_block (hb b h2 h3)).trans (h5 j u hu)⟩
theorem Own.keep (h : Own w lo hi A xs) (hs : w.heap.size ≤ w'.heap.size) (hb : ∀ k, lo ≤ k → k < hi → w'.heap[k]? = w.heap[k]?) : Own w' lo hi A xs := fun hn =>
 let ⟨b, off, h1, h2, h3, h4, h5, h6⟩ := h hn
 ⟨b, off, h1, h2, h3, by omega, fun j u hu => (World.cell?_of_block (hb b h2 h3)).trans (h5 j u hu), fun j => (World.frozen?_of_block (hb b h2 h3)).trans (h6 j)⟩
theorem Rd.top (h : Rd w lo hi A xs) (hn : xs ≠ []) : hi ≤ w.heap.size := let ⟨_, _, _, _, _, h4, _⟩ := h hn; h4
theorem Rd.below (h : Rd w lo hi A xs) (hb : Below w.heap.size w w') : Rd w' lo hi A xs := fun hn =>
 h.keep hb.size (fun k _ hk => hb.block k (by have := h.top hn; omega)) hn
theorem Own.below (h : Own w lo hi A xs) (hb : Below w.heap.size w w') : Own w' lo hi A xs := fun hn =>
 h.keep hb.size (fun k _ hk => hb.block k (by have := h.rd.top hn; omega)) hn
theorem Rd.only (h : Rd w lo hi A xs) (ho : Only lo' hi' w w') (hd : hi ≤ lo' ∨ hi' ≤ lo) : Rd w' lo hi A xs := fun hn =>
 h.keep ho.size (fun k hk1 hk2 => ho.block k (by have := h.top hn; omega) (by omega)) hn
theorem Own.only (h : Own w lo hi A xs) (ho : Only lo' hi' w w') (hd : hi ≤ lo' ∨ hi' ≤ lo) : Own w' lo hi A xs := fun hn =>
 h.keep ho.size (fun k hk1 hk2 => ho.block k (by have := h.rd.top hn; omega) (by omega)) hn
theorem Rd.drew (h : Rd w lo hi A xs) : Rd w.drew lo hi A xs := h
theorem Rd.drewN (h : Rd w lo hi A xs) (n : Nat) : Rd (w.drewN n) lo hi A xs := h
theorem Rd.alloc (h : Rd w lo hi A xs) (o : Obj) : Rd (w.alloc o) lo hi A xs := h.below ((Below.refl _ _).alloc (Nat.le_refl _) o)
theorem Own.drew (h : Own w lo hi A xs) : Own w.drew lo hi A xs := h
theorem Own.drewN (h : Own w lo hi A xs) (n : Nat) : Own (w.drewN n) lo hi A xs := h
theorem Own.alloc (h : Own w lo hi A xs) (o : Obj) : Own (w.alloc o) lo hi A xs := h.below ((Below.refl _ _).alloc (Nat.le_refl _) o)
theorem Rd.setCell (h : Rd w lo hi A xs) {p : Addr} (hp : p.block < lo ∨ hi ≤ p.block) (u : Value) : Rd (w.setCell p u) lo hi A xs :=
 h.keep (by simp [World.setCell]) (fun k _ hk => Below.heap_setCell _ _ _ _ (by omega))
theorem Own.setCell (h : Own w lo hi A xs) {p : Addr} (hp : p.block < lo ∨ hi ≤ p.block) (u : Value) : Own (w.setCell p u) lo hi A xs :=
 h.keep (by simp [World.setCell]) (fun k _ hk => Below.heap_setCell _ _ _ _ (by omega))
theorem Only.refl (lo hi : Nat) (w : World) : Only lo hi w w := ⟨rfl, rfl, rfl, Nat.le_refl _, fun _ _ _ => rfl⟩
theorem Only.trans (h : Only lo hi w w') (k : Only lo hi w' w'') : Only lo hi w w'' :=
 ⟨k.os.trans h.os, k.tape.trans h.tape, k.output.trans h.output, Nat.le_trans h.size k.size, fun i hi' hd => (k.block i (Nat.lt_of_lt_of_le hi' h.size) hd).trans (h.block i hi' hd)⟩
theorem Only.mono (h : Only lo hi w w') (hl : lo' ≤ lo) (hh : hi ≤ hi') : Only lo' hi' w w' := ⟨h.os, h.tape, h.output, h.size, fun k hk hd => h.block k hk (by omega)⟩
theorem Only.of_below (h : Below w.heap.size w w') : Only lo hi w w' := ⟨h.os, h.tape, h.output, h.size, fun k hk _ => h.block k hk⟩
theorem Only.drew (h : Only lo hi w w') : Only lo hi w w'.drew := h.trans ⟨rfl, rfl, rfl, Nat.le_refl _, fun _ _ _ => rfl⟩
theorem Only.alloc (h : Only lo hi w w') (o : Obj) : Only lo hi w (w'.alloc o) := h.trans (Only.of_below ((Below.refl _ _).alloc (Nat.le_refl _) o))
theorem Only.setCell (h : Only lo hi w w') {p : Addr} (h1 : lo ≤ p.block) (h2 : p.block < hi) (u : Value) : Only lo hi w (w'.setCell p u) :=
 h.trans ⟨rfl, rfl, rfl, by simp [World.setCell], fun k _ hd => Below.heap_setCell _ _ _ _ (by omega)⟩
/-- what lies wholly above is new -/
theorem Only.toBelow {B : Nat} (h : Only lo hi w w') (hB : B ≤ lo) (hs : B ≤ w.heap.size) : Below B w w' :=
 ⟨h.os, h.tape, h.output, h.size, fun k hk => h.block k (by omega) (by omega)⟩
theorem below_then {B : Nat} {a : World} (h : Below B a w) (k : Below w.heap.size w w') (hB : B ≤ w.heap.size) : Below B a w' := h.trans (k.mono hB)
theorem below_only {B : Nat} {a : World} (h : Below B a w) (k : Only lo hi w w') (hB : B ≤ lo) (hs : B ≤ w.heap.size) : Below B a w' := h.trans (k.toBelow hB hs)
/-- an owned row of the call's own, as a slice that may be written -/
theorem Own.of_ownsRow {e size n c : Nat} (h : w.ownsRow lo e size (.slice A n c) n xs) : Own w lo w.heap.size A xs := by
 intro hn
 rcases h.2 with ⟨_, h0⟩ | ⟨g, cap, cur, hv, hg, hh, hnc, hcm, hsz, ht⟩
 ·exact absurd (List.eq_nil_of_length_eq_zero (by simpa [h0] using h.1)) hn
 ·injection hv with hv1 hv2 hv3
  subst hv1
  refine ⟨g, 0, rfl, hg, (Array.getElem?_eq_some_iff.1 hh).1, Nat.le_refl _, fun j u hu => ?_, fun j => ?_⟩
  ·have := h.cells (g := g) rfl j u hu
   rwa [Addr.add_lit] at this
  ·exact frozen_of_row w g (0 + j) cur e hh
theorem Own.set {b off : Nat} (h : Own w lo hi (some ⟨b, off, none⟩) xs) {j : Nat} (hj : j < xs.length) (u : Value) :
  Own (w.setCell ⟨b, off + j, none⟩ u) lo hi (some ⟨b, off, none⟩) (xs.set j u) := by
 have hn : xs ≠ [] := by intro e; subst e; simp at hj
 obtain ⟨b', off', h1, h2, h3, h4, h5, h6⟩ := h hn
 simp only [Option.some.injEq, Addr.mk.injEq, and_true] at h1
 obtain ⟨rfl, rfl⟩ := h1
 refine fun _ => ⟨b, off, rfl, h2, h3, by simpa [World.setCell] using h4, fun i v hv => ?_, fun i => by simpa using h6 i⟩
 by_cases hij : j = i
 ·subst hij
  rw [List.getElem?_set_self hj] at hv
  cases hv
  exact World.cell?_setCell_same _ _ _ (h5 j _ (List.getElem?_eq_getElem hj))
 ·rw [List.getElem?_set_ne hij] at hv
  rw [World.cell?_setCell_other _ _ _ _ (by simp only [ne_eq, Addr.mk.injEq, and_true, true_and]; omega)]
  exact h5 i v hv
theorem only_at (h : Only lo hi w w') {b : Nat} (h1 : b < w.heap.size) (h2 : b < lo ∨ hi ≤ b) : ∀ o, w'.cell? ⟨b, o, none⟩ = w.cell? ⟨b, o, none⟩ := fun _ => World.cell?_of_block (h.block b h1 h2)
/-- one cell of what is read -/
theorem Rd.at_ (h : Rd w lo hi A xs) {j : Nat} (hj : j < xs.length) : ∃ b off, A = some ⟨b, off, none⟩ ∧ b < w.heap.size ∧ ∀ j u, xs[j]? = some u → w.cell? ⟨b, off + j, none⟩ = some u := by
 have hn : xs ≠ [] := by intro e; subst e; simp at hj
 obtain ⟨b, off, h1, h2, h3, h4, h5⟩ := h hn
 exact ⟨b, off, h1, by omega, h5⟩
end
theorem Own.at_ {w : World} {lo hi : Nat} {A : Option Addr} {xs : List Value} (h : Own w lo hi A xs) {j : Nat} (hj : j < xs.length) : ∃ b off, A = some ⟨b, off, none⟩ ∧ lo ≤ b ∧ b < hi ∧ hi ≤ w.heap.size ∧
  (∀ j u, xs[j]? = some u → w.cell? ⟨b, off + j, none⟩ = some u) ∧ ∀ j, w.frozen? ⟨b, off + j, none⟩ = false := by
 have hn : xs ≠ [] := by intro e; subst e; simp at hj
 exact h hn
/-- block k of the world is known: its cells -/
def Box (w : World) (k : Nat) (cs : List Value) : Prop := k < w.heap.size ∧ ∀ o, w.cell? ⟨k, o, none⟩ = cs[o]?
section
variable {w w' : World} {k : Nat} {cs : List Value}
theorem Box.below (h : Box w k cs) (hb : Below w.heap.size w w') : Box w' k cs := ⟨Nat.lt_of_lt_of_le h.1 hb.size, fun o => (hb.cell (p := ⟨k, o, none⟩) h.1).trans (h.2 o)⟩
theorem Box.only {lo hi : Nat} (h : Box w k cs) (ho : Only lo hi w w') (hk : k < lo ∨ hi ≤ k) : Box w' k cs := ⟨Nat.lt_of_lt_of_le h.1 ho.size, fun o => (only_at ho h.1 hk o).trans (h.2 o)⟩
theorem Box.alloc (h : Box w k cs) (o : Obj) : Box (w.alloc o) k cs := h.below ((Below.refl _ _).alloc (Nat.le_refl _) o)
theorem Box.drew (h : Box w k cs) : Box w.drew k cs := h
theorem Box.new0 (w : World) (cs : Array Value) (t : TypeId) : Box (w.alloc (.cells cs t)) w.heap.size cs.toList :=
 ⟨by simp, fun o => by rw [cell_of_row _ _ _ _ _ _ (heap_alloc_new w _)]; simp⟩
end
/-- strings as cells -/
def strs (l : List ByteArray) : List Value := l.map Value.string
def ints (l : List Int) : List Value := l.map (Value.int .i64)
theorem strs_len (l : List ByteArray) : (strs l).length = l.length := by simp [strs]
theorem ints_len (l : List Int) : (ints l).length = l.length := by simp [ints]
theorem strs_get {l : List ByteArray} {k : Nat} {s : ByteArray} (h : l[k]? = some s) : (strs l)[k]? = some (.string s) := by simp [strs, h]
theorem ints_get {l : List Int} {k : Nat} {s : Int} (h : l[k]? = some s) : (ints l)[k]? = some (.int .i64 s) := by simp [ints, h]
/-- string k of a slice of strings -/
theorem Rd.str {w : World} {lo hi : Nat} {A : Option Addr} {l : List ByteArray} (h : Rd w lo hi A (strs l)) {k : Nat} (hk : k < l.length) :
  ∃ b off s, A = some ⟨b, off, none⟩ ∧ b < w.heap.size ∧ l[k]? = some s ∧ w.cell? ⟨b, off + k, none⟩ = some (.string s) := by
 obtain ⟨b, off, h1, h2, h3⟩ := h.at_ (j := k) (by simpa [strs] using hk)
 exact ⟨b, off, l[k], h1, h2, List.getElem?_eq_getElem hk, h3 k _ (strs_get (List.getElem?_eq_getElem hk))⟩
/-- bytes that the call itself has just laid, made into a string -/
theorem conv_new {P : Program} (src e dst : TypeId) (hs : P.underlying src = some (.slice e)) (he : P.underlying e = some (.int .u8)) (hd : P.underlying dst = some .string) (W : World) (xs : List Int) (n : Nat) (hn : xs.length = n) :
  (convert src dst (.slice (some ⟨W.heap.size, 0, none⟩) n n)).run P (W.alloc (.cells (xs.map (Value.int .u8)).toArray e)) = .ok (.string (strOfNums xs)) (W.alloc (.cells (xs.map (Value.int .u8)).toArray e)) := by
 refine run_convert_bytes_arg _ src e hs he _ _ _ _ xs hn (fun i hi => ?_) dst hd
 rw [cell_of_row _ _ _ _ _ _ (heap_alloc_new W _)]
 simp [List.getD, show i < xs.length by omega]
theorem conv_1 {P : Program} (src e dst : TypeId) (hs : P.underlying src = some (.slice e)) (he : P.underlying e = some (.int .u8)) (hd : P.underlying dst = some .string) (W : World) (x : Int) :
  (convert src dst (.slice (some ⟨W.heap.size, 0, none⟩) 1 1)).run P (W.alloc (.cells #[.int .u8 x] e)) = .ok (.string (strOfNums [x])) (W.alloc (.cells #[.int .u8 x] e)) :=
 conv_new src e dst hs he hd W [x] 1 rfl
theorem conv_4 {P : Program} (src e dst : TypeId) (hs : P.underlying src = some (.slice e)) (he : P.underlying e = some (.int .u8)) (hd : P.underlying dst = some .string) (W : World) (x y z u : Int) :
  (convert src dst (.slice (some ⟨W.heap.size, 0, none⟩) 4 4)).run P (W.alloc (.cells #[.int .u8 x, .int .u8 y, .int .u8 z, .int .u8 u] e)) = .ok (.string (strOfNums [x, y, z, u])) (W.alloc (.cells #[.int .u8 x, .int .u8 y, .int .u8 z, .int .u8 u] e)) :=
 conv_new src e dst hs he hd W [x, y, z, u] 4 rfl
/-- a world in which nothing that W had has turned -/
structure Later (W : World) where
 v : World
 h : Below W.heap.size W v
theorem later_below {W w' : World} (h : ∃ n : Later W, w' = n.v) : Below W.heap.size W w' := let ⟨n, hn⟩ := h; hn ▸ n.h
instance (W : World) : Nonempty (Later W) := ⟨⟨W, Below.refl _ _⟩⟩
theorem later_cell {W : World} (v : Later W) (b o : Nat) (h : b < W.heap.size) : v.v.cell? ⟨b, o, none⟩ = W.cell? ⟨b, o, none⟩ := v.h.cell (p := ⟨b, o, none⟩) h
/-- A region that draws its order, whose own operations only read what W has, and whose calls hand back plain values and turn nothing that W has. -/
theorem wp_region_later {P : Program} {id : Nat} {Q : Exit → Act → World → Prop} {a : Act} {w : World} {l : List Oper} (hm : P.follows .mixedOrders = true) (hB : Region.lexB .any l.toArray = true)
  (h : wpQuiet P l.toArray (fun w' => ∃ n : Later w, w' = n.v) (fun a' => ∀ w', (∃ n : Later w, w' = n.v) → Q .normal a' w') l a) : (Code.region id l.toArray true).wp P Q a w :=
 wp_region_quiet (C := fun w' => ∃ n : Later w, w' = n.v) hm hB ⟨⟨_, (Below.refl w.heap.size w).drew⟩, rfl⟩ (by simpa using h)
/-- a callee that turns nothing, in such a region -/
theorem later_call {P : Program} {f : FuncId} {args : Array Value} {W : World} {n : Later W} {v : Value} (h : Calls P f args n.v fun e w' => e = .returned v ∧ Below n.v.heap.size n.v w') :
  Calls P f args n.v fun e w'' => e = .returned v ∧ ∃ m : Later W, w'' = m.v :=
 h.mono fun _ w' ⟨he, hb⟩ => ⟨he, ⟨w', below_then n.h hb n.h.size⟩, rfl⟩
/-- letters of strings, and how many they are -/
def bulkS : List ByteArray → Nat
 | [] => 0
 | s :: l => s.size + bulkS l
theorem bulkS_append (a b : List ByteArray) : bulkS (a ++ b) = bulkS a + bulkS b := by
 induction a with
 | nil => simp [bulkS]
 | cons x a ih => simp [bulkS, ih]; omega
theorem take_succ {α : Type} {l : List α} {k : Nat} {s : α} (h : l[k]? = some s) : l.take (k + 1) = l.take k ++ [s] := by
 rw [List.take_succ_eq_append_getElem (List.getElem?_eq_some_iff.1 h).1, (List.getElem?_eq_some_iff.1 h).2]
theorem bulkS_take {l : List ByteArray} {k : Nat} {s : ByteArray} (h : l[k]? = some s) : bulkS (l.take (k + 1)) = bulkS (l.take k) + s.size := by
 rw [take_succ h, bulkS_append]; simp [bulkS]
theorem bulkS_take_le (l : List ByteArray) (k : Nat) : bulkS (l.take k) ≤ bulkS l := by
 conv => rhs; rw [← List.take_append_drop k l, bulkS_append]
 omega
theorem bulkS_get {l : List ByteArray} {k : Nat} {s : ByteArray} (h : l[k]? = some s) : s.size ≤ bulkS l := by
 have := bulkS_take h; have := bulkS_take_le l (k + 1); omega
theorem ret_int {k : IntKind} {a b : Int} (h : a = b) : Ending.returned (.int k a) = .returned (.int k b) := by rw [h]
theorem ret_bool {a b : Bool} (h : a = b) : Ending.returned (.bool a) = .returned (.bool b) := by rw [h]
end Go.Proofs.Ytoccjgcokffkbaa
namespace Go.Proofs.Ytoccjgcokffkbaa
set_option linter.unusedVariables false
set_option linter.unusedSimpArgs false
open Go.RowKit
theorem Own.tight {w : World} {lo hi b off : Nat} {xs : List Value} (h : Own w lo hi (some ⟨b, off, none⟩) xs) : Own w b (b + 1) (some ⟨b, off, none⟩) xs := by
 intro hn
 obtain ⟨b', off', h1, h2, h3, h4, h5, h6⟩ := h hn
 cases h1
 exact ⟨b, off, rfl, Nat.le_refl _, Nat.lt_succ_self _, by omega, h5, h6⟩
theorem Rd.tight {w : World} {lo hi b off : Nat} {xs : List Value} (h : Rd w lo hi (some ⟨b, off, none⟩) xs) : Rd w b (b + 1) (some ⟨b, off, none⟩) xs := by
 intro hn
 obtain ⟨b', off', h1, h2, h3, h4, h5⟩ := h hn
 cases h1
 exact ⟨b, off, rfl, Nat.le_refl _, Nat.lt_succ_self _, by omega, h5⟩
/-- the ends of what is owned may be any that hold -/
theorem Own.ends {w : World} {lo hi lo' hi' : Nat} {A : Option Addr} {xs : List Value} (h : Own w lo hi A xs) (hl : lo' ≤ lo) (hh : hi ≤ hi') (hs : hi' ≤ w.heap.size) : Own w lo' hi' A xs := h.mono hl hh hs
/-- callees with a known plain value, in a drawn region that only reads -/
theorem later_pure {P : Program} {f : FuncId} {args : Array Value} {W : World} {n : Later W} {v v' : Value} (h : Calls P f args n.v fun e w' => e = .returned v ∧ n.v = w') (hv : v = v' := by rfl) :
  Calls P f args n.v fun e w'' => e = .returned v' ∧ ∃ m : Later W, w'' = m.v :=
 h.mono fun _ w' ⟨he, hb⟩ => ⟨hv ▸ he, n, hb ▸ rfl⟩
/-- two strings' equality, as the walk has it -/
theorem beq_no {a b : ByteArray} (h : ¬ a = b) : (a.toList == b.toList) = false := by
 rw [beq_eq_false_iff_ne]
 intro h2
 simp only [ByteArray.toList_eq] at h2
 exact h (ByteArray.ext (Array.toList_inj.1 h2))
theorem beq_iff {a b : ByteArray} : (a.toList == b.toList) = decide (a = b) := by
 by_cases h : a = b
 ·subst h; simp
 ·rw [beq_no h]; simp [h]
end Go.Proofs.Ytoccjgcokffkbaa
namespace Go.Proofs.Ytoccjgcokffkbaa
set_option linter.unusedVariables false
set_option linter.unusedSimpArgs false
open Go.RowKit Go.WideShapes Go.Deep
section
variable {H : Type} {enc : TypeId × Value → H} {P : Program} {w : World} {spare : Nat → Bool} {held : Bool}
theorem flatMap_get {α : Type} {f : α → List Value} {m : Nat} (hm : ∀ x, (f x).length = m) : ∀ (l : List α) (j : Nat) (u : Value), (l.flatMap f)[j]? = some u →
  ∃ (i : Nat) (x : α), l[i]? = some x ∧ i * m ≤ j ∧ j < i * m + m ∧ (f x)[j - i * m]? = some u
 | [], j, u, h => by simp at h
 | a :: l, j, u, h => by
   rw [List.flatMap_cons] at h
   by_cases hj : j < m
   ·rw [List.getElem?_append_left (by rw [hm]; exact hj)] at h
    exact ⟨0, a, rfl, by omega, by omega, by simpa using h⟩
   ·rw [List.getElem?_append_right (by rw [hm]; omega), hm] at h
    obtain ⟨i, x, h1, h2, h3, h4⟩ := flatMap_get hm l (j - m) u h
    refine ⟨i + 1, x, by simpa using h1, by rw [Nat.add_mul]; omega, by rw [Nat.add_mul]; omega, ?_⟩
    rw [Nat.add_mul, Nat.one_mul, Nat.add_comm, Nat.sub_add_eq]
    exact h4
theorem get_flatMap {α : Type} {f : α → List Value} {m : Nat} (hm : ∀ x, (f x).length = m) : ∀ (l : List α) (i r : Nat) (x : α) (u : Value), l[i]? = some x → (f x)[r]? = some u → (l.flatMap f)[i * m + r]? = some u
 | [], i, r, x, u, h, _ => by simp at h
 | a :: l, 0, r, x, u, h, hr => by
   have hlt : r < m := by have := (List.getElem?_eq_some_iff.1 hr).1; rwa [hm] at this
   simp only [List.getElem?_cons_zero, Option.some.injEq] at h
   subst h
   rw [List.flatMap_cons, Nat.zero_mul, Nat.zero_add, List.getElem?_append_left (by rw [hm]; exact hlt)]
   exact hr
 | a :: l, i + 1, r, x, u, h, hr => by
   rw [List.flatMap_cons, List.getElem?_append_right (by rw [hm, Nat.add_mul]; omega), hm, Nat.add_mul, show i * m + 1 * m + r - m = i * m + r from by omega]
   exact get_flatMap hm l i r x u (by simpa using h) hr
theorem flatMap_len {α : Type} {f : α → List Value} {m : Nat} (hm : ∀ x, (f x).length = m) (l : List α) : (l.flatMap f).length = l.length * m := by
 induction l with
 | nil => simp
 | cons a l ih => rw [List.flatMap_cons, List.length_append, hm, ih, List.length_cons, Nat.add_mul]; omega
theorem open_flat {α : Type} {t e : TypeId} {fuel : Nat} {cs : List Value} {r : DataW H × List MemPlace} (f : α → List Value) (wf : α → Prop) (m : Nat) (hm0 : 0 < m) (hm : ∀ x, (f x).length = m)
  (ht : P.underlying t = some (.slice e)) (hC : P.cellsOf e = m)
  (hE : ∀ (fuel : Nat) (cs : List Value) (r : DataW H × List MemPlace), DataW.trod enc P w 0 spare held fuel e cs = some r → ∃ x, cs = f x ∧ wf x)
  (h : DataW.trod enc P w 0 spare held fuel t cs = some r) :
  ∃ (A : Option Addr) (n c : Nat) (l : List α), cs = [.slice A n c] ∧ l.length = n ∧ n ≤ c ∧ c ≤ maxLen ∧ Rd w 0 w.heap.size A (l.flatMap f) ∧ ∀ x ∈ l, wf x := by
 rcases open_slice ht h with ⟨rfl, _⟩ | ⟨a, len, cap, m', n', D, Pl, rfl, _, hl, hmx, hmm, _, hx⟩
 ·exact ⟨none, 0, 0, [], rfl, rfl, Nat.le_refl _, Nat.zero_le _, Rd.nil, by simp⟩
 ·have hle : len ≤ m' := by rw [hmm]; split <;> omega
  obtain ⟨X, hX⟩ : ∃ X : Fin len → α, ∀ i : Fin len, w.cells? 0 (a.add (i.1 * m)) m = some (f (X i)) ∧ wf (X i) := by
   have : ∀ i : Fin len, ∃ x, w.cells? 0 (a.add (i.1 * m)) m = some (f x) ∧ wf x := fun i => by
    obtain ⟨cs', h1, h2⟩ := hx i.1 (by omega)
    obtain ⟨x, rfl, hw⟩ := hE _ _ _ h2
    rw [hC] at h1
    exact ⟨x, h1, hw⟩
   exact ⟨fun i => (this i).choose, fun i => (this i).choose_spec⟩
  have hget : ∀ (i : Nat) (x : α), (List.ofFn X)[i]? = some x → ∃ hi : i < len, X ⟨i, hi⟩ = x := fun i x hi => by
   obtain ⟨h1, h2⟩ := List.getElem?_eq_some_iff.1 hi
   have hlt : i < len := by simpa using h1
   exact ⟨hlt, by simpa using h2⟩
  refine ⟨some a, len, cap, List.ofFn X, rfl, by simp, hl, hmx, fun hne => ?_, ?_⟩
  ·have hcell : ∀ j u, ((List.ofFn X).flatMap f)[j]? = some u → w.cell? (a.add j) = some u := fun j u hj => by
    obtain ⟨i, x, h1, h2, h3, h4⟩ := flatMap_get hm _ _ _ hj
    obtain ⟨hi, rfl⟩ := hget i x h1
    obtain ⟨_, _, hat⟩ := World.cells?_some (hX ⟨i, hi⟩).1
    have := hat (j - i * m) (by omega)
    rw [Go.Deep.add_add, h4] at this
    rwa [show i * m + (j - i * m) = j from by omega] at this
   obtain ⟨u0, hu0⟩ : ∃ u, ((List.ofFn X).flatMap f)[0]? = some u := by
    cases hl2 : (List.ofFn X).flatMap f with
    | nil => exact absurd hl2 hne
    | cons u _ => exact ⟨u, rfl⟩
   have hc0 := hcell 0 u0 hu0
   obtain ⟨b, off, spot⟩ := a
   have hspot : spot = none := by simpa [Addr.add] using World.cell?_spot hc0
   subst hspot
   have hb := World.block_lt_of_cell? _ _ hc0
   refine ⟨b, off, rfl, Nat.zero_le _, by simpa [Addr.add] using hb, Nat.le_refl _, fun j u hj => ?_⟩
   have := hcell j u hj
   rwa [Addr.add_lit] at this
  ·intro x hx'
   obtain ⟨i, hi⟩ := List.getElem?_of_mem hx'
   obtain ⟨hlt, rfl⟩ := hget i x hi
   exact (hX ⟨i, hlt⟩).2
/-- an int64 that fits -/
def I64 (n : Int) : Prop := -9223372036854775808 ≤ n ∧ n ≤ 9223372036854775807
theorem trod_u8 {t : TypeId} {fuel : Nat} {cs : List Value} {r : DataW H × List MemPlace} (ht : P.underlying t = some (.int .u8)) (h : DataW.trod enc P w 0 spare held fuel t cs = some r) : ∃ n : Int, cs = [.int .u8 n] ∧ 0 ≤ n ∧ n ≤ 255 := by
 obtain ⟨n, h1, _, h3⟩ := DataW.trod_int ht h
 exact ⟨n, h1, by simpa [Lit.wf, IntKind.min, IntKind.max, IntKind.signed, IntKind.bits] using h3⟩
end
end Go.Proofs.Ytoccjgcokffkbaa
namespace Go.Proofs.Ytoccjgcokffkbaa
set_option linter.unusedVariables false
set_option linter.unusedSimpArgs false
open Go.RowKit
structure Ent where
 topic : ByteArray
 index : Int
 time : Int
 key : ByteArray
 body : ByteArray
structure Rcp where
 reader : ByteArray
 topic : ByteArray
 index : Int
structure Hd where
 num : Int
 size : Int
 root : ByteArray
 taken : Int
 troot : ByteArray
structure Wri where
 file : Int
 pos : Int
 text : ByteArray
def Ent.cells (e : Ent) : List Value := [.string e.topic, .int .i64 e.index, .int .i64 e.time, .string e.key, .string e.body]
def Rcp.cells (e : Rcp) : List Value := [.string e.reader, .string e.topic, .int .i64 e.index]
def Hd.cells (e : Hd) : List Value := [.int .i64 e.num, .int .i64 e.size, .string e.root, .int .i64 e.taken, .string e.troot]
def Wri.cells (e : Wri) : List Value := [.int .i64 e.file, .int .i64 e.pos, .string e.text]
def ents (l : List Ent) : List Value := l.flatMap Ent.cells
def rcps (l : List Rcp) : List Value := l.flatMap Rcp.cells
def hds (l : List Hd) : List Value := l.flatMap Hd.cells
theorem ents_len (l : List Ent) : (ents l).length = l.length * 5 := flatMap_len (f := Ent.cells) (m := 5) (fun _ => rfl) l
theorem rcps_len (l : List Rcp) : (rcps l).length = l.length * 3 := flatMap_len (f := Rcp.cells) (m := 3) (fun _ => rfl) l
theorem hds_len (l : List Hd) : (hds l).length = l.length * 5 := flatMap_len (f := Hd.cells) (m := 5) (fun _ => rfl) l
/-- the letters of one -/
def Ent.bulk (e : Ent) : Nat := e.topic.size + e.key.size + e.body.size
def Rcp.bulk (e : Rcp) : Nat := e.reader.size + e.topic.size
def Hd.bulk (e : Hd) : Nat := e.root.size + e.troot.size
def Wri.bulk (e : Wri) : Nat := e.text.size
def sumBy {α : Type} (f : α → Nat) : List α → Nat
 | [] => 0
 | a :: l => f a + sumBy f l
theorem sumBy_append {α : Type} (f : α → Nat) (a b : List α) : sumBy f (a ++ b) = sumBy f a + sumBy f b := by
 induction a with
 | nil => simp [sumBy]
 | cons x a ih => simp [sumBy, ih]; omega
theorem sumBy_take {α : Type} (f : α → Nat) {l : List α} {k : Nat} {s : α} (h : l[k]? = some s) : sumBy f (l.take (k + 1)) = sumBy f (l.take k) + f s := by
 rw [take_succ h, sumBy_append]; simp [sumBy]
theorem sumBy_take_le {α : Type} (f : α → Nat) (l : List α) (k : Nat) : sumBy f (l.take k) ≤ sumBy f l := by
 conv => rhs; rw [← List.take_append_drop k l, sumBy_append]
 omega
theorem sumBy_get {α : Type} (f : α → Nat) {l : List α} {k : Nat} {s : α} (h : l[k]? = some s) : f s ≤ sumBy f l := by
 have := sumBy_take f h; have := sumBy_take_le f l (k + 1); omega
theorem sumBy_mem {α : Type} (f : α → Nat) {l : List α} {s : α} (h : s ∈ l) : f s ≤ sumBy f l := by
 obtain ⟨k, hk⟩ := List.getElem?_of_mem h
 exact sumBy_get f hk
/-- what any argument of the type is: its numbers fit, its texts are no longer than a text may be -/
def Ent.fits (e : Ent) : Prop := I64 e.index ∧ I64 e.time ∧ e.topic.size ≤ maxLen ∧ e.key.size ≤ maxLen ∧ e.body.size ≤ maxLen
def Rcp.fits (e : Rcp) : Prop := I64 e.index ∧ e.reader.size ≤ maxLen ∧ e.topic.size ≤ maxLen
def Hd.fits (e : Hd) : Prop := I64 e.num ∧ I64 e.size ∧ I64 e.taken ∧ e.root.size ≤ maxLen ∧ e.troot.size ≤ maxLen
def Wri.fits (e : Wri) : Prop := I64 e.file ∧ I64 e.pos ∧ e.text.size ≤ maxLen
/-- element k of a slice of these -/
theorem Rd.flat {α : Type} {f : α → List Value} {m : Nat} {w : World} {lo hi : Nat} {A : Option Addr} {l : List α} (hm : ∀ x, (f x).length = m) (h0 : 0 < m) (h : Rd w lo hi A (l.flatMap f)) {k : Nat} (hk : k < l.length) :
  ∃ b off x, A = some ⟨b, off, none⟩ ∧ lo ≤ b ∧ b < hi ∧ b < w.heap.size ∧ l[k]? = some x ∧ ∀ j u, (f x)[j]? = some u → w.cell? ⟨b, off + k * m + j, none⟩ = some u := by
 have hlen := flatMap_len hm l
 have hpos : 0 < l.length * m := Nat.mul_pos (by omega) h0
 obtain ⟨b, off, h1, h2, h3, h4, h5⟩ := h (by intro e; rw [e] at hlen; simp at hlen; omega)
 refine ⟨b, off, l[k], h1, h2, h3, by omega, List.getElem?_eq_getElem hk, fun j u hj => ?_⟩
 have := h5 (k * m + j) u (get_flatMap hm l k j _ u (List.getElem?_eq_getElem hk) hj)
 rwa [← Nat.add_assoc] at this
end Go.Proofs.Ytoccjgcokffkbaa
namespace Go.Proofs.Ytoccjgcokffkbaa
set_option linter.unusedVariables false
set_option linter.unusedSimpArgs false
open Go.RowKit
theorem Rd.base {w : World} {lo hi : Nat} {A : Option Addr} {xs : List Value} (h : Rd w lo hi A xs) : Rd w 0 w.heap.size A xs := fun hn =>
 let ⟨b, off, h1, _, h3, h4, h5⟩ := h hn
 ⟨b, off, h1, Nat.zero_le _, by omega, Nat.le_refl _, h5⟩
theorem wp_named {P : Program} {c : Code} {Q : Exit → Act → World → Prop} {a : Act} {W : World} (h : ∀ W', W' = W → c.wp P Q a W') : c.wp P Q a W := h W rfl
theorem calls_named {P : Program} {f : FuncId} {args : Array Value} {W : World} {R : Ending → World → Prop} (h : ∀ W', W' = W → Calls P f args W' R) : Calls P f args W R := h W rfl
theorem wpList_named {P : Program} {ops : Array Oper} {Q : Exit → Act → World → Prop} {l : List Oper} {a : Act} {W : World} (h : ∀ W', W' = W → wpList P ops Q l a W') : wpList P ops Q l a W := h W rfl
/-- a variable's block -/
def NewBox (w : World) (k : Nat) (cs : List Value) : Prop := k < w.heap.size ∧ (∀ o, w.cell? ⟨k, o, none⟩ = cs[o]?) ∧ ∀ o, w.frozen? ⟨k, o, none⟩ = false
section
variable {w w' : World} {k lo hi : Nat} {cs : List Value}
theorem NewBox.keep (h : NewBox w k cs) (hs : w.heap.size ≤ w'.heap.size) (hb : w'.heap[k]? = w.heap[k]?) : NewBox w' k cs :=
 ⟨Nat.lt_of_lt_of_le h.1 hs, fun o => (World.cell?_of_block hb).trans (h.2.1 o), fun o => (World.frozen?_of_block hb).trans (h.2.2 o)⟩
theorem NewBox.below (h : NewBox w k cs) (hb : Below w.heap.size w w') : NewBox w' k cs := h.keep hb.size (hb.block k h.1)
theorem NewBox.only (h : NewBox w k cs) (ho : Only lo hi w w') (hk : k < lo ∨ hi ≤ k) : NewBox w' k cs := h.keep ho.size (ho.block k h.1 hk)
theorem NewBox.alloc (h : NewBox w k cs) (o : Obj) : NewBox (w.alloc o) k cs := h.below ((Below.refl _ _).alloc (Nat.le_refl _) o)
theorem NewBox.drew (h : NewBox w k cs) : NewBox w.drew k cs := h
theorem NewBox.drewN (h : NewBox w k cs) (n : Nat) : NewBox (w.drewN n) k cs := h
theorem NewBox.setCell (h : NewBox w k cs) {p : Addr} (hp : p.block ≠ k) (u : Value) : NewBox (w.setCell p u) k cs :=
 h.keep (by simp [World.setCell]) (by simp [World.setCell, Array.getElem?_modify, hp])
theorem Box.keep (h : Box w k cs) (hs : w.heap.size ≤ w'.heap.size) (hb : w'.heap[k]? = w.heap[k]?) : Box w' k cs :=
 ⟨Nat.lt_of_lt_of_le h.1 hs, fun o => (World.cell?_of_block hb).trans (h.2 o)⟩
theorem NewBox.new (w : World) (cs : Array Value) (t : TypeId) : NewBox (w.alloc (.cells cs t)) w.heap.size cs.toList :=
 ⟨by simp, (Box.new0 w cs t).2, fun o => by
   rw [World.frozen?, heap_alloc_new]
   simp⟩
theorem NewBox.cell (h : NewBox w k cs) {o : Nat} {v : Value} (hv : cs[o]? = some v) : w.cell? ⟨k, o, none⟩ = some v := (h.2.1 o).trans hv
end
end Go.Proofs.Ytoccjgcokffkbaa
namespace Go.Proofs.Ytoccjgcokffkbaa
set_option linter.unusedVariables false
set_option linter.unusedSimpArgs false
open Go.RowKit
/-- x is from a to b -/
def inR (x a b : Int) : Bool := decide (a ≤ x) && decide (x ≤ b)
theorem inR_true {x a b : Int} : inR x a b = true ↔ a ≤ x ∧ x ≤ b := by simp [inR]
theorem inR_false {x a b : Int} : inR x a b = false ↔ x < a ∨ b < x := by
 rw [Bool.eq_false_iff, ne_eq, inR_true]; omega
set_option maxRecDepth 100000 in
set_option maxHeartbeats 400000 in
theorem inRange_c (x a b : Int) (w : World) : Calls Try.prog 41 #[.int .i64 x, .int .i64 a, .int .i64 b] w fun e w' => e = .returned (.bool (inR x a b)) ∧ w = w' := by
 rcases (show x < a ∨ a ≤ x by omega) with h | h
 ·have e1 : inR x a b = false := inR_false.2 (.inl h)
  have E := Lib.hid e1
  clear e1
  go_enter Try.func41, Try.ntmps41
  go_wp2
  go_ret
  exact ⟨ret_bool E.out.symm, rfl⟩
 ·rcases (show b < x ∨ x ≤ b by omega) with h2 | h2
  ·have E := Lib.hid (inR_false.2 (.inr h2) : inR x a b = false)
   go_enter Try.func41, Try.ntmps41
   go_wp2
   go_ret
   exact ⟨ret_bool (by first | exact E.out.symm | (rw [E.out]; simp; done) | (rw [E.out]; simp; omega)), rfl⟩
  ·have E := Lib.hid (inR_true.2 ⟨h, h2⟩ : inR x a b = true)
   go_enter Try.func41, Try.ntmps41
   go_wp2
   go_ret
   exact ⟨ret_bool (by first | exact E.out.symm | (rw [E.out]; simp; done) | (rw [E.out]; simp; omega)), rfl⟩
set_option maxRecDepth 100000 in
set_option maxHeartbeats 400000 in
theorem l01In_c (x a b : Int) (w : World) : Calls Try.prog 104 #[.int .i64 x, .int .i64 a, .int .i64 b] w fun e w' => e = .returned (.bool (inR x a b)) ∧ w = w' := by
 rcases (show x < a ∨ a ≤ x by omega) with h | h
 ·have e1 : inR x a b = false := inR_false.2 (.inl h)
  have E := Lib.hid e1
  clear e1
  go_enter Try.func104, Try.ntmps104
  go_wp2
  go_ret
  exact ⟨ret_bool E.out.symm, rfl⟩
 ·rcases (show b < x ∨ x ≤ b by omega) with h2 | h2
  ·have E := Lib.hid (inR_false.2 (.inr h2) : inR x a b = false)
   go_enter Try.func104, Try.ntmps104
   go_wp2
   go_ret
   exact ⟨ret_bool (by first | exact E.out.symm | (rw [E.out]; simp; done) | (rw [E.out]; simp; omega)), rfl⟩
  ·have E := Lib.hid (inR_true.2 ⟨h, h2⟩ : inR x a b = true)
   go_enter Try.func104, Try.ntmps104
   go_wp2
   go_ret
   exact ⟨ret_bool (by first | exact E.out.symm | (rw [E.out]; simp; done) | (rw [E.out]; simp; omega)), rfl⟩
set_option maxRecDepth 100000 in
set_option maxHeartbeats 400000 in
theorem isIndex_c (x : Int) (w : World) : Calls Try.prog 82 #[.int .i64 x] w fun e w' => e = .returned (.bool (inR x 0 511)) ∧ w = w' := by
 go_enter Try.func82, Try.ntmps82
 go_wp2_with fail
 refine (inRange_c x 0 511 _).mono ?_
 rintro e w1 ⟨rfl, rfl⟩
 go_wp2
 go_ret
 exact ⟨rfl, rfl⟩
set_option maxRecDepth 100000 in
set_option maxHeartbeats 400000 in
theorem l04Size_c (x : Int) (w : World) : Calls Try.prog 119 #[.int .i64 x] w fun e w' => e = .returned (.bool (inR x 0 512)) ∧ w = w' := by
 go_enter Try.func119, Try.ntmps119
 go_wp2_with fail
 refine (l01In_c x 0 512 _).mono ?_
 rintro e w1 ⟨rfl, rfl⟩
 go_wp2
 go_ret
 exact ⟨rfl, rfl⟩
set_option maxRecDepth 100000 in
set_option maxHeartbeats 400000 in
theorem l02Width_c (x : Int) (w : World) : Calls Try.prog 89 #[.int .i64 x] w fun e w' => e = .returned (.bool (inR x 1 32)) ∧ w = w' := by
 go_enter Try.func89, Try.ntmps89
 go_wp2_with fail
 refine (l01In_c x 1 32 _).mono ?_
 rintro e w1 ⟨rfl, rfl⟩
 go_wp2
 go_ret
 exact ⟨rfl, rfl⟩
end Go.Proofs.Ytoccjgcokffkbaa
namespace Go.Proofs.Ytoccjgcokffkbaa
set_option linter.unusedVariables false
set_option linter.unusedSimpArgs false
open Go.RowKit
/-- what an operation has left: its value, and where memory ended ahead of it and behind it -/
structure Gh where
 v : Value
 s : Nat
 e : Nat
def Gh.no : Gh := ⟨undef, 0, 0⟩
/-- d: what an operation waits for; r: whose values its fact names; t: whose blocks it turns -/
structure Plan where
 D : List (List Nat)
 R : List (List Nat)
 T : List (List Nat)
 z : Option Nat
def Plan.d (p : Plan) (i : Nat) : List Nat := p.D.getD i []
def Plan.r (p : Plan) (i : Nat) : List Nat := p.R.getD i []
def Plan.t (p : Plan) (i : Nat) : List Nat := p.T.getD i []
/-- while operation i runs, no old block has turned -/
def Plan.zf (p : Plan) (i : Nat) : Bool := match p.z with
 | none => true
 | some z => i == z || (p.d z).contains i
def dstOf (l : List Oper) (j : Nat) : Option Tmp := (l[j]?).bind (·.dst)
def tgOf (p : Plan) (g : Nat → Gh) (i : Nat) : List Gh := (p.t i).map g
/-- the old blocks are as they were, but perhaps those from lo on and below hi -/
structure OldIs (lo hi : Nat) (full : Prop) (W w : World) : Prop where
 os : w.os = W.os
 tape : w.tape = W.tape
 output : w.output = W.output
 size : W.heap.size ≤ w.heap.size
 block : ∀ k, k < W.heap.size → (full ∨ k < lo ∨ hi ≤ k) → w.heap[k]? = W.heap[k]?
theorem OldIs.below {lo hi : Nat} {full : Prop} {W w : World} (h : OldIs lo hi full W w) (hf : full) : Below W.heap.size W w := ⟨h.os, h.tape, h.output, h.size, fun k hk => h.block k hk (.inl hf)⟩
theorem OldIs.only {lo hi : Nat} {full : Prop} {W w : World} (h : OldIs lo hi full W w) : Only lo hi W w := ⟨h.os, h.tape, h.output, h.size, fun k hk hd => h.block k hk (.inr hd)⟩
theorem OldIs.drew {lo hi : Nat} {full : Prop} {W w : World} (h : OldIs lo hi full W.drew w) : OldIs lo hi full W w := ⟨h.os, h.tape, h.output, h.size, h.block⟩
/-- only blocks of these operations, and new ones, may have turned; and old ones from lo on and below hi, if zz -/
structure OnlyL (lo hi : Nat) (zz : Prop) (ts : List Gh) (w w' : World) : Prop where
 os : w'.os = w.os
 tape : w'.tape = w.tape
 output : w'.output = w.output
 size : w.heap.size ≤ w'.heap.size
 block : ∀ k, k < w.heap.size → (∀ t ∈ ts, k < t.s ∨ t.e ≤ k) → (zz → k < lo ∨ hi ≤ k) → w'.heap[k]? = w.heap[k]?
section
variable {lo hi : Nat} {zz : Prop} {ts : List Gh} {w w' : World}
theorem OnlyL.of_below (h : Below w.heap.size w w') : OnlyL lo hi zz ts w w' := ⟨h.os, h.tape, h.output, h.size, fun k hk _ _ => h.block k hk⟩
theorem OnlyL.refl (ts : List Gh) (w : World) : OnlyL lo hi zz ts w w := ⟨rfl, rfl, rfl, Nat.le_refl _, fun _ _ _ _ => rfl⟩
theorem OnlyL.of_only {t : Gh} (h : Only t.s t.e w w') : OnlyL lo hi zz [t] w w' := ⟨h.os, h.tape, h.output, h.size, fun k hk hd _ => h.block k hk (hd t List.mem_cons_self)⟩
theorem OnlyL.of_z (h : Only lo hi w w') (hz : zz) : OnlyL lo hi zz ts w w' := ⟨h.os, h.tape, h.output, h.size, fun k hk _ hd => h.block k hk (hd hz)⟩
end
def noSel : Op → Bool
 | .select .. => false
 | _ => true
def opOk (l : List Oper) (p : Plan) (z i : Nat) (o : Oper) : Bool :=
 o.guard.isNone && noSel o.op && o.after.all (fun e => !Region.binds .any e || decide (e.on < i)) &&
 (p.d i).all (fun j => decide (j < i) && (p.d j).all (fun k => (p.d i).contains k) && o.after.any (fun e => Region.binds .any e && (e.on == j || (p.d e.on).contains j))) &&
 (p.r i).all (fun j => (p.d i).contains j) &&
 ((p.t i).all fun t => (p.d i).contains t && (List.range l.length).all (fun k => k == i || !(p.t k).contains t || (p.t i).contains k || (p.t k).contains i)) &&
 o.op.operands.all (fun x => match x with | .tmp t => (List.range l.length).all (fun k => dstOf l k != some t || (p.d i).contains k || (p.d k).contains i) | _ => true) &&
 (match o.dst with | none => true | some d => decide (d < z) && (List.range l.length).all (fun k => k == i || dstOf l k != some d))
def planOk (l : List Oper) (p : Plan) (z : Nat) : Bool := (List.range l.length).all fun i => match l[i]? with | some o => opOk l p z i o | none => false
structure OpOk (l : List Oper) (p : Plan) (z i : Nat) (o : Oper) : Prop where
 guard : o.guard = none
 sel : ∀ cs b, o.op ≠ .select cs b
 after : ∀ e ∈ o.after, Region.binds .any e = true → e.on < i
 lt : ∀ j ∈ p.d i, j < i
 down : ∀ j ∈ p.d i, ∀ k ∈ p.d j, k ∈ p.d i
 just : ∀ j ∈ p.d i, ∃ e ∈ o.after, Region.binds .any e = true ∧ (e.on = j ∨ j ∈ p.d e.on)
 r : ∀ j ∈ p.r i, j ∈ p.d i
 t : ∀ t ∈ p.t i, t ∈ p.d i ∧ ∀ k < l.length, k ≠ i → t ∈ p.t k → k ∈ p.t i ∨ i ∈ p.t k
 opnd : ∀ t, Operand.tmp t ∈ o.op.operands → ∀ k < l.length, dstOf l k = some t → k ∈ p.d i ∨ i ∈ p.d k
 dst : ∀ d, o.dst = some d → d < z ∧ ∀ k < l.length, k ≠ i → dstOf l k ≠ some d
theorem opOk_spec {l : List Oper} {p : Plan} {z i : Nat} {o : Oper} (h : opOk l p z i o = true) : OpOk l p z i o := by
 unfold opOk at h
 simp only [Bool.and_eq_true] at h
 obtain ⟨⟨⟨⟨⟨⟨⟨h1, h2⟩, h3⟩, h4⟩, h5⟩, h6⟩, h7⟩, h8⟩ := h
 refine ⟨by simpa using h1, fun cs b e => (by rw [e] at h2; cases h2), fun e he hb => ?_, fun j hj => ?_, fun j hj k hk => ?_, fun j hj => ?_, fun j hj => ?_, fun t ht => ?_, fun t ht k hk hd => ?_, fun d hd => ?_⟩
 ·have := Array.all_eq_true'.1 h3 e he
  rw [hb] at this
  simpa using this
 ·have := List.all_eq_true.1 h4 j hj
  simp only [Bool.and_eq_true, decide_eq_true_eq] at this
  exact this.1.1
 ·have := List.all_eq_true.1 h4 j hj
  simp only [Bool.and_eq_true] at this
  have := List.all_eq_true.1 this.1.2 k hk
  simpa using this
 ·have := List.all_eq_true.1 h4 j hj
  simp only [Bool.and_eq_true] at this
  obtain ⟨e, he, hh⟩ := Array.any_eq_true'.1 this.2
  simp only [Bool.and_eq_true, Bool.or_eq_true, beq_iff_eq] at hh
  exact ⟨e, he, hh.1, hh.2.imp id (fun q => by simpa using q)⟩
 ·have := List.all_eq_true.1 h5 j hj
  simpa using this
 ·have := List.all_eq_true.1 h6 t ht
  simp only [Bool.and_eq_true] at this
  refine ⟨by simpa using this.1, fun k hk hne hkt => ?_⟩
  have := List.all_eq_true.1 this.2 k (List.mem_range.2 hk)
  simpa [hne, hkt] using this
 ·have := Array.all_eq_true'.1 h7 _ ht
  have := List.all_eq_true.1 this k (List.mem_range.2 hk)
  simpa [hd] using this
 ·rw [hd] at h8
  simp only [Bool.and_eq_true, decide_eq_true_eq] at h8
  refine ⟨h8.1, fun k hk hne => ?_⟩
  have := List.all_eq_true.1 h8.2 k (List.mem_range.2 hk)
  simpa [hne] using this
theorem planOk_spec {l : List Oper} {p : Plan} {z i : Nat} {o : Oper} (h : planOk l p z = true) (ho : l[i]? = some o) : OpOk l p z i o := by
 have := List.all_eq_true.1 h i (List.mem_range.2 (List.getElem?_eq_some_iff.1 ho).1)
 rw [ho] at this
 exact opOk_spec this
/-- what is asked of an operation, once it has run -/
def Gives (P : Program) (R : Value → World → Prop) : Result Next → Prop
 | .ok (.value v) w' => R v w'
 | .ok .skip w' => R undef w'
 | .ok (.enter f args) w' => Calls P f args w' fun e w'' => ∃ v, e = .returned v ∧ R v w''
 | _ => False
theorem wp_of_gives {P : Program} {o : Oper} {a : Act} {w : World} {R : Value → World → Prop} {K : Act → World → Prop} {Q : Exit → Act → World → Prop}
  (h : Gives P R ((execOp a.eval o).run P w)) (hk : ∀ v w', R v w' → K (a.put o.dst v) w') : o.wp P a w K Q := by
 unfold Oper.wp
 generalize (execOp a.eval o).run P w = r at *
 cases r with
 | ok n w' =>
   cases n <;> simp only [Gives] at h <;> simp only [Oper.upon]
   case value v => exact hk _ _ h
   case skip => exact hk _ _ h
   case enter f args =>
    exact h.mono fun e w'' ⟨v, he, hr⟩ => by subst he; exact hk _ _ hr
 | halt x w' => simp only [Gives] at h
abbrev Facts := Nat → Gh → List Gh → List Gh → World → Prop
/-- operation i, in whatever order -/
def Ob (P : Program) (l : List Oper) (p : Plan) (zlo zhi : Nat) (F : Facts) (W : World) (a0 : Act) (i : Nat) (o : Oper) : Prop :=
 ∀ (g : Nat → Gh) (ρ : Operand → Value) (w : World), (∀ v, ρ (.const v) = v) → (∀ f, ρ (.func f) = .func (.func f) #[] #[]) → (∀ k, ρ (.global k) = .pointer (some ⟨k, 0, none⟩)) →
   (∀ j ∈ p.d i, ∀ d, dstOf l j = some d → ρ (.tmp d) = (g j).v) → (∀ t, (∀ k ∈ List.range l.length, dstOf l k ≠ some t) → ρ (.tmp t) = a0.eval (.tmp t)) →
   OldIs zlo zhi (p.zf i = true) W w →
   (∀ j ∈ p.d i, W.heap.size ≤ (g j).s ∧ (g j).s ≤ (g j).e ∧ (g j).e ≤ w.heap.size) →
   (∀ j ∈ p.d i, ∀ k ∈ p.d i, j ≠ k → (g j).e ≤ (g k).s ∨ (g k).e ≤ (g j).s) →
   (∀ j ∈ p.d i, (∀ k ∈ List.range l.length, k ≠ i → j ∈ p.t k → i ∈ p.d k) → F j (g j) (tgOf p g j) ((p.r j).map g) w) →
   Gives P (fun v w' => OnlyL zlo zhi (p.z = some i) (tgOf p g i) w w' ∧ F i ⟨v, w.heap.size, w'.heap.size⟩ (tgOf p g i) ((p.r i).map g) w') ((execOp ρ o).run P w)
def ObAll (P : Program) (L : List Oper) (p : Plan) (zlo zhi : Nat) (F : Facts) (W : World) (a0 : Act) : List Oper → Nat → Prop
 | [], _ => True
 | o :: r, k => Ob P L p zlo zhi F W a0 k o ∧ ObAll P L p zlo zhi F W a0 r (k + 1)
theorem obAll_get {P : Program} {L : List Oper} {p : Plan} {zlo zhi : Nat} {F : Facts} {W : World} {a0 : Act} : ∀ (l : List Oper) (k i : Nat) (o : Oper), ObAll P L p zlo zhi F W a0 l k → l[i]? = some o → Ob P L p zlo zhi F W a0 (k + i) o
 | [], _, _, _, _, h => by simp at h
 | o :: r, k, 0, o', h, ho => by simp at ho; subst ho; exact h.1
 | o :: r, k, i + 1, o', h, ho => by
   have := obAll_get r (k + 1) i o' h.2 (by simpa using ho)
   rwa [show k + 1 + i = k + (i + 1) by omega] at this
/-- a fact lives in old memory, in the blocks that its own operation laid, and in those that it turned -/
def Local (F : Facts) (p : Plan) (zlo zhi : Nat) (W : World) (n : Nat) : Prop :=
 ∀ (i : Nat) (x : Gh) (ts : List Gh) (ds : List Gh) (w w' : World), i < n → F i x ts ds w → w.heap.size ≤ w'.heap.size → W.heap.size ≤ w.heap.size → x.e ≤ w.heap.size →
   (∀ b, ((b < W.heap.size ∧ (b < zlo ∨ zhi ≤ b ∨ p.z = some i)) ∨ (x.s ≤ b ∧ b < x.e) ∨ ∃ t ∈ ts, t.s ≤ b ∧ b < t.e) → w'.heap[b]? = w.heap[b]?) → F i x ts ds w'
structure RInv (l : List Oper) (p : Plan) (zlo zhi : Nat) (F : Facts) (W : World) (a0 : Act) (listed : Array Bool) (a : Act) (w : World) (g : Nat → Gh) : Prop where
 below : OldIs zlo zhi (∀ z, p.z = some z → listed.getD z false ≠ true) W w
 dfr : a.defers = a0.defers
 size : a.tmps.size = a0.tmps.size
 down : ∀ i, listed.getD i false = true → ∀ j ∈ p.d i, listed.getD j false = true
 yes : ∀ i d, listed.getD i false = true → dstOf l i = some d → a.tmps[d]? = some (g i).v
 no : ∀ t, (∀ i, listed.getD i false = true → dstOf l i ≠ some t) → a.tmps[t]? = a0.tmps[t]?
 ends : ∀ i, listed.getD i false = true → W.heap.size ≤ (g i).s ∧ (g i).s ≤ (g i).e ∧ (g i).e ≤ w.heap.size
 apart : ∀ i j, listed.getD i false = true → listed.getD j false = true → i ≠ j → (g i).e ≤ (g j).s ∨ (g j).e ≤ (g i).s
 fact : ∀ i, listed.getD i false = true → (∀ k, listed.getD k false = true → i ∉ p.t k) → F i (g i) (tgOf p g i) ((p.r i).map g) w
theorem listed_set {listed : Array Bool} {i j : Nat} (h : (listed.setIfInBounds i true).getD j false = true) (hne : j ≠ i) : listed.getD j false = true := by
 rwa [getD_set_ne false (Ne.symm hne)] at h
theorem dstOf_lt {l : List Oper} {k d : Nat} (h : dstOf l k = some d) : k < l.length := by
 unfold dstOf at h
 rcases ho : l[k]? with _ | o
 ·rw [ho] at h; cases h
 ·exact (List.getElem?_eq_some_iff.1 ho).1
theorem rinv_step {P : Program} {l : List Oper} {p : Plan} {zlo zhi : Nat} {F : Facts} {W : World} {a0 : Act} {listed : Array Bool} {a : Act} {w : World} {g : Nat → Gh} {i : Nat} {o : Oper}
  (hp : planOk l p a0.tmps.size = true) (hzw : ∀ i, p.z = some i → zhi ≤ W.heap.size) (hF : Local F p zlo zhi W l.length) (ho : l[i]? = some o) (hls : listed.size = l.length)
  (hun : listed.getD i true = false) (haf : ∀ e ∈ o.after, Region.binds .any e = true → listed.getD e.on false = true) (I : RInv l p zlo zhi F W a0 listed a w g) (hob : Ob P l p zlo zhi F W a0 i o) :
  Gives P (fun v w' => ∃ g', RInv l p zlo zhi F W a0 (listed.setIfInBounds i true) (a.put o.dst v) w' g') ((execOp a.eval o).run P w) := by
 have hk := planOk_spec hp ho
 have hil : i < l.length := (List.getElem?_eq_some_iff.1 ho).1
 have hdi : dstOf l i = o.dst := by simp [dstOf, ho]
 have hD : ∀ j ∈ p.d i, listed.getD j false = true := fun j hj => by
  obtain ⟨e, he, hb, h1 | h1⟩ := hk.just j hj
  ·exact h1 ▸ haf e he hb
  ·exact I.down _ (haf e he hb) j h1
 have hnl : listed.getD i false ≠ true := by
  intro h
  rw [Array.getD_eq_getD_getElem?] at h hun
  rcases hx : listed[i]? with _ | b
  ·rw [hx] at h; cases h
  ·rw [hx] at h hun; simp at h hun; rw [h] at hun; cases hun
 have hne : ∀ j, listed.getD j false = true → j ≠ i := fun j hj e => hnl (e ▸ hj)
 have hlt : ∀ j, listed.getD j false = true → j < l.length := fun j hj => by
  rw [← hls]
  rcases Nat.lt_or_ge j listed.size with h | h
  ·exact h
  ·rw [Array.getD_eq_getD_getElem?, Array.getElem?_eq_none h] at hj; cases hj
 have hgs := hob g a.eval w (fun _ => rfl) (fun _ => rfl) (fun _ => rfl) (fun j hj d hd => by
   show a.tmps.getD d undef = _
   rw [Array.getD_eq_getD_getElem?, I.yes j d (hD j hj) hd]; rfl) (fun t ht => by
   show a.tmps.getD t undef = a0.tmps.getD t undef
   rw [Array.getD_eq_getD_getElem?, Array.getD_eq_getD_getElem?, I.no t (fun k hk => ht k (List.mem_range.2 (hlt k hk)))])
  ⟨I.below.os, I.below.tape, I.below.output, I.below.size, fun k hk hq => I.below.block k hk (hq.imp (fun hz z hpz hzl => by
    unfold Plan.zf at hz
    rw [hpz] at hz
    simp only [Bool.or_eq_true, beq_iff_eq] at hz
    rcases hz with rfl | hz
    ·exact hnl hzl
    ·exact hnl (I.down z hzl i (by simpa using hz))) id)⟩ (fun j hj => I.ends j (hD j hj))
    (fun j hj k hk hne => I.apart j k (hD j hj) (hD k hk) hne) (fun j hj hav => I.fact j (hD j hj) (fun k hkl hjt => hnl (I.down k hkl i (hav k (List.mem_range.2 (hlt k hkl)) (hne k hkl) hjt))))
 -- what the operation may turn
 have hts : ∀ t ∈ p.t i, listed.getD t false = true := fun t ht => hD t (hk.t t ht).1
 have key : ∀ v w', (OnlyL zlo zhi (p.z = some i) (tgOf p g i) w w' ∧ F i ⟨v, w.heap.size, w'.heap.size⟩ (tgOf p g i) ((p.r i).map g) w') →
   ∃ g', RInv l p zlo zhi F W a0 (listed.setIfInBounds i true) (a.put o.dst v) w' g' := by
  rintro v w' ⟨hon, hfi⟩
  have hBs := I.below.size
  have hblk : ∀ b, b < w.heap.size → (∀ t ∈ p.t i, b < (g t).s ∨ (g t).e ≤ b) → (p.z = some i → b < zlo ∨ zhi ≤ b) → w'.heap[b]? = w.heap[b]? := fun b hb hq hz => by
   refine hon.block b hb (fun x hx => ?_) hz
   obtain ⟨t, ht, rfl⟩ := List.mem_map.1 hx
   exact hq t ht
  have hold : ∀ b, b < W.heap.size → (p.z = some i → b < zlo ∨ zhi ≤ b) → w'.heap[b]? = w.heap[b]? := fun b hb hz => hblk b (by omega) (fun t ht => .inl (by have := (I.ends t (hts t ht)).1; omega)) hz
  have hli : (listed.setIfInBounds i true).getD i false = true := by rw [Array.getD_eq_getD_getElem?, Array.getElem?_setIfInBounds_self, if_pos (by rw [hls]; exact hil)]; rfl
  let g' : Nat → Gh := fun j => if j = i then ⟨v, w.heap.size, w'.heap.size⟩ else g j
  have gi : g' i = ⟨v, w.heap.size, w'.heap.size⟩ := if_pos rfl
  have gj : ∀ j, j ≠ i → g' j = g j := fun j h => if_neg h
  have gR : ∀ j, listed.getD j false = true ∨ j = i → (p.r j).map g' = (p.r j).map g := fun j hj => by
   refine List.map_congr_left fun k hkr => gj k ?_
   rcases hj with hj | rfl
   ·rcases hoj : l[j]? with _ | oj
    ·have := hlt j hj; rw [List.getElem?_eq_none_iff] at hoj; omega
    ·exact hne k (I.down j hj k ((planOk_spec hp hoj).r k hkr))
   ·exact hne k (hD k (hk.r k hkr))
  have gT : ∀ j, listed.getD j false = true ∨ j = i → tgOf p g' j = tgOf p g j := fun j hj => by
   refine List.map_congr_left fun t ht => gj t ?_
   rcases hj with hj | rfl
   ·rcases hoj : l[j]? with _ | oj
    ·have := hlt j hj; rw [List.getElem?_eq_none_iff] at hoj; omega
    ·exact hne t (I.down j hj t (((planOk_spec hp hoj).t t ht).1))
   ·exact hne t (hts t ht)
  have psz : (a.put o.dst v).tmps.size = a.tmps.size := by unfold Act.put; split <;> simp
  refine ⟨g', ⟨I.below.os ▸ hon.os, I.below.tape ▸ hon.tape, I.below.output ▸ hon.output, Nat.le_trans hBs hon.size, fun b hb hq => by
   by_cases hz : p.z = some i
   ·rcases hq with hq | hq
    ·exact absurd hli (hq i hz)
    ·exact (hold b hb (fun _ => hq)).trans (I.below.block b hb (.inr hq))
   ·exact (hold b hb (fun h => absurd h hz)).trans (I.below.block b hb (hq.imp (fun h z hpz hzl => h z hpz (getD_set_true hzl)) id))⟩, ?_, psz.trans I.size, ?_, ?_, ?_, ?_, ?_, ?_⟩
  ·rw [← I.dfr]; unfold Act.put; split <;> rfl
  ·intro j hj k hkd
   by_cases hji : j = i
   ·subst hji; exact getD_set_true (hD k hkd)
   ·exact getD_set_true (I.down j (listed_set hj hji) k hkd)
  ·intro j d hj hd
   by_cases hji : j = i
   ·subst hji
    rw [hdi] at hd
    rw [gi, hd]
    show (a.tmps.setIfInBounds d v)[d]? = some v
    rw [Array.getElem?_setIfInBounds_self]
    rw [if_pos (by rw [I.size]; exact (hk.dst d hd).1)]
   ·rw [gj j hji]
    have hjl := listed_set hj hji
    have hdd : ∀ d', o.dst = some d' → d' ≠ d := fun d' h' e => (hk.dst d' h').2 j (hlt j hjl) hji (e ▸ hd)
    rw [← I.yes j d hjl hd]
    unfold Act.put
    rcases hx : o.dst with _ | d'
    ·rfl
    ·exact Array.getElem?_setIfInBounds_ne (hdd d' hx)
  ·intro t ht
   rw [← I.no t (fun j hj => ht j (getD_set_true hj))]
   have h1 := ht i (by rw [Array.getD_eq_getD_getElem?, Array.getElem?_setIfInBounds_self, if_pos (by rw [hls]; exact hil)]; rfl)
   rw [hdi] at h1
   unfold Act.put
   rcases hx : o.dst with _ | d'
   ·rfl
   ·exact Array.getElem?_setIfInBounds_ne (fun e => h1 (by rw [hx, e]))
  ·intro j hj
   by_cases hji : j = i
   ·subst hji; rw [gi]; exact ⟨hBs, hon.size, Nat.le_refl _⟩
   ·rw [gj j hji]
    have := I.ends j (listed_set hj hji)
    exact ⟨this.1, this.2.1, Nat.le_trans this.2.2 hon.size⟩
  ·intro j k hj hkl hjk
   by_cases hji : j = i
   ·subst hji
    rw [gi, gj k (Ne.symm hjk)]
    exact .inr (I.ends k (listed_set hkl (Ne.symm hjk))).2.2
   ·by_cases hki : k = i
    ·subst hki
     rw [gi, gj j hji]
     exact .inl (I.ends j (listed_set hj hji)).2.2
    ·rw [gj j hji, gj k hki]
     exact I.apart j k (listed_set hj hji) (listed_set hkl hki) hjk
  ·intro j hj hnt
   by_cases hji : j = i
   ·subst hji
    rw [gi, gT j (.inr rfl), gR j (.inr rfl)]
    exact hfi
   ·have hjl := listed_set hj hji
    rw [gj j hji, gT j (.inl hjl), gR j (.inl hjl)]
    have hse := I.ends j hjl
    have hij : j ∉ p.t i := hnt i (by rw [Array.getD_eq_getD_getElem?, Array.getElem?_setIfInBounds_self, if_pos (by rw [hls]; exact hil)]; rfl)
    rcases hoj : l[j]? with _ | oj
    ·have := hlt j hjl; rw [List.getElem?_eq_none_iff] at hoj; omega
    have hkj := planOk_spec hp hoj
    have htg : ∀ t ∈ p.t j, listed.getD t false = true := fun t ht => I.down j hjl t (hkj.t t ht).1
    refine hF j _ _ _ w w' (hlt j hjl) (I.fact j hjl (fun k hkl => hnt k (getD_set_true hkl))) hon.size hBs hse.2.2 ?_
    rintro b (⟨hb, hz⟩ | ⟨h1, h2⟩ | ⟨x, hx, h1, h2⟩)
    ·exact hold b hb (fun hzi => by
      rcases hz with h | h | h
      ·exact .inl h
      ·exact .inr h
      ·rw [hzi] at h; cases h; exact absurd rfl hji)
    ·refine hblk b (by omega) (fun t ht => ?_) (fun hzi => .inr (by have := hzw i hzi; omega))
     have := I.apart j t hjl (hts t ht) (fun e => hij (e ▸ ht))
     omega
    ·obtain ⟨t, ht, rfl⟩ := List.mem_map.1 hx
     have he := I.ends t (htg t ht)
     refine hblk b (by omega) (fun t' ht' => ?_) (fun hzi => .inr (by have := hzw i hzi; omega))
     have hne' : t ≠ t' := fun e => by
      subst e
      rcases (hk.t t ht').2 j (hlt j hjl) hji ht with h | h
      ·exact hij h
      ·exact hnl (htg i h)
     have := I.apart t t' (htg t ht) (hts t' ht') hne'
     omega
 revert hgs
 generalize (execOp a.eval o).run P w = r
 intro hgs
 cases r with
 | ok n w' =>
   cases n <;> simp only [Gives] at hgs ⊢
   case value v => exact key _ _ hgs
   case skip => exact key _ _ hgs
   case enter f args => exact hgs.mono fun e w'' ⟨v, he, hr⟩ => ⟨v, he, key _ _ hr⟩
 | halt x w' => simp only [Gives] at hgs
def restOf (n : Nat) (listed : Array Bool) : Nat := ((List.range n).filter fun i => !listed.getD i false).length
theorem filter_lt {α : Type} {p q : α → Bool} {x : α} : ∀ (l : List α), x ∈ l → (∀ y, q y = true → p y = true) → p x = true → q x = false → (l.filter q).length < (l.filter p).length
 | [], h, _, _, _ => by cases h
 | y :: l, h, hpq, hx, hq => by
   have hle : ∀ m : List α, (m.filter q).length ≤ (m.filter p).length := fun m => by
    induction m with
    | nil => simp
    | cons z m ih =>
      by_cases hz : q z = true
      ·simp [List.filter_cons, hz, hpq z hz]; exact ih
      ·by_cases hz' : p z = true
       ·simp [List.filter_cons, hz, hz']; omega
       ·simp [List.filter_cons, hz, hz']; exact ih
   rcases List.mem_cons.1 h with rfl | h
   ·simp [List.filter_cons, hx, hq]; have := hle l; omega
   ·have ih := filter_lt l h hpq hx hq
    by_cases hz : q y = true
    ·simp [List.filter_cons, hz, hpq y hz]; exact ih
    ·by_cases hz' : p y = true
     ·simp [List.filter_cons, hz, hz']; omega
     ·simp [List.filter_cons, hz, hz']; exact ih
theorem ready_all {l : List Oper} {p : Plan} {z : Nat} {listed : Array Bool} (hp : planOk l p z = true) (hls : listed.size = l.length) (hr : Region.ready .any l.toArray listed = []) :
  ∀ i, i < l.length → listed.getD i false = true := by
 intro i
 induction i using Nat.strongRecOn with
 | ind i ih =>
   intro hi
   obtain ⟨o, ho⟩ : ∃ o, l[i]? = some o := ⟨l[i], List.getElem?_eq_getElem hi⟩
   have hk := planOk_spec hp ho
   rcases hx : listed.getD i true with _ | _
   ·have : i ∈ Region.ready .any l.toArray listed := mem_ready.2 ⟨hx, o, by simpa using ho, fun e he hb => ih e.on (hk.after e he hb) (by have := hk.after e he hb; omega)⟩
    rw [hr] at this; cases this
   ·rw [Array.getD_eq_getD_getElem?] at hx ⊢
    rw [Array.getElem?_eq_getElem (by rw [hls]; exact hi)] at hx ⊢
    simpa using hx
theorem wpAny_facts {P : Program} {l : List Oper} {p : Plan} {zlo zhi : Nat} {F : Facts} {W : World} {a0 : Act} {Q : Exit → Act → World → Prop} (hp : planOk l p a0.tmps.size = true) (hzw : ∀ i, p.z = some i → zhi ≤ W.heap.size) (hF : Local F p zlo zhi W l.length)
  (hob : ObAll P l p zlo zhi F W a0 l 0) (fin : ∀ listed a w g, RInv l p zlo zhi F W a0 listed a w g → (∀ i, i < l.length → listed.getD i false = true) → listed.size = l.length → Q .normal a w) :
  ∀ (fuel : Nat) (listed : Array Bool) (a : Act) (w : World) (g : Nat → Gh), listed.size = l.length → restOf l.length listed ≤ fuel → RInv l p zlo zhi F W a0 listed a w g → wpAny P .any l.toArray Q fuel listed a w := by
 intro fuel
 induction fuel with
 | zero =>
   intro listed a w g hls hm I
   have hnil : (List.range l.length).filter (fun i => !listed.getD i false) = [] := List.eq_nil_of_length_eq_zero (by unfold restOf at hm; omega)
   have hall : ∀ i, i < l.length → listed.getD i false = true := fun i hi => by
    rcases hx : listed.getD i false with _ | _
    ·have : i ∈ (List.range l.length).filter (fun i => !listed.getD i false) := List.mem_filter.2 ⟨List.mem_range.2 hi, by rw [hx]; rfl⟩
     rw [hnil] at this; cases this
    ·rfl
   refine ⟨?_, fin listed a w g I hall hls⟩
   rcases hr : Region.ready .any l.toArray listed with _ | ⟨i, r⟩
   ·rfl
   ·have hi : i ∈ Region.ready .any l.toArray listed := by rw [hr]; exact List.mem_cons_self
    obtain ⟨h0, o, ho, _⟩ := mem_ready.1 hi
    have hil : i < l.length := (List.getElem?_eq_some_iff.1 (by simpa using ho)).1
    have h1 := hall i hil
    rw [Array.getD_eq_getD_getElem?, Array.getElem?_eq_getElem (by rw [hls]; exact hil)] at h0 h1
    simp at h0 h1
    rw [h0] at h1; cases h1
 | succ fuel ih =>
   intro listed a w g hls hm I
   refine ⟨fun hr => fin listed a w g I (ready_all hp hls hr) hls, fun i hi => ?_⟩
   obtain ⟨h0, o, ho, haf⟩ := mem_ready.1 hi
   have ho' : l[i]? = some o := by simpa using ho
   have hil : i < l.length := (List.getElem?_eq_some_iff.1 ho').1
   have hob' := obAll_get l 0 i o hob ho'
   rw [Nat.zero_add] at hob'
   have hg := rinv_step hp hzw hF ho' hls h0 haf I hob'
   unfold wpOp
   rw [ho]
   have hwant : Region.wanted o (yielded l.toArray a.tmps) = true := by unfold Region.wanted; rw [(planOk_spec hp ho').guard]
   simp only [hwant, if_true]
   refine .inl (wp_of_gives hg ?_)
   rintro v w' ⟨g', I'⟩
   refine ih _ _ _ g' (by simpa using hls) ?_ I'
   have : restOf l.length (listed.setIfInBounds i true) < restOf l.length listed := by
    refine filter_lt (x := i) _ (List.mem_range.2 hil) (fun y hy => ?_) ?_ ?_
    ·rcases hx : listed.getD y false with _ | _
     ·rfl
     ·rw [getD_set_true hx] at hy; cases hy
    ·rw [Array.getD_eq_getD_getElem?, Array.getElem?_eq_getElem (by rw [hls]; exact hil)] at h0 ⊢
     simp at h0 ⊢; exact h0
    ·rw [Array.getD_eq_getD_getElem?, Array.getElem?_setIfInBounds_self, if_pos (by rw [hls]; exact hil)]; rfl
   omega
def closure (l : List Oper) : List (List Nat) := l.foldl (fun acc o => acc ++ [(o.after.toList.filter (Region.binds .any)).flatMap fun e => e.on :: acc.getD e.on []]) []
def planOf (l : List Oper) (R T : List (List Nat)) (z : Option Nat) : Plan := ⟨closure l, R, T, z⟩
/-- all values laid into the frame -/
def putDs : List (Option Tmp) → (Nat → Gh) → Nat → Act → Act
 | [], _, _, a => a
 | d :: r, g, k, a => putDs r g (k + 1) (a.put d (g k).v)
theorem putDs_defers (g : Nat → Gh) : ∀ (ds : List (Option Tmp)) (k : Nat) (a : Act), (putDs ds g k a).defers = a.defers
 | [], _, _ => rfl
 | d :: ds, k, a => by rw [putDs, putDs_defers g ds]; unfold Act.put; split <;> rfl
theorem putDs_no {g : Nat → Gh} {t : Nat} : ∀ (ds : List (Option Tmp)) (k : Nat) (a : Act), (∀ j : Nat, ds[j]? ≠ some (some t)) → (putDs ds g k a).tmps[t]? = a.tmps[t]?
 | [], _, _, _ => rfl
 | d :: ds, k, a, h => by
   rw [putDs, putDs_no ds _ _ (fun j => by have := h (j + 1); simpa using this)]
   have h1 := h 0
   unfold Act.put
   rcases d with _ | d
   ·rfl
   ·exact Array.getElem?_setIfInBounds_ne (fun e => h1 (by rw [e]; rfl))
theorem putDs_yes {g : Nat → Gh} {t : Nat} : ∀ (ds : List (Option Tmp)) (k j : Nat) (a : Act), ds[j]? = some (some t) → (∀ i : Nat, ds[i]? = some (some t) → i = j) → t < a.tmps.size → (putDs ds g k a).tmps[t]? = some (g (k + j)).v
 | [], _, _, _, h, _, _ => by simp at h
 | d :: ds, k, 0, a, h, hu, ht => by
   simp at h
   subst h
   rw [putDs, putDs_no ds _ _ (fun i e => by have := hu (i + 1) (by simpa using e); omega)]
   show (a.tmps.setIfInBounds t (g k).v)[t]? = _
   rw [Array.getElem?_setIfInBounds_self, if_pos ht]; rfl
 | d :: ds, k, j + 1, a, h, hu, ht => by
   have hsz : t < (a.put d (g k).v).tmps.size := by unfold Act.put; split <;> simpa using ht
   rw [putDs, putDs_yes ds (k + 1) j _ (by simpa using h) (fun i e => by have := hu (i + 1) (by simpa using e); omega) hsz]
   rw [show k + 1 + j = k + (j + 1) by omega]
/-- **A region whose operations make memory, in whatever order.** -/
theorem wp_region_facts {P : Program} {id : Nat} {Q : Exit → Act → World → Prop} {a0 : Act} {W : World} {l : List Oper} (R T : List (List Nat)) (ds : List (Option Tmp)) (z : Option Nat) (zlo zhi : Nat) (hzw : z = none ∨ zhi ≤ W.heap.size) (F : Facts) (hm : P.follows .mixedOrders = true)
  (hp : planOk l (planOf l R T z) a0.tmps.size = true) (hds : l.map (·.dst) = ds)
  (hF : Local F (planOf l R T z) zlo zhi W.drew l.length) (hob : ObAll P l (planOf l R T z) zlo zhi F W.drew a0 l 0)
  (fin : ∀ (g : Nat → Gh) (w : World), OldIs zlo zhi (z = none) W w → (∀ i ∈ List.range l.length, W.drew.heap.size ≤ (g i).s ∧ (g i).s ≤ (g i).e ∧ (g i).e ≤ w.heap.size) →
    (∀ i ∈ List.range l.length, ∀ j ∈ List.range l.length, i ≠ j → (g i).e ≤ (g j).s ∨ (g j).e ≤ (g i).s) →
    (∀ i ∈ List.range l.length, (∀ k ∈ List.range l.length, i ∉ (planOf l R T z).t k) → F i (g i) (tgOf (planOf l R T z) g i) (((planOf l R T z).r i).map g) w) → Q .normal (putDs ds g 0 a0) w) :
  (Code.region id l.toArray true).wp P Q a0 W := by
 refine wp_region_any hm ?_
 have h0 : ∀ i, (Array.replicate l.toArray.size false).getD i false ≠ true := fun i h => by
  rw [Array.getD_eq_getD_getElem?] at h
  rcases Nat.lt_or_ge i l.length with hi | hi
  ·simp [hi] at h
  ·simp [hi] at h
 refine wpAny_facts (W := W.drew) hp (fun i hi => hzw.elim (fun h => by subst h; cases hi) (fun h => h)) hF hob (fun listed a w g I hall hls => ?_) _ _ _ _ (fun _ => Gh.no) (by simp) ?_ ⟨⟨rfl, rfl, rfl, Nat.le_refl _, fun _ _ _ => rfl⟩, rfl, rfl, fun i h => absurd h (h0 i), fun i d h => absurd h (h0 i), fun _ _ => rfl, fun i h => absurd h (h0 i), fun i j h => absurd h (h0 i), fun i h => absurd h (h0 i)⟩
 ·have hin : ∀ i, listed.getD i false = true → i < l.length := fun j hj => by
   rw [← hls]
   rcases Nat.lt_or_ge j listed.size with h | h
   ·exact h
   ·rw [Array.getD_eq_getD_getElem?, Array.getElem?_eq_none h] at hj; cases hj
  have hdj : ∀ (j t : Nat), ds[j]? = some (some t) ↔ dstOf l j = some t := fun j t => by
   rw [← hds, List.getElem?_map, dstOf]
   rcases l[j]? with _ | o <;> simp
  have he : a = putDs ds g 0 a0 := by
   have h1 : a.tmps = (putDs ds g 0 a0).tmps := by
    refine Array.ext_getElem? fun t => ?_
    by_cases hq : ∃ j, j < l.length ∧ dstOf l j = some t
    ·obtain ⟨j, hj, hd⟩ := hq
     obtain ⟨o, ho⟩ : ∃ o, l[j]? = some o := ⟨l[j], List.getElem?_eq_getElem hj⟩
     have hk := planOk_spec hp ho
     have hdo : o.dst = some t := by simpa [dstOf, ho] using hd
     rw [I.yes j t (hall j hj) hd, putDs_yes ds 0 j _ ((hdj j t).2 hd) (fun k hkd => ?_) (hk.dst t hdo).1, Nat.zero_add]
     have hkd := (hdj k t).1 hkd
     by_cases hkj : k = j
     ·exact hkj
     ·exact absurd hkd ((hk.dst t hdo).2 k (dstOf_lt hkd) hkj)
    ·rw [I.no t (fun j hj hd => hq ⟨j, hin j hj, hd⟩), putDs_no _ _ _ (fun j hd => hq ⟨j, dstOf_lt ((hdj j t).1 hd), (hdj j t).1 hd⟩)]
   have h2 : a.defers = (putDs ds g 0 a0).defers := by rw [I.dfr, putDs_defers]
   cases a; cases hpp : putDs ds g 0 a0
   rw [hpp] at h1 h2
   simp only at h1 h2
   rw [h1, h2]
  rw [he]
  exact fin g w ⟨I.below.os, I.below.tape, I.below.output, I.below.size, fun k hk hq => I.below.block k hk (hq.imp (fun h z' hz' => by subst h; cases hz') (fun h => h))⟩ (fun i hi => I.ends i (hall i (List.mem_range.1 hi))) (fun i hi j hj => I.apart i j (hall i (List.mem_range.1 hi)) (hall j (List.mem_range.1 hj)))
   (fun i hi hk => I.fact i (hall i (List.mem_range.1 hi)) (fun k hkl => hk k (List.mem_range.2 (hin k hkl))))
 ·unfold restOf
  have := List.length_filter_le (fun i => !(Array.replicate l.toArray.size false).getD i false) (List.range l.length)
  simpa using this
end Go.Proofs.Ytoccjgcokffkbaa
namespace Go.Proofs.Ytoccjgcokffkbaa
set_option linter.unusedVariables false
set_option linter.unusedSimpArgs false
open Go.RowKit
theorem info_string : (Try.prog.info? 9).map (fun i => (i.zero, i.size, i.bytes)) = some (some (.string ByteArray.empty), 1, 16) := by kernel_rfl
theorem info_int : (Try.prog.info? 3).map (fun i => (i.zero, i.size, i.bytes)) = some (some (.int .i64 0), 1, 8) := by kernel_rfl
end Go.Proofs.Ytoccjgcokffkbaa
namespace Go.Proofs.Ytoccjgcokffkbaa
set_option linter.unusedVariables false
set_option linter.unusedSimpArgs false
open Go.RowKit
theorem info_Entry : (Try.prog.info? 55).map (fun i => (i.zero, i.size, i.bytes)) = some (some (.agg #[.string ByteArray.empty, .int .i64 0, .int .i64 0, .string ByteArray.empty, .string ByteArray.empty]), 5, 64) := by kernel_rfl
end Go.Proofs.Ytoccjgcokffkbaa
namespace Go.Proofs.Ytoccjgcokffkbaa
set_option linter.unusedVariables false
set_option linter.unusedSimpArgs false
open Go.RowKit
theorem ownsRow_slice {w : World} {base e size n : Nat} {v : Value} {xs : List Value} (h : w.ownsRow base e size v n xs) :
  ∃ (A : Option Addr) (c : Nat), v = .slice A n c ∧ n ≤ c ∧ (A = none → c = 0) ∧ Own w base w.heap.size A xs := by
 have h' := h
 rcases h.2 with ⟨rfl, rfl⟩ | ⟨g, cap, cur, rfl, _, _, h3, _⟩
 ·exact ⟨none, 0, rfl, Nat.le_refl _, fun _ => rfl, Own.of_ownsRow h'⟩
 ·exact ⟨_, _, rfl, h3, fun h => by (cases h), Own.of_ownsRow h'⟩
theorem cloneStr_one (l : List ByteArray) : ∀ u ∈ strs l, u.oneCell' = true := by
 intro u hu; obtain ⟨x, _, rfl⟩ := List.mem_map.1 hu; rfl
theorem cloneEnt_one (l : List Ent) : ∀ u ∈ ents l, u.oneCell' = true := by
 intro u hu
 obtain ⟨x, _, h⟩ := List.mem_flatMap.1 hu
 simp only [Ent.cells, List.mem_cons, List.not_mem_nil, or_false] at h
 rcases h with rfl | rfl | rfl | rfl | rfl <;> rfl
end Go.Proofs.Ytoccjgcokffkbaa
namespace Go.Proofs.Ytoccjgcokffkbaa
set_option linter.unusedVariables false
set_option linter.unusedSimpArgs false
open Go.RowKit
theorem stop_here {p : Prop} (h : True → p) : p := h trivial
/-- what an append may turn -/
theorem grown_only {w w' : World} {base : Nat} {e : TypeId} {size n : Nat} {v : Value} {xs : List Value} (h : w.ownsRow base e size v n xs) (hg : w.grownBy w' v.ownBlock) : Only base w.heap.size w w' :=
 ⟨hg.os, hg.tape, hg.output, hg.size, fun k hk hd => hg.block k hk (fun he => by have := (h.lt k he.symm).1; omega)⟩
theorem one_map {α : Type} {f : α → Value} (h : ∀ x, (f x).oneCell' = true) (l : List α) : ∀ u ∈ l.map f, u.oneCell' = true := fun u hu => by
 obtain ⟨x, _, rfl⟩ := List.mem_map.1 hu
 exact h x
/-- append of a slice that reads as xs2, nil or not -/
theorem wpList_append_rd {P : Program} {w : World} {ops : Array Oper} {rest : List Oper} {o : Oper} {a : Act} {Q : Exit → Act → World → Prop} (hgd : o.guard = none) (s x : Operand) (t : TypeId)
  (ho : o.op = .call { callee := .builtin .append, args := #[s, x], argTypes := #[t, t] })
  (base : Nat) (e : TypeId) (i : TypeInfo) (z : Value) (size bytes : Nat) (ht : P.underlying t = some (.slice e)) (hi : P.info? e = some i) (hz : i.zero = some z)
  (hsize : i.size = size) (hby : i.bytes = bytes) (hzs : z.cells.size = size) (hsz : 0 < size)
  (v : Value) (n : Nat) (xs : List Value) (hs : a.eval s = v) (hown : w.ownsRow base e size v n xs)
  (A : Option Addr) (m c lo hi' : Nat) (news : List Value) (hx : a.eval x = .slice A m c) (hl : news.length = m * size) (hr : Rd w lo hi' A news) (hA : A = none → c = 0) (h1 : ∀ u ∈ news, u.oneCell' = true)
  (h63 : n + m ≤ maxLen) (hbytes : (n + m) * bytes ≤ 140737488355328) (hbase : base ≤ w.heap.size)
  (h : ∀ v' w', w'.ownsRow base e size v' (n + m) (xs ++ news) → w.grownBy w' v.ownBlock → wpList P ops Q rest (a.put o.dst v') w') : wpList P ops Q (o :: rest) a w := by
 rcases A with _ | ad
 ·have hnil : news = [] := by
   by_cases hn : news = []
   ·exact hn
   ·obtain ⟨b, off, h1, _⟩ := hr hn; cases h1
  subst hnil
  have hm : m = 0 := by
   rcases Nat.eq_zero_or_pos m with h | h
   ·exact h
   ·have := Nat.mul_pos h hsz
    simp at hl
    omega
  subst hm
  obtain rfl := hA rfl
  refine wpList_append_own_none hgd s x t ho base e i size ht hi v n xs hs hown hx (h v w ?_ ⟨rfl, rfl, rfl, Nat.le_refl _, fun _ _ _ => rfl⟩)
  simpa using hown
 ·refine wpList_append_own _ hgd s x t ho base e i z size bytes ht hi hz hsize hby hzs hsz v n xs hs hown ad m c news hx hl (fun j u hu => ?_) h1 h63 hbytes hbase (fun v' w' h2 h3 _ => h v' w' h2 h3)
  obtain ⟨b, off, h1, _, _, _, h5⟩ := hr (by intro e; rw [e] at hu; simp at hu)
  cases h1
  rw [Addr.add_lit]
  exact h5 j u hu
/-- append of one element, which lies in a block of its own -/
theorem wpList_append_one {P : Program} {w : World} {ops : Array Oper} {rest : List Oper} {o : Oper} {a : Act} {Q : Exit → Act → World → Prop} (hgd : o.guard = none) (s x : Operand) (t : TypeId)
  (ho : o.op = .call { callee := .builtin .append, args := #[s, x], argTypes := #[t, t] })
  (base : Nat) (e : TypeId) (i : TypeInfo) (z : Value) (size bytes : Nat) (ht : P.underlying t = some (.slice e)) (hi : P.info? e = some i) (hz : i.zero = some z)
  (hsize : i.size = size) (hby : i.bytes = bytes) (hzs : z.cells.size = size) (hsz : 0 < size)
  (v : Value) (n : Nat) (xs : List Value) (hs : a.eval s = v) (hown : w.ownsRow base e size v n xs)
  (k m : Nat) (news : List Value) (hx : a.eval x = .slice (some ⟨k, 0, none⟩) m m) (hl : news.length = m * size) (hr : NewBox w k news) (h1 : ∀ u ∈ news, u.oneCell' = true)
  (h63 : n + m ≤ maxLen) (hbytes : (n + m) * bytes ≤ 140737488355328) (hbase : base ≤ w.heap.size)
  (h : ∀ v' w', w'.ownsRow base e size v' (n + m) (xs ++ news) → w.grownBy w' v.ownBlock → wpList P ops Q rest (a.put o.dst v') w') : wpList P ops Q (o :: rest) a w :=
 wpList_append_own _ hgd s x t ho base e i z size bytes ht hi hz hsize hby hzs hsz v n xs hs hown ⟨k, 0, none⟩ m m news hx hl (fun j u hu => by rw [Addr.add_lit, Nat.zero_add]; exact (hr.2.1 j).trans hu) h1 h63 hbytes hbase (fun v' w' h2 h3 _ => h v' w' h2 h3)
/-! the same in a region that draws its order -/
/-- the blocks that an operation laid or turned -/
def inG (x : Gh) (ts : List Gh) (k : Nat) : Prop := (x.s ≤ k ∧ k < x.e) ∨ ∃ t ∈ ts, t.s ≤ k ∧ k < t.e
structure RowIn (S : Nat → Prop) (w : World) (e : TypeId) (size : Nat) (v : Value) (n : Nat) (xs : List Value) : Prop where
 row : w.ownsRow 0 e size v n xs
 at_ : ∀ k, v.ownBlock = some k → S k
theorem RowIn.keep {S : Nat → Prop} {w w' : World} {e : TypeId} {size n : Nat} {v : Value} {xs : List Value} (h : RowIn S w e size v n xs) (hb : ∀ k, S k → w'.heap[k]? = w.heap[k]?) : RowIn S w' e size v n xs := by
 refine ⟨⟨h.row.1, ?_⟩, h.at_⟩
 rcases h.row.2 with h1 | ⟨g, cap, cur, hv, h1, h2, h3⟩
 ·exact .inl h1
 ·exact .inr ⟨g, cap, cur, hv, h1, by rw [hb g (h.at_ g (by rw [hv]; rfl))]; exact h2, h3⟩
theorem RowIn.made (w : World) (e : TypeId) (size : Nat) (S : Nat → Prop) (hS : S w.heap.size) : RowIn S (w.alloc (.cells #[] e)) e size (.slice (some ⟨w.heap.size, 0, none⟩) 0 0) 0 [] :=
 ⟨World.ownsRow_made _ #[] 0 (Nat.zero_le _) (Nat.zero_le _) (by simp), fun k hk => by cases hk; exact hS⟩
theorem RowIn.own {S : Nat → Prop} {w : World} {e : TypeId} {size n : Nat} {A : Option Addr} {c : Nat} {xs : List Value} (h : RowIn S w e size (.slice A n c) n xs) {lo hi : Nat} (hS : ∀ k, S k → lo ≤ k ∧ k < hi) (hh : hi ≤ w.heap.size) :
  n ≤ c ∧ (A = none → c = 0) ∧ Own w lo hi A xs := by
 obtain ⟨A', c', e1, h1, h2, h3⟩ := ownsRow_slice h.row
 injection e1 with e1 _ e3
 subst e1
 subst e3
 refine ⟨h1, h2, fun hn => ?_⟩
 obtain ⟨b, off, g1, g2, g3, g4, g5, g6⟩ := h3 hn
 subst g1
 have := hS b (h.at_ b rfl)
 exact ⟨b, off, rfl, this.1, this.2, hh, g5, g6⟩
theorem RowIn.widen {S S' : Nat → Prop} {w : World} {e : TypeId} {size n H : Nat} {v : Value} {xs : List Value} (h : RowIn (fun k => S k ∨ k = H) w e size v n xs) (hs : ∀ k, S k → S' k) (hn : v.ownBlock = some H → S' H) : RowIn S' w e size v n xs :=
 ⟨h.row, fun k hk => (h.at_ k hk).elim (hs k) (fun e => by subst e; exact hn hk)⟩
theorem NewBox.rd {w : World} {k : Nat} {cs : List Value} (h : NewBox w k cs) : Rd w 0 w.heap.size (some ⟨k, 0, none⟩) cs := fun _ =>
 ⟨k, 0, rfl, Nat.zero_le _, h.1, Nat.le_refl _, fun j u hu => by rw [Nat.zero_add]; exact (h.2.1 j).trans hu⟩
theorem gives_append_rd {P : Program} {w : World} {ρ : Operand → Value} {o : Oper} {R : Value → World → Prop} (s x : Operand) (t : TypeId)
  (ho : o.op = .call { callee := .builtin .append, args := #[s, x], argTypes := #[t, t] })
  (e : TypeId) (i : TypeInfo) (z : Value) (size bytes : Nat) (ht : P.underlying t = some (.slice e)) (hi : P.info? e = some i) (hz : i.zero = some z)
  (hsize : i.size = size) (hby : i.bytes = bytes) (hzs : z.cells.size = size) (hsz : 0 < size)
  (v : Value) (n : Nat) (xs : List Value) (hs : ρ s = v) {S : Nat → Prop} (hown : RowIn S w e size v n xs)
  (A : Option Addr) (m c lo hi' : Nat) (news : List Value) (hx : ρ x = .slice A m c) (hl : news.length = m * size) (hr : Rd w lo hi' A news) (hA : A = none → c = 0) (h1 : ∀ u ∈ news, u.oneCell' = true)
  (h63 : n + m ≤ maxLen) (hbytes : (n + m) * bytes ≤ 140737488355328)
  (h : ∀ A' c' w', RowIn (fun k => S k ∨ k = w.heap.size) w' e size (.slice A' (n + m) c') (n + m) (xs ++ news) → (∀ k, (.slice A' (n + m) c' : Value).ownBlock = some k → k < w'.heap.size) → w.grownBy w' v.ownBlock → R (.slice A' (n + m) c') w') : Gives P R ((execOp ρ o).run P w) := by
 obtain ⟨Av, cv, rfl, _, _, _⟩ := ownsRow_slice hown.row
 rcases A with _ | ad
 ·have hnil : news = [] := by
   by_cases hn : news = []
   ·exact hn
   ·obtain ⟨b, off, h1, _⟩ := hr hn; cases h1
  subst hnil
  have hm : m = 0 := by
   rcases Nat.eq_zero_or_pos m with h | h
   ·exact h
   ·have := Nat.mul_pos h hsz
    simp at hl
    omega
  subst hm
  obtain rfl := hA rfl
  have hrun := run_append_owned_none (P := P) (w := w) 0 t o.type e i size ht hi _ n xs hown.row
  unfold execOp
  simp only [ho, resolve, invoke, builtin, Sem.run_bind, Sem.run_pure, Result.andThen_ok, List.map_toArray, List.map_cons, List.map_nil, hs, hx, hrun]
  exact h Av cv w (by simpa using ⟨hown.row, fun k hk => .inl (hown.at_ k hk)⟩) (fun k hk => (hown.row.lt k hk).2) ⟨rfl, rfl, rfl, Nat.le_refl _, fun _ _ _ => rfl⟩
 ·obtain ⟨v', w', hrun, h2, h3, _, h5⟩ := run_append_own_at (P := P) w 0 t o.type e i z size bytes ht hi hz hsize hby hzs hsz _ n xs hown.row ad m c news hl (fun j u hu => by
   obtain ⟨b, off, h1, _, _, _, h5⟩ := hr (by intro e; rw [e] at hu; simp at hu)
   cases h1
   rw [Addr.add_lit]
   exact h5 j u hu) h1 h63 hbytes (Nat.zero_le _)
  obtain ⟨A', c', rfl, _, _, _⟩ := ownsRow_slice h2
  unfold execOp
  simp only [ho, resolve, invoke, builtin, Sem.run_bind, Sem.run_pure, Result.andThen_ok, List.map_toArray, List.map_cons, List.map_nil, hs, hx, hrun]
  refine h A' c' w' ⟨h2, fun k hk => ?_⟩ (fun k hk => (h2.lt k hk).2) h3
  rcases h5 with h5 | h5
  ·exact .inl (hown.at_ k (by rw [← h5]; exact hk))
  ·rw [hk] at h5; cases h5; exact .inr rfl
theorem one_ints (l : List Int) : ∀ u ∈ ints l, u.oneCell' = true := one_map (fun _ => rfl) l
theorem app1Int {w : World} {ops : Array Oper} {rest : List Oper} {o : Oper} {a : Act} {Q : Exit → Act → World → Prop} (hgd : o.guard = none) (s x : Operand)
  (ho : o.op = .call { callee := .builtin .append, args := #[s, x], argTypes := #[30, 30] }) (base : Nat) (v : Value) (n : Nat) (xs : List Value) (hs : a.eval s = v) (hown : w.ownsRow base 3 1 v n xs)
  (k : Nat) (x0 : Int) (hx : a.eval x = .slice (some ⟨k, 0, none⟩) 1 1) (hr : NewBox w k (ints [x0])) (h63 : n + 1 ≤ 100000000) (hbase : base ≤ w.heap.size)
  (h : ∀ v' w', w'.ownsRow base 3 1 v' (n + 1) (xs ++ ints [x0]) → w.grownBy w' v.ownBlock → wpList Try.prog ops Q rest (a.put o.dst v') w') : wpList Try.prog ops Q (o :: rest) a w := by
 obtain ⟨i0, hi0, hz0, hz1, hz2⟩ := info_parts info_int
 exact wpList_append_one hgd s x _ ho base _ i0 (.int .i64 0) 1 8 Try.underlying30 hi0 hz0 hz1 hz2 rfl (by decide) v n xs hs hown k 1 _ hx (by rw [ints_len]; try rfl) hr (one_ints _) (by unfold maxLen; omega) (by omega) hbase h
theorem appStr {w : World} {ops : Array Oper} {rest : List Oper} {o : Oper} {a : Act} {Q : Exit → Act → World → Prop} (hgd : o.guard = none) (s x : Operand)
  (ho : o.op = .call { callee := .builtin .append, args := #[s, x], argTypes := #[24, 24] }) (base : Nat) (v : Value) (n : Nat) (xs : List Value) (hs : a.eval s = v) (hown : w.ownsRow base 9 1 v n xs)
  (A : Option Addr) (q c lo hi' : Nat) (l : List ByteArray) (hx : a.eval x = .slice A q c) (hl : l.length = q) (hr : Rd w lo hi' A (strs l)) (hA : A = none → c = 0)
  (h63 : n + q ≤ 100000000) (hbase : base ≤ w.heap.size)
  (h : ∀ v' w', w'.ownsRow base 9 1 v' (n + q) (xs ++ strs l) → w.grownBy w' v.ownBlock → wpList Try.prog ops Q rest (a.put o.dst v') w') : wpList Try.prog ops Q (o :: rest) a w := by
 obtain ⟨i0, hi0, hz0, hz1, hz2⟩ := info_parts info_string
 exact wpList_append_rd hgd s x _ ho base _ i0 (.string ByteArray.empty) 1 16 Try.underlying24 hi0 hz0 hz1 hz2 rfl (by decide) v n xs hs hown A q c lo hi' _ hx (by rw [strs_len, hl]; try omega) hr hA (cloneStr_one _) (by unfold maxLen; omega) (by omega) hbase h
theorem app1Str {w : World} {ops : Array Oper} {rest : List Oper} {o : Oper} {a : Act} {Q : Exit → Act → World → Prop} (hgd : o.guard = none) (s x : Operand)
  (ho : o.op = .call { callee := .builtin .append, args := #[s, x], argTypes := #[24, 24] }) (base : Nat) (v : Value) (n : Nat) (xs : List Value) (hs : a.eval s = v) (hown : w.ownsRow base 9 1 v n xs)
  (k : Nat) (x0 : ByteArray) (hx : a.eval x = .slice (some ⟨k, 0, none⟩) 1 1) (hr : NewBox w k (strs [x0])) (h63 : n + 1 ≤ 100000000) (hbase : base ≤ w.heap.size)
  (h : ∀ v' w', w'.ownsRow base 9 1 v' (n + 1) (xs ++ strs [x0]) → w.grownBy w' v.ownBlock → wpList Try.prog ops Q rest (a.put o.dst v') w') : wpList Try.prog ops Q (o :: rest) a w := by
 obtain ⟨i0, hi0, hz0, hz1, hz2⟩ := info_parts info_string
 exact wpList_append_one hgd s x _ ho base _ i0 (.string ByteArray.empty) 1 16 Try.underlying24 hi0 hz0 hz1 hz2 rfl (by decide) v n xs hs hown k 1 _ hx (by rw [strs_len]; try rfl) hr (cloneStr_one _) (by unfold maxLen; omega) (by omega) hbase h
theorem gappEnt {w : World} {ρ : Operand → Value} {o : Oper} {R : Value → World → Prop} (s x : Operand)
  (ho : o.op = .call { callee := .builtin .append, args := #[s, x], argTypes := #[40, 40] }) (v : Value) (n : Nat) (xs : List Value) (hs : ρ s = v) {S : Nat → Prop} (hown : RowIn S w 55 5 v n xs)
  (A : Option Addr) (q c lo hi' : Nat) (l : List Ent) (hx : ρ x = .slice A q c) (hl : l.length = q) (hr : Rd w lo hi' A (ents l)) (hA : A = none → c = 0) (h63 : n + q ≤ 100000000)
  (h : ∀ A' c' w', RowIn (fun k => S k ∨ k = w.heap.size) w' 55 5 (.slice A' (n + q) c') (n + q) (xs ++ ents l) → (∀ k, (.slice A' (n + q) c' : Value).ownBlock = some k → k < w'.heap.size) → w.grownBy w' v.ownBlock → R (.slice A' (n + q) c') w') :
  Gives Try.prog R ((execOp ρ o).run Try.prog w) := by
 obtain ⟨i0, hi0, hz0, hz1, hz2⟩ := info_parts info_Entry
 exact gives_append_rd s x _ ho _ i0 (.agg #[.string ByteArray.empty, .int .i64 0, .int .i64 0, .string ByteArray.empty, .string ByteArray.empty]) 5 64 Try.underlying40 hi0 hz0 hz1 hz2 rfl (by decide) v n xs hs hown A q c lo hi' _ hx (by rw [ents_len, hl]; try omega) hr hA (cloneEnt_one _) (by unfold maxLen; omega) (by omega) h
theorem gapp1Ent {w : World} {ρ : Operand → Value} {o : Oper} {R : Value → World → Prop} (s x : Operand)
  (ho : o.op = .call { callee := .builtin .append, args := #[s, x], argTypes := #[40, 40] }) (v : Value) (n : Nat) (xs : List Value) (hs : ρ s = v) {S : Nat → Prop} (hown : RowIn S w 55 5 v n xs)
  (k : Nat) (x0 : Ent) (hx : ρ x = .slice (some ⟨k, 0, none⟩) 1 1) (hr : NewBox w k (ents [x0])) (h63 : n + 1 ≤ 100000000)
  (h : ∀ A' c' w', RowIn (fun k => S k ∨ k = w.heap.size) w' 55 5 (.slice A' (n + 1) c') (n + 1) (xs ++ ents [x0]) → (∀ k, (.slice A' (n + 1) c' : Value).ownBlock = some k → k < w'.heap.size) → w.grownBy w' v.ownBlock → R (.slice A' (n + 1) c') w') :
  Gives Try.prog R ((execOp ρ o).run Try.prog w) :=
 gappEnt s x ho v n xs hs hown _ 1 1 0 w.heap.size [x0] hx rfl (NewBox.rd hr) (fun h => by cases h) h63 h
end Go.Proofs.Ytoccjgcokffkbaa
namespace Go.Proofs.Ytoccjgcokffkbaa
set_option linter.unusedVariables false
set_option linter.unusedSimpArgs false
open Go.RowKit
theorem NewBox.setD {w : World} {k : Nat} {cs : List Value} (h : NewBox w k cs) {o : Nat} (ho : o < cs.length) (u : Value) : NewBox (w.setCell ⟨k, o, none⟩ u) k (cs.set o u) := by
 refine ⟨by simpa [World.setCell] using h.1, fun i => ?_, fun i => by simpa using h.2.2 i⟩
 by_cases hij : o = i
 ·subst hij
  rw [List.getElem?_set_self ho]
  exact World.cell?_setCell_same _ _ _ ((h.2.1 o).trans (List.getElem?_eq_getElem ho))
 ·rw [List.getElem?_set_ne hij, World.cell?_setCell_other _ _ _ _ (by simp only [ne_eq, Addr.mk.injEq, and_true, true_and]; omega)]
  exact h.2.1 i
theorem and255 (n : Int) : bits .and .i64 n 255 = n % 256 := by
 have h255 : (BitVec.ofInt 64 255).toNat = 2 ^ 8 - 1 := by decide
 have key : (BitVec.ofInt 64 n &&& BitVec.ofInt 64 255).toNat = (n % ((2 ^ 64 : Nat) : Int)).toNat % 2 ^ 8 := by
  rw [BitVec.toNat_and, BitVec.toNat_ofInt, h255, Nat.and_two_pow_sub_one_eq_mod]
 show IntKind.i64.wrap ((BitVec.ofInt 64 n &&& BitVec.ofInt 64 255).toNat : Nat) = n % 256
 rw [key, IntKind.wrap_i64]
 omega
theorem and30 (n : Int) : bits .and .i64 n 1073741823 = n % 1073741824 := by
 have h30 : (BitVec.ofInt 64 1073741823).toNat = 2 ^ 30 - 1 := by decide
 have key : (BitVec.ofInt 64 n &&& BitVec.ofInt 64 1073741823).toNat = (n % ((2 ^ 64 : Nat) : Int)).toNat % 2 ^ 30 := by
  rw [BitVec.toNat_and, BitVec.toNat_ofInt, h30, Nat.and_two_pow_sub_one_eq_mod]
 show IntKind.i64.wrap ((BitVec.ofInt 64 n &&& BitVec.ofInt 64 1073741823).toNat : Nat) = n % 1073741824
 rw [key, IntKind.wrap_i64]
 omega
theorem post_named {P : Program} {f : Func} {R : Ending → World → Prop} {e : Exit} {a : Act} {W : World} (h : ∀ W', W' = W → bodyPost P f R e a W') : bodyPost P f R e a W := h W rfl
def bys (l : List Int) : List Value := l.map (Value.int .u8)
/-- a cursor in memory: the code, a place in it, a number -/
def CurAt (w : World) (p : Nat) (B : Option Addr) (n g : Nat) : Prop := ∃ (i : Nat) (h : Int), NewBox w p [.slice B n g, .int .i64 i, .int .i64 h] ∧ i ≤ n
set_option maxRecDepth 100000 in
set_option maxHeartbeats 400000 in
theorem l01Byte_c (p n g lo hi : Nat) (B : Option Addr) (l : List Int) (w : World) (hc : CurAt w p B n g) (hr : Rd w lo hi B (bys l)) (hl : l.length = n) (hn : n ≤ 1048576) (hb : ∀ x ∈ l, 0 ≤ x ∧ x ≤ 255) (hhi : hi ≤ p) :
  Calls Try.prog 36 #[.pointer (some ⟨p, 0, none⟩)] w fun e w' => ∃ x : Int, e = .returned (.int .i64 x) ∧ 0 ≤ x ∧ x ≤ 255 ∧ CurAt w' p B n g ∧ Only p (p + 1) w w' := by
 obtain ⟨i, h, hx, hi2⟩ := hc
 have e0 : w.cell? ⟨p, 0, none⟩ = some (.slice B n g) := hx.cell (o := 0) rfl
 have e1 : w.cell? ⟨p, 1, none⟩ = some (.int .i64 i) := hx.cell (o := 1) rfl
 have e2 : w.cell? ⟨p, 2, none⟩ = some (.int .i64 h) := hx.cell (o := 2) rfl
 have hf := hx.2.2
 have hp := hx.1
 go_enter Try.func36, Try.ntmps36
 go_wp2_with fail
 obtain ⟨h2, hh2⟩ : ∃ h2, h2 = wrap64 (wrap64 (h * 6364136223846793005) + 1442695040888963407) := ⟨_, rfl⟩
 rw [← hh2]
 refine wp_named (fun w1 hw => ?_)
 have hx1 : NewBox w1 p [.slice B n g, .int .i64 i, .int .i64 h2] := by rw [hw]; exact hx.setD (o := 2) (by simp) _
 have ho1 : Only p (p + 1) w w1 := by rw [hw]; exact (Only.refl _ _ _).setCell (by exact Nat.le_refl _) (by exact Nat.lt_succ_self _) _
 clear hw hh2 e0 e1 e2 hf hp hx
 have e0 : w1.cell? ⟨p, 0, none⟩ = some (.slice B n g) := hx1.cell (o := 0) rfl
 have e1 : w1.cell? ⟨p, 1, none⟩ = some (.int .i64 i) := hx1.cell (o := 1) rfl
 have e2 : w1.cell? ⟨p, 2, none⟩ = some (.int .i64 h2) := hx1.cell (o := 2) rfl
 have hf := hx1.2.2
 have hp := hx1.1
 go_quiet (fail)
 have hxb := and255 (bits .xor .i64 (h2 / 8589934592) (h2 / 35184372088832))
 generalize bits .and .i64 (bits .xor .i64 (h2 / 8589934592) (h2 / 35184372088832)) 255 = x at *
 generalize bits .xor .i64 (h2 / 8589934592) (h2 / 35184372088832) = x0 at *
 have hx0 : 0 ≤ x ∧ x ≤ 255 := by omega
 generalize hw2 : w1.drewN nq = w2
 have hx2 : NewBox w2 p [.slice B n g, .int .i64 i, .int .i64 h2] := by rw [← hw2]; exact hx1.drewN _
 have ho2 : Only p (p + 1) w w2 := by rw [← hw2]; exact ho1.trans ⟨rfl, rfl, rfl, Nat.le_refl _, fun _ _ _ => rfl⟩
 clear hw2 hxb e0 e1 e2 hf hp hx1 ho1
 have e0 : w2.cell? ⟨p, 0, none⟩ = some (.slice B n g) := hx2.cell (o := 0) rfl
 have e1 : w2.cell? ⟨p, 1, none⟩ = some (.int .i64 i) := hx2.cell (o := 1) rfl
 have hp := hx2.1
 go_wp2_with fail
 go_quiet (fail)
 generalize hw3 : w2.drewN _ = w3
 have hx3 : NewBox w3 p [.slice B n g, .int .i64 i, .int .i64 h2] := by rw [← hw3]; exact hx2.drewN _
 have ho3 : Only p (p + 1) w w3 := by rw [← hw3]; exact ho2.trans ⟨rfl, rfl, rfl, Nat.le_refl _, fun _ _ _ => rfl⟩
 clear hw3 e0 e1 hp hx2 ho2
 by_cases hlt : i < n
 ·obtain ⟨b, off, rfl, q1, q2, q3, q4⟩ := hr (fun e => by rw [bys] at e; have := List.map_eq_nil_iff.1 e; rw [this] at hl; simp at hl; omega)
  obtain ⟨v, hv⟩ : ∃ v, l[i]? = some v := ⟨_, List.getElem?_eq_getElem (by omega)⟩
  have hvb := hb v (List.mem_of_getElem? hv)
  have hcell := q4 i (.int .u8 v) (by rw [bys, List.getElem?_map, hv]; rfl)
  have hc3 : w3.cell? ⟨b, off + i, none⟩ = some (.int .u8 v) := (World.cell?_of_block (ho3.block b (by omega) (.inl (by omega)))).trans hcell
  have e0 : w3.cell? ⟨p, 0, none⟩ = some (.slice (some ⟨b, off, none⟩) n g) := hx3.cell (o := 0) rfl
  have e1 : w3.cell? ⟨p, 1, none⟩ = some (.int .i64 i) := hx3.cell (o := 1) rfl
  have hp := hx3.1
  have hI : (i : Int) < n := by omega
  have hN : (n : Int) ≤ 1048576 := by omega
  clear hcell hv q4 hr
  go_wp2_with fail
  go_quiet (fail)
  have hyb := and255 (x + v)
  generalize bits .and .i64 (x + v) 255 = y at *
  have hy0 : 0 ≤ y ∧ y ≤ 255 := by omega
  generalize hw4 : w3.drewN _ = w4
  have hx4 : NewBox w4 p [.slice (some ⟨b, off, none⟩) n g, .int .i64 i, .int .i64 h2] := by rw [← hw4]; exact hx3.drewN _
  have ho4 : Only p (p + 1) w w4 := by rw [← hw4]; exact ho3.trans ⟨rfl, rfl, rfl, Nat.le_refl _, fun _ _ _ => rfl⟩
  clear hw4 hyb e0 e1 hp hx3 ho3 hc3
  have e1 : w4.cell? ⟨p, 1, none⟩ = some (.int .i64 i) := hx4.cell (o := 1) rfl
  have hf := hx4.2.2
  have hp := hx4.1
  have hI2 : (i : Int) ≤ 1048576 := by omega
  go_wp2
  refine post_named (fun w5 hw => ?_)
  have hx5 : NewBox w5 p [.slice (some ⟨b, off, none⟩) n g, .int .i64 ((i : Int) + 1), .int .i64 h2] := by rw [hw]; exact hx4.setD (o := 1) (by simp) _
  have ho5 : Only p (p + 1) w w5 := by rw [hw]; exact ho4.setCell (by exact Nat.le_refl _) (by exact Nat.lt_succ_self _) _
  clear hw
  go_ret
  exact ⟨y, rfl, hy0.1, hy0.2, ⟨i + 1, h2, hx5, by omega⟩, ho5⟩
 ·have hnlt : ¬ (i : Int) < n := by omega
  go_wp2
  go_ret
  exact ⟨x, rfl, hx0.1, hx0.2, ⟨i, h2, hx3, hi2⟩, ho3⟩
/-- what a draw may turn: its cursor -/
structure Code (w : World) (p : Nat) (B : Option Addr) (n g lo hi : Nat) (l : List Int) : Prop where
 cur : CurAt w p B n g
 rd : Rd w lo hi B (bys l)
 len : l.length = n
 small : n ≤ 1048576
 byte : ∀ x ∈ l, 0 ≤ x ∧ x ≤ 255
 far : hi ≤ p
theorem Code.next {w w' : World} {p n g lo hi : Nat} {B : Option Addr} {l : List Int} (h : Code w p B n g lo hi l) (hc : CurAt w' p B n g) (ho : Only p (p + 1) w w') : Code w' p B n g lo hi l :=
 ⟨hc, h.rd.keep ho.size (fun k _ hk => ho.block k (by obtain ⟨_, _, hx, _⟩ := h.cur; have := hx.1; have := h.far; omega) (.inl (by have := h.far; omega))), h.len, h.small, h.byte, h.far⟩
theorem Code.below {w w' : World} {p n g lo hi : Nat} {B : Option Addr} {l : List Int} (h : Code w p B n g lo hi l) (hb : Below w.heap.size w w') : Code w' p B n g lo hi l := by
 obtain ⟨i, k, hx, hi2⟩ := h.cur
 exact ⟨⟨i, k, hx.below hb, hi2⟩, h.rd.below hb, h.len, h.small, h.byte, h.far⟩
theorem byte_c {w : World} {p n g lo hi : Nat} {B : Option Addr} {l : List Int} (h : Code w p B n g lo hi l) :
  Calls Try.prog 36 #[.pointer (some ⟨p, 0, none⟩)] w fun e w' => ∃ x : Int, e = .returned (.int .i64 x) ∧ 0 ≤ x ∧ x ≤ 255 ∧ Code w' p B n g lo hi l ∧ Only p (p + 1) w w' :=
 (l01Byte_c p n g lo hi B l w h.cur h.rd h.len h.small h.byte h.far).mono fun e w' ⟨x, h1, h2, h3, h4, h5⟩ => ⟨x, h1, h2, h3, h.next h4 h5, h5⟩
set_option maxRecDepth 100000 in
set_option maxHeartbeats 400000 in
theorem l01Below_c (p n g lo hi : Nat) (B : Option Addr) (l : List Int) (m : Int) (w : World) (h : Code w p B n g lo hi l) (hm : 0 < m) (hm2 : m ≤ 1000000) :
  Calls Try.prog 34 #[.pointer (some ⟨p, 0, none⟩), .int .i64 m] w fun e w' => ∃ x : Int, e = .returned (.int .i64 x) ∧ 0 ≤ x ∧ x < m ∧ Code w' p B n g lo hi l ∧ Only p (p + 1) w w' := by
 have HC := Lib.hid h
 clear h
 go_enter Try.func34, Try.ntmps34
 rcases (show m ≤ 256 ∨ 256 < m by omega) with h1 | h1
 ·go_wp2_with fail
  refine (byte_c HC.out).mono ?_
  rintro e w1 ⟨x, rfl, x0, x1, hc1, ho1⟩
  have HC1 := Lib.hid hc1
  have HO1 := Lib.hid ho1
  clear hc1 ho1 HC
  have E1 : x.tmod m = x % m := Int.tmod_eq_emod_of_nonneg x0
  have E2 := Int.emod_nonneg x (show m ≠ 0 by omega)
  have E3 := Int.emod_lt_of_pos x hm
  obtain ⟨y, hy⟩ : ∃ y, y = x % m := ⟨_, rfl⟩
  rw [← hy] at E1 E2 E3
  clear hy
  have hm0 : (m == 0) = false := beq_eq_false_iff_ne.2 (by omega)
  go_wp2
  go_ret
  exact ⟨y, rfl, E2, E3, HC1.out, HO1.out⟩
 ·go_wp2_with fail
  refine (byte_c HC.out).mono ?_
  rintro e w1 ⟨x, rfl, x0, x1, hc1, ho1⟩
  have HC1 := Lib.hid hc1
  have HO1 := Lib.hid ho1
  clear hc1 ho1 HC
  go_wp2_with fail
  refine (byte_c HC1.out).mono ?_
  rintro e w2 ⟨y, rfl, y0, y1, hc2, ho2⟩
  have HC2 := Lib.hid hc2
  have HO2 := Lib.hid (HO1.out.trans ho2)
  clear hc2 ho2 HC1 HO1
  go_wp2_with fail
  refine (byte_c HC2.out).mono ?_
  rintro e w3 ⟨z, rfl, z0, z1, hc3, ho3⟩
  have HC3 := Lib.hid hc3
  have HO3 := Lib.hid (HO2.out.trans ho3)
  clear hc3 ho3 HC2 HO2
  go_wp2_with fail
  refine (byte_c HC3.out).mono ?_
  rintro e w4 ⟨u, rfl, u0, u1, hc4, ho4⟩
  have HC4 := Lib.hid hc4
  have HO4 := Lib.hid (HO3.out.trans ho4)
  clear hc4 ho4 HC3 HO3
  obtain ⟨t, ht⟩ : ∃ t, t = x * 16777216 + y * 65536 + z * 256 + u := ⟨_, rfl⟩
  have ht0 : 0 ≤ t := by omega
  have E1 : t.tmod m = t % m := Int.tmod_eq_emod_of_nonneg ht0
  have E2 := Int.emod_nonneg t (show m ≠ 0 by omega)
  have E3 := Int.emod_lt_of_pos t hm
  obtain ⟨r, hr⟩ : ∃ r, r = t % m := ⟨_, rfl⟩
  rw [← hr] at E1 E2 E3
  rw [ht] at E1
  clear hr ht ht0
  have hm0 : (m == 0) = false := beq_eq_false_iff_ne.2 (by omega)
  go_wp2
  go_ret
  exact ⟨r, rfl, E2, E3, HC4.out, HO4.out⟩
set_option maxRecDepth 100000 in
set_option maxHeartbeats 400000 in
theorem l01New_c (n g lo hi : Nat) (B : Option Addr) (l : List Int) (w : World) (hr : Rd w lo hi B (bys l)) (hl : l.length = n) (hn : n ≤ 1048576) (hb : ∀ x ∈ l, 0 ≤ x ∧ x ≤ 255) :
  Calls Try.prog 31 #[.slice B n g] w fun e w' => e = .returned (.pointer (some ⟨w.heap.size, 0, none⟩)) ∧ Code w' w.heap.size B n g 0 w.heap.size l ∧ w.heap.size < w'.heap.size ∧ Below w.heap.size w w' := by
 have HR := Lib.hid hr.base
 have HL := Lib.hid hl
 have HB := Lib.hid hb
 have hnI : (n : Int) ≤ 1048576 := by omega
 clear hr hl hb
 go_enter Try.func31, Try.ntmps31
 go_wp2
 go_loop [3, 4] (fun a i => ∃ (h : Int) (j : Nat), a = .int .i64 h ∧ i = .int .i64 j ∧ 0 ≤ h ∧ h ≤ 1073741823 ∧ j ≤ n) (fun _ i => n - (intOf i).toNat)
 case atStart => exact ⟨74074 + n, 0, rfl, rfl, by omega, by omega, Nat.zero_le _⟩
 case round =>
  obtain ⟨h, j, rfl, rfl, h0, h1, hj⟩ := hrel
  rcases (show (j < n ∧ j < 4000) ∨ ¬ j < n ∨ (j < n ∧ ¬ j < 4000) by omega) with ⟨hlt, h4⟩ | hlt | ⟨hlt, h4⟩
  ·obtain ⟨b, off, rfl, q1, q2, q3, q4⟩ := HR.out (fun e => by rw [bys] at e; have := List.map_eq_nil_iff.1 e; have h9 := HL.out; rw [this] at h9; simp at h9; omega)
   obtain ⟨v, hv⟩ : ∃ v, l[j]? = some v := ⟨_, List.getElem?_eq_getElem (by rw [HL.out]; exact hlt)⟩
   have hvb := HB.out v (List.mem_of_getElem? hv)
   have hcell : w.cell? ⟨b, off + j, none⟩ = some (.int .u8 v) := q4 j (.int .u8 v) (by rw [bys, List.getElem?_map, hv]; rfl)
   have hbw : b < w.heap.size := q2
   have hI : (j : Int) < n := by omega
   have hI4 : (j : Int) < 4000 := by omega
   have E1 := and30 (h * 131 + v + 7)
   obtain ⟨y, hy⟩ : ∃ y, y = (h * 131 + v + 7) % 1073741824 := ⟨_, rfl⟩
   rw [← hy] at E1
   have hy0 : 0 ≤ y ∧ y ≤ 1073741823 := by omega
   clear hy hv q4
   go_wp2
   go_round
   case rel => exact ⟨y, j + 1, rfl, by go_num, hy0.1, hy0.2, by omega⟩
   case measure => simp [intOf]; omega
  ·have hI : ¬ (j : Int) < n := by omega
   go_wp2
   refine post_named (fun w2 hw => ?_)
   have hx : NewBox w2 w.heap.size [.slice B n g, .int .i64 0, .int .i64 h] := by rw [hw]; exact NewBox.new _ #[.slice B n g, .int .i64 0, .int .i64 h] _
   have hbl : Below w.heap.size w w2 := by rw [hw]; exact (Below.refl _ _).alloc (Nat.le_refl _) _
   clear hw
   go_ret
   exact ⟨rfl, ⟨⟨0, h, hx, Nat.zero_le _⟩, HR.out.below hbl, HL.out, hn, HB.out, Nat.le_refl _⟩, hx.1, hbl⟩
  ·have hI : (j : Int) < n := by omega
   have hI4 : ¬ (j : Int) < 4000 := by omega
   go_wp2
   refine post_named (fun w2 hw => ?_)
   have hx : NewBox w2 w.heap.size [.slice B n g, .int .i64 0, .int .i64 h] := by rw [hw]; exact NewBox.new _ #[.slice B n g, .int .i64 0, .int .i64 h] _
   have hbl : Below w.heap.size w w2 := by rw [hw]; exact (Below.refl _ _).alloc (Nat.le_refl _) _
   clear hw
   go_ret
   exact ⟨rfl, ⟨⟨0, h, hx, Nat.zero_le _⟩, HR.out.below hbl, HL.out, hn, HB.out, Nat.le_refl _⟩, hx.1, hbl⟩
theorem info_dbyte : (Try.prog.info? 5).map (fun i => (i.zero, i.size, i.bytes)) = some (some (.int .u8 0), 1, 1) := by kernel_rfl
theorem one_dbys (l : List UInt8) : ∀ u ∈ Lib.byteCells l, u.oneCell' = true := one_map (fun _ => rfl) l
theorem dbys_len (l : List UInt8) : (Lib.byteCells l).length = l.length := by simp [Lib.byteCells]
theorem dbys_app (a b : List UInt8) : Lib.byteCells (a ++ b) = Lib.byteCells a ++ Lib.byteCells b := by simp [Lib.byteCells]
theorem app1Db {w : World} {ops : Array Oper} {rest : List Oper} {o : Oper} {a : Act} {Q : Exit → Act → World → Prop} (hgd : o.guard = none) (s x : Operand)
  (ho : o.op = .call { callee := .builtin .append, args := #[s, x], argTypes := #[22, 22] }) (base : Nat) (v : Value) (n : Nat) (xs : List Value) (hs : a.eval s = v) (hown : w.ownsRow base 5 1 v n xs)
  (k : Nat) (x0 : UInt8) (hx : a.eval x = .slice (some ⟨k, 0, none⟩) 1 1) (hr : NewBox w k (Lib.byteCells [x0])) (h63 : n + 1 ≤ 100000000) (hbase : base ≤ w.heap.size)
  (h : ∀ v' w', w'.ownsRow base 5 1 v' (n + 1) (xs ++ Lib.byteCells [x0]) → w.grownBy w' v.ownBlock → wpList Try.prog ops Q rest (a.put o.dst v') w') : wpList Try.prog ops Q (o :: rest) a w := by
 obtain ⟨i0, hi0, hz0, hz1, hz2⟩ := info_parts info_dbyte
 exact wpList_append_one hgd s x _ ho base _ i0 (.int .u8 0) 1 1 Try.underlying22 hi0 hz0 hz1 hz2 rfl (by decide) v n xs hs hown k 1 _ hx (by rw [dbys_len]; try rfl) hr (one_dbys _) (by unfold maxLen; omega) (by omega) hbase h
theorem row_onlyP {w w' : World} {base lo hi n size : Nat} {e : TypeId} {v : Value} {xs : List Value} (h : w.ownsRow base e size v n xs) (ho : Only lo hi w w') (hd : hi ≤ base) : w'.ownsRow base e size v n xs := by
 refine ⟨h.1, ?_⟩
 rcases h.2 with h1 | ⟨g, cap, cur, h1, h2, h3, h4⟩
 ·exact .inl h1
 ·exact .inr ⟨g, cap, cur, h1, h2, (ho.block g (Array.getElem?_eq_some_iff.1 h3).1 (.inr (by omega))).trans h3, h4⟩
theorem row_formD {w : World} {base size n : Nat} {e : TypeId} {v : Value} {xs : List Value} (h : w.ownsRow base e size v n xs) (hn : 0 < n) : ∃ g cap, v = .slice (some ⟨g, 0, none⟩) n cap := by
 rcases h.2 with ⟨_, h0⟩ | ⟨g, cap, _, hv, _⟩
 ·omega
 ·exact ⟨g, cap, hv⟩
theorem only_two {lo hi lo' hi' : Nat} {a b c : World} (h : Only lo hi a b) (k : Only lo' hi' b c) (hl : a.heap.size ≤ lo') : Only lo hi a c :=
 ⟨k.os.trans h.os, k.tape.trans h.tape, k.output.trans h.output, Nat.le_trans h.size k.size, fun i hi1 hd => (k.block i (Nat.lt_of_lt_of_le hi1 h.size) (.inl (by omega))).trans (h.block i hi1 hd)⟩
theorem Code.only {w w' : World} {p n g lo hi lo' hi' : Nat} {B : Option Addr} {l : List Int} (h : Code w p B n g lo hi l) (ho : Only lo' hi' w w') (hp : p < lo') : Code w' p B n g lo hi l := by
 obtain ⟨i, k, hx, hi2⟩ := h.cur
 have hf := h.far
 have hpw := hx.1
 exact ⟨⟨i, k, hx.only ho (.inl hp), hi2⟩, h.rd.keep ho.size (fun k _ hk => ho.block k (by omega) (.inl (by omega))), h.len, h.small, h.byte, h.far⟩
theorem byte_cell {x : Int} (h0 : 0 ≤ x) (h1 : x ≤ 255) : Lib.byteCells [UInt8.ofNat x.toNat] = [.int .u8 x] := by
 simp [Lib.byteCells]
 omega
set_option maxRecDepth 100000 in
set_option maxHeartbeats 400000 in
theorem l01Text_c (p n g lo hi : Nat) (B : Option Addr) (l : List Int) (m : Nat) (w : World) (h : Code w p B n g lo hi l) (hm : m ≤ 5000) (hp : p < w.heap.size) :
  Calls Try.prog 33 #[.pointer (some ⟨p, 0, none⟩), .int .i64 m] w fun e w' => ∃ s : ByteArray, e = .returned (.string s) ∧ s.size = m ∧ Code w' p B n g lo hi l ∧ Only p (p + 1) w w' := by
 have HC := Lib.hid h
 have hmI : (m : Int) ≤ 5000 := by omega
 have HROW : Hid ((w.alloc (.cells #[] 5)).ownsRow w.heap.size 5 1 (.slice (some ⟨w.heap.size, 0, none⟩) 0 0) 0 []) := Lib.hid (World.ownsRow_made w #[] 0 (Nat.le_refl _) (Nat.zero_le _) (by simp))
 clear h
 go_enter Try.func33, Try.ntmps33
 go_wp2
 go_loopw [5, 6] (fun v i wx => ∃ (k g0 c0 : Nat) (bs : List UInt8), k ≤ m ∧ i = .int .i64 k ∧ v = .slice (some ⟨g0, 0, none⟩) k c0 ∧ bs.length = k ∧ wx.ownsRow w.heap.size 5 1 (.slice (some ⟨g0, 0, none⟩) k c0) k (Lib.byteCells bs) ∧ Code wx p B n g lo hi l ∧ Only p (p + 1) w wx) (fun _ i _ => m - (intOf i).toNat)
 case atStart => exact ⟨0, _, 0, [], Nat.zero_le _, rfl, rfl, rfl, HROW.out, HC.out.below ((Below.refl _ _).alloc (Nat.le_refl _) _), Only.of_below ((Below.refl _ _).alloc (Nat.le_refl _) _)⟩
 case round =>
  clear HROW HC
  obtain ⟨k, g0, c0, bs, hk, rfl, rfl, hbs, how, hcd, hon⟩ := hrel
  have HOW := Lib.hid how
  have HCD := Lib.hid hcd
  have HON := Lib.hid hon
  have HBS := Lib.hid hbs
  have hsz := hon.size
  by_cases hlt : k < m
  ·have hI : (k : Int) < m := by omega
   clear how hcd hon hbs
   go_wp2_with fail
   refine (byte_c HCD.out).mono ?_
   rintro e w1 ⟨x, rfl, x0, x1, hc1, ho1⟩
   have HC1 := Lib.hid hc1
   have HO1 := Lib.hid (HON.out.trans ho1)
   have HW1 := Lib.hid (row_onlyP HOW.out ho1 (by omega))
   have hs1 := ho1.size
   have E1 : IntKind.u8.wrap x = x := by rw [IntKind.wrap_u8]; omega
   clear hc1 ho1 HCD HON HOW
   have hbx : ∀ W : World, NewBox (W.alloc (.cells #[.int .u8 x] 5)) W.heap.size (Lib.byteCells [UInt8.ofNat x.toNat]) := fun W => by rw [byte_cell x0 x1]; exact NewBox.new W #[.int .u8 x] _
   have HBX := Lib.hid hbx
   clear hbx
   go_wp2_with (at_builtin; refine app1Db rfl _ _ rfl w.heap.size _ _ _ rfl (HW1.out.alloc _) w1.heap.size (UInt8.ofNat x.toNat) rfl (HBX.out w1) (by omega) (by simp; omega) ?_)
   intro v2 w2 hown2 hg2
   obtain ⟨g2, c2, hge⟩ := row_formD hown2 (Nat.succ_pos k)
   subst hge
   have hon2 := grown_only (HW1.out.alloc _) hg2
   rw [← dbys_app] at hown2
   have HW2 := Lib.hid hown2
   have hA : Only w.heap.size (w1.heap.size + 1) w1 w2 := (Only.of_below ((Below.refl _ _).alloc (Nat.le_refl _) _)).trans (by simpa using hon2)
   have HO2 := Lib.hid (only_two HO1.out hA (Nat.le_refl _))
   have HC2 := Lib.hid (HC1.out.only hA hp)
   have HLB : Hid ((bs ++ [UInt8.ofNat x.toNat]).length = k + 1) := Lib.hid (by rw [List.length_append, HBS.out]; rfl)
   clear hown2 hg2 hon2 hA HO1 HC1 HW1 HBX
   go_wp2
   go_roundw
   case rel => exact ⟨k + 1, g2, c2, bs ++ [UInt8.ofNat x.toNat], by omega, by go_num, rfl, HLB.out, HW2.out, HC2.out, HO2.out⟩
   case measure => simp [intOf]; omega
  ·obtain rfl : k = m := by omega
   have hcb := run_convert_bytes_back (P := Try.prog) wr 22 9 5 ⟨g0, 0, none⟩ c0 bs Try.underlying22 Try.underlying5 Try.underlying9 (fun j hj => by
    have h := how.cellAt j (by omega)
    rw [Addr.add_lit, Nat.zero_add, h]
    simp [Lib.byteCells, hj])
   rw [hbs] at hcb
   have hss : (⟨bs.toArray⟩ : ByteArray).size = k := by show bs.toArray.size = k; simpa using hbs
   have HSS := Lib.hid hss
   generalize (⟨bs.toArray⟩ : ByteArray) = s at *
   clear how hcd hon hbs hlt hss
   go_wp2
   go_ret
   exact ⟨s, rfl, HSS.out, HCD.out, HON.out⟩
end Go.Proofs.Ytoccjgcokffkbaa
namespace Go.Proofs.Ytoccjgcokffkbaa
set_option linter.unusedVariables false
set_option linter.unusedSimpArgs false
open Go.RowKit Go.WideShapes Go.Deep
theorem Try.own : ownKnob Try.prog.godebug = none := by kernel_rfl
theorem Try.laidOut : laidOutB Try.prog = true := by kernel_rfl
section
variable {H : Type} {enc : TypeId × Value → H} {w : World} {spare : Nat → Bool} {held : Bool}
/-- bytes as cells -/
def u8s (l : List Int) : List Value := l.flatMap fun s => [Value.int .u8 s]
/-- what a slice that came in is -/
def Lst (w : World) (A : Option Addr) (n c : Nat) (len : Nat) (cells : List Value) : Prop :=
 len = n ∧ n ≤ c ∧ c ≤ maxLen ∧ Rd w 0 w.heap.size A cells
set_option maxRecDepth 100000 in
theorem trod_u8s {fuel : Nat} {cs : List Value} {r : DataW H × List MemPlace} (h : DataW.trod enc Try.prog w 0 spare held fuel 22 cs = some r) :
  ∃ (A : Option Addr) (n c : Nat) (l : List Int), cs = [.slice A n c] ∧ Lst w A n c l.length (u8s l) ∧ ∀ x ∈ l, 0 ≤ x ∧ x ≤ 255 := by
 obtain ⟨A, n, c, l, rfl, h1, h2, h3, h4, h5⟩ := open_flat (fun s => [Value.int .u8 s]) (fun x => 0 ≤ x ∧ x ≤ 255) 1 (by omega) (fun _ => rfl) Try.underlying22 (by kernel_rfl) (fun _ _ _ h => trod_u8 Try.underlying5 h) h
 exact ⟨A, n, c, l, rfl, ⟨h1, h2, h3, h4⟩, h5⟩
set_option maxRecDepth 100000 in
theorem open_u8s {r : Reach} {b0 : Nat} {v : Value} {d : DataW H} {ps : List MemPlace} (hv : Value.okWide Try.prog w r b0 22 v) (h : DataW.Trod enc Try.prog w 0 spare held 22 v d ps) :
  ∃ (A : Option Addr) (n c : Nat) (l : List Int), v = .slice A n c ∧ Lst w A n c l.length (u8s l) ∧ ∀ x ∈ l, 0 ≤ x ∧ x ≤ 255 := by
 obtain ⟨a0, len, cap, rfl⟩ := okWide_slice Try.underlying22 hv
 obtain ⟨fuel, hf⟩ := h
 obtain ⟨A, n, c, l, he, h1, h2⟩ := trod_u8s hf
 exact ⟨A, n, c, l, by simpa [Value.cells] using he, h1, h2⟩
end
end Go.Proofs.Ytoccjgcokffkbaa
namespace Go.Proofs.Ytoccjgcokffkbaa
set_option linter.unusedVariables false
set_option linter.unusedSimpArgs false
open Go.RowKit
theorem wordsSigns_word : ∀ (p r : List Char), (∀ c ∈ p, c ≠ Char.ofNat 32) → wordsSigns (p ++ Char.ofNat 32 :: r) = p :: wordsSigns r
 | [], r, _ => rfl
 | c :: p, r, h => by
   have ih := wordsSigns_word p r (fun x hx => h x (List.mem_cons_of_mem _ hx))
   have hc : c ≠ Char.ofNat 32 := h c List.mem_cons_self
   rw [List.cons_append, wordsSigns.eq_3 _ _ (fun e => hc e), ih]
def initA : List Nat := [104, 97, 114, 110, 101, 115, 115]
def initB : List Nat := [54, 56, 52, 48, 99, 52, 98, 49, 101, 102, 50, 99, 55, 55, 50, 57, 57, 54, 56, 52, 102, 99, 52, 100, 100, 50, 53, 51, 97, 54, 98, 98, 51, 52, 51, 57, 50, 55, 52, 97, 49, 97, 52, 101, 52, 54, 53, 99, 54, 100, 57, 98, 97, 51, 99, 52, 98, 99, 48, 101, 97, 56, 52, 48]
def initC : List Nat := [99, 117, 116]
def initR : List Nat := [97, 116, 32, 108, 111, 111, 112, 46, 101, 120, 97, 109, 112, 108, 101, 47, 103, 48, 48, 48, 55, 52, 47, 108, 97, 119, 115, 46, 70, 110, 67, 117, 116, 66, 121, 116, 101, 115, 32, 108, 111, 111, 112, 46, 101, 120, 97, 109, 112, 108, 101, 47, 103, 48, 48, 48, 55, 52, 47, 108, 97, 119, 115, 46, 70, 110, 65, 100, 100, 115, 32, 108, 111, 111, 112, 46, 101, 120, 97, 109, 112, 108, 101, 47, 103, 48, 48, 48, 55, 52, 47, 108, 97, 119, 115, 46, 70, 110, 83, 101, 97, 108, 115, 32, 108, 111, 111, 112, 46, 101, 120, 97, 109, 112, 108, 101, 47, 103, 48, 48, 48, 55, 52, 47, 108, 97, 119, 115, 46, 70, 110, 84, 111, 112, 105, 99, 115]
theorem init_eq : Try.prog.initOrder = String.ofList (List.map Char.ofNat initA ++ Char.ofNat 32 :: (List.map Char.ofNat initB ++ Char.ofNat 32 :: (List.map Char.ofNat initC ++ Char.ofNat 32 :: List.map Char.ofNat initR))) := by kernel_rfl
theorem init_words : ∃ rest, behindMainWord (wordsSigns Try.prog.initOrder.toList) = "cut".toList :: rest := by
 rw [init_eq, String.toList_ofList, wordsSigns_word _ _ (by decide), wordsSigns_word _ _ (by decide), wordsSigns_word _ _ (by decide)]
 generalize wordsSigns (List.map Char.ofNat initR) = rest
 exact ⟨rest, by
  have h1 : ("harness".toList : List Char) = List.map Char.ofNat initA := by decide
  have h2 : isSumSigns (List.map Char.ofNat initB) = true := by decide
  have h3 : ("cut".toList : List Char) = List.map Char.ofNat initC := by decide
  rw [behindMainWord, h2, ← h1, ← h3]
  simp⟩
theorem strip_cut (rest : List (List Char)) : stripLifts liftWords ("cut".toList :: rest) = ([], "cut".toList :: rest) := by
 simp [stripLifts, liftWords]
theorem mayEnter_cut {P : Program} {rest : List (List Char)} (h : behindMainWord (wordsSigns P.initOrder.toList) = "cut".toList :: rest) (h1 : P.laysLater = false) (h2 : P.bearsReflect = false) (h3 : P.doorFits [] = true) : P.mayEnter = true := by
 rw [Program.mayEnter, h]
 simp only [strip_cut, h1, h2, h3]
 simp
theorem headLifts_cut {P : Program} {rest : List (List Char)} (h : behindMainWord (wordsSigns P.initOrder.toList) = "cut".toList :: rest) : P.headLifts = [] := by
 rw [Program.headLifts, h]
 simp only [strip_cut]
 simp
theorem liftsFinal_cut {P : Program} {rest : List (List Char)} (h : behindMainWord (wordsSigns P.initOrder.toList) = "cut".toList :: rest) : P.liftsFinal = false := by
 rw [Program.liftsFinal, h, headLifts_cut h]
 simp
theorem make_cut {P : Program} {rest : List (List Char)} (h : behindMainWord (wordsSigns P.initOrder.toList) = "cut".toList :: rest) : P.make = some .cut := by
 rw [Program.make, h]
 simp
theorem seat_lays : Try.prog.laysLater = false := by kernel_rfl
theorem seat_reflect : Try.prog.bearsReflect = false := by kernel_rfl
theorem seat_door : Try.prog.doorFits [] = true := by kernel_rfl
theorem seat_enter : Try.prog.mayEnter = true := let ⟨_, h⟩ := init_words; mayEnter_cut h seat_lays seat_reflect seat_door
theorem seat_final : Try.prog.liftsFinal = false := let ⟨_, h⟩ := init_words; liftsFinal_cut h
theorem seat_make : Try.prog.make = some .cut := let ⟨_, h⟩ := init_words; make_cut h
end Go.Proofs.Ytoccjgcokffkbaa
namespace Go.Proofs.Ytoccjgcokffkbaa
set_option linter.unusedVariables false
set_option linter.unusedSimpArgs false
open Go.RowKit
theorem u8s_bys (l : List Int) : u8s l = bys l := by rw [u8s, bys]; induction l with | nil => rfl | cons x l ih => rw [List.flatMap_cons, List.map_cons, ih]; rfl
section
open Go.ChangeShapes Go.WideShapes Go.ChangeAt
open Go.ChangeMaps (open_string)
set_option maxRecDepth 100000 in
theorem lifted_FnTopics (hw : ∀ (n g : Nat) (B : Option Addr) (l : List Int) (w : World), Rd w 0 w.heap.size B (bys l) → l.length = n → n ≤ g → n ≤ maxLen → (∀ x ∈ l, 0 ≤ x ∧ x ≤ 255) → Calls Try.prog 6 #[.slice B n g] w fun e w' => e = .returned (.bool true) ∧ Below w.heap.size w w')
  (os : Os) (started : os.Started) (H : Type) (enc : TypeId × Value → H) :
  ReturnsInHanded {} Try.checked os 6 .any (Rows.fnTopicsSpec.pre6 enc Try.prog Try.f6 Rows.fnTopicsRow.domain false) (Rows.fnTopicsSpec.post enc Try.prog Try.f6 false true false false) := by
 refine returnsInHanded_of_change (C := Try.checked) Try.own started (by kernel_rfl) Try.func6
  (ChangeSpec.witness6 (enc := enc) (C := Try.checked) false ⟨#[], #[.slice none 0 0], []⟩ 8 (by kernel_rfl) (by kernel_rfl) (by kernel_rfl) (by kernel_rfl)) ?_
 intro W base args ds gs before hval0 hW hcnd _
 have hval : ∀ (j : Nat) t v, Try.f6.params[j]? = some t → args[j]? = some v → Value.okWide Try.prog W .any base t v := hval0
 have hW' := hW
 obtain ⟨p, q, hA0, hV, rfl, hfz, hnd⟩ := hW
 have hA : DataW.TrodAll enc Try.prog W 0 (fun _ => true) true Try.f6.params.toList args.toList ds p := hA0
 rw [Try.params6] at hA hval
 obtain ⟨v0, vs0, d0, ds0, p0, q0, hargs, rfl, rfl, h0, r0⟩ := trodAll_cons hA
 obtain ⟨rfl, rfl, rfl⟩ := trodAll_nil r0
 obtain rfl : args = #[v0] := by cases args; simp_all
 obtain ⟨rfl, rfl⟩ := trodVars_none hV
 have lt0 : ∀ x ∈ p0, x.block < W.heap.size := by obtain ⟨m, hm⟩ := h0; exact DataW.trod_lt m _ _ _ hm
 have kk0 := h0
 obtain ⟨A0, n0, c0, l0, rfl, o0, hil0⟩ := open_u8s (hval 0 _ v0 rfl rfl) h0
 obtain ⟨rfl, o0b, o0c, o0d⟩ := o0
 clear hA0 hval0
 refine (hw _ c0 A0 l0 W (u8s_bys l0 ▸ o0d) rfl o0b (Nat.le_trans o0b o0c) hil0).mono fun e W' ⟨he, bel⟩ => ?_
 subst he
 exact ⟨_, rfl, _, _, _, [], _, [], hW', trodAll_mk1 (shut_bool Try.underlying4 _), (trodAll_cons_mk (Below.trod Try.laidOut (by kernel_rfl) (of_decide_eq_true (by kernel_rfl)) kk0 bel lt0) trodAll_mk0), rfl, bel.frame _, fun h => by cases h⟩
theorem said_FnTopics (hw : ∀ (n g : Nat) (B : Option Addr) (l : List Int) (w : World), Rd w 0 w.heap.size B (bys l) → l.length = n → n ≤ g → n ≤ maxLen → (∀ x ∈ l, 0 ≤ x ∧ x ≤ 255) → Calls Try.prog 6 #[.slice B n g] w fun e w' => e = .returned (.bool true) ∧ Below w.heap.size w w') : Rows.FnTopicsSaid :=
 OpenClaim.holds_of_wide 6 Try.f6 rfl rfl rfl rfl rfl rfl rfl ⟨rfl, rfl, rfl, rfl, rfl⟩ rfl rfl rfl rfl rfl (by kernel_rfl) Try.func6 (by show joinedFacts Try.prog 6 Try.f6 Rows.fnTopicsSpec Rows.fnTopicsRow = true; unfold joinedFacts; rw [seat_enter, seat_final, seat_make]; kernel_rfl)
  (of_decide_eq_true (by kernel_rfl)) (by unfold Func.isWrapper; first | (rw [if_pos (by decide +kernel)]; kernel_rfl) | (rw [if_neg (by decide +kernel)]; exact ⟨rfl, rfl⟩))
  (fun os started H enc _ => lifted_FnTopics hw os started H enc)
end
end Go.Proofs.Ytoccjgcokffkbaa
namespace Go.Proofs.Ytoccjgcokffkbaa
set_option linter.unusedVariables false
set_option linter.unusedSimpArgs false
open Go.RowKit
/-- a constant of the hash -/
def cst (k : Int) : Int := (k % 4294967296 + 1) % 4294967296 * 2654435761 % 4294967296
theorem cst_w (k : Int) : 0 ≤ cst k ∧ cst k < 4294967296 := by unfold cst; omega
/-- a turn by one -/
def rot1 (x : Int) : Int := x * 2 % 4294967296 + x / 2147483648
/-- a turn by so many -/
def rotN : Nat → Int → Int
 | 0, x => x
 | n + 1, x => rot1 (rotN n x)
theorem rot1_w {x : Int} (h : 0 ≤ x ∧ x < 4294967296) : 0 ≤ rot1 x ∧ rot1 x < 4294967296 := by unfold rot1; omega
theorem rotN_w {x : Int} (h : 0 ≤ x ∧ x < 4294967296) : ∀ n, 0 ≤ rotN n x ∧ rotN n x < 4294967296
 | 0 => h
 | n + 1 => rot1_w (rotN_w h n)
theorem pw2 (n : Nat) (h : n < 32) : (2 : Int) ^ n * 2 ^ (31 - n) = 2147483648 := by
 rw [← Int.pow_add, show n + (31 - n) = 31 by omega]; rfl
theorem rotN_eq {x : Int} (h : 0 ≤ x ∧ x < 4294967296) : ∀ n : Nat, n < 32 → rotN n x = x * 2 ^ n % 4294967296 + x / 2 ^ (32 - n) := by
 intro n hn
 induction n with
 | zero => show x = _; simp only [Nat.sub_zero, Int.pow_zero]; omega
 | succ n ih =>
   have e := ih (by omega)
   show rot1 (rotN n x) = _
   rw [e]
   unfold rot1
   clear ih e
   have hP := pw2 n (by omega)
   obtain ⟨m, hm⟩ : ∃ m, m = 31 - n := ⟨_, rfl⟩
   rw [show 32 - n = m + 1 by omega, show 32 - (n + 1) = m by omega, Int.pow_succ, Int.pow_succ]
   rw [← hm] at hP
   have hp0 : (0 : Int) < 2 ^ n := Int.pow_pos (by decide)
   have hm0 : (0 : Int) < 2 ^ m := Int.pow_pos (by decide)
   clear hm
   generalize (2 : Int) ^ n = p at *
   generalize (2 : Int) ^ m = M at *
   rw [← Int.ediv_ediv_of_nonneg (by omega : 0 ≤ M), ← Int.mul_assoc]
   have e1 : x = M * (x / M) + x % M := (Int.mul_ediv_add_emod x M).symm
   have r0 : 0 ≤ x % M := Int.emod_nonneg _ (by omega)
   have r1 : x % M < M := Int.emod_lt_of_pos _ hm0
   have e2 : x * p = (x / M) * 2147483648 + x % M * p := by
    conv => lhs; rw [e1]
    rw [Int.add_mul, ← hP, Int.mul_comm M, Int.mul_assoc, Int.mul_comm M]
   have t0 : 0 ≤ x % M * p := Int.mul_nonneg r0 (by omega)
   have t1 : (x % M + 1) * p ≤ M * p := Int.mul_le_mul_of_nonneg_right (by omega) (by omega)
   rw [Int.add_mul, Int.one_mul, Int.mul_comm M, hP] at t1
   have a0 : 0 ≤ x / M := Int.ediv_nonneg h.1 (by omega)
   have a1 : x / M < 2 * p := by
    apply Int.ediv_lt_of_lt_mul hm0
    rw [Int.mul_assoc, hP]; omega
   clear e1 r0 r1 hP
   generalize x * p = y at *
   generalize x % M * p = t at *
   generalize x / M = a at *
   subst e2
   have q1 : (a * 2147483648 + t) % 4294967296 = a % 2 * 2147483648 + t := by omega
   have q2 : (a * 2147483648 + t) * 2 % 4294967296 = 2 * t := by omega
   rw [q1, q2]
   have q3 : (a % 2 * 2147483648 + t + a / 2) / 2147483648 = a % 2 := by omega
   have q4 : (a % 2 * 2147483648 + t + a / 2) * 2 % 4294967296 = 2 * (t + a / 2) := by omega
   rw [q3, q4]
   omega
set_option maxRecDepth 100000 in
set_option maxHeartbeats 400000 in
theorem specConstant_c (k : Int) (w : World) : Calls Try.prog 168 #[.int .i64 k] w fun e w' => e = .returned (.int .u32 (cst k)) ∧ w = w' := by
 go_enter Try.func168, Try.ntmps168
 go_wp2
 go_ret
 exact ⟨by unfold cst; simp [Go.IntKind.wrap_u32'], rfl⟩
theorem wraps32 (n : Int) (h₀ : 0 ≤ n) (h₁ : n < 2 ^ 32) : IntKind.u32.wrap n = n := by rw [Go.IntKind.wrap_u32']; omega
theorem or_rot {x : Int} (h : 0 ≤ x ∧ x < 4294967296) (n : Nat) (hn : n < 32) : bits .or .u32 (x * 2 ^ n % 4294967296) (x / 2 ^ (32 - n)) = rotN n x := by
 rw [rotN_eq h n hn]
 have hp0 : (0 : Int) < 2 ^ n := Int.pow_pos (by decide)
 have hm0 : (0 : Int) < 2 ^ (32 - n) := Int.pow_pos (by decide)
 have hP : (2 : Int) ^ n * 2 ^ (32 - n) = 4294967296 := by
  rw [← Int.pow_add, show n + (32 - n) = 32 by omega]; rfl
 have q0 : 0 ≤ x / 2 ^ (32 - n) := Int.ediv_nonneg h.1 (by omega)
 have q1 : x / 2 ^ (32 - n) < 2 ^ n := by
  apply Int.ediv_lt_of_lt_mul hm0
  rw [hP]; exact h.2
 have q2 : x / 2 ^ (32 - n) < 4294967296 := Int.lt_of_le_of_lt (Int.ediv_le_self _ h.1) h.2
 exact bits_join .u32 32 (by decide) wraps32 n _ _ (by omega) (by rw [Int.emod_emod_of_dvd _ ⟨2 ^ (32 - n), hP.symm⟩]; exact Int.mul_emod_left x _) (by omega) q0 q1 q2
set_option maxRecDepth 100000 in
set_option maxHeartbeats 400000 in
theorem specTurn_c (x : Int) (n : Nat) (w : World) (h : 0 ≤ x ∧ x < 4294967296) (hn : n < 32) : Calls Try.prog 169 #[.int .u32 x, .int .i64 n] w fun e w' => e = .returned (.int .u32 (rotN n x)) ∧ w = w' := by
 have hb : (n : Int) % 32 = n := by omega
 go_enter Try.func169, Try.ntmps169
 go_wp2
 go_loop [0, 6] (fun y i => ∃ k : Nat, k ≤ n ∧ i = .int .i64 k ∧ y = .int .u32 (rotN k x)) (fun _ i => n - (intOf i).toNat)
 case atStart => exact ⟨0, Nat.zero_le _, rfl, rfl⟩
 case round =>
  obtain ⟨k, hk, rfl, rfl⟩ := hrel
  have hw := rotN_w h k
  have hs : rotN (k + 1) x = rot1 (rotN k x) := rfl
  have HS := Lib.hid hs
  clear hs
  generalize hy : rotN k x = y at *
  have HY := Lib.hid hy
  clear hy
  have ho : bits .or .u32 (y * 2 % 4294967296) (y / 2147483648) = rot1 y := or_rot hw 1 (by omega)
  go_wp2
  all_goals first
   | (refine ⟨⟨k + 1, by omega, by go_num, by rw [HS.out]⟩, ?_⟩
      simp [intOf]; omega)
   | (obtain rfl : k = n := by omega
      go_ret
      exact ⟨by rw [HY.out]; rfl, rfl⟩)
end Go.Proofs.Ytoccjgcokffkbaa
namespace Go.Proofs.Ytoccjgcokffkbaa
set_option linter.unusedVariables false
set_option linter.unusedSimpArgs false
open Go.RowKit
def ws (l : List Int) : List Value := l.map (Value.int .u32)
theorem ws_len (l : List Int) : (ws l).length = l.length := by simp [ws]
theorem ws_get {l : List Int} {k : Nat} {s : Int} (h : l[k]? = some s) : (ws l)[k]? = some (.int .u32 s) := by simp [ws, h]
theorem ws_set (l : List Int) (k : Nat) (x : Int) : (ws l).set k (.int .u32 x) = ws (l.set k x) := by simp [ws, List.map_set]
theorem NewBox.set {w : World} {k : Nat} {cs : List Value} (h : NewBox w k cs) {o : Nat} (ho : o < cs.length) (u : Value) : NewBox (w.setCell ⟨k, o, none⟩ u) k (cs.set o u) := by
 refine ⟨by simpa [World.setCell] using h.1, fun i => ?_, fun i => by simpa using h.2.2 i⟩
 by_cases hij : o = i
 ·subst hij
  rw [List.getElem?_set_self ho]
  exact World.cell?_setCell_same _ _ _ ((h.2.1 o).trans (List.getElem?_eq_getElem ho))
 ·rw [List.getElem?_set_ne hij, World.cell?_setCell_other _ _ _ _ (by simp only [ne_eq, Addr.mk.injEq, and_true, true_and]; omega)]
  exact h.2.1 i
theorem NewBox.setW {w : World} {k : Nat} {l : List Int} (h : NewBox w k (ws l)) {o : Nat} (ho : o < l.length) (x : Int) : NewBox (w.setCell ⟨k, o, none⟩ (.int .u32 x)) k (ws (l.set o x)) := by
 rw [← ws_set]; exact h.set (by rw [ws_len]; exact ho) _
theorem NewBox.word {w : World} {k : Nat} {l : List Int} (h : NewBox w k (ws l)) {o : Nat} (ho : o < l.length) : w.cell? ⟨k, o, none⟩ = some (.int .u32 l[o]) := h.cell (ws_get (List.getElem?_eq_getElem ho))
theorem list8 {l : List Int} (h : l.length = 8) : ∃ a b c d e f g i, l = [a, b, c, d, e, f, g, i] := by
 match l, h with
 | [a, b, c, d, e, f, g, i], _ => exact ⟨a, b, c, d, e, f, g, i, rfl⟩
theorem bodyPost_named {P : Program} {f : Func} {R : Ending → World → Prop} {e : Exit} {a : Act} {W : World} (h : ∀ W', W' = W → bodyPost P f R e a W') : bodyPost P f R e a W := h W rfl
/-- the first state's word -/
def fw (tag : Int) (i : Int) : Int := (tag + 1) * (2 * i + 3) % 4294967296 * 2246822519 % 4294967296
def firstW (tag : Int) : List Int := (List.range 8).map fun i : Nat => fw tag i
theorem firstW_len (tag : Int) : (firstW tag).length = 8 := by simp [firstW]
end Go.Proofs.Ytoccjgcokffkbaa
namespace Go.Proofs.Ytoccjgcokffkbaa
set_option linter.unusedVariables false
set_option linter.unusedSimpArgs false
open Go.RowKit
/-- so many words -/
def Wds (n : Nat) (l : List Int) : Prop := l.length = n ∧ ∀ x ∈ l, 0 ≤ x ∧ x < 4294967296
theorem Wds.at_ {n : Nat} {l : List Int} (h : Wds n l) {k : Nat} (hk : k < n) : 0 ≤ l.getD k 0 ∧ l.getD k 0 < 4294967296 := by
 have hl : k < l.length := by rw [h.1]; exact hk
 rw [List.getD_eq_getElem?_getD, List.getElem?_eq_getElem hl]
 exact h.2 _ (List.getElem_mem hl)
theorem Wds.set {n : Nat} {l : List Int} (h : Wds n l) (k : Nat) {x : Int} (hx : 0 ≤ x ∧ x < 4294967296) : Wds n (l.set k x) :=
 ⟨by rw [List.length_set]; exact h.1, fun y hy => by
   rcases List.mem_or_eq_of_mem_set hy with h1 | rfl
   ·exact h.2 y h1
   ·exact hx⟩
theorem NewBox.wd {w : World} {k n : Nat} {l : List Int} (h : NewBox w k (ws l)) (hl : l.length = n) {o : Nat} (ho : o < n) : w.cell? ⟨k, o, none⟩ = some (.int .u32 (l.getD o 0)) := by
 subst hl
 rw [h.word ho, List.getD_eq_getElem?_getD, List.getElem?_eq_getElem ho]; rfl
theorem xor_w {a b : Int} (h : 0 ≤ a ∧ a < 4294967296) (k : 0 ≤ b ∧ b < 4294967296) : 0 ≤ bits .xor .u32 a b ∧ bits .xor .u32 a b < 4294967296 := by
 rw [u32_xor a b h.1 h.2 k.1 k.2]
 have hx : a.toNat ^^^ b.toNat < 2 ^ 32 := Nat.xor_lt_two_pow (by omega) (by omega)
 omega
def mixA (b v : List Int) (r i : Nat) : List Int := v.set i ((v.getD i 0 + (cst (8 * r + i) + bits .xor .u32 (v.getD ((i + 1) % 8) 0) (b.getD ((8 * r + 5 * i + r / 2) % 16) 0)) % 4294967296) % 4294967296)
def mixB (v : List Int) (r i : Nat) : List Int := v.set i (bits .xor .u32 (rotN (5 + (i + 3 * r) % 23) (v.getD i 0)) (v.getD ((i + 3) % 8) 0))
def mixRow (b v : List Int) (r : Nat) : Nat → List Int
 | 0 => v
 | i + 1 => mixB (mixA b (mixRow b v r i) r i) r i
def mixU (b v : List Int) : Nat → List Int
 | 0 => v
 | r + 1 => mixRow b (mixU b v r) r 8
/-- what is added at the end, up to k -/
def addW (s v : List Int) : Nat → List Int
 | 0 => v
 | k + 1 => (addW s v k).set k (((addW s v k).getD k 0 + s.getD k 0) % 4294967296)
def mixAll1 (s b : List Int) : List Int := addW s (mixU b s 12) 8
theorem mixA_w {b v : List Int} (h : Wds 8 v) (r i : Nat) : Wds 8 (mixA b v r i) := h.set _ (by omega)
theorem mixB_w {v : List Int} (h : Wds 8 v) {r i : Nat} (hi : i < 8) : Wds 8 (mixB v r i) := h.set _ (xor_w (rotN_w (h.at_ hi) _) (h.at_ (by omega)))
theorem mixRow_w {b v : List Int} (h : Wds 8 v) (r : Nat) : ∀ i, i ≤ 8 → Wds 8 (mixRow b v r i)
 | 0, _ => h
 | i + 1, hi => mixB_w (mixA_w (mixRow_w h r i (by omega)) r i) (by omega)
theorem mixU_w {b v : List Int} (h : Wds 8 v) : ∀ r, Wds 8 (mixU b v r)
 | 0 => h
 | r + 1 => mixRow_w (mixU_w h r) r 8 (Nat.le_refl _)
theorem addW_w {s v : List Int} (h : Wds 8 v) : ∀ k, Wds 8 (addW s v k)
 | 0 => h
 | k + 1 => (addW_w h k).set _ (by omega)
theorem mixAll1_w {s b : List Int} (h : Wds 8 s) : Wds 8 (mixAll1 s b) := addW_w (mixU_w h 12) 8
/-- where the mixing stands: v in its variable -/
structure MixAt (w : World) (s b v : List Int) (wx : World) : Prop where
 below : Below w.heap.size w wx
 s : NewBox wx w.heap.size (ws s)
 b : NewBox wx (w.heap.size + 1) (ws b)
 z : NewBox wx (w.heap.size + 1 + 1) (ws [0, 0, 0, 0, 0, 0, 0, 0])
 v : NewBox wx (w.heap.size + 1 + 1 + 1) (ws v)
theorem MixAt.set {w : World} {s b v : List Int} {wx : World} (h : MixAt w s b v wx) {o : Nat} (ho : o < v.length) (x : Int) : MixAt w s b (v.set o x) (wx.setCell ⟨w.heap.size + 1 + 1 + 1, o, none⟩ (.int .u32 x)) :=
 ⟨h.below.setCell (by simp only; omega) _, h.s.setCell (by show _ ≠ _; simp only; omega) _, h.b.setCell (by show _ ≠ _; simp only; omega) _, h.z.setCell (by show _ ≠ _; simp only; omega) _, h.v.setW ho x⟩
theorem MixAt.drew {w : World} {s b v : List Int} {wx : World} (h : MixAt w s b v wx) : MixAt w s b v wx.drew := ⟨h.below.drew, h.s.drew, h.b.drew, h.z.drew, h.v.drew⟩
theorem MixAt.new (w : World) (s b v : List Int) (t1 t2 t3 t4 : TypeId) : MixAt w s b v ((((w.alloc (.cells (ws s).toArray t1)).alloc (.cells (ws b).toArray t2)).alloc (.cells (ws [0, 0, 0, 0, 0, 0, 0, 0]).toArray t3)).alloc (.cells (ws v).toArray t4)) := by
 have n0 := NewBox.new w (ws s).toArray t1
 have n1 := NewBox.new (w.alloc (.cells (ws s).toArray t1)) (ws b).toArray t2
 have n2 := NewBox.new ((w.alloc (.cells (ws s).toArray t1)).alloc (.cells (ws b).toArray t2)) (ws [0, 0, 0, 0, 0, 0, 0, 0]).toArray t3
 have n3 := NewBox.new (((w.alloc (.cells (ws s).toArray t1)).alloc (.cells (ws b).toArray t2)).alloc (.cells (ws [0, 0, 0, 0, 0, 0, 0, 0]).toArray t3)) (ws v).toArray t4
 have z : ∀ (w : World) (o : Obj), (w.alloc o).heap.size = w.heap.size + 1 := fun w o => by simp
 simp only [z] at n1 n2 n3
 refine ⟨((((Below.refl _ _).alloc (Nat.le_refl _) _).alloc (by simp only [z]; omega) _).alloc (by simp only [z]; omega) _).alloc (by simp only [z]; omega) _, ((n0.alloc _).alloc _).alloc _, (n1.alloc _).alloc _, n2.alloc _, n3⟩
end Go.Proofs.Ytoccjgcokffkbaa
namespace Go.Proofs.Ytoccjgcokffkbaa
set_option linter.unusedVariables false
set_option linter.unusedSimpArgs false
open Go.RowKit
def wordAt (s : ByteArray) (k : Nat) (h : k + 4 ≤ s.size) : Int := ((((s[k].toNat : Int) * 256 + s[k + 1].toNat) * 256 + s[k + 2].toNat) * 256 + s[k + 3].toNat)
def wordText (x : Int) : ByteArray := strOfNums [x / 16777216, x / 65536 % 256, x / 256 % 256, x % 256]
theorem byte_lt (b : UInt8) : (0 : Int) ≤ (b.toNat : Int) ∧ (b.toNat : Int) < 256 := ⟨Int.natCast_nonneg _, by have := b.toNat_lt; omega⟩
def wordUp (s : ByteArray) (k : Nat) (h : k + 4 ≤ s.size) : Nat → Int
 | 0 => 0
 | 1 => s[k].toNat
 | 2 => (s[k].toNat : Int) * 256 + s[k + 1].toNat
 | 3 => ((s[k].toNat : Int) * 256 + s[k + 1].toNat) * 256 + s[k + 2].toNat
 | _ => wordAt s k h
theorem wordUp_w (s : ByteArray) (k : Nat) (h : k + 4 ≤ s.size) (j : Nat) (hj : j < 4) : 0 ≤ wordUp s k h j ∧ wordUp s k h j < 16777216 := by
 have b0 := byte_lt s[k]
 have b1 := byte_lt s[k + 1]
 have b2 := byte_lt s[k + 2]
 rcases j with _ | _ | _ | _ | j
 ·have e : wordUp s k h 0 = 0 := rfl
  rw [e]; omega
 ·have e : wordUp s k h (0 + 1) = s[k].toNat := rfl
  rw [e]; omega
 ·have e : wordUp s k h (0 + 1 + 1) = (s[k].toNat : Int) * 256 + s[k + 1].toNat := rfl
  rw [e]; omega
 ·have e : wordUp s k h (0 + 1 + 1 + 1) = ((s[k].toNat : Int) * 256 + s[k + 1].toNat) * 256 + s[k + 2].toNat := rfl
  rw [e]; omega
 ·omega
theorem wordUp_next (s : ByteArray) (k : Nat) (h : k + 4 ≤ s.size) (j : Nat) (hj : j < 4) (q : Nat) (hqs : q < s.size) (hq : q = k + j) : wordUp s k h (j + 1) = wordUp s k h j * 256 + (s[q]'hqs).toNat := by
 subst hq
 match j, hj with
 | 0, _ =>
   show (s[k].toNat : Int) = 0 * 256 + (s[k + 0].toNat : Int)
   simp
 | 1, _ => rfl
 | 2, _ => rfl
 | 3, _ => rfl
theorem wordAt_w (s : ByteArray) (k : Nat) (h : k + 4 ≤ s.size) : 0 ≤ wordAt s k h ∧ wordAt s k h < 4294967296 := by
 unfold wordAt
 have b0 := byte_lt s[k]
 have b1 := byte_lt s[k + 1]
 have b2 := byte_lt s[k + 2]
 have b3 := byte_lt s[k + 3]
 omega
theorem below_drewN (w : World) (n : Nat) : Below w.heap.size w (w.drewN n) := ⟨rfl, rfl, rfl, Nat.le_refl _, fun _ _ => rfl⟩
set_option maxRecDepth 100000 in
set_option maxHeartbeats 400000 in
theorem specWordAt_c (s : ByteArray) (k : Nat) (w : World) (hs : s.size ≤ maxLen) (h : k + 4 ≤ s.size) : Calls Try.prog 167 #[.string s, .int .i64 k] w fun e w' => e = .returned (.int .u32 (wordAt s k h)) ∧ w = w' := by
 unfold maxLen at hs
 go_enter Try.func167, Try.ntmps167
 go_wp2
 go_loop [5, 6] (fun v i => ∃ j : Nat, j ≤ 4 ∧ i = .int .i64 j ∧ v = .int .u32 (wordUp s k h j)) (fun _ i => 4 - (intOf i).toNat)
 case atStart => exact ⟨0, Nat.zero_le _, rfl, rfl⟩
 case round =>
  obtain ⟨j, hj, rfl, rfl⟩ := hrel
  by_cases hlt : j < 4
  ·obtain ⟨q, hq⟩ : ∃ q, q = k + j := ⟨_, rfl⟩
   have i0 : (q : Int) < (s.size : Int) := by omega
   have w1 : IntKind.i64.wrap ((k : Int) + j) = q := by rw [IntKind.wrap_i64]; omega
   have w2 : (k : Int) + j = q := by omega
   have hqs : q < s.size := by omega
   have hu := wordUp_w s k h j hlt
   have hn := wordUp_next s k h j hlt q hqs hq
   have HN := Lib.hid hn
   have HQ := Lib.hid hq
   clear hn hq
   generalize wordUp s k h j = y at *
   have b0 := byte_lt s[q]
   go_wp2
   go_round
   case rel => exact ⟨j + 1, by omega, by go_num, by rw [HN.out]⟩
   case measure => simp [intOf]; omega
  ·obtain rfl : j = 4 := by omega
   go_wp2
   go_ret
   exact ⟨rfl, rfl⟩
set_option maxRecDepth 100000 in
set_option maxHeartbeats 400000 in
theorem specWordText_c (x : Int) (w : World) (h : 0 ≤ x ∧ x < 4294967296) : Calls Try.prog 166 #[.int .u32 x] w fun e w' => e = .returned (.string (wordText x)) ∧ Below w.heap.size w w' := by
 have hc := conv_4 (P := Try.prog) 22 5 9 rfl rfl rfl w (x / 16777216) (x / 65536 % 256) (x / 256 % 256) (x % 256)
 go_enter Try.func166, Try.ntmps166
 go_wp2
 go_ret
 exact ⟨rfl, (Below.refl _ _).alloc (Nat.le_refl _) _⟩
end Go.Proofs.Ytoccjgcokffkbaa
namespace Go.Proofs.Ytoccjgcokffkbaa
set_option linter.unusedVariables false
set_option linter.unusedSimpArgs false
open Go.RowKit
def wAt (t : ByteArray) (k : Nat) : Int := if h : k + 4 ≤ t.size then wordAt t k h else 0
theorem wAt_w (t : ByteArray) (k : Nat) : 0 ≤ wAt t k ∧ wAt t k < 4294967296 := by
 unfold wAt
 split
 ·exact wordAt_w t k _
 ·omega
theorem wAt_eq (t : ByteArray) (k : Nat) (h : k + 4 ≤ t.size) : wordAt t k h = wAt t k := by rw [wAt, dif_pos h]
theorem wAt_extract (t : ByteArray) (a b k : Nat) (hb : b ≤ t.size) (h : a + k + 4 ≤ b) : wAt (t.extract a b) k = wAt t (a + k) := by
 have hz : (t.extract a b).size = b - a := by rw [ByteArray.size_extract]; omega
 rw [wAt, dif_pos (by rw [hz]; omega), wAt, dif_pos (by omega)]
 unfold wordAt
 simp only [ByteArray.getElem_extract, Nat.add_assoc]
def blockAt (t : ByteArray) (o : Nat) : List Int := (List.range 16).map fun i : Nat => wAt t (o + 4 * i)
theorem blockAt_wds (t : ByteArray) (o : Nat) : Wds 16 (blockAt t o) := ⟨by simp [blockAt], fun x hx => by
 obtain ⟨i, _, rfl⟩ := List.mem_map.1 hx
 exact wAt_w _ _⟩
def mixText (s : List Int) (t : ByteArray) : Nat → List Int
 | 0 => s
 | k + 1 => mixAll1 (mixText s t k) (blockAt t (64 * k))
theorem mixText_w {s : List Int} (h : Wds 8 s) (t : ByteArray) : ∀ k, Wds 8 (mixText s t k)
 | 0 => h
 | k + 1 => mixAll1_w (mixText_w h t k)
/-- where the mixing of a text stands -/
structure StAt (w : World) (s : List Int) (wx : World) : Prop where
 below : Below w.heap.size w wx
 s : NewBox wx w.heap.size (ws s)
 z : NewBox wx (w.heap.size + 1) (ws [0, 0, 0, 0, 0, 0, 0, 0])
theorem StAt.next {w : World} {s : List Int} {wx wy : World} (h : StAt w s wx) (hb : Below wx.heap.size wx wy) : StAt w s wy := ⟨below_then h.below hb h.below.size, h.s.below hb, h.z.below hb⟩
theorem StAt.new (w : World) (s : List Int) (t1 t2 : TypeId) : StAt w s ((w.alloc (.cells (ws s).toArray t1)).alloc (.cells (ws [0, 0, 0, 0, 0, 0, 0, 0]).toArray t2)) := by
 have n0 := NewBox.new w (ws s).toArray t1
 have n1 := NewBox.new (w.alloc (.cells (ws s).toArray t1)) (ws [0, 0, 0, 0, 0, 0, 0, 0]).toArray t2
 have z : ∀ (w : World) (o : Obj), (w.alloc o).heap.size = w.heap.size + 1 := fun w o => by simp
 simp only [z] at n1
 exact ⟨((Below.refl _ _).alloc (Nat.le_refl _) _).alloc (by simp only [z]; omega) _, n0.alloc _, n1⟩
end Go.Proofs.Ytoccjgcokffkbaa
namespace Go.Proofs.Ytoccjgcokffkbaa
set_option linter.unusedVariables false
set_option linter.unusedSimpArgs false
open Go.RowKit
theorem info_word : (Try.prog.info? 174).map (fun i => (i.zero, i.size, i.bytes)) = some (some (.int .u32 0), 1, 4) := by kernel_rfl
theorem info_byte : (Try.prog.info? 5).map (fun i => (i.zero, i.size, i.bytes)) = some (some (.int .u8 0), 1, 1) := by kernel_rfl
theorem one_ws (l : List Int) : ∀ u ∈ ws l, u.oneCell' = true := one_map (fun _ => rfl) l
theorem one_bys (l : List UInt8) : ∀ u ∈ Lib.byteCells l, u.oneCell' = true := one_map (fun _ => rfl) l
theorem bys_len (l : List UInt8) : (Lib.byteCells l).length = l.length := by simp [Lib.byteCells]
theorem ws_app (a b : List Int) : ws (a ++ b) = ws a ++ ws b := by simp [ws]
theorem bys_app (a b : List UInt8) : Lib.byteCells (a ++ b) = Lib.byteCells a ++ Lib.byteCells b := by simp [Lib.byteCells]
theorem appWd {w : World} {ops : Array Oper} {rest : List Oper} {o : Oper} {a : Act} {Q : Exit → Act → World → Prop} (hgd : o.guard = none) (s x : Operand)
  (ho : o.op = .call { callee := .builtin .append, args := #[s, x], argTypes := #[184, 184] }) (base : Nat) (v : Value) (n : Nat) (xs : List Value) (hs : a.eval s = v) (hown : w.ownsRow base 174 1 v n xs)
  (A : Option Addr) (q c lo hi' : Nat) (l : List Int) (hx : a.eval x = .slice A q c) (hl : l.length = q) (hr : Rd w lo hi' A (ws l)) (hA : A = none → c = 0)
  (h63 : n + q ≤ 100000000) (hbase : base ≤ w.heap.size)
  (h : ∀ v' w', w'.ownsRow base 174 1 v' (n + q) (xs ++ ws l) → w.grownBy w' v.ownBlock → wpList Try.prog ops Q rest (a.put o.dst v') w') : wpList Try.prog ops Q (o :: rest) a w := by
 obtain ⟨i0, hi0, hz0, hz1, hz2⟩ := info_parts info_word
 exact wpList_append_rd hgd s x _ ho base _ i0 (.int .u32 0) 1 4 Try.underlying184 hi0 hz0 hz1 hz2 rfl (by decide) v n xs hs hown A q c lo hi' _ hx (by rw [ws_len, hl]; try omega) hr hA (one_ws _) (by unfold maxLen; omega) (by omega) hbase h
theorem app1Wd {w : World} {ops : Array Oper} {rest : List Oper} {o : Oper} {a : Act} {Q : Exit → Act → World → Prop} (hgd : o.guard = none) (s x : Operand)
  (ho : o.op = .call { callee := .builtin .append, args := #[s, x], argTypes := #[184, 184] }) (base : Nat) (v : Value) (n : Nat) (xs : List Value) (hs : a.eval s = v) (hown : w.ownsRow base 174 1 v n xs)
  (k : Nat) (x0 : Int) (hx : a.eval x = .slice (some ⟨k, 0, none⟩) 1 1) (hr : NewBox w k (ws [x0])) (h63 : n + 1 ≤ 100000000) (hbase : base ≤ w.heap.size)
  (h : ∀ v' w', w'.ownsRow base 174 1 v' (n + 1) (xs ++ ws [x0]) → w.grownBy w' v.ownBlock → wpList Try.prog ops Q rest (a.put o.dst v') w') : wpList Try.prog ops Q (o :: rest) a w := by
 obtain ⟨i0, hi0, hz0, hz1, hz2⟩ := info_parts info_word
 exact wpList_append_one hgd s x _ ho base _ i0 (.int .u32 0) 1 4 Try.underlying184 hi0 hz0 hz1 hz2 rfl (by decide) v n xs hs hown k 1 _ hx (by rw [ws_len]; try rfl) hr (one_ws _) (by unfold maxLen; omega) (by omega) hbase h
theorem appBy {w : World} {ops : Array Oper} {rest : List Oper} {o : Oper} {a : Act} {Q : Exit → Act → World → Prop} (hgd : o.guard = none) (s x : Operand)
  (ho : o.op = .call { callee := .builtin .append, args := #[s, x], argTypes := #[22, 22] }) (base : Nat) (v : Value) (n : Nat) (xs : List Value) (hs : a.eval s = v) (hown : w.ownsRow base 5 1 v n xs)
  (A : Option Addr) (q c lo hi' : Nat) (l : List UInt8) (hx : a.eval x = .slice A q c) (hl : l.length = q) (hr : Rd w lo hi' A (Lib.byteCells l)) (hA : A = none → c = 0)
  (h63 : n + q ≤ 100000000) (hbase : base ≤ w.heap.size)
  (h : ∀ v' w', w'.ownsRow base 5 1 v' (n + q) (xs ++ Lib.byteCells l) → w.grownBy w' v.ownBlock → wpList Try.prog ops Q rest (a.put o.dst v') w') : wpList Try.prog ops Q (o :: rest) a w := by
 obtain ⟨i0, hi0, hz0, hz1, hz2⟩ := info_parts info_byte
 exact wpList_append_rd hgd s x _ ho base _ i0 (.int .u8 0) 1 1 Try.underlying22 hi0 hz0 hz1 hz2 rfl (by decide) v n xs hs hown A q c lo hi' _ hx (by rw [bys_len, hl]; try omega) hr hA (one_bys _) (by unfold maxLen; omega) (by omega) hbase h
end Go.Proofs.Ytoccjgcokffkbaa
namespace Go.Proofs.Ytoccjgcokffkbaa
set_option linter.unusedVariables false
set_option linter.unusedSimpArgs false
open Go.Shelf Go.RowKit
end Go.Proofs.Ytoccjgcokffkbaa
namespace Go.Proofs.Ytoccjgcokffkbaa
set_option linter.unusedVariables false
set_option linter.unusedSimpArgs false
open Go.Shelf Go.RowKit
end Go.Proofs.Ytoccjgcokffkbaa
namespace Go.Proofs.Ytoccjgcokffkbaa
set_option linter.unusedVariables false
set_option linter.unusedSimpArgs false
open Go.RowKit
def zerosT (c : Nat) : ByteArray := ⟨(Lib.repeatL [0] c).toArray⟩
def padT (n : Nat) : ByteArray := ⟨#[128]⟩ ++ zerosT ((119 - n % 64) % 64) ++ wordText 0 ++ wordText n
theorem zerosT_size (c : Nat) : (zerosT c).size = c := by
 show (Lib.repeatL [0] c).toArray.size = c
 simp [Lib.repeatL_length]
theorem wordText_size (x : Int) : (wordText x).size = 4 := rfl
end Go.Proofs.Ytoccjgcokffkbaa
namespace Go.Proofs.Ytoccjgcokffkbaa
set_option linter.unusedVariables false
set_option linter.unusedSimpArgs false
open Go.RowKit
def textW (l : List Int) : List UInt8 := l.flatMap fun x => (wordText x).data.toList
def textT (l : List Int) : ByteArray := ⟨(textW l).toArray⟩
theorem textW_take {l : List Int} {k : Nat} {x : Int} (h : l[k]? = some x) : textW (l.take (k + 1)) = textW (l.take k) ++ (wordText x).data.toList := by
 rw [take_succ h, textW, List.flatMap_append]
 simp [textW]
theorem textW_len (l : List Int) : (textW l).length = 4 * l.length := by
 induction l with
 | nil => rfl
 | cons x r ih =>
   show ((wordText x).data.toList ++ textW r).length = _
   rw [List.length_append, ih, Array.length_toList]
   show 4 + _ = 4 * (r.length + 1)
   omega
theorem Rd.wd {w : World} {lo hi : Nat} {A : Option Addr} {l : List Int} (h : Rd w lo hi A (ws l)) {k : Nat} (hk : k < l.length) :
  ∃ b off, A = some ⟨b, off, none⟩ ∧ b < w.heap.size ∧ w.cell? ⟨b, off + k, none⟩ = some (.int .u32 l[k]) := by
 obtain ⟨b, off, h1, h2, h3⟩ := h.at_ (j := k) (by rw [ws_len]; exact hk)
 exact ⟨b, off, h1, h2, h3 k _ (ws_get (List.getElem?_eq_getElem hk))⟩
end Go.Proofs.Ytoccjgcokffkbaa
namespace Go.Proofs.Ytoccjgcokffkbaa
set_option linter.unusedVariables false
set_option linter.unusedSimpArgs false
open Go.RowKit
theorem textT_size (l : List Int) : (textT l).size = 4 * l.length := by
 show (textW l).toArray.size = _
 rw [List.size_toArray, textW_len]
def chainT (width : Nat) (l : List Int) : ByteArray := (textT l).extract 0 width
def digT (width tag : Int) (t : ByteArray) : ByteArray := chainT width.toNat (mixText (firstW tag) (t ++ padT t.size) ((t ++ padT t.size).size / 64))
def digOk (width tag : Int) (t : ByteArray) : Bool := inR width 1 32 && inR tag 0 255 && decide (t.size ≤ 4000)
def digM (width tag : Int) (t : ByteArray) : ByteArray := if digOk width tag t then digT width tag t else ByteArray.empty
theorem fw_w (tag : Int) (i : Int) : 0 ≤ fw tag i ∧ fw tag i < 4294967296 := by unfold fw; omega
theorem firstW_wds (tag : Int) : Wds 8 (firstW tag) := ⟨firstW_len tag, fun x hx => by
 obtain ⟨i, _, rfl⟩ := List.mem_map.1 hx
 exact fw_w _ _⟩
theorem padT_size (n : Nat) : (padT n).size = 1 + (119 - n % 64) % 64 + 4 + 4 := by
 rw [padT, ByteArray.size_append, ByteArray.size_append, ByteArray.size_append, zerosT_size, wordText_size, wordText_size]; rfl
end Go.Proofs.Ytoccjgcokffkbaa
namespace Go.Proofs.Ytoccjgcokffkbaa
set_option linter.unusedVariables false
set_option linter.unusedSimpArgs false
open Go.RowKit
theorem row_made (w : World) (e t : TypeId) : (w.alloc (.cells #[] e)).ownsRow w.heap.size e 1 (.slice (some ⟨w.heap.size, 0, none⟩) 0 0) 0 [] :=
 World.ownsRow_made (base := w.heap.size) (e := e) (size := 1) w #[] 0 (by simp) (Nat.zero_le _) rfl
theorem firstW_get (tag : Int) (k : Nat) (h : k < 8) : (firstW tag)[k]? = some (fw tag k) := by simp [firstW, h]
set_option maxRecDepth 100000 in
set_option maxHeartbeats 400000 in
theorem specStartOf_c (tag : Int) (w : World) : Calls Try.prog 144 #[.int .i64 tag] w fun e w' => ∃ A n c, e = .returned (.tuple #[.slice A n c, .bool (inR tag 0 255)]) ∧ Below w.heap.size w w' ∧ (inR tag 0 255 = true → n = 8 ∧ Rd w' w.heap.size w'.heap.size A (ws (firstW tag))) := by
 go_enter Try.func144, Try.ntmps144
 go_wp2_with fail
 have hrow := row_made w 174 0
 have hbl : Below w.heap.size w (w.alloc (.cells #[] 174)) := (Below.refl _ _).alloc (Nat.le_refl _) _
 have HROW := Lib.hid hrow
 have HBL := Lib.hid hbl
 clear hrow hbl
 refine calls_named fun W hW => ?_
 rw [← hW] at HROW HBL
 clear hW
 refine (l01In_c tag 0 255 _).mono ?_
 rintro e w1 ⟨rfl, rfl⟩
 rcases hq : inR tag 0 255 with _ | _
 ·go_wp2
  refine bodyPost_ret (v := .tuple #[.slice (some ⟨w.heap.size, 0, none⟩) 0 0, .bool false]) (by simp [results, Try.results144, go_sem]) rfl ?_
  exact ⟨_, _, _, by rw [hq], HBL.out, fun h => by rw [hq] at h; cases h⟩
 ·have hr := inR_true.1 hq
  go_wp2
  go_loopw [4, 5] (fun v i wr => ∃ (k : Nat) (A0 : Option Addr) (c0 : Nat), k ≤ 8 ∧ i = .int .i64 k ∧ v = .slice A0 k c0 ∧ wr.ownsRow w.heap.size 174 1 (.slice A0 k c0) k (ws ((firstW tag).take k)) ∧ Below w.heap.size w wr) (fun _ i _ => 8 - (intOf i).toNat)
  case atStart => exact ⟨0, _, 0, Nat.zero_le _, rfl, rfl, HROW.out, HBL.out⟩
  case round =>
   obtain ⟨k, A0, c0, hk, rfl, rfl, how, hb⟩ := hrel
   have HOW := Lib.hid how
   have HB := Lib.hid hb
   have hzr : w.heap.size ≤ wr.heap.size := hb.size
   clear how hb
   by_cases hlt : k < 8
   ·have hT := take_succ (firstW_get tag k hlt)
    have HT := Lib.hid hT
    clear hT
    go_wp2_with (at_builtin; refine app1Wd rfl _ _ rfl w.heap.size _ _ _ rfl (HOW.out.alloc _) wr.heap.size (fw tag k) rfl (NewBox.new wr _ _) (by omega) (by first | omega | (simp; done) | (simp; omega)) ?_)
    intro v2 w2 hown2 hg2
    have hon := grown_only (HOW.out.alloc _) hg2
    obtain ⟨A2, c2, rfl, _, _, _⟩ := ownsRow_slice hown2
    have HB2 : Hid (Below w.heap.size w w2) := below_only (HB.out.alloc hzr _) hon (Nat.le_refl _) (by simp; omega)
    rw [← ws_app, ← HT.out] at hown2
    have HO2 := Lib.hid hown2
    clear hown2 hg2 hon HOW
    go_wp2
    go_roundw
    case rel => exact ⟨k + 1, A2, c2, by omega, by go_num, rfl, HO2.out, HB2.out⟩
    case measure => simp [intOf]; omega
   ·obtain rfl : k = 8 := by omega
    go_wp2
    refine bodyPost_ret (v := .tuple #[.slice A0 8 c0, .bool true]) (by simp [results, Try.results144, go_sem]) rfl ?_
    refine ⟨A0, 8, c0, by rw [hq], HB.out, fun _ => ⟨rfl, ?_⟩⟩
    have h := (Own.of_ownsRow HOW.out).rd
    rwa [List.take_of_length_le (by rw [firstW_len]; exact Nat.le_refl _)] at h
end Go.Proofs.Ytoccjgcokffkbaa
namespace Go.Proofs.Ytoccjgcokffkbaa
set_option linter.unusedVariables false
set_option linter.unusedSimpArgs false
open Go.RowKit
theorem blockAt_get (t : ByteArray) (o k : Nat) (h : k < 16) : (blockAt t o)[k]? = some (wAt t (o + 4 * k)) := by simp [blockAt, h]
set_option maxRecDepth 100000 in
set_option maxHeartbeats 400000 in
theorem specWordsOf_c (t : ByteArray) (w : World) (hsz : t.size = 64) : Calls Try.prog 158 #[.string t] w fun e w' => ∃ A c, e = .returned (.tuple #[.slice A 16 c, .bool true]) ∧ Below w.heap.size w w' ∧ Rd w' w.heap.size w'.heap.size A (ws (blockAt t 0)) := by
 have hs2 : (t.size : Int) = 64 := by omega
 have HSZ := Lib.hid hsz
 clear hsz
 have hrow := row_made w 174 0
 have hbl : Below w.heap.size w (w.alloc (.cells #[] 174)) := (Below.refl _ _).alloc (Nat.le_refl _) _
 have HROW := Lib.hid hrow
 have HBL := Lib.hid hbl
 clear hrow hbl
 go_enter Try.func158, Try.ntmps158
 go_wp2
 go_loopw [4, 5] (fun v i wr => ∃ (k : Nat) (A0 : Option Addr) (c0 : Nat), k ≤ 16 ∧ i = .int .i64 (4 * k : Nat) ∧ v = .slice A0 k c0 ∧ wr.ownsRow w.heap.size 174 1 (.slice A0 k c0) k (ws ((blockAt t 0).take k)) ∧ Below w.heap.size w wr) (fun _ i _ => 64 - (intOf i).toNat)
 case atStart => exact ⟨0, _, 0, Nat.zero_le _, rfl, rfl, HROW.out, HBL.out⟩
 case round =>
  obtain ⟨k, A0, c0, hk, rfl, rfl, how, hb⟩ := hrel
  have HOW := Lib.hid how
  have HB := Lib.hid hb
  have hzr : w.heap.size ≤ wr.heap.size := hb.size
  clear how hb
  by_cases hlt : k < 16
  ·have hT := take_succ (blockAt_get t 0 k hlt)
   obtain ⟨m4, hm4⟩ : ∃ m, m = 4 * k := ⟨_, rfl⟩
   rw [Nat.zero_add, ← hm4] at hT
   rw [← hm4]
   have HM4 := Lib.hid hm4
   have hm5 : (m4 : Int) < 64 := by omega
   have hfit : m4 + 4 ≤ t.size := by have := HSZ.out; omega
   have hmx : t.size ≤ maxLen := by have := HSZ.out; unfold maxLen; omega
   have HT := Lib.hid hT
   have HWA := Lib.hid (wAt_eq t m4 hfit)
   have HMX := Lib.hid hmx
   have HF := Lib.hid hfit
   clear hT hm4 hmx
   go_wp2_with fail
   refine (specWordAt_c t m4 _ HMX.out HF.out).mono ?_
   rintro e w1 ⟨rfl, rfl⟩
   rw [HWA.out]
   go_wp2_with (at_builtin; refine app1Wd rfl _ _ rfl w.heap.size _ _ _ rfl (HOW.out.alloc _) wr.heap.size (wAt t m4) rfl (NewBox.new wr _ _) (by omega) (by first | omega | (simp; done) | (simp; omega)) ?_)
   intro v2 w2 hown2 hg2
   have hon := grown_only (HOW.out.alloc _) hg2
   obtain ⟨A2, c2, rfl, _, _, _⟩ := ownsRow_slice hown2
   have HB2 : Hid (Below w.heap.size w w2) := below_only (HB.out.alloc hzr _) hon (Nat.le_refl _) (by simp; omega)
   rw [← ws_app, ← HT.out] at hown2
   have HO2 := Lib.hid hown2
   clear hown2 hg2 hon HOW
   go_wp2
   go_roundw
   case rel => exact ⟨k + 1, A2, c2, by omega, by have := HM4.out; rw [show 4 * (k + 1) = m4 + 4 by omega]; rfl, rfl, HO2.out, HB2.out⟩
   case measure => simp [intOf]; omega
  ·obtain rfl : k = 16 := by omega
   go_wp2
   refine bodyPost_ret (v := .tuple #[.slice A0 16 c0, .bool true]) (by simp [results, Try.results158, go_sem]) rfl ?_
   refine ⟨A0, c0, rfl, HB.out, ?_⟩
   have h := (Own.of_ownsRow HOW.out).rd
   rwa [List.take_of_length_le (by rw [(blockAt_wds t 0).1]; exact Nat.le_refl _)] at h
end Go.Proofs.Ytoccjgcokffkbaa
namespace Go.Proofs.Ytoccjgcokffkbaa
set_option linter.unusedVariables false
set_option linter.unusedSimpArgs false
open Go.RowKit
theorem bytes_below (w : World) (e : TypeId) (s : ByteArray) : Below w.heap.size w (Lib.bytesWorld w e s) :=
 ⟨rfl, rfl, rfl, by rw [Lib.bytesWorld_size]; omega, fun k hk => Lib.bytesWorld_at_old w e s k hk⟩
theorem bytes_rd (w : World) (e : TypeId) (s : ByteArray) : Rd (Lib.bytesWorld w e s) 0 (Lib.bytesWorld w e s).heap.size (some ⟨w.heap.size, 0, none⟩) (Lib.byteCells s.data.toList) := fun _ =>
 ⟨w.heap.size, 0, rfl, Nat.zero_le _, by rw [Lib.bytesWorld_size]; omega, Nat.le_refl _, fun j u hu => by
   simp only [Lib.byteCells, List.getElem?_map, Option.map_eq_some_iff] at hu
   obtain ⟨b, hb, rfl⟩ := hu
   have hj : j < s.size := by
    have := (List.getElem?_eq_some_iff.1 hb).1
    rwa [Array.length_toList] at this
   rw [Nat.zero_add, Lib.bytesWorld_cell w e s j hj, List.getD_eq_getElem?_getD, hb]; rfl⟩
theorem row_below {w w' : World} {base : Nat} {e : TypeId} {size n : Nat} {v : Value} {xs : List Value} (h : w.ownsRow base e size v n xs) (hb : Below w.heap.size w w') : w'.ownsRow base e size v n xs :=
 h.kept (row := none) ⟨hb.os, hb.tape, hb.output, hb.size, fun k hk _ => hb.block k hk⟩ (by cases hv : v.ownBlock <;> simp)
set_option maxRecDepth 100000 in
set_option maxHeartbeats 400000 in
theorem specTextOf_c (A : Option Addr) (c lo hi n : Nat) (l : List Int) (w : World) (hr : Rd w lo hi A (ws l)) (hn : l.length = n) (hl : n ≤ 1000) (h1 : 1 ≤ n) (hw : ∀ x ∈ l, 0 ≤ x ∧ x < 4294967296) :
  Calls Try.prog 157 #[.slice A n c] w fun e w' => e = .returned (.tuple #[.string (textT l), .bool true]) ∧ Below w.heap.size w w' := by
 have hrow := row_made w 5 0
 have hbl : Below w.heap.size w (w.alloc (.cells #[] 5)) := (Below.refl _ _).alloc (Nat.le_refl _) _
 have HROW := Lib.hid hrow
 have HBL := Lib.hid hbl
 have HR := Lib.hid hr.base
 have HN := Lib.hid hn
 have HW := Lib.hid hw
 have hcv := fun (W : World) (s : ByteArray) => Lib.run_convert_string_bytes (P := Try.prog) W 9 22 5 s Try.underlying9 Try.underlying22 Try.underlying5
 clear hrow hbl hr hn hw
 go_enter Try.func157, Try.ntmps157
 go_wp2
 go_loopw [4, 5] (fun v i wr => ∃ (k m : Nat) (A0 : Option Addr) (c0 : Nat), k ≤ n ∧ i = .int .i64 k ∧ m = 4 * k ∧ v = .slice A0 m c0 ∧ wr.ownsRow w.heap.size 5 1 (.slice A0 m c0) m (Lib.byteCells (textW (l.take k))) ∧ Below w.heap.size w wr) (fun _ i _ => n - (intOf i).toNat)
 case atStart => exact ⟨0, 0, _, 0, Nat.zero_le _, rfl, rfl, rfl, HROW.out, HBL.out⟩
 case round =>
  obtain ⟨k, m, A0, c0, hk, rfl, hm, rfl, how, hb⟩ := hrel
  have HOW := Lib.hid how
  have HB := Lib.hid hb
  have HM := Lib.hid hm
  have hzr : w.heap.size ≤ wr.heap.size := hb.size
  clear how hb hm
  by_cases hlt : k < n
  ·have hkl : k < l.length := by rw [HN.out]; exact hlt
   obtain ⟨b, off, rfl, hbz, hcell⟩ := (HR.out.below HB.out).wd hkl
   have hxw := HW.out _ (List.getElem_mem hkl)
   have HT := Lib.hid (textW_take (List.getElem?_eq_getElem hkl))
   generalize l[k] = x at *
   go_wp2_with fail
   refine (specWordText_c x _ hxw).mono ?_
   rintro e w1 ⟨rfl, hb1⟩
   have hz1 := hb1.size
   have HB1 := Lib.hid (below_then HB.out hb1 HB.out.size)
   have HO1 := Lib.hid (row_below HOW.out hb1)
   have hm4 : (wordText x).size = 4 := wordText_size x
   have HM4 := Lib.hid hm4
   clear hb1 HOW hm4
   have HO2 := Lib.hid (row_below HO1.out (bytes_below w1 5 (wordText x)))
   have HB2 := Lib.hid (below_then HB1.out (bytes_below w1 5 (wordText x)) HB1.out.size)
   have HRD := Lib.hid (bytes_rd w1 5 (wordText x))
   go_wp2_with (at_builtin; refine appBy rfl _ _ rfl w.heap.size _ _ _ rfl HO2.out _ _ _ 0 _ (wordText x).data.toList rfl (by rw [Array.length_toList]; rfl) HRD.out (fun h => by cases h) (by have h1 := HM.out; have h2 := HM4.out; omega) HB2.out.size ?_)
   intro v2 w2 hown2 hg2
   have hon := grown_only HO2.out hg2
   obtain ⟨A2, c2, rfl, _, _, _⟩ := ownsRow_slice hown2
   have HB3 := Lib.hid (below_only HB2.out hon (Nat.le_refl _) HB2.out.size)
   rw [← bys_app, ← HT.out, HM4.out] at hown2
   have HO3 := Lib.hid hown2
   clear hown2 hg2 hon HO2 HO1
   go_wp2
   go_roundw
   case rel => exact ⟨k + 1, m + 4, A2, c2, by omega, by go_num, by have := HM.out; omega, by rw [HM4.out], HO3.out, HB3.out⟩
   case measure => simp [intOf]; omega
  ·obtain rfl : k = n := by omega
   have hT : textW (l.take k) = textW l := by rw [List.take_of_length_le (by rw [HN.out]; exact Nat.le_refl _)]
   have hr := (Own.of_ownsRow HOW.out).rd
   rw [hT] at hr
   have hml : (textW l).length = m := by rw [textW_len, HN.out, HM.out]
   have hne : Lib.byteCells (textW l) ≠ [] := by
    intro e
    have e2 := bys_len (textW l)
    have := HM.out
    rw [e, hml] at e2
    simp at e2
    omega
   obtain ⟨b, off, rfl, _, _, _, hcs⟩ := hr hne
   have hcb := run_convert_bytes_back (P := Try.prog) wr 22 9 5 ⟨b, off, none⟩ c0 (textW l) Try.underlying22 Try.underlying5 Try.underlying9 (fun j hj => by
    have h := hcs j (.int .u8 ((textW l)[j].toNat : Int)) (by simp [Lib.byteCells, hj])
    rwa [Addr.add_lit])
   rw [hml] at hcb
   clear hr hcs hcv
   go_wp2
   refine bodyPost_ret (v := .tuple #[.string (textT l), .bool true]) (by simp [results, Try.results157, go_sem, textT]) rfl ?_
   exact ⟨rfl, HB.out⟩
end Go.Proofs.Ytoccjgcokffkbaa
namespace Go.Proofs.Ytoccjgcokffkbaa
set_option linter.unusedVariables false
set_option linter.unusedSimpArgs false
open Go.RowKit
set_option maxRecDepth 100000 in
set_option maxHeartbeats 400000 in
theorem l02First_c (width : Nat) (A : Option Addr) (c lo hi : Nat) (l : List Int) (w : World) (hw : width ≤ 32) (hl : Wds 8 l) (hr : Rd w lo hi A (ws l)) :
  Calls Try.prog 146 #[.int .i64 width, .slice A 8 c] w fun e w' => e = .returned (.string (chainT width l)) ∧ Below w.heap.size w w' := by
 have hsz : (textT l).size = 32 := by rw [textT_size, hl.1]
 have hC : chainT width l = (textT l).extract 0 width := rfl
 have HC := Lib.hid hC
 have hsz2 : ((textT l).size : Int) = 32 := by omega
 have hT := fun W (h : Rd W lo hi A (ws l)) => specTextOf_c A c lo hi 8 l W h hl.1 (by omega) (by omega) hl.2
 have HT := Lib.hid hT
 have HR := Lib.hid hr
 have hw2 : (width : Int) ≤ 32 := by omega
 clear hl hC hT hr hsz
 generalize textT l = tx at *
 go_enter Try.func146, Try.ntmps146
 go_wp2_with fail
 refine (HT.out _ HR.out).mono ?_
 rintro e w1 ⟨rfl, hb1⟩
 have HB := Lib.hid hb1
 clear hb1
 go_wp2
 go_ret
 exact ⟨by rw [HC.out]; rfl, HB.out⟩
end Go.Proofs.Ytoccjgcokffkbaa
namespace Go.Proofs.Ytoccjgcokffkbaa
set_option linter.unusedVariables false
set_option linter.unusedSimpArgs false
open Go.RowKit
def lenOf : Value → Nat
 | .slice _ n _ => n
 | _ => 0
def padZ (j : Nat) : List UInt8 := 128 :: List.replicate j 0
theorem padZ_next (j : Nat) : padZ (j + 1) = padZ j ++ [0] := by rw [padZ, padZ, List.replicate_succ', List.cons_append]
def padB (n i : Nat) : UInt8 := UInt8.ofNat (n / 256 ^ i % 256)
def padE (n : Nat) : Nat → List UInt8
 | 0 => []
 | j + 1 => padE n j ++ [padB n (7 - j)]
theorem padE_8 (n : Nat) (h : n ≤ 4000) : padE n 8 = [0, 0, 0, 0, 0, 0, UInt8.ofNat (n / 256 % 256), UInt8.ofNat (n % 256)] := by
 have e : ∀ i, 65536 ≤ 256 ^ i → padB n i = 0 := fun i hi => by
  rw [padB, Nat.div_eq_of_lt (by omega)]; rfl
 show [padB n 7, padB n 6, padB n 5, padB n 4, padB n 3, padB n 2, padB n 1, padB n 0] = _
 rw [e 7 (by decide), e 6 (by decide), e 5 (by decide), e 4 (by decide), e 3 (by decide), e 2 (by decide)]
 simp [padB]
theorem wordText_small (n : Nat) (h : n ≤ 4000) : wordText n = ⟨#[0, 0, UInt8.ofNat (n / 256 % 256), UInt8.ofNat (n % 256)]⟩ := by
 have e1 : (n : Int) / 16777216 = 0 := by omega
 have e2 : (n : Int) / 65536 % 256 = 0 := by omega
 have e3 : (n : Int) / 256 % 256 = (n / 256 % 256 : Nat) := by omega
 have e4 : (n : Int) % 256 = (n % 256 : Nat) := by omega
 rw [wordText, e1, e2, e3, e4]
 rfl
theorem padE_all (n : Nat) (h : n ≤ 4000) (z : Nat) : ((⟨(padZ z ++ padE n 8).toArray⟩ : ByteArray)) = ⟨#[128]⟩ ++ zerosT z ++ wordText 0 ++ wordText n := by
 have hz : Lib.repeatL [0] z = List.replicate z (0 : UInt8) := by
  have := Lib.repeatL_replicate 0 1 z
  simpa using this
 have w0 : wordText 0 = ⟨#[0, 0, 0, 0]⟩ := rfl
 rw [padE_8 n h, w0, wordText_small n h, zerosT, hz, padZ]
 apply ByteArray.ext
 simp only [ByteArray.data_append]
 apply Array.toList_inj.1
 simp
set_option maxRecDepth 100000 in
set_option maxHeartbeats 400000 in
theorem specPadOf_c (n : Nat) (w : World) (hn : n ≤ 4000) : Calls Try.prog 145 #[.int .i64 n] w fun e w' => e = .returned (.tuple #[.string (padT n), .bool true]) ∧ Below w.heap.size w w' := by
 obtain ⟨z, hz⟩ : ∃ z, z = (119 - n % 64) % 64 := ⟨_, rfl⟩
 have hz2 : z < 64 := by omega
 have hrow : (w.alloc (.cells #[.int .u8 128] 5)).ownsRow w.heap.size 5 1 (.slice (some ⟨w.heap.size, 0, none⟩) 1 1) 1 (Lib.byteCells (padZ 0)) :=
  World.ownsRow_lit (base := w.heap.size) (e := 5) (size := 1) w #[.int .u8 128] 1 (Nat.le_refl _) (by unfold maxLen; omega) rfl
 have hbl : Below w.heap.size w (w.alloc (.cells #[.int .u8 128] 5)) := (Below.refl _ _).alloc (Nat.le_refl _) _
 have HROW := Lib.hid hrow
 have HBL := Lib.hid hbl
 have HZ := Lib.hid hz
 have hin : inR (n : Int) 0 4000 = true := inR_true.2 (by omega)
 have HIN := Lib.hid hin
 clear hrow hbl hz hin
 go_enter Try.func145, Try.ntmps145
 go_wp2_with fail
 refine (l01In_c n 0 4000 _).mono ?_
 rintro e w1 ⟨rfl, rfl⟩
 rw [HIN.out]
 go_wp2
 go_loopw [4] (fun v wr => ∃ (j : Nat) (A0 : Option Addr) (c0 : Nat), j ≤ z ∧ v = .slice A0 (1 + j) c0 ∧ wr.ownsRow w.heap.size 5 1 (.slice A0 (1 + j) c0) (1 + j) (Lib.byteCells (padZ j)) ∧ Below w.heap.size w wr) (fun v _ => 65 - lenOf v)
 case atStart => exact ⟨0, _, 1, Nat.zero_le _, rfl, HROW.out, HBL.out⟩
 case round =>
  obtain ⟨j, A0, c0, hj, rfl, how, hb⟩ := hrel
  have HOW := Lib.hid how
  have HB := Lib.hid hb
  have hzr : w.heap.size ≤ wr.heap.size := hb.size
  clear how hb
  obtain ⟨q, hq⟩ : ∃ q, q = 1 + j := ⟨_, rfl⟩
  obtain ⟨r, hr⟩ : ∃ r, r = (n + q + 8) % 64 := ⟨_, rfl⟩
  have E3 : ((n : Int) + q + 8).tmod 64 = r := by rw [Int.tmod_eq_emod_of_nonneg (by omega)]; omega
  have hqb : (q : Int) ≤ 64 := by omega
  rw [← hq] at HOW ⊢
  by_cases hlt : j < z
  ·have hr2 : (r : Int) ≠ 0 := by have := HZ.out; omega
   have HR := Lib.hid hr
   have HQ := Lib.hid hq
   clear hr hq
   go_wp2_with (at_builtin; refine appBy rfl _ _ rfl w.heap.size _ _ _ rfl (HOW.out.alloc _) _ 1 1 0 _ [(0 : UInt8)] rfl rfl (NewBox.rd (cs := Lib.byteCells [(0 : UInt8)]) (NewBox.new wr _ _)) (fun h => by cases h) (by omega) (by first | omega | (simp; done) | (simp; omega)) ?_)
   intro v2 w2 hown2 hg2
   have hon := grown_only (HOW.out.alloc _) hg2
   obtain ⟨A2, c2, rfl, _, _, _⟩ := ownsRow_slice hown2
   have HB2 : Hid (Below w.heap.size w w2) := below_only (HB.out.alloc hzr _) hon (Nat.le_refl _) (by simp; omega)
   rw [← bys_app, ← padZ_next] at hown2
   have HO2 := Lib.hid hown2
   clear hown2 hg2 hon HOW
   go_wp2
   go_roundw
   case rel =>
    have h := HQ.out
    exact ⟨j + 1, A2, c2, by omega, by rw [show 1 + (j + 1) = q + 1 by omega], by rw [show 1 + (j + 1) = q + 1 by omega]; exact HO2.out, HB2.out⟩
   case measure => show 65 - (q + 1) < 65 - q; omega
  ·obtain rfl : j = z := by omega
   obtain rfl : r = 0 := by have := HZ.out; omega
   have HQ := Lib.hid hq
   clear hr hq
   go_wp2
   go_loopw [4, 5] (fun v i wx => ∃ (p m : Nat) (A1 : Option Addr) (c1 : Nat), p ≤ 8 ∧ m = q + p ∧ i = .int .i64 (7 - (p : Int)) ∧ v = .slice A1 m c1 ∧ wx.ownsRow w.heap.size 5 1 (.slice A1 m c1) m (Lib.byteCells (padZ j ++ padE n p)) ∧ Below w.heap.size w wx) (fun _ i _ => (intOf i + 1).toNat)
   case atStart => exact ⟨0, q, _, _, Nat.zero_le _, rfl, rfl, rfl, by rw [padE, List.append_nil]; exact HOW.out, HB.out⟩
   case round =>
    clear HOW HB
    obtain ⟨p, m, A1, c1, hp, hm, rfl, rfl, how, hb⟩ := hrel
    have HOW := Lib.hid how
    have HB := Lib.hid hb
    have HM := Lib.hid hm
    have hzx := hb.size
    have hmb : (m : Int) ≤ 80 := by omega
    clear how hb hm
    by_cases hlp : p < 8
    ·obtain ⟨g, hg⟩ : ∃ g, g = 7 - p := ⟨_, rfl⟩
     have hgp : 7 - (p : Int) = (g : Int) := by omega
     rw [hgp]
     have hg7 : (g : Int) ≤ 7 := by omega
     have HG := Lib.hid hg
     have HGP := Lib.hid hgp
     clear hg hgp
     go_wp2
     go_loop [6, 7] (fun x y => ∃ u : Nat, u ≤ g ∧ y = .int .i64 u ∧ x = .int .i64 ((n / 256 ^ u : Nat) : Int)) (fun _ y => g - (intOf y).toNat)
     case atStart => exact ⟨0, Nat.zero_le _, rfl, by simp⟩
     case round =>
      obtain ⟨u, hu, rfl, rfl⟩ := hrel
      have hx : n / 256 ^ u ≤ 4000 := Nat.le_trans (Nat.div_le_self _ _) hn
      have hnx : n / 256 ^ (u + 1) = n / 256 ^ u / 256 := by rw [Nat.pow_succ, Nat.div_div_eq_div_mul]
      have hpb : (padB n u).toNat = n / 256 ^ u % 256 := by
       rw [padB, UInt8.toNat_ofNat']
       omega
      generalize n / 256 ^ u = X at *
      have E4 : (X : Int).tdiv 256 = (X / 256 : Nat) := by rw [Int.tdiv_eq_ediv_of_nonneg (by omega)]; omega
      have E5 : (X : Int).tmod 256 = ((padB n u).toNat : Int) := by rw [Int.tmod_eq_emod_of_nonneg (by omega), hpb]; omega
      have E6 := byte_lt (padB n u)
      have HNX := Lib.hid hnx
      clear hnx hpb
      by_cases hlu : u < g
      ·clear E5
       obtain ⟨Y, hY⟩ : ∃ Y, Y = X / 256 := ⟨_, rfl⟩
       rw [← hY] at E4
       have HY := Lib.hid hY
       have hY2 : (Y : Int) ≤ 4000 := by omega
       clear hY
       go_wp2
       go_round
       case rel => exact ⟨u + 1, by omega, by go_num, by rw [HNX.out, HY.out]⟩
       case measure => simp [intOf]; omega
      ·obtain rfl : u = g := by omega
       have HP : Hid (padE n (p + 1) = padE n p ++ [padB n u]) := by rw [Hid, HG.out]; rfl
       clear E4 HNX
       generalize padB n u = bt at *
       go_wp2_with (at_builtin; refine appBy rfl _ _ rfl w.heap.size _ _ _ rfl (HOW.out.alloc _) _ 1 1 0 _ [bt] rfl rfl (NewBox.rd (cs := Lib.byteCells [bt]) (NewBox.new wr _ _)) (fun h => by cases h) (by omega) (by first | omega | (simp; done) | (simp; omega)) ?_)
       intro v2 w2 hown2 hg2
       have hon := grown_only (HOW.out.alloc _) hg2
       obtain ⟨A2, c2, rfl, _, _, _⟩ := ownsRow_slice hown2
       have HB2 : Hid (Below w.heap.size w w2) := below_only (HB.out.alloc hzx _) hon (Nat.le_refl _) (by simp; omega)
       rw [← bys_app, List.append_assoc, ← HP.out] at hown2
       have HO2 := Lib.hid hown2
       clear hown2 hg2 hon HOW
       go_wp2
       go_roundw
       case rel =>
        have h1 := HGP.out
        have h2 := HM.out
        exact ⟨p + 1, m + 1, A2, c2, by omega, by omega, by rw [show (7 : Int) - ((p + 1 : Nat) : Int) = (u : Int) - 1 by omega], rfl, HO2.out, HB2.out⟩
       case measure => first | (simp [intOf]; done) | (simp [intOf]; omega)
    ·obtain rfl : p = 8 := by omega
     have hr := (Own.of_ownsRow HOW.out).rd
     have hml : (padZ j ++ padE n 8).length = m := by
      have h := HOW.out.1
      rwa [bys_len, Nat.mul_one] at h
     obtain ⟨b, off, rfl, _, _, _, hcs⟩ := hr (by rw [padZ]; simp [Lib.byteCells])
     have hcb := run_convert_bytes_back (P := Try.prog) wr 22 9 5 ⟨b, off, none⟩ c1 (padZ j ++ padE n 8) Try.underlying22 Try.underlying5 Try.underlying9 (fun i hi => by
      have h := hcs i (.int .u8 ((padZ j ++ padE n 8)[i].toNat : Int)) (by simp only [Lib.byteCells, List.getElem?_map, List.getElem?_eq_getElem hi, Option.map_some])
      rwa [Addr.add_lit])
     rw [hml, padE_all n hn j] at hcb
     have hP : padT n = ⟨#[128]⟩ ++ zerosT j ++ wordText 0 ++ wordText n := by rw [padT, ← HZ.out]
     rw [← hP] at hcb
     clear hr hcs hml hP
     go_wp2
     refine bodyPost_ret (v := .tuple #[.string (padT n), .bool true]) (by simp [results, Try.results145, go_sem]) rfl ?_
     exact ⟨rfl, HB.out⟩
end Go.Proofs.Ytoccjgcokffkbaa
namespace Go.Proofs.Ytoccjgcokffkbaa
set_option linter.unusedVariables false
set_option linter.unusedSimpArgs false
open Go.RowKit
set_option maxRecDepth 100000 in
set_option maxHeartbeats 400000 in
theorem specPadOf_no (n : Nat) (w : World) (hn : 4000 < n) : Calls Try.prog 145 #[.int .i64 n] w fun e w' => e = .returned (.tuple #[.string ⟨#[]⟩, .bool false]) ∧ Below w.heap.size w w' := by
 have hin : inR (n : Int) 0 4000 = false := inR_false.2 (.inr (by omega))
 have HIN := Lib.hid hin
 clear hin
 go_enter Try.func145, Try.ntmps145
 go_wp2_with fail
 refine (l01In_c n 0 4000 _).mono ?_
 rintro e w1 ⟨rfl, rfl⟩
 rw [HIN.out]
 go_wp2
 refine bodyPost_ret (v := .tuple #[.string ⟨#[]⟩, .bool false]) (by simp [results, Try.results145, go_sem]) rfl ?_
 exact ⟨rfl, Below.refl _ _⟩
end Go.Proofs.Ytoccjgcokffkbaa
namespace Go.Proofs.Ytoccjgcokffkbaa
set_option linter.unusedVariables false
set_option linter.unusedSimpArgs false
open Go.RowKit
theorem addW_all (s u : List Int) (h : u.length = 8) : (List.range 8).map (fun q => (u.getD q 0 + s.getD q 0) % 4294967296) = addW s u 8 := by
 obtain ⟨a, b, c, d, e, f, g, i, rfl⟩ := list8 h
 rfl
end Go.Proofs.Ytoccjgcokffkbaa
namespace Go.Proofs.Ytoccjgcokffkbaa
set_option linter.unusedVariables false
set_option linter.unusedSimpArgs false
open Go.RowKit
theorem row_form {w : World} {base size n : Nat} {e : TypeId} {v : Value} {xs : List Value} (h : w.ownsRow base e size v n xs) (hn : 0 < n) : ∃ g cap, v = .slice (some ⟨g, 0, none⟩) n cap := by
 rcases h.2 with ⟨_, h0⟩ | ⟨g, cap, _, hv, _⟩
 ·omega
 ·exact ⟨g, cap, hv⟩
theorem own_ne' {w : World} {base e size n B : Nat} {v : Value} {xs : List Value} (h : w.ownsRow base e size v n xs) (hB : B < base) : some B ≠ v.ownBlock := fun e1 => by
 have := (h.lt B e1.symm).1; omega
/-- where the reference's mixing stands: v in the row at block g -/
structure MixS (w : World) (g : Nat) (v : List Int) (wx : World) : Prop where
 below : Below w.heap.size w wx
 le : w.heap.size ≤ g
 v : Own wx g (g + 1) (some ⟨g, 0, none⟩) (ws v)
theorem MixS.set {w : World} {g : Nat} {v : List Int} {wx : World} (h : MixS w g v wx) {o : Nat} (ho : o < v.length) (x : Int) : MixS w g (v.set o x) (wx.setCell ⟨g, o, none⟩ (.int .u32 x)) := by
 refine ⟨h.below.setCell h.le _, h.le, ?_⟩
 have := h.v.set (j := o) (by rw [ws_len]; exact ho) (.int .u32 x)
 rwa [Nat.zero_add, ws_set] at this
theorem MixS.drew {w : World} {g : Nat} {v : List Int} {wx : World} (h : MixS w g v wx) : MixS w g v wx.drew := ⟨h.below.drew, h.le, h.v.drew⟩
theorem MixS.drewN {w : World} {g : Nat} {v : List Int} {wx : World} (h : MixS w g v wx) (n : Nat) : MixS w g v (wx.drewN n) := ⟨h.below.trans (Below.mono (below_drewN wx n) h.below.size), h.le, h.v.drewN n⟩
theorem MixS.wd {w : World} {g n : Nat} {v : List Int} {wx : World} (h : MixS w g v wx) (hl : Wds n v) {o : Nat} (ho : o < n) : wx.cell? ⟨g, o, none⟩ = some (.int .u32 (v.getD o 0)) ∧ wx.frozen? ⟨g, o, none⟩ = false := by
 have hol : o < v.length := by rw [hl.1]; exact ho
 obtain ⟨b, off, h1, _, _, _, h5, h6⟩ := h.v.at_ (j := o) (by rw [ws_len]; exact hol)
 cases h1
 refine ⟨?_, by have := h6 o; rwa [Nat.zero_add] at this⟩
 have := h5 o _ (ws_get (List.getElem?_eq_getElem hol))
 rw [Nat.zero_add] at this
 rw [this, List.getD_eq_getElem?_getD, List.getElem?_eq_getElem hol]; rfl
set_option maxRecDepth 100000 in
set_option maxHeartbeats 400000 in
theorem specMixIn_c (A B : Option Addr) (c c2 lo hi lo2 hi2 : Nat) (s b : List Int) (w : World) (hs : Wds 8 s) (hb : Wds 16 b) (hA : Rd w lo hi A (ws s)) (hB : Rd w lo2 hi2 B (ws b)) :
  Calls Try.prog 159 #[.slice A 8 c, .slice B 16 c2] w fun e w' => ∃ A' c', e = .returned (.tuple #[.slice A' 8 c', .bool true]) ∧ Below w.heap.size w w' ∧ Rd w' w.heap.size w'.heap.size A' (ws (mixAll1 s b)) := by
 obtain ⟨ba, oa, rfl, hba, hca⟩ := hA.at_ (j := 0) (by rw [ws_len, hs.1]; omega)
 obtain ⟨bb, ob, rfl, hbb, hcb⟩ := hB.at_ (j := 0) (by rw [ws_len, hb.1]; omega)
 have hrow := row_made w 174 0
 have hbl : Below w.heap.size w (w.alloc (.cells #[] 174)) := (Below.refl _ _).alloc (Nat.le_refl _) _
 have HRA := Lib.hid hA.base
 have HRB := Lib.hid hB.base
 have HS := Lib.hid hs
 have HBW := Lib.hid hb
 have HROW := Lib.hid hrow
 have HBL := Lib.hid hbl
 clear hA hB hs hb hrow hbl hca hcb
 go_enter Try.func159, Try.ntmps159
 go_wp2_with (at_builtin; refine appWd rfl _ _ rfl w.heap.size _ _ _ rfl HROW.out (some ⟨ba, oa, none⟩) 8 c 0 _ s rfl HS.out.1 (HRA.out.below HBL.out) (fun h => by cases h) (by omega) HBL.out.size ?_)
 intro v2 w2 hown2 hg2
 have hon := grown_only HROW.out hg2
 have HB2 := Lib.hid (below_only HBL.out hon (Nat.le_refl _) HBL.out.size)
 obtain ⟨g, cap, rfl⟩ := row_form hown2 (by omega)
 have hO := Own.of_ownsRow hown2
 have hgw := (hown2.lt g rfl).1
 have HM : Hid (MixS w g s w2) := ⟨HB2.out, hgw, hO.tight⟩
 clear hown2 hg2 hon hO
 go_wp2
 go_loopw [7] (fun i wx => ∃ r : Nat, r ≤ 12 ∧ i = .int .i64 r ∧ MixS w g (mixU b s r) wx) (fun i _ => 12 - (intOf i).toNat)
 case atStart => exact ⟨0, Nat.zero_le _, rfl, HM.out⟩
 case round =>
  clear HM
  obtain ⟨r, hr, rfl, hA⟩ := hrel
  have HV : Hid (Wds 8 (mixU b s r)) := mixU_w HS.out r
  by_cases hlt : r < 12
  ·have HA := Lib.hid hA
   clear hA
   go_wp2
   have hdr : decide ((r : Int) < 12) = true := decide_eq_true (by omega)
   simp only [hdr]
   clear hdr
   go_loopw [8] (fun i wx => ∃ k : Nat, k ≤ 8 ∧ i = .int .i64 k ∧ MixS w g (mixRow b (mixU b s r) r k) wx) (fun i _ => 8 - (intOf i).toNat)
   case atStart => exact ⟨0, Nat.zero_le _, rfl, HA.out⟩
   case round =>
    clear HA
    obtain ⟨k, hk, rfl, hA⟩ := hrel
    by_cases hlk : k < 8
    ·have hvw : Wds 8 (mixRow b (mixU b s r) r k) := mixRow_w HV.out r k hk
     have hnx : mixRow b (mixU b s r) r (k + 1) = mixB (mixA b (mixRow b (mixU b s r) r k) r k) r k := rfl
     generalize mixRow b (mixU b s r) r k = v at *
     have HNX := Lib.hid hnx
     clear hnx
     have hma : mixA b v r k = v.set k ((v.getD k 0 + (cst (8 * r + k) + bits .xor .u32 (v.getD ((k + 1) % 8) 0) (b.getD ((8 * r + 5 * k + r / 2) % 16) 0)) % 4294967296) % 4294967296) := rfl
     obtain ⟨m2, hm2⟩ : ∃ m, m = (k + 1) % 8 := ⟨_, rfl⟩
     obtain ⟨m3, hm3⟩ : ∃ m, m = (8 * r + 5 * k + r / 2) % 16 := ⟨_, rfl⟩
     rw [← hm2, ← hm3] at hma
     have p1 := (hA.wd hvw hlk).1
     have hf := (hA.wd hvw hlk).2
     have p2 := (hA.wd hvw (show m2 < 8 by omega)).1
     obtain ⟨b3, o3, e3, hz3, p3⟩ := (HRB.out.below hA.below).wd (k := m3) (by rw [HBW.out.1]; omega)
     cases e3
     have x1 := hvw.at_ hlk
     have x2 := hvw.at_ (show m2 < 8 by omega)
     have x3 := HBW.out.at_ (show m3 < 16 by omega)
     have e4 : b[m3]'(by rw [HBW.out.1]; omega) = b.getD m3 0 := by rw [List.getD_eq_getElem?_getD, List.getElem?_eq_getElem]; rfl
     rw [e4] at p3
     clear e4
     generalize v.getD k 0 = y1 at *
     generalize v.getD m2 0 = y2 at *
     generalize b.getD m3 0 = y3 at *
     have xx := xor_w x2 x3
     have E4 : ((k : Int) + 1).tmod 8 = m2 := by rw [Int.tmod_eq_emod_of_nonneg (by omega)]; omega
     have E7 : (r : Int).tdiv 2 = (r / 2 : Nat) := by rw [Int.tdiv_eq_ediv_of_nonneg (by omega)]; omega
     have E10 : (8 * (r : Int) + 5 * k + (r / 2 : Nat)).tmod 16 = m3 := by rw [Int.tmod_eq_emod_of_nonneg (by omega)]; omega
     have B1 : (k : Int) < 8 := by omega
     have B2 : (m2 : Int) < 8 := by omega
     have B3 : (m3 : Int) < 16 := by omega
     have B4 : (r / 2 : Nat) ≤ 6 := by omega
     have HA := Lib.hid hA
     have HVW := Lib.hid hvw
     have HMA := Lib.hid hma
     clear hA hvw hma hm2 hm3
     generalize (r / 2 : Nat) = rh at *
     go_wp2
     go_quiet (fail)
     go_wp2
     have HA0 := Lib.hid (HA.out.drewN nq)
     have p10 : (wr.drewN nq).cell? ⟨g, k, none⟩ = some (.int .u32 y1) := p1
     have hf0 : (wr.drewN nq).frozen? ⟨g, k, none⟩ = false := hf
     clear HA p1 p2 p3 hf hz3
     generalize wr.drewN nq = wy at *
     have xc := cst_w (8 * r + k)
     have HC : Calls Try.prog 168 #[.int .i64 (8 * (r : Int) + k)] wy.drew fun e w'' => e = .returned (.int .u32 (cst (8 * r + k))) ∧ w'' = wy.drew := (specConstant_c _ _).mono fun _ _ h => ⟨h.1, h.2.symm⟩
     have F1 : IntKind.i64.wrap (8 * (r : Int)) = 8 * r := by rw [IntKind.wrap_i64]; omega
     have F2 : IntKind.i64.wrap (8 * (r : Int) + k) = 8 * r + k := by rw [IntKind.wrap_i64]; omega
     generalize hcc : cst (8 * (r : Int) + k) = cc at *
     clear hcc
     refine wp_region_still_tail 15 (by kernel_rfl) (by kernel_rfl) ?_
     simp only [List.take_succ_cons, List.take_zero, List.drop_succ_cons, List.drop_zero]
     repeat still_step
     still_call HC
     repeat still_step
     refine wpStill_nil ?_
     change wpList _ _ _ _ _ wy.drew
     have HA2 := Lib.hid HA0.out.drew
     have hf2 : wy.drew.frozen? ⟨g, k, none⟩ = false := hf0
     have p12 : wy.drew.cell? ⟨g, k, none⟩ = some (.int .u32 y1) := p10
     clear HA0 HC p10 hf0
     generalize wy.drew = wq at *
     have hsum : ((y1 + cc) % 4294967296 + bits .xor .u32 y2 y3) % 4294967296 = (y1 + (cc + bits .xor .u32 y2 y3) % 4294967296) % 4294967296 := by omega
     have HSUM := Lib.hid hsum
     clear hsum
     go_wp2
     rw [HSUM.out]
     have hA : MixS w g (mixA b v r k) (wq.setCell ⟨g, k, none⟩ (.int .u32 ((y1 + (cc + bits .xor .u32 y2 y3) % 4294967296) % 4294967296))) := by
      rw [HMA.out]
      exact HA2.out.set (by rw [HVW.out.1]; exact hlk) _
     have hvw : Wds 8 (mixA b v r k) := mixA_w HVW.out r k
     clear HA2 hf2 p12
     generalize wq.setCell ⟨g, k, none⟩ (.int .u32 ((y1 + (cc + bits .xor .u32 y2 y3) % 4294967296) % 4294967296)) = wp at *
     clear HMA HVW
     have hmb : mixB (mixA b v r k) r k = (mixA b v r k).set k (bits .xor .u32 (rotN (5 + (k + 3 * r) % 23) ((mixA b v r k).getD k 0)) ((mixA b v r k).getD ((k + 3) % 8) 0)) := rfl
     obtain ⟨m5, hm5⟩ : ∃ m, m = (k + 3 * r) % 23 := ⟨_, rfl⟩
     obtain ⟨m6, hm6⟩ : ∃ m, m = (k + 3) % 8 := ⟨_, rfl⟩
     rw [← hm5, ← hm6] at hmb
     generalize mixA b v r k = v1 at *
     have p4 := (hA.wd hvw hlk).1
     have hf := (hA.wd hvw hlk).2
     have p6 := (hA.wd hvw (show m6 < 8 by omega)).1
     have x4 := hvw.at_ hlk
     generalize v1.getD k 0 = z1 at *
     generalize v1.getD m6 0 = z6 at *
     have HT : Calls Try.prog 169 #[.int .u32 z1, .int .i64 (5 + (m5 : Int))] wp.drew fun e w'' => e = .returned (.int .u32 (rotN (5 + m5) z1)) ∧ w'' = wp.drew := (specTurn_c z1 (5 + m5) _ x4 (by omega)).mono fun _ _ h => ⟨h.1, h.2.symm⟩
     have D1 : IntKind.i64.wrap (3 * (r : Int)) = 3 * r := by rw [IntKind.wrap_i64]; omega
     have D2 : IntKind.i64.wrap ((k : Int) + 3 * r) = k + 3 * r := by rw [IntKind.wrap_i64]; omega
     have D3 : ((k : Int) + 3 * r).tmod 23 = m5 := by rw [Int.tmod_eq_emod_of_nonneg (by omega)]; omega
     have D4 : IntKind.i64.wrap (5 + (m5 : Int)) = 5 + m5 := by rw [IntKind.wrap_i64]; omega
     have D5 : IntKind.i64.wrap ((k : Int) + 3) = k + 3 := by rw [IntKind.wrap_i64]; omega
     have D6 : ((k : Int) + 3).tmod 8 = m6 := by rw [Int.tmod_eq_emod_of_nonneg (by omega)]; omega
     have D7 : (m6 : Int) < 8 := by omega
     have HA := Lib.hid hA
     have HVW := Lib.hid hvw
     have HMB := Lib.hid hmb
     clear hA hvw hmb hm5 hm6
     generalize rotN (5 + m5) z1 = q1 at *
     refine wp_region_still_tail 21 (by kernel_rfl) (by kernel_rfl) ?_
     simp only [List.take_succ_cons, List.take_zero, List.drop_succ_cons, List.drop_zero]
     repeat still_step
     still_call HT
     repeat still_step
     refine wpStill_nil ?_
     change wpList _ _ _ _ _ wp.drew
     have HA2 := Lib.hid HA.out.drew
     have hf2 : wp.drew.frozen? ⟨g, k, none⟩ = false := hf
     have p12 : wp.drew.cell? ⟨g, k, none⟩ = some (.int .u32 z1) := p4
     clear HA HT p4 p6 hf
     generalize wp.drew = wq at *
     go_wp2
     go_round
     case rel =>
      refine ⟨k + 1, by omega, by go_num, ?_⟩
      rw [HNX.out, HMB.out]
      exact HA2.out.set (by rw [HVW.out.1]; exact hlk) _
     case measure => simp [intOf]; omega
    ·obtain rfl : k = 8 := by omega
     have HA := Lib.hid hA
     clear hA
     go_wp2
     go_round
     case rel => exact ⟨r + 1, by omega, by go_num, HA.out⟩
     case measure => simp [intOf]; omega
  ·obtain rfl : r = 12 := by omega
   have HA := Lib.hid hA
   clear hA
   have hrow0 := row_made wr 174 0
   have hbl0 : Below wr.heap.size wr (wr.alloc (.cells #[] 174)) := (Below.refl _ _).alloc (Nat.le_refl _) _
   have HR0 := Lib.hid hrow0
   have HA1 : Hid (MixS w g (mixU b s 12) (wr.alloc (.cells #[] 174))) := ⟨below_then HA.out.below hbl0 HA.out.below.size, HA.out.le, HA.out.v.below (hbl0.mono (Nat.le_refl _))⟩
   have HB0 := Lib.hid hbl0
   clear hrow0 hbl0
   go_wp2
   have h12 : ((12 : Nat) : Int) = 12 := rfl
   simp only [h12]
   clear h12
   have HU : Hid (Wds 8 (mixU b s 12)) := HV
   generalize hu : mixU b s 12 = u at *
   have HUE := Lib.hid hu
   have hwz := HA.out.below.size
   clear hu
   obtain ⟨wo, rfl⟩ : ∃ wo : World, wo = wr := ⟨_, rfl⟩
   go_loopw [10, 11] (fun v i wx => ∃ (k : Nat) (A0 : Option Addr) (c0 : Nat), k ≤ 8 ∧ i = .int .i64 k ∧ v = .slice A0 k c0 ∧ wx.ownsRow wo.heap.size 174 1 (.slice A0 k c0) k (ws ((List.range k).map fun q => (u.getD q 0 + s.getD q 0) % 4294967296)) ∧ MixS w g u wx ∧ wo.heap.size ≤ wx.heap.size) (fun _ i _ => 8 - (intOf i).toNat)
   case atStart => exact ⟨0, _, _, Nat.zero_le _, rfl, rfl, HR0.out, HA1.out, HB0.out.size⟩
   case round =>
    obtain ⟨k, A0, c0, hk, rfl, rfl, how, hx, hz⟩ := hrel
    by_cases hlk : k < 8
    ·have p1 := (hx.wd HU.out hlk).1
     obtain ⟨b3, o3, e3, hz3, p3⟩ := (HRA.out.below hx.below).wd (k := k) (by rw [HS.out.1]; omega)
     cases e3
     have B1 : (k : Int) < 8 := by omega
     have HOW := Lib.hid how
     have HX := Lib.hid hx
     clear how hx
     have hfp : oa + k = oa + k := rfl
     have hgo : g < wo.heap.size := by
      obtain ⟨b, off, h1, h2, h3, h4, _⟩ := HA.out.v.at_ (j := 0) (by rw [ws_len, HU.out.1]; omega)
      cases h1
      omega
     have hz8 : wo.heap.size ≤ wr.heap.size := hz
     have y1 := HS.out.at_ hlk
     have e4 : s[k]'(by rw [HS.out.1]; omega) = s.getD k 0 := by rw [List.getD_eq_getElem?_getD, List.getElem?_eq_getElem]; rfl
     rw [e4] at p3
     have hmr : Hid (ws ((List.range (k + 1)).map fun q => (u.getD q 0 + s.getD q 0) % 4294967296) = ws ((List.range k).map fun q => (u.getD q 0 + s.getD q 0) % 4294967296) ++ [.int .u32 ((s.getD k 0 + u.getD k 0) % 4294967296)]) := by
      rw [Hid, List.range_succ, List.map_append, ws_app, Int.add_comm (s.getD k 0)]; rfl
     clear e4 hfp
     generalize u.getD k 0 = y2 at *
     generalize s.getD k 0 = y3 at *
     obtain ⟨i0, hi0, hz0, hz1, hz2⟩ := info_parts info_word
     have hne1 := own_ne' HOW.out hgo
     have hne2 := own_ne' HOW.out (show ba < wo.heap.size by omega)
     generalize hrw : (ws ((List.range k).map fun q => (u.getD q 0 + s.getD q 0) % 4294967296)) = rw0 at *
     have HRW := Lib.hid hrw
     clear hrw
     go_wp2
     go_region_held3 (fun w' => w'.cell? ⟨g, k, none⟩ = some (.int .u32 y2) ∧ w'.cell? ⟨ba, oa + k, none⟩ = some (.int .u32 y3))
      (first
        | go_keep
        | (go_split_ands
           refine ⟨?_, ?_⟩
           ·(rw [hgrow.cell_far _ (by simp; omega) hne1]; assumption)
           ·(rw [hgrow.cell_far _ (by simp; omega) hne2]; assumption)))
      ((refine step_append_lies _ (by rfl) _ _ _ (by rfl) wo.heap.size 174 i0 _ 1 4 Try.underlying184 hi0 hz0 hz1 hz2 rfl (by omega) (.slice A0 k c0) k rw0 (by rfl) ((HOW.out.alloc _).drew)
         ⟨wr.heap.size, 0, none⟩ 1 1 [.int .u32 ((y3 + y2) % 4294967296)] (by rfl) (by rfl) (World.news_of_block (cs := #[.int .u32 ((y3 + y2) % 4294967296)]) (t := 174) (fr := (0, 0)) (heap_alloc_new wr _)) (by simp [Value.oneCell'])
         (by omega) (by unfold maxLen; omega) (by omega) (by simp; omega) (wr.heap.size + 1) (by simp) ?_; intro gg cap w1 hown1 hgrow hat hlt))
     have hon := grown_only ((HOW.out.alloc _).drew) hgrow
     rw [← hmr.out] at hown1
     have HO9 := Lib.hid hown1
     have hwo := HA.out.below.size
     have HX9 : Hid (MixS w g u w1 ∧ wo.heap.size ≤ w1.heap.size) := by
      refine ⟨⟨below_only ((HX.out.below.alloc (by omega) _).drew) hon hwo (by simp; omega), HX.out.le, ((HX.out.v.alloc _).drew).only hon (by omega)⟩, ?_⟩
      have := hon.size
      simp at this
      omega
     rename_i hHeld
     clear hown1 hgrow hat hon hHeld p1 p3 hmr HRW HOW HX hne1 hne2 hi0 hz0 hz1 hz2
     go_wp2
     go_roundw
     case rel => exact ⟨k + 1, _, _, by omega, by go_num, rfl, HO9.out, HX9.out.1, HX9.out.2⟩
     case measure => simp [intOf]; omega
    ·obtain rfl : k = 8 := by omega
     have hr := (Own.of_ownsRow how).rd
     have HB9 := Lib.hid hx.below
     go_wp2
     refine bodyPost_ret (v := .tuple #[.slice A0 8 c0, .bool true]) (by simp [results, Try.results159, go_sem]) rfl ?_
     refine ⟨A0, c0, rfl, HB9.out, ?_⟩
     rw [mixAll1, HUE.out, ← addW_all s u HU.out.1]
     exact hr.mono hwz (Nat.le_refl _) (Nat.le_refl _)
end Go.Proofs.Ytoccjgcokffkbaa
namespace Go.Proofs.Ytoccjgcokffkbaa
set_option linter.unusedVariables false
set_option linter.unusedSimpArgs false
open Go.RowKit
theorem blockAt_extract (t : ByteArray) (a : Nat) (h : a + 64 ≤ t.size) : blockAt (t.extract a (a + 64)) 0 = blockAt t a := by
 apply List.map_congr_left
 intro i hi
 rw [List.mem_range] at hi
 rw [wAt_extract t a (a + 64) (0 + 4 * i) (by omega) (by omega), Nat.zero_add]
set_option maxRecDepth 100000 in
set_option maxHeartbeats 400000 in
theorem l02Mixed_c (A : Option Addr) (c lo hi : Nat) (s : List Int) (t : ByteArray) (w : World) (hs : Wds 8 s) (ht : t.size ≤ 100000) (hA : Rd w lo hi A (ws s)) :
  Calls Try.prog 147 #[.slice A 8 c, .string t] w fun e w' => ∃ A' c', e = .returned (.slice A' 8 c') ∧ Below w.heap.size w w' ∧ Rd w' 0 w'.heap.size A' (ws (mixText s t (t.size / 64))) := by
 have HS := Lib.hid hs
 have HA := Lib.hid hA.base
 have ht2 : (t.size : Int) ≤ 100000 := by omega
 clear hs hA
 go_enter Try.func147, Try.ntmps147
 go_wp2
 go_loopw [0, 5] (fun v i wx => ∃ (k : Nat) (A0 : Option Addr) (c0 : Nat), 64 * k ≤ t.size ∧ i = .int .i64 (64 * k : Nat) ∧ v = .slice A0 8 c0 ∧ Below w.heap.size w wx ∧ Rd wx 0 wx.heap.size A0 (ws (mixText s t k))) (fun _ i _ => t.size - (intOf i).toNat)
 case atStart => exact ⟨0, A, c, by omega, rfl, rfl, Below.refl _ _, HA.out⟩
 case round =>
  obtain ⟨k, A0, c0, hk, rfl, rfl, hb, hx⟩ := hrel
  have HV : Hid (Wds 8 (mixText s t k)) := mixText_w HS.out t k
  have HMK : Hid (mixText s t (k + 1) = mixAll1 (mixText s t k) (blockAt t (64 * k))) := Lib.hid rfl
  have HB := Lib.hid hb
  have HX := Lib.hid hx
  obtain ⟨m, hm⟩ : ∃ m, m = 64 * k := ⟨_, rfl⟩
  rw [← hm] at HMK
  rw [← hm]
  have HM := Lib.hid hm
  have hk2 : m ≤ t.size := by omega
  clear hb hx hk
  by_cases h64 : m + 64 ≤ t.size
  ·have hkk : k + 1 ≤ t.size / 64 := by omega
   have hbe := blockAt_extract t m h64
   have hbw := blockAt_wds t m
   have hse : (t.extract m (m + 64)).size = 64 := by rw [ByteArray.size_extract]; omega
   have HW := fun W => specWordsOf_c (t.extract m (m + 64)) W hse
   rw [hbe] at HW
   have HW2 := Lib.hid HW
   have HBW := Lib.hid hbw
   have h64i : (m : Int) + 64 ≤ t.size := by omega
   generalize blockAt t m = bl at *
   clear hm HW hbe hbw hse
   go_wp2_with fail
   refine (HW2.out _).mono ?_
   rintro e w1 ⟨A1, c1, rfl, hb1, hr1⟩
   have HX1 := Lib.hid (HX.out.below hb1)
   have HR1 := Lib.hid hr1
   have HB1 := Lib.hid (below_then HB.out hb1 HB.out.size)
   clear hb1 hr1 HX HB
   go_wp2_with fail
   refine (specMixIn_c A0 A1 c0 c1 _ _ _ _ _ bl _ HV.out HBW.out HX1.out HR1.out).mono ?_
   rintro e w2 ⟨A2, c2, rfl, hb2, hr2⟩
   have HR2 := Lib.hid hr2
   have HB2 := Lib.hid (below_then HB1.out hb2 HB1.out.size)
   clear hb2 hr2 HX1 HB1
   go_wp2
   go_roundw
   case rel =>
    have := HM.out
    refine ⟨k + 1, A2, c2, by omega, ?_, rfl, HB2.out, ?_⟩
    ·rw [show 64 * (k + 1) = m + 64 by omega]; rfl
    ·rw [HMK.out]; exact HR2.out.base
   case measure => simp [intOf]; omega
  ·have hkk : k = t.size / 64 := by omega
   have h64i : ¬ (m : Int) + 64 ≤ t.size := by omega
   have HKK := Lib.hid hkk
   clear hm hkk
   go_wp2
   go_ret
   exact ⟨A0, ⟨c0, rfl⟩, HB.out, by rw [← HKK.out]; exact HX.out⟩
end Go.Proofs.Ytoccjgcokffkbaa
namespace Go.Proofs.Ytoccjgcokffkbaa
set_option linter.unusedVariables false
set_option linter.unusedSimpArgs false
open Go.RowKit
set_option maxRecDepth 100000 in
set_option maxHeartbeats 400000 in
theorem specDigest_c (width tag : Int) (t : ByteArray) (w : World) (ht : t.size ≤ maxLen) : Calls Try.prog 120 #[.int .i64 width, .int .i64 tag, .string t] w fun e w' => e = .returned (.tuple #[.string (digM width tag t), .bool (digOk width tag t)]) ∧ Below w.heap.size w w' := by
 unfold maxLen at ht
 have hbad : digOk width tag t = false → (.tuple #[.string (digM width tag t), .bool (digOk width tag t)] : Value) = .tuple #[.string ⟨#[]⟩, .bool false] := fun h => by rw [digM, h]; rfl
 have HBAD := Lib.hid hbad
 clear hbad
 go_enter Try.func120, Try.ntmps120
 go_wp2_with fail
 refine (specStartOf_c tag _).mono ?_
 rintro e w1 ⟨A1, n1, c1, rfl, hb1, hr1⟩
 have HB1 := Lib.hid hb1
 have HR1 := Lib.hid hr1
 clear hb1 hr1
 rcases (show t.size ≤ 4000 ∨ 4000 < t.size by omega) with h3 | h3
 ·go_wp2_with fail
  refine (specPadOf_c t.size _ h3).mono ?_
  rintro e w2 ⟨rfl, hb2⟩
  have HB2 := Lib.hid (below_then HB1.out hb2 HB1.out.size)
  have HR2 : Hid (inR tag 0 255 = true → n1 = 8 ∧ Rd w2 0 w2.heap.size A1 (ws (firstW tag))) := fun h => ⟨(HR1.out h).1, ((HR1.out h).2.below hb2).base⟩
  clear hb2 HB1 HR1
  go_wp2_with fail
  refine (l02Width_c width _).mono ?_
  rintro e w3 ⟨rfl, rfl⟩
  rcases hq1 : inR width 1 32 with _ | _
  ·have hd : digOk width tag t = false := by rw [digOk, hq1]; rfl
   have HD := Lib.hid (HBAD.out hd)
   go_wp2
   refine bodyPost_ret (v := .tuple #[.string ⟨#[]⟩, .bool false]) (by simp [results, Try.results120, go_sem]) rfl ?_
   exact ⟨by rw [HD.out], HB2.out⟩
  ·have HQ1 := Lib.hid hq1
   clear hq1
   rcases hq2 : inR tag 0 255 with _ | _
   ·have hd : digOk width tag t = false := by rw [digOk, HQ1.out, hq2]; rfl
    have HD := Lib.hid (HBAD.out hd)
    go_wp2
    refine bodyPost_ret (v := .tuple #[.string ⟨#[]⟩, .bool false]) (by simp [results, Try.results120, go_sem]) rfl ?_
    exact ⟨by rw [HD.out], HB2.out⟩
   ·obtain ⟨hn8, hR⟩ := HR2.out hq2
    subst hn8
    have HQ2 := Lib.hid hq2
    clear hq2 HR2
    have hd : digOk width tag t = true := by rw [digOk, HQ1.out, HQ2.out, decide_eq_true h3]; rfl
    obtain ⟨wi, rfl⟩ : ∃ n : Nat, width = n := ⟨width.toNat, by have := inR_true.1 HQ1.out; omega⟩
    have hr := inR_true.1 HQ2.out
    have hwi : wi ≤ 32 := by have := inR_true.1 HQ1.out; omega
    have hm : digM wi tag t = digT wi tag t := by rw [digM, hd]; rfl
    have hv : digT wi tag t = chainT wi (mixText (firstW tag) (t ++ padT t.size) ((t ++ padT t.size).size / 64)) := by rw [digT, Int.toNat_natCast]
    have HV := Lib.hid (hm.trans hv)
    have HD := Lib.hid hd
    have HRR := Lib.hid hR
    clear hd hm hv HBAD hR
    have hpz : (padT t.size).size ≤ 80 := by rw [padT_size]; omega
    have hts : (t ++ padT t.size).size ≤ 5000 := by rw [ByteArray.size_append]; omega
    have hca := fun (W : World) => run_string_add_sum (P := Try.prog) W t (padT t.size) (by omega)
    have hMX := fun W h => l02Mixed_c A1 c1 0 w2.heap.size (firstW tag) (t ++ padT t.size) W (firstW_wds tag) (by omega) h
    have hmw := mixText_w (firstW_wds tag) (t ++ padT t.size) ((t ++ padT t.size).size / 64)
    have HMW := Lib.hid hmw
    have HMX := Lib.hid hMX
    clear hmw hMX
    generalize padT t.size = pd at *
    generalize t ++ pd = tt at *
    go_wp2_with fail
    refine (HMX.out _ HRR.out).mono ?_
    rintro e w4 ⟨A4, c4, rfl, hb4, hr4⟩
    have HB4 := Lib.hid (below_then HB2.out hb4 HB2.out.size)
    have HR4 := Lib.hid hr4
    clear hb4 HB2 HMX HRR hr4
    go_wp2_with fail
    refine (l02First_c wi A4 c4 _ _ _ _ hwi HMW.out HR4.out).mono ?_
    rintro e w5 ⟨rfl, hb5⟩
    have HB5 := Lib.hid (below_then HB4.out hb5 HB4.out.size)
    clear hb5 HB4
    rw [← HV.out]
    go_wp2
    refine bodyPost_ret (v := .tuple #[.string (digM wi tag t), .bool true]) (by simp [results, Try.results120, go_sem]) rfl ?_
    exact ⟨by rw [HD.out], HB5.out⟩
 ·have hd : digOk width tag t = false := by rw [digOk, decide_eq_false (by omega), Bool.and_false]
  have HD := Lib.hid (HBAD.out hd)
  go_wp2_with fail
  refine (specPadOf_no t.size _ h3).mono ?_
  rintro e w2 ⟨rfl, hb2⟩
  have HB2 := Lib.hid (below_then HB1.out hb2 HB1.out.size)
  clear hb2 HB1 HR1
  go_wp2_with fail
  refine (l02Width_c width _).mono ?_
  rintro e w3 ⟨rfl, rfl⟩
  generalize inR width 1 32 = q1 at *
  generalize inR tag 0 255 = q2 at *
  cases q1 <;> cases q2 <;> go_wp2 <;> (refine bodyPost_ret (v := .tuple #[.string ⟨#[]⟩, .bool false]) (by simp [results, Try.results120, go_sem]) rfl ?_) <;> exact ⟨by rw [HD.out], HB2.out⟩
end Go.Proofs.Ytoccjgcokffkbaa
namespace Go.Proofs.Ytoccjgcokffkbaa
set_option linter.unusedVariables false
set_option linter.unusedSimpArgs false
open Go.RowKit
def octB (n : Int) : ByteArray := strOfNums [n % 256]
theorem octB_size (n : Int) : (octB n).size = 1 := rfl
def pairB (n : Int) : ByteArray := octB (n / 256) ++ octB n
theorem pairB_size (n : Int) : (pairB n).size = 2 := rfl
def divN (n : Int) : Nat → Int
 | 0 => n
 | j + 1 => divN n j / 256
def numUp (n : Int) : Nat → ByteArray
 | 0 => ByteArray.empty
 | j + 1 => octB (divN n j) ++ numUp n j
theorem numUp_size (n : Int) : ∀ j, (numUp n j).size = j
 | 0 => rfl
 | j + 1 => by rw [numUp, ByteArray.size_append, octB_size, numUp_size n j]; omega
theorem divN_bd {n : Int} (h0 : 0 ≤ n) (h : n ≤ 4611686018427387904) : ∀ j, 0 ≤ divN n j ∧ divN n j ≤ 4611686018427387904
 | 0 => ⟨h0, h⟩
 | j + 1 => by have := divN_bd h0 h j; rw [divN]; omega
theorem numUp_1 (n : Int) : numUp n 1 = octB n := ByteArray.append_empty
theorem numUp_2 (n : Int) : numUp n 2 = pairB n := by
 show octB (n / 256) ++ (octB n ++ ByteArray.empty) = _
 rw [ByteArray.append_empty]; rfl
def shortB (t : ByteArray) : ByteArray := octB t.size ++ t
set_option maxRecDepth 100000 in
set_option maxHeartbeats 400000 in
theorem l03Number_c (n : Int) (k : Nat) (w : World) (h0 : 0 ≤ n) (h : n ≤ 4611686018427387904) (hk : k ≤ 8) : Calls Try.prog 137 #[.int .i64 n, .int .i64 k] w fun e w' => e = .returned (.string (numUp n k)) ∧ Below w.heap.size w w' := by
 go_enter Try.func137, Try.ntmps137
 go_wp2
 go_loopw [0, 5, 6] (fun x s i wx => ∃ j : Nat, j ≤ k ∧ i = .int .i64 j ∧ x = .int .i64 (divN n j) ∧ s = .string (numUp n j) ∧ Below w.heap.size w wx) (fun _ _ i _ => k - (intOf i).toNat)
 case atStart => exact ⟨0, Nat.zero_le _, rfl, rfl, rfl, Below.refl _ _⟩
 case round =>
  obtain ⟨j, hj, rfl, rfl, rfl, hb⟩ := hrel
  have HB := Lib.hid hb
  have hz := hb.size
  clear hb
  by_cases hlt : j < k
  ·obtain ⟨d0, d1⟩ := divN_bd h0 h j
   have hD : divN n (j + 1) = divN n j / 256 := rfl
   have hN : numUp n (j + 1) = octB (divN n j) ++ numUp n j := rfl
   have hns := numUp_size n j
   have HD := Lib.hid hD
   have HN := Lib.hid hN
   clear hD hN
   generalize divN n j = d at *
   generalize numUp n j = s at *
   have hoct : octB d = strOfNums [d % 256] := rfl
   have hc := fun W : World => conv_1 (P := Try.prog) 22 5 9 rfl rfl rfl W (d % 256)
   have hos : (strOfNums [d % 256]).size = 1 := rfl
   have hsum := fun W : World => run_string_add_sum (P := Try.prog) W (strOfNums [d % 256]) s (by omega)
   have HO := Lib.hid hoct
   have E1 : d.tmod 256 = d % 256 := Int.tmod_eq_emod_of_nonneg d0
   have E2 : d.tdiv 256 = d / 256 := Int.tdiv_eq_ediv_of_nonneg d0
   clear hns hos hoct
   go_wp2
   go_roundw
   case rel => exact ⟨j + 1, by omega, by go_num, by rw [HD.out], by rw [HN.out, HO.out], HB.out.alloc hz _⟩
   case measure => simp [intOf]; omega
  ·obtain rfl : j = k := by omega
   go_wp2
   go_ret
   exact ⟨rfl, HB.out⟩
set_option maxRecDepth 100000 in
set_option maxHeartbeats 400000 in
theorem l03Short_c (t : ByteArray) (w : World) (h : t.size ≤ 100000000) : Calls Try.prog 141 #[.string t] w fun e w' => e = .returned (.string (shortB t)) ∧ Below w.heap.size w w' := by
 have h1 := octB_size t.size
 have hP : shortB t = octB t.size ++ t := rfl
 have HP := Lib.hid hP
 have hs := fun W => run_string_add_sum (P := Try.prog) W (octB t.size) t (by omega)
 have c1 := fun W => l03Number_c t.size 1 W (by omega) (by omega) (by omega)
 simp only [numUp_1] at c1
 have H1 := Lib.hid c1
 clear c1 h1 hP
 generalize octB t.size = o1 at *
 go_enter Try.func141, Try.ntmps141
 go_wp2_with fail
 refine (H1.out _).mono ?_
 rintro e w1 ⟨rfl, hb1⟩
 have HB1 := Lib.hid hb1
 clear hb1
 go_wp2
 go_ret
 exact ⟨by rw [HP.out]; rfl, HB1.out⟩
end Go.Proofs.Ytoccjgcokffkbaa
namespace Go.Proofs.Ytoccjgcokffkbaa
set_option linter.unusedVariables false
set_option linter.unusedSimpArgs false
open Go.RowKit
def nodeT (width : Int) (a b : ByteArray) : ByteArray := digM width 1 (a ++ b)
def emptyT (width : Int) : ByteArray := digM width 5 ByteArray.empty
theorem digM_size {width tag : Int} {t : ByteArray} (h : digOk width tag t = true) : (digM width tag t).size = width.toNat := by
 have h1 : inR width 1 32 = true := by
  rw [digOk, Bool.and_eq_true, Bool.and_eq_true] at h; exact h.1.1
 have h2 := inR_true.1 h1
 rw [digM, if_pos h, digT, chainT, ByteArray.size_extract, textT_size, (mixText_w (firstW_wds tag) _ _).1]; omega
theorem digM_le (width tag : Int) (t : ByteArray) : (digM width tag t).size ≤ 32 := by
 by_cases h : digOk width tag t = true
 ·have h1 : inR width 1 32 = true := by
   rw [digOk, Bool.and_eq_true, Bool.and_eq_true] at h; exact h.1.1
  have h2 := inR_true.1 h1
  rw [digM_size h]; omega
 ·rw [digM, if_neg h]; exact Nat.zero_le _
theorem digOk_empty (width : Int) : digOk width 5 ByteArray.empty = inR width 1 32 := by
 rw [digOk]; simp [inR]
theorem digOk_node {width : Int} {a b : ByteArray} (hw : inR width 1 32 = true) (ha : (a.size : Int) = width) (hb : (b.size : Int) = width) : digOk width 1 (a ++ b) = true := by
 have h2 := inR_true.1 hw
 have h3 : (a ++ b).size ≤ 4000 := by rw [ByteArray.size_append]; omega
 rw [digOk, hw, decide_eq_true h3]; rfl
theorem nodeT_size {width : Int} {a b : ByteArray} (hw : inR width 1 32 = true) (ha : (a.size : Int) = width) (hb : (b.size : Int) = width) : ((nodeT width a b).size : Int) = width := by
 have h2 := inR_true.1 hw
 rw [nodeT, digM_size (digOk_node hw ha hb)]; omega
theorem emptyT_size {width : Int} (hw : inR width 1 32 = true) : ((emptyT width).size : Int) = width := by
 have h2 := inR_true.1 hw
 rw [emptyT, digM_size (by rw [digOk_empty, hw])]; omega
theorem emptyT_no {width : Int} (hw : inR width 1 32 = false) : emptyT width = ⟨#[]⟩ := by
 rw [emptyT, digM, digOk_empty, hw]; rfl
/-- a frame of a text -/
def frameB (t : ByteArray) : ByteArray := pairB t.size ++ digM 4 4 t ++ t
def frameOk (t : ByteArray) : Bool := inR t.size 1 1000
def frameM (t : ByteArray) : ByteArray := if frameOk t then frameB t else ByteArray.empty
set_option maxRecDepth 100000 in
set_option maxHeartbeats 400000 in
theorem specNodeHash_c (width : Int) (a b : ByteArray) (w : World) (hw : inR width 1 32 = true) (ha : (a.size : Int) = width) (hb : (b.size : Int) = width) : Calls Try.prog 93 #[.int .i64 width, .string a, .string b] w fun e w' => e = .returned (.tuple #[.string (nodeT width a b), .bool true]) ∧ Below w.heap.size w w' := by
 have h2 := inR_true.1 hw
 have hs := fun W => run_string_add_sum (P := Try.prog) W a b (by omega)
 have hz : (a ++ b).size ≤ maxLen := by unfold maxLen; rw [ByteArray.size_append]; omega
 have hd := fun W => specDigest_c width 1 (a ++ b) W hz
 rw [digOk_node hw ha hb] at hd
 have HD := Lib.hid hd
 have hn : nodeT width a b = digM width 1 (a ++ b) := rfl
 rw [← hn] at HD
 have HQ := Lib.hid hw
 have hna : (a.size : Int) = width := ha
 clear hd hz hn hw
 subst hna
 generalize nodeT _ a b = nd at *
 go_enter Try.func93, Try.ntmps93
 go_wp2_with fail
 refine (l02Width_c _ _).mono ?_
 rintro e w1 ⟨rfl, rfl⟩
 rw [HQ.out]
 go_wp2_with fail
 refine (HD.out _).mono ?_
 rintro e w1 ⟨rfl, hb1⟩
 have HB1 := Lib.hid hb1
 clear hb1
 go_wp2
 refine bodyPost_ret (v := .tuple #[.string nd, .bool true]) (by simp [results, Try.results93, go_sem]) rfl ?_
 exact ⟨rfl, HB1.out⟩
set_option maxRecDepth 100000 in
set_option maxHeartbeats 400000 in
theorem specEmptyRoot_c (width : Int) (w : World) : Calls Try.prog 94 #[.int .i64 width] w fun e w' => e = .returned (.tuple #[.string (emptyT width), .bool (inR width 1 32)]) ∧ Below w.heap.size w w' := by
 have hd := fun W => specDigest_c width 5 ⟨#[]⟩ W (by unfold maxLen; exact Nat.zero_le _)
 have hn : digM width 5 ⟨#[]⟩ = emptyT width := rfl
 have hk : digOk width 5 ⟨#[]⟩ = inR width 1 32 := digOk_empty width
 rw [hn, hk] at hd
 have HD := Lib.hid hd
 clear hd hn hk
 generalize emptyT width = em at *
 generalize inR width 1 32 = q at *
 go_enter Try.func94, Try.ntmps94
 go_wp2_with fail
 refine (HD.out _).mono ?_
 rintro e w1 ⟨rfl, hb1⟩
 have HB1 := Lib.hid hb1
 clear hb1
 go_wp2
 refine bodyPost_ret (v := .tuple #[.string em, .bool q]) (by simp [results, Try.results94, go_sem]) rfl ?_
 exact ⟨rfl, HB1.out⟩
set_option maxRecDepth 100000 in
set_option maxHeartbeats 400000 in
theorem specFrame_c (t : ByteArray) (w : World) (ht : t.size ≤ 1048576) : Calls Try.prog 138 #[.string t] w fun e w' => e = .returned (.tuple #[.string (frameM t), .bool (frameOk t)]) ∧ Below w.heap.size w w' := by
 have HR := Lib.hid (fun W => l01In_c (t.size : Nat) 1 1000 W)
 have HO : Hid (frameOk t = inR t.size 1 1000) := Lib.hid rfl
 rcases hq : inR (t.size : Nat) 1 1000 with _ | _
 ·have hm : Hid (frameM t = ⟨#[]⟩) := by rw [Hid, frameM, frameOk, hq]; rfl
  rw [hq] at HO HR
  clear hq
  go_enter Try.func138, Try.ntmps138
  go_wp2_with fail
  refine (HR.out _).mono ?_
  rintro e w1 ⟨rfl, rfl⟩
  go_wp2
  refine bodyPost_ret (v := .tuple #[.string ⟨#[]⟩, .bool false]) (by simp [results, Try.results138, go_sem]) rfl ?_
  exact ⟨by rw [hm.out, HO.out], Below.refl _ _⟩
 ·have hsz := inR_true.1 hq
  have hm : Hid (frameM t = pairB t.size ++ digM 4 4 t ++ t) := by rw [Hid, frameM, frameOk, hq]; rfl
  rw [hq] at HO HR
  have hd := fun W => specDigest_c 4 4 t W (by unfold maxLen; omega)
  have hp := fun W => l03Number_c t.size 2 W (by omega) (by omega)
  try rw [numUp_2] at hp
  try have hp := fun W => hp W (by omega)
  have HD := Lib.hid hd
  have HP := Lib.hid hp
  have hz1 := digM_le 4 4 t
  have hz2 := pairB_size t.size
  clear hd hp hq
  generalize digM 4 4 t = dg at *
  generalize pairB t.size = pr at *
  have hs1 := fun W => run_string_add_sum (P := Try.prog) W pr dg (by omega)
  have hz3 : (pr ++ dg).size ≤ 40 := by rw [ByteArray.size_append]; omega
  obtain ⟨pd, hpd⟩ : ∃ x, x = pr ++ dg := ⟨_, rfl⟩
  rw [← hpd] at hs1 hz3
  have hs2 := fun W => run_string_add_sum (P := Try.prog) W pd t (by omega)
  have HPD := Lib.hid hpd
  clear hpd
  go_enter Try.func138, Try.ntmps138
  go_wp2_with fail
  refine (HR.out _).mono ?_
  rintro e w1 ⟨rfl, rfl⟩
  go_wp2_with fail
  refine (HD.out _).mono ?_
  rintro e w1 ⟨rfl, hb1⟩
  have HB1 := Lib.hid hb1
  clear hb1
  generalize digOk 4 4 t = q4 at *
  go_wp2_with fail
  refine (HP.out _).mono ?_
  rintro e w2 ⟨rfl, hb2⟩
  have HB2 := Lib.hid (below_then HB1.out hb2 HB1.out.size)
  clear hb2 HB1
  go_wp2
  refine bodyPost_ret (v := .tuple #[.string (pd ++ t), .bool true]) (by simp [results, Try.results138, go_sem]) rfl ?_
  exact ⟨by rw [hm.out, HO.out, HPD.out], HB2.out⟩
end Go.Proofs.Ytoccjgcokffkbaa
namespace Go.Proofs.Ytoccjgcokffkbaa
set_option linter.unusedVariables false
set_option linter.unusedSimpArgs false
open Go.RowKit
def pwN (j : Nat) : Nat := 512 / 2 ^ j
def bitN (n j : Nat) : Nat := n / pwN j % 2
def popUp (n : Nat) : Nat → Nat
 | 0 => 0
 | j + 1 => popUp n j + bitN n j
def popN (n : Nat) : Nat := popUp n 10
def popC (n : Int) : Nat := if inR n 0 512 then popN n.toNat else 0
theorem pwN_half (j : Nat) : pwN j / 2 = pwN (j + 1) := by rw [pwN, pwN, Nat.div_div_eq_div_mul, Nat.pow_succ]
theorem pwN_pos {j : Nat} (h : j < 10) : 0 < pwN j := by
 have : ∀ j, j < 10 → 0 < pwN j := by decide
 exact this j h
theorem pwN_le (j : Nat) : pwN j ≤ 512 := Nat.div_le_self _ _
theorem pwN_10 : pwN 10 = 0 := by decide
theorem bitN_le (n j : Nat) : bitN n j ≤ 1 := by unfold bitN; omega
theorem popUp_le (n : Nat) : ∀ j, popUp n j ≤ j
 | 0 => Nat.le_refl _
 | j + 1 => by have := popUp_le n j; have := bitN_le n j; rw [popUp]; omega
theorem popC_le (n : Int) : popC n ≤ 10 := by
 unfold popC; split
 ·exact popUp_le _ 10
 ·exact Nat.zero_le _
theorem ints_app2 (a b : List Int) : ints (a ++ b) = ints a ++ ints b := by rw [ints, ints, ints, List.map_append]
theorem bne_of_beq' {α : Type} [BEq α] {a b : α} {q : Bool} (h : (a == b) = q) : (a != b) = !q := by rw [bne, h]
def areH (width : Int) (l : List ByteArray) : Bool := l.all fun s => decide ((s.size : Int) = width)
theorem areH_take {width : Int} {l : List ByteArray} {k : Nat} {s : ByteArray} (h : l[k]? = some s) : areH width (l.take (k + 1)) = (areH width (l.take k) && decide ((s.size : Int) = width)) := by
 rw [take_succ h, areH, List.all_append]; simp [areH]
theorem areH_no {width : Int} {l : List ByteArray} {k : Nat} {s : ByteArray} (h : l[k]? = some s) (hs : ¬ (s.size : Int) = width) : areH width l = false := by
 rw [areH, List.all_eq_false]
 exact ⟨s, List.mem_of_getElem? h, by simp [hs]⟩
theorem areH_mem {width : Int} {l : List ByteArray} (h : areH width l = true) : ∀ s ∈ l, (s.size : Int) = width := by
 rw [areH, List.all_eq_true] at h
 intro s hs
 simpa using h s hs
def rngOk (width size : Int) (l : List ByteArray) : Bool := inR size 0 512 && decide (l.length = popC size) && (areH width l && inR width 1 32)
set_option maxRecDepth 100000 in
set_option maxHeartbeats 4000000 in
theorem specPeaksOf_c (n : Nat) (w : World) (hn : n ≤ 512) : Calls Try.prog 92 #[.int .i64 n] w fun e w' => ∃ A c, e = .returned (.slice A (popC n) c) ∧ Below w.heap.size w w' := by
 have hq : inR (n : Int) 0 512 = true := inR_true.2 ⟨by omega, by omega⟩
 have HP : Hid (popC n = popUp n 10) := Lib.hid (by rw [popC, if_pos hq]; rfl)
 have HQ := Lib.hid hq
 have hrow := row_made w 3 0
 have hbl : Below w.heap.size w (w.alloc (.cells #[] 3)) := (Below.refl _ _).alloc (Nat.le_refl _) _
 have HROW := Lib.hid hrow
 have HBL := Lib.hid hbl
 clear hq hrow hbl
 go_enter Try.func92, Try.ntmps92
 go_wp2_with fail
 refine (l04Size_c n _).mono ?_
 rintro e w1 ⟨rfl, rfl⟩
 rw [HQ.out]
 go_wp2
 go_loopw [3, 4] (fun v p wx => ∃ (j : Nat) (A0 : Option Addr) (c0 m : Nat) (q : List Int), j ≤ 10 ∧ m = popUp n j ∧ p = .int .i64 (pwN j : Nat) ∧ v = .slice A0 m c0 ∧ wx.ownsRow w.heap.size 3 1 (.slice A0 m c0) m (ints q) ∧ Below w.heap.size w wx) (fun _ p _ => (intOf p).toNat)
 case atStart => exact ⟨0, _, 0, 0, [], Nat.zero_le _, rfl, rfl, rfl, HROW.out, HBL.out⟩
 case round =>
  obtain ⟨j, A0, c0, m, q, hj, hm, rfl, rfl, how, hbr⟩ := hrel
  have HBR := Lib.hid hbr
  have HOW := Lib.hid how
  have HM := Lib.hid hm
  have hm10 : m ≤ 10 := by have := popUp_le n j; omega
  have hz := hbr.size
  clear hbr how hm
  by_cases hlt : j < 10
  ·have hpos := pwN_pos hlt
   have hle := pwN_le j
   have hhf := pwN_half j
   have HPN : Hid (popUp n (j + 1) = popUp n j + bitN n j) := Lib.hid rfl
   have hb1 := bitN_le n j
   have hbd : bitN n j = n / pwN j % 2 := rfl
   generalize pwN j = p at *
   generalize hp2 : pwN (j + 1) = p2 at *
   have HP2 := Lib.hid hp2
   have hpi : (0 : Int) < (p : Int) := by omega
   have E1 : (p : Int).tdiv 2 = p2 := by rw [Int.tdiv_eq_ediv_of_nonneg (by omega)]; omega
   have hp2b : (p2 : Int) ≤ 512 := by omega
   have HHF := Lib.hid hhf
   obtain ⟨d, hd⟩ : ∃ d, d = n / p := ⟨_, rfl⟩
   have hdn : d ≤ 512 := by rw [hd]; exact Nat.le_trans (Nat.div_le_self _ _) hn
   have E2 : (n : Int).tdiv p = d := by rw [Int.tdiv_eq_ediv_of_nonneg (by omega), hd]; exact (Int.natCast_ediv _ _).symm
   rw [← hd] at hbd
   have E3 : (d : Int).tmod 2 = (d % 2 : Nat) := by rw [Int.tmod_eq_emod_of_nonneg (by omega)]; omega
   have hdi : (d : Int) ≤ 512 := by omega
   clear hhf hp2 hd
   rcases (show d % 2 = 0 ∨ d % 2 = 1 by omega) with hb | hb
   ·have hb0 : Hid (bitN n j = 0) := Lib.hid (by omega)
    rw [hb] at E3
    clear hb hbd
    go_wp2
    go_roundw
    case rel => exact ⟨j + 1, A0, c0, m, q, by omega, by rw [HPN.out, hb0.out, HM.out]; rfl, by rw [HP2.out], rfl, HOW.out, HBR.out⟩
    case measure => simp [intOf]; have := HHF.out; omega
   ·have hb0 : Hid (bitN n j = 1) := Lib.hid (by omega)
    rw [hb] at E3
    clear hb hbd
    go_wp2_with (at_builtin; refine app1Int rfl _ _ rfl w.heap.size _ _ _ rfl (HOW.out.alloc _) wr.heap.size (p : Int) rfl (NewBox.new wr _ _) (by omega) (by first | omega | (simp; done) | (simp; omega)) ?_)
    intro v2 w2 hown2 hg2
    have hon := grown_only (HOW.out.alloc _) hg2
    obtain ⟨A2, c2, rfl, _, _, _⟩ := ownsRow_slice hown2
    have HB2 : Hid (Below w.heap.size w w2) := below_only (HBR.out.alloc HBR.out.size _) hon (Nat.le_refl _) (by simp; omega)
    rw [← ints_app2] at hown2
    have HO2 := Lib.hid hown2
    clear hown2 hg2 hon HOW
    go_wp2
    go_roundw
    case rel => exact ⟨j + 1, A2, c2, m + 1, _, by omega, by rw [HPN.out, hb0.out, HM.out], by rw [HP2.out], rfl, HO2.out, HB2.out⟩
    case measure => simp [intOf]; have := HHF.out; omega
  ·obtain rfl : j = 10 := by omega
   have HM2 : Hid (popC n = m) := Lib.hid (HP.out.trans HM.out.symm)
   rw [pwN_10]
   go_wp2
   go_ret
   exact ⟨A0, c0, by rw [HM2.out]; rfl, HBR.out⟩
set_option maxRecDepth 100000 in
set_option maxHeartbeats 400000 in
theorem l04Hashes_c (width : Int) (A : Option Addr) (c lo hi n : Nat) (l : List ByteArray) (w : World) (hr : Rd w lo hi A (strs l)) (hn : l.length = n) (hl : n ≤ 1048576) :
  Calls Try.prog 59 #[.int .i64 width, .slice A n c] w fun e w' => e = .returned (.bool (areH width l && inR width 1 32)) ∧ w = w' := by
 have HR := Lib.hid hr
 have HN := Lib.hid hn
 clear hr hn
 go_enter Try.func59, Try.ntmps59
 go_wp2
 go_loop [5] (fun i => ∃ k : Nat, k ≤ n ∧ i = .int .i64 k ∧ areH width (l.take k) = true) (fun i => n - (intOf i).toNat)
 case atStart => exact ⟨0, Nat.zero_le _, rfl, rfl⟩
 case round =>
  obtain ⟨k, hk, rfl, hup⟩ := hrel
  have HUP := Lib.hid hup
  clear hup
  by_cases hlt : k < n
  ·obtain ⟨b, off, s, rfl, hb, hks, hc⟩ := HR.out.str (k := k) (by rw [HN.out]; exact hlt)
   have hI : (k : Int) < n := by omega
   rcases hq : ((s.size : Int) == width) with _ | _
   ·have hne := bne_of_beq' hq
    have HNO := Lib.hid (areH_no hks (by simpa using hq))
    clear hks
    go_wp2
    go_ret
    exact ⟨ret_bool (by rw [HNO.out]; first | done | rfl), rfl⟩
   ·have hne := bne_of_beq' hq
    have HT := Lib.hid (areH_take (width := width) hks)
    have hdec : Hid (decide ((s.size : Int) = width) = true) := Lib.hid (by simpa using hq)
    clear hks
    go_wp2
    go_round
    case rel => exact ⟨k + 1, by omega, by go_num, by rw [HT.out, HUP.out, hdec.out]; rfl⟩
    case measure => simp [intOf]; omega
  ·obtain rfl : k = n := by omega
   have HALL : Hid (areH width l = true) := Lib.hid (by have := HUP.out; rwa [List.take_of_length_le (by rw [HN.out]; exact Nat.le_refl _)] at this)
   go_wp2_with fail
   refine (l02Width_c width _).mono ?_
   rintro e w1 ⟨rfl, rfl⟩
   go_wp2
   go_ret
   exact ⟨ret_bool (by rw [HALL.out]; rfl), rfl⟩
set_option maxRecDepth 100000 in
set_option maxHeartbeats 4000000 in
theorem specRangeOk_c (width size : Int) (A : Option Addr) (c lo hi n : Nat) (l : List ByteArray) (w : World) (hr : Rd w lo hi A (strs l)) (hn : l.length = n) (hl : n ≤ 1048576) :
  Calls Try.prog 91 #[.int .i64 width, .agg #[.int .i64 size, .slice A n c]] w fun e w' => e = .returned (.bool (rngOk width size l)) ∧ Below w.heap.size w w' := by
 have HDEF : Hid (rngOk width size l = (inR size 0 512 && decide (n = popC size) && (areH width l && inR width 1 32))) := Lib.hid (by rw [rngOk, hn])
 have HAR := Lib.hid (fun W (h : Rd W 0 W.heap.size A (strs l)) => l04Hashes_c width A c 0 W.heap.size n l W h hn hl)
 have HR := Lib.hid hr.base
 have HSZ := Lib.hid (fun W => l04Size_c size W)
 clear hr hn
 generalize rngOk width size l = rk at *
 generalize (areH width l && inR width 1 32) = ah at *
 have HB : Hid (Below w.heap.size w w) := Below.refl _ _
 go_enter Try.func91, Try.ntmps91
 go_wp2_with fail
 refine wp_named (fun w1 hw => ?_)
 have hz1 : w.heap.size + 1 ≤ w1.heap.size := by rw [hw]; first | omega | (simp [World.setCell]; done) | (simp [World.setCell]; omega)
 have hzz1 : w.heap.size ≤ w1.heap.size := by omega
 have hbn : Below w.heap.size w w1 := by rw [hw]; exact (by ((repeat (first | ((with_reducible refine Below.alloc ?_ ?_ _); rotate_left 1; (focus (first | omega | (simp; done) | (simp; omega)))) | (with_reducible refine Below.drew ?_) | ((with_reducible refine Below.setCell ?_ ?_ _); rotate_left 1; (focus (first | omega | (simp; done) | (simp; omega)))))); exact Below.refl _ _))
 replace HB := Lib.hid (below_then HB.out hbn HB.out.size)
 clear hbn
 have HXr : Hid (NewBox w1 (w.heap.size) [.int .i64 size, .slice A n c]) := by rw [Hid, hw]; exact ⟨by first | omega | (simp [World.setCell]; done) | (simp [World.setCell]; omega), fun o => by rcases o with _ | _ | o <;> go_simp, fun o => by go_simp⟩
 have hxr := HXr.out.2.1
 have hfr := HXr.out.2.2
 have hkr := HXr.out.1
 clear hw
 rcases hq2 : inR size 0 512 with _ | _
 ·have HDN : Hid (rk = false) := Lib.hid (by rw [HDEF.out, hq2]; rfl)
  rw [hq2] at HSZ
  clear hq2
  have l0 : ∀ v : Later w1, v.v.cell? ⟨w.heap.size, 0, none⟩ = some (.int .i64 size) := fun v => (later_cell v _ _ hkr).trans (hxr 0)
  refine wp_region_later (by kernel_rfl) (by kernel_rfl) ?_
  repeat (go_big_quiet_step ((exact later_pure (HSZ.out _))))
  refine wpQuiet_nil ?_
  intro w9 h9
  have HB9 := Lib.hid (below_then HB.out (later_below h9) HB.out.size)
  clear l0 h9
  go_wp2
  go_ret
  exact ⟨by rw [HDN.out]; rfl, HB9.out⟩
 ·have hsz := inR_true.1 hq2
  rw [hq2] at HDEF HSZ
  clear hq2
  have HPK : Hid (∀ W, Calls Try.prog 92 #[.int .i64 size] W fun e w' => ∃ A c, e = .returned (.slice A (popC size) c) ∧ Below W.heap.size W w') := Lib.hid (fun W => by
   have := specPeaksOf_c size.toNat W (by omega)
   rwa [show ((size.toNat : Nat) : Int) = size by omega] at this)
  have hpl := popC_le size
  generalize popC size = pz at *
  rcases (show n = pz ∨ ¬ n = pz by omega) with hpz | hpz
  ·have HDN : Hid (rk = ah) := Lib.hid (by rw [HDEF.out, hpz]; simp)
   subst hpz
   go_region_held3 (fun w' => (∀ o, w'.cell? ⟨w.heap.size, o, none⟩ = [.int .i64 size, .slice A n c][o]?))
    (first | exact hxr)
    (first
      | (go_at_call 119
         with_reducible refine (HSZ.out _).mono ?_
         rintro e w10 ⟨rfl, rfl⟩)
      | (go_at_call 92
         with_reducible refine (HPK.out _).mono ?_
         rintro e w9 ⟨A9, c9, rfl, hb9⟩
         replace HB : Hid (Below w.heap.size w w9) := Lib.hid (below_then (by first | exact HB.out | exact HB.out.drew) hb9 (by exact HB.out.size))
         replace hxr : ∀ o, w9.cell? ⟨w.heap.size, o, none⟩ = [.int .i64 size, .slice A n c][o]? := fun o => (hb9.cell (p := ⟨w.heap.size, o, none⟩) (by exact hkr)).trans (hxr o)
         replace hkr : w.heap.size < w9.heap.size := Nat.lt_of_lt_of_le (by exact hkr) hb9.size
         clear hb9)
      | (go_at_call 59
         with_reducible refine (HAR.out _ (HR.out.below (by first | exact HB.out | exact HB.out.drew)).base).mono ?_
         rintro e w10 ⟨rfl, rfl⟩))
   go_wp2
   go_ret
   exact ⟨by rw [HDN.out]; rfl, HB.out⟩
  ·have HDN : Hid (rk = false) := Lib.hid (by rw [HDEF.out, decide_eq_false hpz]; rfl)
   have hni : ¬ (n : Int) = (pz : Int) := by omega
   have hd1 : ((n : Int) == (pz : Int)) = false := by simpa using hni
   refine wp_region_held_drew (S := fun w' => (∀ o, w'.cell? ⟨w.heap.size, o, none⟩ = [.int .i64 size, .slice A n c][o]?)) (by kernel_rfl) ?_ (fun hHeld => ?_)
   ·exact hxr
   refine wpAnyH_take (i := 0) (v := ?_) rfl (by kernel_rfl) (by kernel_rfl) (by kernel_rfl) (fun _ _ _ h => h) (Or.inl ⟨by rfl, ?_⟩) (by assumption) ?_
   rotate_left 1
   ·((intro wS hSw; (try dsimp only at hSw); go_simp) <;> (try with_reducible rfl))
   try simp only [Act.put, List.getElem_toArray, List.getElem_cons_zero, List.getElem_cons_succ, List.setIfInBounds_toArray, List.set_cons_zero, List.set_cons_succ]
   refine wpAnyH_take (i := 1) (v := ?_) rfl (by kernel_rfl) (by kernel_rfl) (by kernel_rfl) (fun _ _ _ h => h) (Or.inl ⟨by rfl, ?_⟩) (by assumption) ?_
   rotate_left 1
   ·((intro wS hSw; (try dsimp only at hSw); go_simp) <;> (try with_reducible rfl))
   try simp only [Act.put, List.getElem_toArray, List.getElem_cons_zero, List.getElem_cons_succ, List.setIfInBounds_toArray, List.set_cons_zero, List.set_cons_succ]
   refine wpAnyH_ready (rs := [2]) (by kernel_rfl) (by simp) ?_
   refine AllReadyH.cons rfl (fun K hK => ?_) AllReadyH.nil
   go_simp
   go_at_call 119
   with_reducible refine (HSZ.out _).mono ?_
   rintro e w10 ⟨rfl, rfl⟩
   show K _ _
   refine hK.out _ _ ?_ (fun hHeld => ?_)
   ·exact hxr
   clear hK K
   try simp only [Act.put, List.getElem_toArray, List.getElem_cons_zero, List.getElem_cons_succ, List.setIfInBounds_toArray, List.set_cons_zero, List.set_cons_succ]
   refine wpAnyH_take (i := 3) (v := ?_) rfl (by kernel_rfl) (by kernel_rfl) (by kernel_rfl) (fun _ _ _ h => h) (Or.inl ⟨by rfl, ?_⟩) (by assumption) ?_
   rotate_left 1
   ·((intro wS hSw; (try dsimp only at hSw); go_simp) <;> (try with_reducible rfl))
   try simp only [Act.put, List.getElem_toArray, List.getElem_cons_zero, List.getElem_cons_succ, List.setIfInBounds_toArray, List.set_cons_zero, List.set_cons_succ]
   refine wpAnyH_take (i := 4) (v := ?_) rfl (by kernel_rfl) (by kernel_rfl) (by kernel_rfl) (fun _ _ _ h => h) (Or.inl ⟨by rfl, ?_⟩) (by assumption) ?_
   rotate_left 1
   ·((intro wS hSw; (try dsimp only at hSw); go_simp) <;> (try with_reducible rfl))
   try simp only [Act.put, List.getElem_toArray, List.getElem_cons_zero, List.getElem_cons_succ, List.setIfInBounds_toArray, List.set_cons_zero, List.set_cons_succ]
   refine wpAnyH_take (i := 5) (v := ?_) rfl (by kernel_rfl) (by kernel_rfl) (by kernel_rfl) (fun _ _ _ h => h) (Or.inl ⟨by rfl, ?_⟩) (by assumption) ?_
   rotate_left 1
   ·((intro wS hSw; (try dsimp only at hSw); go_simp) <;> (try with_reducible rfl))
   try simp only [Act.put, List.getElem_toArray, List.getElem_cons_zero, List.getElem_cons_succ, List.setIfInBounds_toArray, List.set_cons_zero, List.set_cons_succ]
   refine wpAnyH_take (i := 6) (v := ?_) rfl (by kernel_rfl) (by kernel_rfl) (by kernel_rfl) (fun _ _ _ h => h) (Or.inl ⟨by rfl, ?_⟩) (by assumption) ?_
   rotate_left 1
   ·((intro wS hSw; (try dsimp only at hSw); go_simp) <;> (try with_reducible rfl))
   try simp only [Act.put, List.getElem_toArray, List.getElem_cons_zero, List.getElem_cons_succ, List.setIfInBounds_toArray, List.set_cons_zero, List.set_cons_succ]
   refine wpAnyH_take (i := 7) (v := ?_) rfl (by kernel_rfl) (by kernel_rfl) (by kernel_rfl) (fun _ _ _ h => h) (Or.inl ⟨by rfl, ?_⟩) (by assumption) ?_
   rotate_left 1
   ·((intro wS hSw; (try dsimp only at hSw); go_simp) <;> (try with_reducible rfl))
   try simp only [Act.put, List.getElem_toArray, List.getElem_cons_zero, List.getElem_cons_succ, List.setIfInBounds_toArray, List.set_cons_zero, List.set_cons_succ]
   refine wpAnyH_take (i := 8) (v := ?_) rfl (by kernel_rfl) (by kernel_rfl) (by kernel_rfl) (fun _ _ _ h => h) (Or.inl ⟨by rfl, ?_⟩) (by assumption) ?_
   rotate_left 1
   ·((intro wS hSw; (try dsimp only at hSw); go_simp) <;> (try with_reducible rfl))
   try simp only [Act.put, List.getElem_toArray, List.getElem_cons_zero, List.getElem_cons_succ, List.setIfInBounds_toArray, List.set_cons_zero, List.set_cons_succ]
   refine wpAnyH_ready (rs := [9]) (by kernel_rfl) (by simp) ?_
   refine AllReadyH.cons rfl (fun K hK => ?_) AllReadyH.nil
   go_simp
   go_at_call 92
   with_reducible refine (HPK.out _).mono ?_
   rintro e w9 ⟨A9, c9, rfl, hb9⟩
   replace HB : Hid (Below w.heap.size w w9) := Lib.hid (below_then (by first | exact HB.out | exact HB.out.drew) hb9 (by exact HB.out.size))
   replace hxr : ∀ o, w9.cell? ⟨w.heap.size, o, none⟩ = [.int .i64 size, .slice A n c][o]? := fun o => (hb9.cell (p := ⟨w.heap.size, o, none⟩) (by exact hkr)).trans (hxr o)
   clear hb9
   show K _ _
   refine hK.out _ _ ?_ (fun hHeld => ?_)
   ·exact hxr
   clear hK K
   try simp only [Act.put, List.getElem_toArray, List.getElem_cons_zero, List.getElem_cons_succ, List.setIfInBounds_toArray, List.set_cons_zero, List.set_cons_succ]
   refine wpAnyH_take (i := 10) (v := ?_) rfl (by kernel_rfl) (by kernel_rfl) (by kernel_rfl) (fun _ _ _ h => h) (Or.inl ⟨by rfl, ?_⟩) (by assumption) ?_
   rotate_left 1
   ·((intro wS hSw; (try dsimp only at hSw); go_simp) <;> (try with_reducible rfl))
   try simp only [Act.put, List.getElem_toArray, List.getElem_cons_zero, List.getElem_cons_succ, List.setIfInBounds_toArray, List.set_cons_zero, List.set_cons_succ]
   refine wpAnyH_take (i := 11) (v := ?_) rfl (by kernel_rfl) (by kernel_rfl) (by kernel_rfl) (fun _ _ _ h => h) (Or.inl ⟨by rfl, ?_⟩) (by assumption) ?_
   rotate_left 1
   ·((intro wS hSw; (try dsimp only at hSw); go_simp) <;> (try with_reducible rfl))
   try simp only [Act.put, List.getElem_toArray, List.getElem_cons_zero, List.getElem_cons_succ, List.setIfInBounds_toArray, List.set_cons_zero, List.set_cons_succ]
   refine wpAnyH_take (i := 12) (v := ?_) rfl (by kernel_rfl) (by kernel_rfl) (by kernel_rfl) (fun _ _ _ h => h) (Or.inl ⟨by rfl, ?_⟩) (by assumption) ?_
   rotate_left 1
   ·((intro wS hSw; (try dsimp only at hSw); go_simp) <;> (try with_reducible rfl))
   try simp only [Act.put, List.getElem_toArray, List.getElem_cons_zero, List.getElem_cons_succ, List.setIfInBounds_toArray, List.set_cons_zero, List.set_cons_succ]
   refine wpAnyH_take (i := 13) (v := ?_) rfl (by kernel_rfl) (by kernel_rfl) (by kernel_rfl) (fun _ _ _ h => h) (Or.inl ⟨by rfl, ?_⟩) (by assumption) ?_
   rotate_left 1
   ·((intro wS hSw; (try dsimp only at hSw); go_simp) <;> (try with_reducible rfl))
   try simp only [Act.put, List.getElem_toArray, List.getElem_cons_zero, List.getElem_cons_succ, List.setIfInBounds_toArray, List.set_cons_zero, List.set_cons_succ]
   refine wpAnyH_take (i := 14) (v := undef) rfl (by kernel_rfl) (by kernel_rfl) (by kernel_rfl) (fun _ _ _ h => h) (Or.inr ⟨by rfl, rfl⟩) (by assumption) ?_
   try simp only [Act.put, List.getElem_toArray, List.getElem_cons_zero, List.getElem_cons_succ, List.setIfInBounds_toArray, List.set_cons_zero, List.set_cons_succ]
   refine wpAnyH_take (i := 15) (v := undef) rfl (by kernel_rfl) (by kernel_rfl) (by kernel_rfl) (fun _ _ _ h => h) (Or.inr ⟨by rfl, rfl⟩) (by assumption) ?_
   try simp only [Act.put, List.getElem_toArray, List.getElem_cons_zero, List.getElem_cons_succ, List.setIfInBounds_toArray, List.set_cons_zero, List.set_cons_succ]
   refine wpAnyH_take (i := 16) (v := undef) rfl (by kernel_rfl) (by kernel_rfl) (by kernel_rfl) (fun _ _ _ h => h) (Or.inr ⟨by rfl, rfl⟩) (by assumption) ?_
   try simp only [Act.put, List.getElem_toArray, List.getElem_cons_zero, List.getElem_cons_succ, List.setIfInBounds_toArray, List.set_cons_zero, List.set_cons_succ]
   refine wpAnyH_take (i := 17) (v := undef) rfl (by kernel_rfl) (by kernel_rfl) (by kernel_rfl) (fun _ _ _ h => h) (Or.inr ⟨by rfl, rfl⟩) (by assumption) ?_
   try simp only [Act.put, List.getElem_toArray, List.getElem_cons_zero, List.getElem_cons_succ, List.setIfInBounds_toArray, List.set_cons_zero, List.set_cons_succ]
   refine wpAnyH_take (i := 18) (v := ?_) rfl (by kernel_rfl) (by kernel_rfl) (by kernel_rfl) (fun _ _ _ h => h) (Or.inl ⟨by rfl, ?_⟩) (by assumption) ?_
   rotate_left 1
   ·((intro wS hSw; (try dsimp only at hSw); go_simp) <;> (try with_reducible rfl))
   try simp only [Act.put, List.getElem_toArray, List.getElem_cons_zero, List.getElem_cons_succ, List.setIfInBounds_toArray, List.set_cons_zero, List.set_cons_succ]
   refine wpAnyH_take (i := 19) (v := ?_) rfl (by kernel_rfl) (by kernel_rfl) (by kernel_rfl) (fun _ _ _ h => h) (Or.inl ⟨by rfl, ?_⟩) (by assumption) ?_
   rotate_left 1
   ·((intro wS hSw; (try dsimp only at hSw); go_simp) <;> (try with_reducible rfl))
   try simp only [Act.put, List.getElem_toArray, List.getElem_cons_zero, List.getElem_cons_succ, List.setIfInBounds_toArray, List.set_cons_zero, List.set_cons_succ]
   refine wpAnyH_done (by kernel_rfl) ?_ _
   go_wp2
   go_ret
   exact ⟨by rw [HDN.out]; first | rfl | simp, HB.out⟩
end Go.Proofs.Ytoccjgcokffkbaa
namespace Go.Proofs.Ytoccjgcokffkbaa
set_option linter.unusedVariables false
set_option linter.unusedSimpArgs false
open Go.RowKit
/-- a byte of a name -/
def nb (x : Int) : Bool := (decide (97 ≤ x) && decide (x ≤ 122)) || (decide (48 ≤ x) && decide (x ≤ 57)) || decide (x = 45)
def nbs (l : List UInt8) : Bool := l.all fun b => nb (b.toNat : Int)
def nameOk (s : ByteArray) : Bool := inR s.size 1 20 && nbs s.data.toList
theorem take_snoc (s : ByteArray) (k : Nat) (h : k < s.size) : s.data.toList.take (k + 1) = s.data.toList.take k ++ [s[k]] := by
 have hl : k < s.data.toList.length := by rw [Array.length_toList]; exact h
 rw [List.take_succ_eq_append_getElem hl]; rfl
theorem nbs_snoc {s : ByteArray} {k : Nat} (h : k < s.size) (h1 : nbs (s.data.toList.take k) = true) (h2 : nb ((s[k]'h).toNat : Int) = true) : nbs (s.data.toList.take (k + 1)) = true := by
 rw [take_snoc s k h, nbs, List.all_append, ← nbs, h1, List.all_cons, h2]; rfl
theorem nbs_bad {s : ByteArray} {k : Nat} (h : k < s.size) (h2 : nb ((s[k]'h).toNat : Int) = false) : nbs s.data.toList = false := by
 have hl : k < s.data.toList.length := by rw [Array.length_toList]; exact h
 rw [nbs, List.all_eq_false]
 exact ⟨s.data.toList[k]'hl, List.getElem_mem _, by rw [Bool.not_eq_true]; exact h2⟩
theorem nbs_all {s : ByteArray} (h1 : nbs (s.data.toList.take s.size) = true) : nbs s.data.toList = true := by
 rwa [List.take_of_length_le (by rw [Array.length_toList]; exact Nat.le_refl _)] at h1
set_option maxRecDepth 100000 in
set_option maxHeartbeats 400000 in
theorem implNameOk_c (s : ByteArray) (w : World) (hs : s.size ≤ maxLen) : Calls Try.prog 50 #[.string s] w fun e w' => e = .returned (.bool (nameOk s)) ∧ w = w' := by
 unfold maxLen at hs
 go_enter Try.func50, Try.ntmps50
 go_wp2
 go_loop [3] (fun i => ∃ k : Nat, k ≤ s.size ∧ i = .int .i64 k ∧ nbs (s.data.toList.take k) = true) (fun i => s.size - (intOf i).toNat)
 case atStart => exact ⟨0, Nat.zero_le _, rfl, rfl⟩
 case round =>
  obtain ⟨k, hk, rfl, hp⟩ := hrel
  have HP := Lib.hid hp
  clear hp
  by_cases hlt : k < s.size
  ·go_wp2
   all_goals first
    | (go_round
       case rel => exact ⟨k + 1, by omega, by go_num, nbs_snoc hlt HP.out (by clear HP; simp only [nb, Bool.not_eq_true', Bool.not_eq_false', decide_eq_true_eq, decide_eq_false_iff_not, beq_iff_eq, beq_eq_false_iff_ne, Bool.or_eq_true, Bool.or_eq_false_iff, Bool.and_eq_true, Bool.and_eq_false_iff, ne_eq] at *; omega)⟩
       case measure => simp [intOf]; omega)
    | (go_ret
       exact ⟨ret_bool (by rw [nameOk, nbs_bad hlt (by clear HP; simp only [nb, Bool.not_eq_true', Bool.not_eq_false', decide_eq_true_eq, decide_eq_false_iff_not, beq_iff_eq, beq_eq_false_iff_ne, Bool.or_eq_true, Bool.or_eq_false_iff, Bool.and_eq_true, Bool.and_eq_false_iff, ne_eq] at *; omega), Bool.and_false]), rfl⟩)
  ·obtain rfl : k = s.size := by omega
   go_wp2_with fail
   refine (inRange_c _ 1 20 _).mono ?_
   rintro e w1 ⟨rfl, rfl⟩
   go_wp2
   go_ret
   exact ⟨ret_bool (by rw [nameOk, nbs_all HP.out, Bool.and_true]), rfl⟩
set_option maxRecDepth 100000 in
set_option maxHeartbeats 400000 in
theorem specNameOk_c (s : ByteArray) (w : World) (hs : s.size ≤ maxLen) : Calls Try.prog 140 #[.string s] w fun e w' => e = .returned (.bool (nameOk s)) ∧ w = w' := by
 unfold maxLen at hs
 go_enter Try.func140, Try.ntmps140
 go_wp2_with fail
 refine (l01In_c _ 1 20 _).mono ?_
 rintro e w1 ⟨rfl, rfl⟩
 rcases h1 : inR s.size 1 20 with _ | _
 ·go_wp2
  go_ret
  exact ⟨ret_bool (by rw [nameOk, h1]; rfl), rfl⟩
 ·have H1 := Lib.hid h1
  go_wp2
  clear h1
  go_loop [3] (fun i => ∃ k : Nat, k ≤ s.size ∧ i = .int .i64 k ∧ nbs (s.data.toList.take k) = true) (fun i => s.size - (intOf i).toNat)
  case atStart => exact ⟨0, Nat.zero_le _, rfl, rfl⟩
  case round =>
   obtain ⟨k, hk, rfl, hp⟩ := hrel
   have HP := Lib.hid hp
   clear hp
   by_cases hlt : k < s.size
   ·go_wp2
    all_goals first
     | (go_round
        case rel => exact ⟨k + 1, by omega, by go_num, nbs_snoc hlt HP.out (by clear HP; simp only [nb, Bool.not_eq_true', Bool.not_eq_false', decide_eq_true_eq, decide_eq_false_iff_not, beq_iff_eq, beq_eq_false_iff_ne, Bool.or_eq_true, Bool.or_eq_false_iff, Bool.and_eq_true, Bool.and_eq_false_iff, ne_eq] at *; omega)⟩
        case measure => simp [intOf]; omega)
     | (go_ret
        exact ⟨ret_bool (by rw [nameOk, nbs_bad hlt (by clear HP; simp only [nb, Bool.not_eq_true', Bool.not_eq_false', decide_eq_true_eq, decide_eq_false_iff_not, beq_iff_eq, beq_eq_false_iff_ne, Bool.or_eq_true, Bool.or_eq_false_iff, Bool.and_eq_true, Bool.and_eq_false_iff, ne_eq] at *; omega), Bool.and_false]), rfl⟩)
   ·obtain rfl : k = s.size := by omega
    go_wp2
    go_ret
    exact ⟨ret_bool (by rw [nameOk, nbs_all HP.out, Bool.and_true, H1.out]), rfl⟩
end Go.Proofs.Ytoccjgcokffkbaa
namespace Go.Proofs.Ytoccjgcokffkbaa
set_option linter.unusedVariables false
set_option linter.unusedSimpArgs false
open Go.RowKit
def partsOk (t : Int) (k b : ByteArray) : Bool := inR t 0 1000000000 && (decide (k.size ≤ 40) && decide (b.size ≤ 400))
def entryOk (e : Ent) : Bool := nameOk e.topic && (inR e.index 0 511 && partsOk e.time e.key e.body)
set_option maxRecDepth 100000 in
set_option maxHeartbeats 400000 in
theorem partsOk_c (t : Int) (k b : ByteArray) (w : World) (hk : k.size ≤ maxLen) (hb : b.size ≤ maxLen) :
  Calls Try.prog 81 #[.int .i64 t, .string k, .string b] w fun e w' => e = .returned (.bool (partsOk t k b)) ∧ w = w' := by
 unfold maxLen at hk hb
 go_enter Try.func81, Try.ntmps81
 go_wp2_with fail
 refine (inRange_c _ 0 1000000000 _).mono ?_
 rintro e w1 ⟨rfl, rfl⟩
 rcases h1 : inR t 0 1000000000 with _ | _
 ·go_wp2
  go_ret
  exact ⟨ret_bool (by rw [partsOk, h1]; rfl), rfl⟩
 ·have H1 := Lib.hid h1
  clear h1
  rcases (show k.size ≤ 40 ∨ 40 < k.size by omega) with h2 | h2
  ·go_wp2
   go_ret
   exact ⟨ret_bool (by rw [partsOk, H1.out]; simp [h2]; try omega), rfl⟩
  ·go_wp2
   go_ret
   exact ⟨ret_bool (by rw [partsOk, H1.out]; simp; omega), rfl⟩
set_option maxRecDepth 100000 in
set_option maxHeartbeats 400000 in
theorem implEntryOk_c (e : Ent) (w : World) (hf : e.fits) :
  Calls Try.prog 49 #[.agg #[.string e.topic, .int .i64 e.index, .int .i64 e.time, .string e.key, .string e.body]] w fun r w' => r = .returned (.bool (entryOk e)) ∧ Below w.heap.size w w' := by
 obtain ⟨topic, index, time, key, body⟩ := e
 obtain ⟨_, _, htopic, hkey, hbody⟩ := hf
 simp only at htopic hkey hbody
 go_enter Try.func49, Try.ntmps49
 go_wp2_with fail
 refine (implNameOk_c _ _ htopic).mono ?_
 rintro e w1 ⟨rfl, rfl⟩
 rcases h1 : nameOk topic with _ | _
 ·go_wp2
  go_ret
  exact ⟨ret_bool (by rw [entryOk, h1]; rfl), (Below.refl _ _).alloc (Nat.le_refl _) _⟩
 ·have H1 := Lib.hid h1
  clear h1
  go_wp2_with fail
  refine (isIndex_c _ _).mono ?_
  rintro e w1 ⟨rfl, rfl⟩
  rcases h2 : inR index 0 511 with _ | _
  ·go_wp2
   go_ret
   exact ⟨ret_bool (by rw [entryOk, H1.out, h2]; rfl), (Below.refl _ _).alloc (Nat.le_refl _) _⟩
  ·have H2 := Lib.hid h2
   clear h2
   go_wp2_with fail
   refine (partsOk_c _ _ _ _ hkey hbody).mono ?_
   rintro e w1 ⟨rfl, rfl⟩
   go_wp2
   go_ret
   exact ⟨ret_bool (by rw [entryOk, H1.out, H2.out]; rfl), (Below.refl _ _).alloc (Nat.le_refl _) _⟩
set_option maxRecDepth 100000 in
set_option maxHeartbeats 400000 in
theorem specEntryOk_c (e : Ent) (w : World) (hf : e.fits) :
  Calls Try.prog 142 #[.agg #[.string e.topic, .int .i64 e.index, .int .i64 e.time, .string e.key, .string e.body]] w fun r w' => r = .returned (.bool (entryOk e)) ∧ Below w.heap.size w w' := by
 obtain ⟨topic, index, time, key, body⟩ := e
 obtain ⟨_, _, htopic, hkey, hbody⟩ := hf
 simp only at htopic hkey hbody
 have HT := Lib.hid htopic
 simp only [maxLen] at hkey hbody
 go_enter Try.func142, Try.ntmps142
 go_wp2_with fail
 refine (specNameOk_c _ _ HT.out).mono ?_
 rintro e w1 ⟨rfl, rfl⟩
 rcases h1 : nameOk topic with _ | _
 ·go_wp2
  go_ret
  exact ⟨ret_bool (by rw [entryOk, h1]; rfl), (Below.refl _ _).alloc (Nat.le_refl _) _⟩
 ·have H1 := Lib.hid h1
  clear h1
  go_wp2_with fail
  refine (l01In_c _ 0 511 _).mono ?_
  rintro e w1 ⟨rfl, rfl⟩
  rcases h2 : inR index 0 511 with _ | _
  ·go_wp2
   go_ret
   exact ⟨ret_bool (by rw [entryOk, H1.out, h2]; rfl), (Below.refl _ _).alloc (Nat.le_refl _) _⟩
  ·have H2 := Lib.hid h2
   clear h2
   go_wp2_with fail
   refine (l01In_c _ 0 1000000000 _).mono ?_
   rintro e w1 ⟨rfl, rfl⟩
   rcases h3 : inR time 0 1000000000 with _ | _
   ·go_wp2
    go_ret
    exact ⟨ret_bool (by rw [entryOk, H1.out, H2.out]; simp only [partsOk, h3]; rfl), (Below.refl _ _).alloc (Nat.le_refl _) _⟩
   ·have H3 := Lib.hid h3
    clear h3
    rcases (show key.size ≤ 40 ∨ 40 < key.size by omega) with h4 | h4
    ·go_wp2
     go_ret
     exact ⟨ret_bool (by rw [entryOk, H1.out, H2.out]; simp only [partsOk, H3.out]; simp [h4]; try omega), (Below.refl _ _).alloc (Nat.le_refl _) _⟩
    ·go_wp2
     go_ret
     exact ⟨ret_bool (by rw [entryOk, H1.out, H2.out]; simp only [partsOk, H3.out]; simp; omega), (Below.refl _ _).alloc (Nat.le_refl _) _⟩
end Go.Proofs.Ytoccjgcokffkbaa
