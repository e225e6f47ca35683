/- The program's data in plain Lean: entries, receipts, heads, writes, and their cells. -/
import Derived.Test.YtmmepogjocfefaaGreatKit
import Derived.Test.YtmmepogjocfefaaGreatFlat
namespace Go.Proofs.YtmmepogjocfefaaGreat
set_option linter.unusedVariables false
set_option linter.unusedSimpArgs false
open Go.RowKit

structure Ent where
 topic : ByteArray
 index : Int
 time : Int
 key : ByteArray
 body : ByteArray
structure Rcp where
 reader : ByteArray
 topic : ByteArray
 index : Int
structure Hd where
 num : Int
 size : Int
 root : ByteArray
 taken : Int
 troot : ByteArray
structure Wri where
 file : Int
 pos : Int
 text : ByteArray

def Ent.cells (e : Ent) : List Value := [.string e.topic, .int .i64 e.index, .int .i64 e.time, .string e.key, .string e.body]
def Rcp.cells (e : Rcp) : List Value := [.string e.reader, .string e.topic, .int .i64 e.index]
def Hd.cells (e : Hd) : List Value := [.int .i64 e.num, .int .i64 e.size, .string e.root, .int .i64 e.taken, .string e.troot]
def Wri.cells (e : Wri) : List Value := [.int .i64 e.file, .int .i64 e.pos, .string e.text]
def ents (l : List Ent) : List Value := l.flatMap Ent.cells
def rcps (l : List Rcp) : List Value := l.flatMap Rcp.cells
def hds (l : List Hd) : List Value := l.flatMap Hd.cells
def wris (l : List Wri) : List Value := l.flatMap Wri.cells
theorem ents_len (l : List Ent) : (ents l).length = l.length * 5 := flatMap_len (f := Ent.cells) (m := 5) (fun _ => rfl) l
theorem rcps_len (l : List Rcp) : (rcps l).length = l.length * 3 := flatMap_len (f := Rcp.cells) (m := 3) (fun _ => rfl) l
theorem hds_len (l : List Hd) : (hds l).length = l.length * 5 := flatMap_len (f := Hd.cells) (m := 5) (fun _ => rfl) l
theorem wris_len (l : List Wri) : (wris l).length = l.length * 3 := flatMap_len (f := Wri.cells) (m := 3) (fun _ => rfl) l

/-- the letters of one -/
def Ent.bulk (e : Ent) : Nat := e.topic.size + e.key.size + e.body.size
def Rcp.bulk (e : Rcp) : Nat := e.reader.size + e.topic.size
def Hd.bulk (e : Hd) : Nat := e.root.size + e.troot.size
def Wri.bulk (e : Wri) : Nat := e.text.size
def sumBy {α : Type} (f : α → Nat) : List α → Nat
 | [] => 0
 | a :: l => f a + sumBy f l
theorem sumBy_append {α : Type} (f : α → Nat) (a b : List α) : sumBy f (a ++ b) = sumBy f a + sumBy f b := by
 induction a with
 | nil => simp [sumBy]
 | cons x a ih => simp [sumBy, ih]; omega
theorem sumBy_take {α : Type} (f : α → Nat) {l : List α} {k : Nat} {s : α} (h : l[k]? = some s) : sumBy f (l.take (k + 1)) = sumBy f (l.take k) + f s := by
 rw [take_succ h, sumBy_append]; simp [sumBy]
theorem sumBy_take_le {α : Type} (f : α → Nat) (l : List α) (k : Nat) : sumBy f (l.take k) ≤ sumBy f l := by
 conv => rhs; rw [← List.take_append_drop k l, sumBy_append]
 omega
theorem sumBy_get {α : Type} (f : α → Nat) {l : List α} {k : Nat} {s : α} (h : l[k]? = some s) : f s ≤ sumBy f l := by
 have := sumBy_take f h; have := sumBy_take_le f l (k + 1); omega
theorem sumBy_mem {α : Type} (f : α → Nat) {l : List α} {s : α} (h : s ∈ l) : f s ≤ sumBy f l := by
 obtain ⟨k, hk⟩ := List.getElem?_of_mem h
 exact sumBy_get f hk

/-- what any argument of the type is: its numbers fit, its texts are no longer than a text may be -/
def Ent.fits (e : Ent) : Prop := I64 e.index ∧ I64 e.time ∧ e.topic.size ≤ maxLen ∧ e.key.size ≤ maxLen ∧ e.body.size ≤ maxLen
def Rcp.fits (e : Rcp) : Prop := I64 e.index ∧ e.reader.size ≤ maxLen ∧ e.topic.size ≤ maxLen
def Hd.fits (e : Hd) : Prop := I64 e.num ∧ I64 e.size ∧ I64 e.taken ∧ e.root.size ≤ maxLen ∧ e.troot.size ≤ maxLen
def Wri.fits (e : Wri) : Prop := I64 e.file ∧ I64 e.pos ∧ e.text.size ≤ maxLen

/-- element k of a slice of these -/
theorem Rd.flat {α : Type} {f : α → List Value} {m : Nat} {w : World} {lo hi : Nat} {A : Option Addr} {l : List α} (hm : ∀ x, (f x).length = m) (h0 : 0 < m) (h : Rd w lo hi A (l.flatMap f)) {k : Nat} (hk : k < l.length) :
  ∃ b off x, A = some ⟨b, off, none⟩ ∧ lo ≤ b ∧ b < hi ∧ b < w.heap.size ∧ l[k]? = some x ∧ ∀ j u, (f x)[j]? = some u → w.cell? ⟨b, off + k * m + j, none⟩ = some u := by
 have hlen := flatMap_len hm l
 have hpos : 0 < l.length * m := Nat.mul_pos (by omega) h0
 obtain ⟨b, off, h1, h2, h3, h4, h5⟩ := h (by intro e; rw [e] at hlen; simp at hlen; omega)
 refine ⟨b, off, l[k], h1, h2, h3, by omega, List.getElem?_eq_getElem hk, fun j u hj => ?_⟩
 have := h5 (k * m + j) u (get_flatMap hm l k j _ u (List.getElem?_eq_getElem hk) hj)
 rwa [← Nat.add_assoc] at this

theorem own_cell {w : World} {lo hi b off : Nat} {xs : List Value} (h : Own w lo hi (some ⟨b, off, none⟩) xs) {j : Nat} (hj : j < xs.length) {p : Nat} (hp : p = off + j := by omega) : ∃ v, w.cell? ⟨b, p, none⟩ = some v := by
 obtain ⟨b', off', h1, _, _, _, h5, _⟩ := h.at_ hj
 simp only [Option.some.injEq, Addr.mk.injEq, and_true] at h1
 obtain ⟨rfl, rfl⟩ := h1
 subst hp
 exact ⟨_, h5 j _ (List.getElem?_eq_getElem hj)⟩
theorem own_froz {w : World} {lo hi b off : Nat} {xs : List Value} (h : Own w lo hi (some ⟨b, off, none⟩) xs) (hn : 0 < xs.length) (p : Nat) (hp : off ≤ p) : w.frozen? ⟨b, p, none⟩ = false := by
 obtain ⟨b', off', h1, _, _, _, _, h6⟩ := h.at_ hn
 simp only [Option.some.injEq, Addr.mk.injEq, and_true] at h1
 obtain ⟨rfl, rfl⟩ := h1
 have := h6 (p - off)
 rwa [show off + (p - off) = p from by omega] at this
theorem own_set {w : World} {lo hi b off : Nat} {xs : List Value} (h : Own w lo hi (some ⟨b, off, none⟩) xs) {j : Nat} (hj : j < xs.length) (u : Value) (p : Nat) (hp : p = off + j) :
  Own (w.setCell ⟨b, p, none⟩ u) lo hi (some ⟨b, off, none⟩) (xs.set j u) := by
 subst hp
 exact h.set hj u

theorem ownsRow_below {w w' : World} {base e size n : Nat} {v : Value} {xs : List Value} (h : w.ownsRow base e size v n xs) (hb : Below w.heap.size w w') : w'.ownsRow base e size v n xs :=
 h.kept (row := none) ⟨hb.os, hb.tape, hb.output, hb.size, fun k hk _ => hb.block k hk⟩ (by cases v.ownBlock <;> simp)
theorem ownsRow_cell {w : World} {base e size g n cap : Nat} {xs : List Value} (h : w.ownsRow base e size (.slice (some ⟨g, 0, none⟩) n cap) n xs) {j : Nat} (hj : j < n * size) : ∃ v, w.cell? ⟨g, j, none⟩ = some v := by
 rw [h.cellAt j hj]
 have := h.1
 exact ⟨_, List.getElem?_eq_getElem (by omega)⟩
/-- the cells xs laid from place j on -/
def setFrom : List Value → Nat → List Value → List Value
 | ys, _, [] => ys
 | ys, j, x :: xs => setFrom (ys.set j x) (j + 1) xs
theorem setFrom_at : ∀ (xs a ys : List Value), xs.length ≤ ys.length → setFrom (a ++ ys) a.length xs = a ++ xs ++ ys.drop xs.length
 | [], a, ys, _ => by simp [setFrom]
 | x :: xs, a, y :: ys, h => by
   simp only [setFrom, List.length_cons] at h ⊢
   have e : (a ++ y :: ys).set a.length x = (a ++ [x]) ++ ys := by
    rw [List.set_append, if_neg (by omega), Nat.sub_self, List.set_cons_zero, List.append_assoc]; rfl
   rw [e, show a.length + 1 = (a ++ [x]).length from by simp, setFrom_at xs (a ++ [x]) ys (by omega)]
   simp
 | x :: xs, a, [], h => by simp at h
/-- element k of so many is taken over -/
theorem set_nextN {α : Type} {f : α → List Value} {m : Nat} (hm : ∀ x, (f x).length = m) {l : List α} {k : Nat} {x : α} (hx : l[k]? = some x) {ys : List Value} (hy : (k + 1) * m ≤ ys.length) :
  setFrom ((l.flatMap f).take (k * m) ++ ys.drop (k * m)) (k * m) (f x) = (l.flatMap f).take ((k + 1) * m) ++ ys.drop ((k + 1) * m) := by
 have hkl := (List.getElem?_eq_some_iff.1 hx).1
 have e1 : ∀ j, j ≤ l.length → (l.flatMap f).take (j * m) = (l.take j).flatMap f := fun j hj => by
  conv => lhs; rw [← List.take_append_drop j l, List.flatMap_append]
  rw [List.take_append_of_le_length (by rw [flatMap_len hm, List.length_take]; exact Nat.mul_le_mul_right _ (by omega)), List.take_of_length_le (by rw [flatMap_len hm, List.length_take]; exact Nat.mul_le_mul_right _ (by omega))]
 have hlen : ((l.flatMap f).take (k * m)).length = k * m := by rw [List.length_take, flatMap_len hm]; exact Nat.min_eq_left (Nat.mul_le_mul_right _ (by omega))
 have hys : k * m + m ≤ ys.length := by rw [Nat.add_mul, Nat.one_mul] at hy; exact hy
 have h := setFrom_at (f x) ((l.flatMap f).take (k * m)) (ys.drop (k * m)) (by rw [hm, List.length_drop]; omega)
 rw [hlen] at h
 rw [h, e1 (k + 1) (by omega), take_succ hx, List.flatMap_append, e1 k (by omega), hm, List.drop_drop, Nat.add_mul, Nat.one_mul]
 simp
end Go.Proofs.YtmmepogjocfefaaGreat
