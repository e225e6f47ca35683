/- The cursor of the draws as a kind of the walk. -/
import Derived.Test.YtoccjgcokffkbaaDrawS
import Derived.Test.YtoccjgcokffkbaaWk2
namespace Go.Proofs.Ytoccjgcokffkbaa
set_option linter.unusedVariables false
set_option linter.unusedSimpArgs false
open Go.RowKit

/-- what stands in the way of nothing but itself: the cursor and the drawn bytes, as a kind of the walk -/
def CodeK (w : World) (lo hi : Nat) (a : Option Addr × Nat × Nat) (l : List Int) : Prop := lo = 0 ∧ ∃ p, hi = p + 1 ∧ Code w p a.1 a.2.1 a.2.2 0 p l
theorem CodeK.mk_ {w : World} {p n g : Nat} {B : Option Addr} {l : List Int} (h : Code w p B n g 0 p l) : CodeK w 0 (p + 1) (B, n, g) l := ⟨rfl, p, rfl, h⟩
theorem CodeK.get {w : World} {p n g : Nat} {B : Option Addr} {l : List Int} (h : CodeK w 0 (p + 1) (B, n, g) l) : Code w p B n g 0 p l := by
 obtain ⟨_, q, h1, h2⟩ := h
 obtain rfl : p = q := by omega
 exact h2
section
variable {w w' : World} {lo hi lo' hi' : Nat} {a : Option Addr × Nat × Nat} {l : List Int}
theorem CodeK.below (h : CodeK w lo hi a l) (hb : Below w.heap.size w w') : CodeK w' lo hi a l := by
 obtain ⟨h1, p, h2, h3⟩ := h; exact ⟨h1, p, h2, h3.below hb⟩
theorem CodeK.only (h : CodeK w lo hi a l) (ho : Only lo' hi' w w') (hd : hi ≤ lo' ∨ hi' ≤ lo) : CodeK w' lo hi a l := by
 obtain ⟨h1, p, h2, h3⟩ := h
 refine ⟨h1, p, h2, ?_⟩
 obtain ⟨i, k, hx, hi2⟩ := h3.cur
 exact ⟨⟨i, k, hx.only ho (by omega), hi2⟩, h3.rd.only ho (by omega), h3.len, h3.small, h3.byte, h3.far⟩
theorem CodeK.alloc (h : CodeK w lo hi a l) (o : Obj) : CodeK (w.alloc o) lo hi a l := h.below ((Below.refl _ _).alloc (Nat.le_refl _) o)
theorem CodeK.drew (h : CodeK w lo hi a l) : CodeK w.drew lo hi a l := h.below ((Below.refl _ _).drew)
theorem CodeK.setCell (h : CodeK w lo hi a l) {p : Addr} (hp : p.block < lo ∨ hi ≤ p.block) (u : Value) : CodeK (w.setCell p u) lo hi a l := by
 have ho : Only p.block (p.block + 1) w (w.setCell p u) := (Only.refl _ _ _).setCell (Nat.le_refl _) (Nat.lt_succ_self _) u
 exact h.only ho (by have := h.1; omega)
/-- a block, as a kind of the walk -/
def BoxK (w : World) (lo hi : Nat) (_ : Unit) (xs : List Value) : Prop := NewBox w lo xs ∧ hi = lo + 1
theorem BoxK.below {u : Unit} {xs : List Value} (h : BoxK w lo hi u xs) (hb : Below w.heap.size w w') : BoxK w' lo hi u xs := ⟨h.1.below hb, h.2⟩
theorem BoxK.only {u : Unit} {xs : List Value} (h : BoxK w lo hi u xs) (ho : Only lo' hi' w w') (hd : hi ≤ lo' ∨ hi' ≤ lo) : BoxK w' lo hi u xs := ⟨h.1.only ho (by have := h.2; omega), h.2⟩
theorem BoxK.alloc {u : Unit} {xs : List Value} (h : BoxK w lo hi u xs) (o : Obj) : BoxK (w.alloc o) lo hi u xs := ⟨h.1.alloc o, h.2⟩
theorem BoxK.drew {u : Unit} {xs : List Value} (h : BoxK w lo hi u xs) : BoxK w.drew lo hi u xs := ⟨h.1.drew, h.2⟩
theorem BoxK.setCell {u : Unit} {xs : List Value} (h : BoxK w lo hi u xs) {p : Addr} (hp : p.block < lo ∨ hi ≤ p.block) (v : Value) : BoxK (w.setCell p v) lo hi u xs := ⟨h.1.setCell (by have := h.2; omega) v, h.2⟩
theorem celoD {k o : Nat} {v : Value} (h : Only lo hi w w') (hc : w.cell? ⟨k, o, none⟩ = some v) (hk : k < lo ∨ hi ≤ k) : w'.cell? ⟨k, o, none⟩ = some v := by
 have hb := h.block k (World.block_lt_of_cell? w ⟨k, o, none⟩ hc) hk
 simpa [World.cell?, hb] using hc
def CellK (w : World) (b o : Nat) (v : Value) : Prop := w.cell? ⟨b, o, none⟩ = some v
theorem CellK.alloc {b o : Nat} {v : Value} (h : CellK w b o v) (x : Obj) : CellK (w.alloc x) b o v := celoD (Only.of_below (lo := w.heap.size) (hi := w.heap.size) ((Below.refl _ _).alloc (Nat.le_refl _) x)) h (by have := World.block_lt_of_cell? w ⟨b, o, none⟩ h; simp only at this; omega)
theorem CellK.drew {b o : Nat} {v : Value} (h : CellK w b o v) : CellK w.drew b o v := h
theorem CellK.setCell {b o : Nat} {v : Value} (h : CellK w b o v) {p : Addr} (hp : p.block ≠ b) (u : Value) : CellK (w.setCell p u) b o v := celoD ((Only.refl p.block (p.block + 1) w).setCell (Nat.le_refl _) (Nat.lt_succ_self _) u) h (by omega)
theorem Only.drew1 (h : Only lo hi w.drew w') : Only lo hi w w' := ⟨h.os, h.tape, h.output, h.size, h.block⟩
end
theorem only_new {w w' : World} {lo hi : Nat} {p : Addr} (h : Only lo hi w w') (hk : w.heap.size ≤ p.block) (u : Value) : Only lo hi w (w'.setCell p u) :=
 ⟨h.os, h.tape, h.output, by simpa [World.setCell] using h.size, fun k hk2 hd => (Below.heap_setCell _ _ _ _ (by omega)).trans (h.block k hk2 hd)⟩
theorem only_alloc {w w' : World} {lo hi : Nat} (h : Only lo hi w w') (o : Obj) : Only lo hi w (w'.alloc o) := h.trans ((Only.of_below ((Below.refl _ _).alloc (Nat.le_refl _) o)))
theorem only_drew {w w' : World} {lo hi : Nat} (h : Only lo hi w w') : Only lo hi w w'.drew := ⟨h.os, h.tape, h.output, h.size, h.block⟩
theorem box_ownD {w : World} {b : Nat} {xs : List Value} (h : NewBox w b xs) : Own w b (b + 1) (some ⟨b, 0, none⟩) xs := fun _ =>
 ⟨b, 0, rfl, Nat.le_refl _, Nat.lt_succ_self _, h.1, fun j u hj => by rw [Nat.zero_add]; exact (h.2.1 j).trans hj, fun j => h.2.2 _⟩
theorem strs_set (l : List ByteArray) (k : Nat) (s : ByteArray) : (strs l).set k (.string s) = strs (l.set k s) := by rw [strs, strs, List.map_set]
end Go.Proofs.Ytoccjgcokffkbaa
