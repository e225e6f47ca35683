/- Words for walks whose steps a program types out: worlds with names, blocks of variables. -/
import Derived.Test.YtmmepogjocfefaaGreatKit2
import Derived.Test.YtmmepogjocfefaaGreatData
namespace Go.Proofs.YtmmepogjocfefaaGreat
set_option linter.unusedVariables false
set_option linter.unusedSimpArgs false
open Go.RowKit

theorem Rd.base {w : World} {lo hi : Nat} {A : Option Addr} {xs : List Value} (h : Rd w lo hi A xs) : Rd w 0 w.heap.size A xs := fun hn =>
 let ⟨b, off, h1, _, h3, h4, h5⟩ := h hn
 ⟨b, off, h1, Nat.zero_le _, by omega, Nat.le_refl _, h5⟩
/-- no address: no cells, so no room (the room is the length) -/
theorem Rd.cap0 {α : Type} {w : World} {lo hi g : Nat} {A : Option Addr} {l : List α} {f : List α → List Value} (h : Rd w lo hi A (f l)) (hf : l ≠ [] → f l ≠ []) (hg : g = l.length) : A = none → g = 0 := by
 rintro rfl
 by_cases hl : l = []
 ·subst hl; exact hg
 ·obtain ⟨b, off, h1, _⟩ := h (hf hl); cases h1
theorem ents_pos {l : List Ent} (h : l ≠ []) : ents l ≠ [] := fun e => by
 have := congrArg List.length e
 rw [ents_len] at this
 have h2 := List.length_pos_iff.2 h
 simp at this
 omega
theorem strs_pos {l : List ByteArray} (h : l ≠ []) : strs l ≠ [] := fun e => h (List.map_eq_nil_iff.1 e)
theorem wp_named {P : Program} {c : Code} {Q : Exit → Act → World → Prop} {a : Act} {W : World} (h : ∀ W', W' = W → c.wp P Q a W') : c.wp P Q a W := h W rfl
theorem calls_named {P : Program} {f : FuncId} {args : Array Value} {W : World} {R : Ending → World → Prop} (h : ∀ W', W' = W → Calls P f args W' R) : Calls P f args W R := h W rfl
theorem wpList_named {P : Program} {ops : Array Oper} {Q : Exit → Act → World → Prop} {l : List Oper} {a : Act} {W : World} (h : ∀ W', W' = W → wpList P ops Q l a W') : wpList P ops Q l a W := h W rfl
theorem below_eq {W W' : World} (h : W' = W) : Below W.heap.size W W' := h ▸ Below.refl _ _
theorem drew_below {W w : World} (h : Below W.drew.heap.size W.drew w) : Below W.heap.size W w := ⟨h.os, h.tape, h.output, h.size, h.block⟩
/-- a variable's block -/
def NewBox (w : World) (k : Nat) (cs : List Value) : Prop := k < w.heap.size ∧ (∀ o, w.cell? ⟨k, o, none⟩ = cs[o]?) ∧ ∀ o, w.frozen? ⟨k, o, none⟩ = false
section
variable {w w' : World} {k lo hi : Nat} {cs : List Value}
theorem NewBox.keep (h : NewBox w k cs) (hs : w.heap.size ≤ w'.heap.size) (hb : w'.heap[k]? = w.heap[k]?) : NewBox w' k cs :=
 ⟨Nat.lt_of_lt_of_le h.1 hs, fun o => (World.cell?_of_block hb).trans (h.2.1 o), fun o => (World.frozen?_of_block hb).trans (h.2.2 o)⟩
theorem NewBox.below (h : NewBox w k cs) (hb : Below w.heap.size w w') : NewBox w' k cs := h.keep hb.size (hb.block k h.1)
theorem NewBox.only (h : NewBox w k cs) (ho : Only lo hi w w') (hk : k < lo ∨ hi ≤ k) : NewBox w' k cs := h.keep ho.size (ho.block k h.1 hk)
theorem NewBox.alloc (h : NewBox w k cs) (o : Obj) : NewBox (w.alloc o) k cs := h.below ((Below.refl _ _).alloc (Nat.le_refl _) o)
theorem NewBox.drew (h : NewBox w k cs) : NewBox w.drew k cs := h
theorem NewBox.drewN (h : NewBox w k cs) (n : Nat) : NewBox (w.drewN n) k cs := h
theorem NewBox.setCell (h : NewBox w k cs) {p : Addr} (hp : p.block ≠ k) (u : Value) : NewBox (w.setCell p u) k cs :=
 h.keep (by simp [World.setCell]) (by simp [World.setCell, Array.getElem?_modify, hp])
theorem NewBox.box (h : NewBox w k cs) : Box w k cs := ⟨h.1, h.2.1⟩
theorem Box.keep (h : Box w k cs) (hs : w.heap.size ≤ w'.heap.size) (hb : w'.heap[k]? = w.heap[k]?) : Box w' k cs :=
 ⟨Nat.lt_of_lt_of_le h.1 hs, fun o => (World.cell?_of_block hb).trans (h.2 o)⟩
theorem NewBox.new (w : World) (cs : Array Value) (t : TypeId) : NewBox (w.alloc (.cells cs t)) w.heap.size cs.toList :=
 ⟨by simp, (Box.new0 w cs t).2, fun o => by
   rw [World.frozen?, heap_alloc_new]
   simp⟩
theorem NewBox.cell (h : NewBox w k cs) {o : Nat} {v : Value} (hv : cs[o]? = some v) : w.cell? ⟨k, o, none⟩ = some v := (h.2.1 o).trans hv
end
end Go.Proofs.YtmmepogjocfefaaGreat
