/- Arguments opened: flat values (strings, integers, structs of these) and slices of them. -/
import Derived.Test.YtmmepogjocfefaaGreatKit
import Derived.ProofKit
import Derived.Deep.Slices
import Derived.Deep.Fields
import Derived.ChangeSame
namespace Go.Proofs.YtmmepogjocfefaaGreat
set_option linter.unusedVariables false
set_option linter.unusedSimpArgs false
open Go.RowKit Go.WideShapes Go.Deep

section
variable {H : Type} {enc : TypeId × Value → H} {P : Program} {w : World} {spare : Nat → Bool} {held : Bool}

theorem flatMap_get {α : Type} {f : α → List Value} {m : Nat} (hm : ∀ x, (f x).length = m) : ∀ (l : List α) (j : Nat) (u : Value), (l.flatMap f)[j]? = some u →
  ∃ (i : Nat) (x : α), l[i]? = some x ∧ i * m ≤ j ∧ j < i * m + m ∧ (f x)[j - i * m]? = some u
 | [], j, u, h => by simp at h
 | a :: l, j, u, h => by
   rw [List.flatMap_cons] at h
   by_cases hj : j < m
   ·rw [List.getElem?_append_left (by rw [hm]; exact hj)] at h
    exact ⟨0, a, rfl, by omega, by omega, by simpa using h⟩
   ·rw [List.getElem?_append_right (by rw [hm]; omega), hm] at h
    obtain ⟨i, x, h1, h2, h3, h4⟩ := flatMap_get hm l (j - m) u h
    refine ⟨i + 1, x, by simpa using h1, by rw [Nat.add_mul]; omega, by rw [Nat.add_mul]; omega, ?_⟩
    rw [Nat.add_mul, Nat.one_mul, Nat.add_comm, Nat.sub_add_eq]
    exact h4

theorem get_flatMap {α : Type} {f : α → List Value} {m : Nat} (hm : ∀ x, (f x).length = m) : ∀ (l : List α) (i r : Nat) (x : α) (u : Value), l[i]? = some x → (f x)[r]? = some u → (l.flatMap f)[i * m + r]? = some u
 | [], i, r, x, u, h, _ => by simp at h
 | a :: l, 0, r, x, u, h, hr => by
   have hlt : r < m := by have := (List.getElem?_eq_some_iff.1 hr).1; rwa [hm] at this
   simp only [List.getElem?_cons_zero, Option.some.injEq] at h
   subst h
   rw [List.flatMap_cons, Nat.zero_mul, Nat.zero_add, List.getElem?_append_left (by rw [hm]; exact hlt)]
   exact hr
 | a :: l, i + 1, r, x, u, h, hr => by
   rw [List.flatMap_cons, List.getElem?_append_right (by rw [hm, Nat.add_mul]; omega), hm, Nat.add_mul, show i * m + 1 * m + r - m = i * m + r from by omega]
   exact get_flatMap hm l i r x u (by simpa using h) hr

theorem flatMap_len {α : Type} {f : α → List Value} {m : Nat} (hm : ∀ x, (f x).length = m) (l : List α) : (l.flatMap f).length = l.length * m := by
 induction l with
 | nil => simp
 | cons a l ih => rw [List.flatMap_cons, List.length_append, hm, ih, List.length_cons, Nat.add_mul]; omega

theorem open_flat {α : Type} {t e : TypeId} {fuel : Nat} {cs : List Value} {r : DataW H × List MemPlace} (f : α → List Value) (wf : α → Prop) (m : Nat) (hm0 : 0 < m) (hm : ∀ x, (f x).length = m)
  (ht : P.underlying t = some (.slice e)) (hC : P.cellsOf e = m)
  (hE : ∀ (fuel : Nat) (cs : List Value) (r : DataW H × List MemPlace), DataW.trod enc P w 0 spare held fuel e cs = some r → ∃ x, cs = f x ∧ wf x)
  (h : DataW.trod enc P w 0 spare held fuel t cs = some r) :
  ∃ (A : Option Addr) (n c : Nat) (l : List α), cs = [.slice A n c] ∧ l.length = n ∧ n ≤ c ∧ c ≤ maxLen ∧ Rd w 0 w.heap.size A (l.flatMap f) ∧ ∀ x ∈ l, wf x := by
 rcases open_slice ht h with ⟨rfl, _⟩ | ⟨a, len, cap, m', n', D, Pl, rfl, _, hl, hmx, hmm, _, hx⟩
 ·exact ⟨none, 0, 0, [], rfl, rfl, Nat.le_refl _, Nat.zero_le _, Rd.nil, by simp⟩
 ·have hle : len ≤ m' := by rw [hmm]; split <;> omega
  obtain ⟨X, hX⟩ : ∃ X : Fin len → α, ∀ i : Fin len, w.cells? 0 (a.add (i.1 * m)) m = some (f (X i)) ∧ wf (X i) := by
   have : ∀ i : Fin len, ∃ x, w.cells? 0 (a.add (i.1 * m)) m = some (f x) ∧ wf x := fun i => by
    obtain ⟨cs', h1, h2⟩ := hx i.1 (by omega)
    obtain ⟨x, rfl, hw⟩ := hE _ _ _ h2
    rw [hC] at h1
    exact ⟨x, h1, hw⟩
   exact ⟨fun i => (this i).choose, fun i => (this i).choose_spec⟩
  have hget : ∀ (i : Nat) (x : α), (List.ofFn X)[i]? = some x → ∃ hi : i < len, X ⟨i, hi⟩ = x := fun i x hi => by
   obtain ⟨h1, h2⟩ := List.getElem?_eq_some_iff.1 hi
   have hlt : i < len := by simpa using h1
   exact ⟨hlt, by simpa using h2⟩
  refine ⟨some a, len, cap, List.ofFn X, rfl, by simp, hl, hmx, fun hne => ?_, ?_⟩
  ·have hcell : ∀ j u, ((List.ofFn X).flatMap f)[j]? = some u → w.cell? (a.add j) = some u := fun j u hj => by
    obtain ⟨i, x, h1, h2, h3, h4⟩ := flatMap_get hm _ _ _ hj
    obtain ⟨hi, rfl⟩ := hget i x h1
    obtain ⟨_, _, hat⟩ := World.cells?_some (hX ⟨i, hi⟩).1
    have := hat (j - i * m) (by omega)
    rw [Go.Deep.add_add, h4] at this
    rwa [show i * m + (j - i * m) = j from by omega] at this
   obtain ⟨u0, hu0⟩ : ∃ u, ((List.ofFn X).flatMap f)[0]? = some u := by
    cases hl2 : (List.ofFn X).flatMap f with
    | nil => exact absurd hl2 hne
    | cons u _ => exact ⟨u, rfl⟩
   have hc0 := hcell 0 u0 hu0
   obtain ⟨b, off, spot⟩ := a
   have hspot : spot = none := by simpa [Addr.add] using World.cell?_spot hc0
   subst hspot
   have hb := World.block_lt_of_cell? _ _ hc0
   refine ⟨b, off, rfl, Nat.zero_le _, by simpa [Addr.add] using hb, Nat.le_refl _, fun j u hj => ?_⟩
   have := hcell j u hj
   rwa [Addr.add_lit] at this
  ·intro x hx'
   obtain ⟨i, hi⟩ := List.getElem?_of_mem hx'
   obtain ⟨hlt, rfl⟩ := hget i x hi
   exact (hX ⟨i, hlt⟩).2

/-- an int64 that fits -/
def I64 (n : Int) : Prop := -9223372036854775808 ≤ n ∧ n ≤ 9223372036854775807
theorem i64_of_wf {n : Int} (h : (Lit.int .i64 n).wf = true) : I64 n := by
 simpa [I64, Lit.wf, IntKind.min, IntKind.max, IntKind.signed, IntKind.bits] using h
theorem trod_i64 {t : TypeId} {fuel : Nat} {cs : List Value} {r : DataW H × List MemPlace} (ht : P.underlying t = some (.int .i64)) (h : DataW.trod enc P w 0 spare held fuel t cs = some r) : ∃ n : Int, cs = [.int .i64 n] ∧ I64 n := by
 obtain ⟨n, h1, _, h3⟩ := DataW.trod_int ht h
 exact ⟨n, h1, i64_of_wf h3⟩
theorem trod_u8 {t : TypeId} {fuel : Nat} {cs : List Value} {r : DataW H × List MemPlace} (ht : P.underlying t = some (.int .u8)) (h : DataW.trod enc P w 0 spare held fuel t cs = some r) : ∃ n : Int, cs = [.int .u8 n] ∧ 0 ≤ n ∧ n ≤ 255 := by
 obtain ⟨n, h1, _, h3⟩ := DataW.trod_int ht h
 exact ⟨n, h1, by simpa [Lit.wf, IntKind.min, IntKind.max, IntKind.signed, IntKind.bits] using h3⟩
theorem trod_str {t : TypeId} {fuel : Nat} {cs : List Value} {r : DataW H × List MemPlace} (ht : P.underlying t = some .string) (h : DataW.trod enc P w 0 spare held fuel t cs = some r) : ∃ s : ByteArray, cs = [.string s] ∧ s.size ≤ maxLen := by
 obtain ⟨s, h1, _, h3⟩ := DataW.trod_string ht h
 exact ⟨s, h1, h3⟩
/-- the fields of a struct, each by its cells -/
theorem trod_fields {fs : Array Field} {t : TypeId} {fuel : Nat} {cs : List Value} {r : DataW H × List MemPlace} (ht : P.underlying t = some (.struct fs)) (h : DataW.trod enc P w 0 spare held fuel t cs = some r) :
  cs.length = P.cellsOf t ∧ ∀ (i : Nat) (f : Field), fs[i]? = some f → ∃ (n : Nat) (y : DataW H × List MemPlace), DataW.trod enc P w 0 spare held n f.type ((cs.drop f.offset).take (P.cellsOf f.type)) = some y := by
 obtain ⟨xs, n, _, _, hl, hxl, hg⟩ := DataW.trod_struct ht h
 refine ⟨hl, fun i f hf => ?_⟩
 have hi := (Array.getElem?_eq_some_iff.1 hf).1
 exact ⟨n, xs[i]'(by omega), (hg i f hf).trans (List.getElem?_eq_getElem (by omega))⟩
end
end Go.Proofs.YtmmepogjocfefaaGreat
