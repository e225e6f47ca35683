/- A row of strings of the call's own between two blocks, in the words of the walk. -/
import Derived.Test.YtmmepogjocfefaaGreatWk2
import Derived.Test.YtmmepogjocfefaaGreatGrws
import Derived.Deep.AppendLies
namespace Go.Proofs.YtmmepogjocfefaaGreat
set_option linter.unusedVariables false
set_option linter.unusedSimpArgs false
open Go.RowKit

/-- a row of the call's own that lies between two blocks -/
def RowB (w : World) (lo hi : Nat) (a : Value × Nat) (xs : List Value) : Prop := w.ownsRow lo 9 1 a.1 a.2 xs ∧ ∀ k, a.1.ownBlock = some k → k < hi
section
variable {w w' : World} {lo hi lo' hi' : Nat} {a : Value × Nat} {xs : List Value}
theorem RowB.keep (h : RowB w lo hi a xs) (hb : ∀ k, k < w.heap.size → lo ≤ k → k < hi → w'.heap[k]? = w.heap[k]?) : RowB w' lo hi a xs := by
 refine ⟨⟨h.1.1, ?_⟩, h.2⟩
 rcases h.1.2 with h1 | ⟨g, cap, cur, h1, h2, h3, h4⟩
 ·exact .inl h1
 ·exact .inr ⟨g, cap, cur, h1, h2, (hb g (Array.getElem?_eq_some_iff.1 h3).1 h2 (h.2 g (by rw [h1]; rfl))).trans h3, h4⟩
theorem RowB.of {n : Nat} {v : Value} (h : w.ownsRow lo 9 1 v n xs) : RowB w lo w.heap.size (v, n) xs := ⟨h, fun k hk => (h.lt k hk).2⟩
theorem RowB.mono (h : RowB w lo hi a xs) (h1 : lo' ≤ lo) (h2 : hi ≤ hi') : RowB w lo' hi' a xs := ⟨row_mono h.1 h1, fun k hk => Nat.lt_of_lt_of_le (h.2 k hk) h2⟩
theorem RowB.below (h : RowB w lo hi a xs) (hb : Below w.heap.size w w') : RowB w' lo hi a xs := h.keep (fun k hk _ _ => hb.block k hk)
theorem RowB.alloc (h : RowB w lo hi a xs) (o : Obj) : RowB (w.alloc o) lo hi a xs := h.below ((Below.refl _ _).alloc (Nat.le_refl _) o)
theorem RowB.drew (h : RowB w lo hi a xs) : RowB w.drew lo hi a xs := h
theorem RowB.setCell (h : RowB w lo hi a xs) {p : Addr} (hp : p.block < lo ∨ hi ≤ p.block) (u : Value) : RowB (w.setCell p u) lo hi a xs := h.keep (fun k _ h1 h2 => Below.heap_setCell _ _ _ _ (by omega))
theorem RowB.only (h : RowB w lo hi a xs) (ho : Only lo' hi' w w') (hd : hi ≤ lo' ∨ hi' ≤ lo) : RowB w' lo hi a xs := h.keep (fun k hk h1 h2 => ho.block k hk (by omega))
theorem RowB.own {A : Option Addr} {n c m : Nat} (h : RowB w lo hi (.slice A n c, m) xs) (hm : m = n) : Own w lo w.heap.size A xs := by
 subst hm; exact Own.of_ownsRow h.1
end
/-- a string, or two, behind such a row -/
theorem rowB_app {w w5 : World} {lo n m : Nat} {v v5 : Value} {xs ys : List Value} (h : w.ownsRow lo 9 1 v n xs) (t : Obj) (h5 : w5.ownsRow lo 9 1 v5 m ys) (hg : (w.alloc t).grownBy w5 v.ownBlock) :
  RowB w5 lo w5.heap.size (v5, m) ys ∧ Only lo (w.heap.size + 1) w w5 := by
 refine ⟨RowB.of h5, ?_⟩
 have h1 : Only lo (w.heap.size + 1) (w.alloc t) w5 := by
  have := grown_only (h.alloc t) hg
  simpa using this
 exact (Only.of_below ((Below.refl _ _).alloc (Nat.le_refl _) t)).trans h1
set_option maxRecDepth 100000 in
/-- strings behind such a row: where the row lies then -/
theorem appStrL {w : World} {ops : Array Oper} {rest : List Oper} {o : Oper} {a : Act} {Q : Exit → Act → World → Prop} (hgd : o.guard = none) (s x : Operand)
  (ho : o.op = .call { callee := .builtin .append, args := #[s, x], argTypes := #[27, 27] }) (lo hi k q : Nat) (v : Value) (n : Nat) (xs : List Value) (l : List ByteArray) (hs : a.eval s = v) (h0 : RowB w lo hi (v, n) xs)
  (hx : a.eval x = .slice (some ⟨k, 0, none⟩) q q) (hl : l.length = q) (hr : NewBox w k (strs l)) (hq : 0 < q) (h63 : n + q ≤ 100000000) (hbase : lo ≤ w.heap.size) (H : Nat) (hH : w.heap.size = H)
  (h : ∀ g cap w', lo ≤ g → (g < hi ∨ g = H) → g < w'.heap.size → RowB w' g (g + 1) (.slice (some ⟨g, 0, none⟩) (n + q) cap, n + q) (xs ++ strs l) → Only lo hi w w' → wpList Tryz.prog ops Q rest (a.put o.dst (.slice (some ⟨g, 0, none⟩) (n + q) cap)) w') : wpList Tryz.prog ops Q (o :: rest) a w := by
 obtain ⟨i0, hi0, hz0, hz1, hz2⟩ := info_parts info_string
 refine wpList_append_lies _ hgd s x _ ho lo _ i0 (.string ByteArray.empty) 1 16 Tryz.underlying27 hi0 hz0 hz1 hz2 rfl (by decide) v n xs hs h0.1 ⟨k, 0, none⟩ q q (strs l) hx (by rw [strs, List.length_map, hl, Nat.mul_one]) (fun j u hu => by rw [Addr.add_lit, Nat.zero_add]; exact (hr.2.1 j).trans hu) (cloneStr_one l) hq (by unfold maxLen; omega) (by omega) hbase H hH ?_
 intro g cap w' h1 h2 h3 h4
 have hlo : lo ≤ g := (h1.lt g rfl).1
 refine h g cap w' hlo (h3.elim (fun e => .inl (h0.2 g e)) .inr) h4 ⟨?_, fun k hk => by have hk' : g = k := (by injection hk); show k < g + 1; omega⟩ ⟨h2.os, h2.tape, h2.output, h2.size, fun k hk hd => h2.block k hk (fun e => ?_)⟩
 ·refine ⟨h1.1, ?_⟩
  rcases h1.2 with ⟨e, _⟩ | ⟨g', cap', cur, e, h5, h6⟩
  ·cases e
  ·cases e; exact .inr ⟨g, cap, cur, rfl, Nat.le_refl _, h6⟩
 ·have e1 := (h0.1.lt k e.symm).1
  have e2 := h0.2 k e.symm
  omega
end Go.Proofs.YtmmepogjocfefaaGreat
