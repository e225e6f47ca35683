/- append of what came in, and of one element, to a row of the call's own. -/
import Derived.Test.YtmmepogjocfefaaGreatWk
import Derived.Laws.AppendOwnNone
import Derived.Deep.AppendLies
import Derived.Test.YtmmepogjocfefaaGreatReg
import Derived.Test.YtmmepogjocfefaaGreatClone
import Derived.Test.YtmmepogjocfefaaGreatSWrite
namespace Go.Proofs.YtmmepogjocfefaaGreat
set_option linter.unusedVariables false
set_option linter.unusedSimpArgs false
open Go.RowKit

theorem stop_here {p : Prop} (h : True → p) : p := h trivial
/-- what an append may turn -/
theorem grown_only {w w' : World} {base : Nat} {e : TypeId} {size n : Nat} {v : Value} {xs : List Value} (h : w.ownsRow base e size v n xs) (hg : w.grownBy w' v.ownBlock) : Only base w.heap.size w w' :=
 ⟨hg.os, hg.tape, hg.output, hg.size, fun k hk hd => hg.block k hk (fun he => by have := (h.lt k he.symm).1; omega)⟩
theorem one_strs (l : List ByteArray) : ∀ u ∈ strs l, u.oneCell' = true := cloneStr_one l
theorem one_flat {α : Type} {f : α → List Value} (h : ∀ x, ∀ u ∈ f x, u.oneCell' = true) (l : List α) : ∀ u ∈ l.flatMap f, u.oneCell' = true := fun u hu => by
 obtain ⟨x, _, hx⟩ := List.mem_flatMap.1 hu
 exact h x u hx
theorem one_map {α : Type} {f : α → Value} (h : ∀ x, (f x).oneCell' = true) (l : List α) : ∀ u ∈ l.map f, u.oneCell' = true := fun u hu => by
 obtain ⟨x, _, rfl⟩ := List.mem_map.1 hu
 exact h x

/-- append of a slice that reads as xs2, nil or not -/
theorem wpList_append_rd {P : Program} {w : World} {ops : Array Oper} {rest : List Oper} {o : Oper} {a : Act} {Q : Exit → Act → World → Prop} (hgd : o.guard = none) (s x : Operand) (t : TypeId)
  (ho : o.op = .call { callee := .builtin .append, args := #[s, x], argTypes := #[t, t] })
  (base : Nat) (e : TypeId) (i : TypeInfo) (z : Value) (size bytes : Nat) (ht : P.underlying t = some (.slice e)) (hi : P.info? e = some i) (hz : i.zero = some z)
  (hsize : i.size = size) (hby : i.bytes = bytes) (hzs : z.cells.size = size) (hsz : 0 < size)
  (v : Value) (n : Nat) (xs : List Value) (hs : a.eval s = v) (hown : w.ownsRow base e size v n xs)
  (A : Option Addr) (m c lo hi' : Nat) (news : List Value) (hx : a.eval x = .slice A m c) (hl : news.length = m * size) (hr : Rd w lo hi' A news) (hA : A = none → c = 0) (h1 : ∀ u ∈ news, u.oneCell' = true)
  (h63 : n + m ≤ maxLen) (hbytes : (n + m) * bytes ≤ 140737488355328) (hbase : base ≤ w.heap.size)
  (h : ∀ v' w', w'.ownsRow base e size v' (n + m) (xs ++ news) → w.grownBy w' v.ownBlock → wpList P ops Q rest (a.put o.dst v') w') : wpList P ops Q (o :: rest) a w := by
 rcases A with _ | ad
 ·have hnil : news = [] := by
   by_cases hn : news = []
   ·exact hn
   ·obtain ⟨b, off, h1, _⟩ := hr hn; cases h1
  subst hnil
  have hm : m = 0 := by
   rcases Nat.eq_zero_or_pos m with h | h
   ·exact h
   ·have := Nat.mul_pos h hsz
    simp at hl
    omega
  subst hm
  obtain rfl := hA rfl
  refine wpList_append_own_none hgd s x t ho base e i size ht hi v n xs hs hown hx (h v w ?_ ⟨rfl, rfl, rfl, Nat.le_refl _, fun _ _ _ => rfl⟩)
  simpa using hown
 ·refine wpList_append_own _ hgd s x t ho base e i z size bytes ht hi hz hsize hby hzs hsz v n xs hs hown ad m c news hx hl (fun j u hu => ?_) h1 h63 hbytes hbase (fun v' w' h2 h3 _ => h v' w' h2 h3)
  obtain ⟨b, off, h1, _, _, _, h5⟩ := hr (by intro e; rw [e] at hu; simp at hu)
  cases h1
  rw [Addr.add_lit]
  exact h5 j u hu

/-- append of one element, which lies in a block of its own -/
theorem wpList_append_one {P : Program} {w : World} {ops : Array Oper} {rest : List Oper} {o : Oper} {a : Act} {Q : Exit → Act → World → Prop} (hgd : o.guard = none) (s x : Operand) (t : TypeId)
  (ho : o.op = .call { callee := .builtin .append, args := #[s, x], argTypes := #[t, t] })
  (base : Nat) (e : TypeId) (i : TypeInfo) (z : Value) (size bytes : Nat) (ht : P.underlying t = some (.slice e)) (hi : P.info? e = some i) (hz : i.zero = some z)
  (hsize : i.size = size) (hby : i.bytes = bytes) (hzs : z.cells.size = size) (hsz : 0 < size)
  (v : Value) (n : Nat) (xs : List Value) (hs : a.eval s = v) (hown : w.ownsRow base e size v n xs)
  (k m : Nat) (news : List Value) (hx : a.eval x = .slice (some ⟨k, 0, none⟩) m m) (hl : news.length = m * size) (hr : NewBox w k news) (h1 : ∀ u ∈ news, u.oneCell' = true)
  (h63 : n + m ≤ maxLen) (hbytes : (n + m) * bytes ≤ 140737488355328) (hbase : base ≤ w.heap.size)
  (h : ∀ v' w', w'.ownsRow base e size v' (n + m) (xs ++ news) → w.grownBy w' v.ownBlock → wpList P ops Q rest (a.put o.dst v') w') : wpList P ops Q (o :: rest) a w :=
 wpList_append_own _ hgd s x t ho base e i z size bytes ht hi hz hsize hby hzs hsz v n xs hs hown ⟨k, 0, none⟩ m m news hx hl (fun j u hu => by rw [Addr.add_lit, Nat.zero_add]; exact (hr.2.1 j).trans hu) h1 h63 hbytes hbase (fun v' w' h2 h3 _ => h v' w' h2 h3)

/-! the same in a region that draws its order -/
/-- the blocks that an operation laid or turned -/
def inG (x : Gh) (ts : List Gh) (k : Nat) : Prop := (x.s ≤ k ∧ k < x.e) ∨ ∃ t ∈ ts, t.s ≤ k ∧ k < t.e
structure RowIn (S : Nat → Prop) (w : World) (e : TypeId) (size : Nat) (v : Value) (n : Nat) (xs : List Value) : Prop where
 row : w.ownsRow 0 e size v n xs
 at_ : ∀ k, v.ownBlock = some k → S k
theorem RowIn.keep {S : Nat → Prop} {w w' : World} {e : TypeId} {size n : Nat} {v : Value} {xs : List Value} (h : RowIn S w e size v n xs) (hb : ∀ k, S k → w'.heap[k]? = w.heap[k]?) : RowIn S w' e size v n xs := by
 refine ⟨⟨h.row.1, ?_⟩, h.at_⟩
 rcases h.row.2 with h1 | ⟨g, cap, cur, hv, h1, h2, h3⟩
 ·exact .inl h1
 ·exact .inr ⟨g, cap, cur, hv, h1, by rw [hb g (h.at_ g (by rw [hv]; rfl))]; exact h2, h3⟩
theorem RowIn.made (w : World) (e : TypeId) (size : Nat) (S : Nat → Prop) (hS : S w.heap.size) : RowIn S (w.alloc (.cells #[] e)) e size (.slice (some ⟨w.heap.size, 0, none⟩) 0 0) 0 [] :=
 ⟨World.ownsRow_made _ #[] 0 (Nat.zero_le _) (Nat.zero_le _) (by simp), fun k hk => by cases hk; exact hS⟩
theorem RowIn.own {S : Nat → Prop} {w : World} {e : TypeId} {size n : Nat} {A : Option Addr} {c : Nat} {xs : List Value} (h : RowIn S w e size (.slice A n c) n xs) {lo hi : Nat} (hS : ∀ k, S k → lo ≤ k ∧ k < hi) (hh : hi ≤ w.heap.size) :
  n ≤ c ∧ (A = none → c = 0) ∧ Own w lo hi A xs := by
 obtain ⟨A', c', e1, h1, h2, h3⟩ := ownsRow_slice h.row
 injection e1 with e1 _ e3
 subst e1
 subst e3
 refine ⟨h1, h2, fun hn => ?_⟩
 obtain ⟨b, off, g1, g2, g3, g4, g5, g6⟩ := h3 hn
 subst g1
 have := hS b (h.at_ b rfl)
 exact ⟨b, off, rfl, this.1, this.2, hh, g5, g6⟩
theorem RowIn.widen {S S' : Nat → Prop} {w : World} {e : TypeId} {size n H : Nat} {v : Value} {xs : List Value} (h : RowIn (fun k => S k ∨ k = H) w e size v n xs) (hs : ∀ k, S k → S' k) (hn : v.ownBlock = some H → S' H) : RowIn S' w e size v n xs :=
 ⟨h.row, fun k hk => (h.at_ k hk).elim (hs k) (fun e => by subst e; exact hn hk)⟩
theorem RowIn.of_row {S : Nat → Prop} {w : World} {base : Nat} {e : TypeId} {size n : Nat} {v : Value} {xs : List Value} (h : w.ownsRow base e size v n xs) (hS : ∀ k, base ≤ k → k < w.heap.size → S k) : RowIn S w e size v n xs := by
 refine ⟨⟨h.1, ?_⟩, fun k hk => hS k (h.lt k hk).1 (h.lt k hk).2⟩
 rcases h.2 with h1 | ⟨g, cap, cur, hv, _, h2⟩
 ·exact .inl h1
 ·exact .inr ⟨g, cap, cur, hv, Nat.zero_le _, h2⟩
theorem NewBox.rd {w : World} {k : Nat} {cs : List Value} (h : NewBox w k cs) : Rd w 0 w.heap.size (some ⟨k, 0, none⟩) cs := fun _ =>
 ⟨k, 0, rfl, Nat.zero_le _, h.1, Nat.le_refl _, fun j u hu => by rw [Nat.zero_add]; exact (h.2.1 j).trans hu⟩
theorem gives_append_rd {P : Program} {w : World} {ρ : Operand → Value} {o : Oper} {R : Value → World → Prop} (s x : Operand) (t : TypeId)
  (ho : o.op = .call { callee := .builtin .append, args := #[s, x], argTypes := #[t, t] })
  (e : TypeId) (i : TypeInfo) (z : Value) (size bytes : Nat) (ht : P.underlying t = some (.slice e)) (hi : P.info? e = some i) (hz : i.zero = some z)
  (hsize : i.size = size) (hby : i.bytes = bytes) (hzs : z.cells.size = size) (hsz : 0 < size)
  (v : Value) (n : Nat) (xs : List Value) (hs : ρ s = v) {S : Nat → Prop} (hown : RowIn S w e size v n xs)
  (A : Option Addr) (m c lo hi' : Nat) (news : List Value) (hx : ρ x = .slice A m c) (hl : news.length = m * size) (hr : Rd w lo hi' A news) (hA : A = none → c = 0) (h1 : ∀ u ∈ news, u.oneCell' = true)
  (h63 : n + m ≤ maxLen) (hbytes : (n + m) * bytes ≤ 140737488355328)
  (h : ∀ A' c' w', RowIn (fun k => S k ∨ k = w.heap.size) w' e size (.slice A' (n + m) c') (n + m) (xs ++ news) → (∀ k, (.slice A' (n + m) c' : Value).ownBlock = some k → k < w'.heap.size) → w.grownBy w' v.ownBlock → R (.slice A' (n + m) c') w') : Gives P R ((execOp ρ o).run P w) := by
 obtain ⟨Av, cv, rfl, _, _, _⟩ := ownsRow_slice hown.row
 rcases A with _ | ad
 ·have hnil : news = [] := by
   by_cases hn : news = []
   ·exact hn
   ·obtain ⟨b, off, h1, _⟩ := hr hn; cases h1
  subst hnil
  have hm : m = 0 := by
   rcases Nat.eq_zero_or_pos m with h | h
   ·exact h
   ·have := Nat.mul_pos h hsz
    simp at hl
    omega
  subst hm
  obtain rfl := hA rfl
  have hrun := run_append_owned_none (P := P) (w := w) 0 t o.type e i size ht hi _ n xs hown.row
  unfold execOp
  simp only [ho, resolve, invoke, builtin, Sem.run_bind, Sem.run_pure, Result.andThen_ok, List.map_toArray, List.map_cons, List.map_nil, hs, hx, hrun]
  exact h Av cv w (by simpa using ⟨hown.row, fun k hk => .inl (hown.at_ k hk)⟩) (fun k hk => (hown.row.lt k hk).2) ⟨rfl, rfl, rfl, Nat.le_refl _, fun _ _ _ => rfl⟩
 ·obtain ⟨v', w', hrun, h2, h3, _, h5⟩ := run_append_own_at (P := P) w 0 t o.type e i z size bytes ht hi hz hsize hby hzs hsz _ n xs hown.row ad m c news hl (fun j u hu => by
   obtain ⟨b, off, h1, _, _, _, h5⟩ := hr (by intro e; rw [e] at hu; simp at hu)
   cases h1
   rw [Addr.add_lit]
   exact h5 j u hu) h1 h63 hbytes (Nat.zero_le _)
  obtain ⟨A', c', rfl, _, _, _⟩ := ownsRow_slice h2
  unfold execOp
  simp only [ho, resolve, invoke, builtin, Sem.run_bind, Sem.run_pure, Result.andThen_ok, List.map_toArray, List.map_cons, List.map_nil, hs, hx, hrun]
  refine h A' c' w' ⟨h2, fun k hk => ?_⟩ (fun k hk => (h2.lt k hk).2) h3
  rcases h5 with h5 | h5
  ·exact .inl (hown.at_ k (by rw [← h5]; exact hk))
  ·rw [hk] at h5; cases h5; exact .inr rfl

theorem one_ints (l : List Int) : ∀ u ∈ ints l, u.oneCell' = true := one_map (fun _ => rfl) l
theorem appInt {w : World} {ops : Array Oper} {rest : List Oper} {o : Oper} {a : Act} {Q : Exit → Act → World → Prop} (hgd : o.guard = none) (s x : Operand)
  (ho : o.op = .call { callee := .builtin .append, args := #[s, x], argTypes := #[190, 190] }) (base : Nat) (v : Value) (n : Nat) (xs : List Value) (hs : a.eval s = v) (hown : w.ownsRow base 3 1 v n xs)
  (A : Option Addr) (q c lo hi' : Nat) (l : List Int) (hx : a.eval x = .slice A q c) (hl : l.length = q) (hr : Rd w lo hi' A (ints l)) (hA : A = none → c = 0)
  (h63 : n + q ≤ 100000000) (hbase : base ≤ w.heap.size)
  (h : ∀ v' w', w'.ownsRow base 3 1 v' (n + q) (xs ++ ints l) → w.grownBy w' v.ownBlock → wpList Tryz.prog ops Q rest (a.put o.dst v') w') : wpList Tryz.prog ops Q (o :: rest) a w := by
 obtain ⟨i0, hi0, hz0, hz1, hz2⟩ := info_parts info_int
 exact wpList_append_rd hgd s x _ ho base _ i0 (.int .i64 0) 1 8 Tryz.underlying190 hi0 hz0 hz1 hz2 rfl (by decide) v n xs hs hown A q c lo hi' _ hx (by rw [ints_len, hl]; try omega) hr hA (one_ints _) (by unfold maxLen; omega) (by omega) hbase h
theorem app1Int {w : World} {ops : Array Oper} {rest : List Oper} {o : Oper} {a : Act} {Q : Exit → Act → World → Prop} (hgd : o.guard = none) (s x : Operand)
  (ho : o.op = .call { callee := .builtin .append, args := #[s, x], argTypes := #[190, 190] }) (base : Nat) (v : Value) (n : Nat) (xs : List Value) (hs : a.eval s = v) (hown : w.ownsRow base 3 1 v n xs)
  (k : Nat) (x0 : Int) (hx : a.eval x = .slice (some ⟨k, 0, none⟩) 1 1) (hr : NewBox w k (ints [x0])) (h63 : n + 1 ≤ 100000000) (hbase : base ≤ w.heap.size)
  (h : ∀ v' w', w'.ownsRow base 3 1 v' (n + 1) (xs ++ ints [x0]) → w.grownBy w' v.ownBlock → wpList Tryz.prog ops Q rest (a.put o.dst v') w') : wpList Tryz.prog ops Q (o :: rest) a w := by
 obtain ⟨i0, hi0, hz0, hz1, hz2⟩ := info_parts info_int
 exact wpList_append_one hgd s x _ ho base _ i0 (.int .i64 0) 1 8 Tryz.underlying190 hi0 hz0 hz1 hz2 rfl (by decide) v n xs hs hown k 1 _ hx (by rw [ints_len]; try rfl) hr (one_ints _) (by unfold maxLen; omega) (by omega) hbase h
theorem gappInt {w : World} {ρ : Operand → Value} {o : Oper} {R : Value → World → Prop} (s x : Operand)
  (ho : o.op = .call { callee := .builtin .append, args := #[s, x], argTypes := #[190, 190] }) (v : Value) (n : Nat) (xs : List Value) (hs : ρ s = v) {S : Nat → Prop} (hown : RowIn S w 3 1 v n xs)
  (A : Option Addr) (q c lo hi' : Nat) (l : List Int) (hx : ρ x = .slice A q c) (hl : l.length = q) (hr : Rd w lo hi' A (ints l)) (hA : A = none → c = 0) (h63 : n + q ≤ 100000000)
  (h : ∀ A' c' w', RowIn (fun k => S k ∨ k = w.heap.size) w' 3 1 (.slice A' (n + q) c') (n + q) (xs ++ ints l) → (∀ k, (.slice A' (n + q) c' : Value).ownBlock = some k → k < w'.heap.size) → w.grownBy w' v.ownBlock → R (.slice A' (n + q) c') w') :
  Gives Tryz.prog R ((execOp ρ o).run Tryz.prog w) := by
 obtain ⟨i0, hi0, hz0, hz1, hz2⟩ := info_parts info_int
 exact gives_append_rd s x _ ho _ i0 (.int .i64 0) 1 8 Tryz.underlying190 hi0 hz0 hz1 hz2 rfl (by decide) v n xs hs hown A q c lo hi' _ hx (by rw [ints_len, hl]; try omega) hr hA (one_ints _) (by unfold maxLen; omega) (by omega) h
theorem gapp1Int {w : World} {ρ : Operand → Value} {o : Oper} {R : Value → World → Prop} (s x : Operand)
  (ho : o.op = .call { callee := .builtin .append, args := #[s, x], argTypes := #[190, 190] }) (v : Value) (n : Nat) (xs : List Value) (hs : ρ s = v) {S : Nat → Prop} (hown : RowIn S w 3 1 v n xs)
  (k : Nat) (x0 : Int) (hx : ρ x = .slice (some ⟨k, 0, none⟩) 1 1) (hr : NewBox w k (ints [x0])) (h63 : n + 1 ≤ 100000000)
  (h : ∀ A' c' w', RowIn (fun k => S k ∨ k = w.heap.size) w' 3 1 (.slice A' (n + 1) c') (n + 1) (xs ++ ints [x0]) → (∀ k, (.slice A' (n + 1) c' : Value).ownBlock = some k → k < w'.heap.size) → w.grownBy w' v.ownBlock → R (.slice A' (n + 1) c') w') :
  Gives Tryz.prog R ((execOp ρ o).run Tryz.prog w) :=
 gappInt s x ho v n xs hs hown _ 1 1 0 w.heap.size [x0] hx rfl (NewBox.rd hr) (fun h => by cases h) h63 h
theorem appStr {w : World} {ops : Array Oper} {rest : List Oper} {o : Oper} {a : Act} {Q : Exit → Act → World → Prop} (hgd : o.guard = none) (s x : Operand)
  (ho : o.op = .call { callee := .builtin .append, args := #[s, x], argTypes := #[27, 27] }) (base : Nat) (v : Value) (n : Nat) (xs : List Value) (hs : a.eval s = v) (hown : w.ownsRow base 9 1 v n xs)
  (A : Option Addr) (q c lo hi' : Nat) (l : List ByteArray) (hx : a.eval x = .slice A q c) (hl : l.length = q) (hr : Rd w lo hi' A (strs l)) (hA : A = none → c = 0)
  (h63 : n + q ≤ 100000000) (hbase : base ≤ w.heap.size)
  (h : ∀ v' w', w'.ownsRow base 9 1 v' (n + q) (xs ++ strs l) → w.grownBy w' v.ownBlock → wpList Tryz.prog ops Q rest (a.put o.dst v') w') : wpList Tryz.prog ops Q (o :: rest) a w := by
 obtain ⟨i0, hi0, hz0, hz1, hz2⟩ := info_parts info_string
 exact wpList_append_rd hgd s x _ ho base _ i0 (.string ByteArray.empty) 1 16 Tryz.underlying27 hi0 hz0 hz1 hz2 rfl (by decide) v n xs hs hown A q c lo hi' _ hx (by rw [strs_len, hl]; try omega) hr hA (cloneStr_one _) (by unfold maxLen; omega) (by omega) hbase h
theorem app1Str {w : World} {ops : Array Oper} {rest : List Oper} {o : Oper} {a : Act} {Q : Exit → Act → World → Prop} (hgd : o.guard = none) (s x : Operand)
  (ho : o.op = .call { callee := .builtin .append, args := #[s, x], argTypes := #[27, 27] }) (base : Nat) (v : Value) (n : Nat) (xs : List Value) (hs : a.eval s = v) (hown : w.ownsRow base 9 1 v n xs)
  (k : Nat) (x0 : ByteArray) (hx : a.eval x = .slice (some ⟨k, 0, none⟩) 1 1) (hr : NewBox w k (strs [x0])) (h63 : n + 1 ≤ 100000000) (hbase : base ≤ w.heap.size)
  (h : ∀ v' w', w'.ownsRow base 9 1 v' (n + 1) (xs ++ strs [x0]) → w.grownBy w' v.ownBlock → wpList Tryz.prog ops Q rest (a.put o.dst v') w') : wpList Tryz.prog ops Q (o :: rest) a w := by
 obtain ⟨i0, hi0, hz0, hz1, hz2⟩ := info_parts info_string
 exact wpList_append_one hgd s x _ ho base _ i0 (.string ByteArray.empty) 1 16 Tryz.underlying27 hi0 hz0 hz1 hz2 rfl (by decide) v n xs hs hown k 1 _ hx (by rw [strs_len]; try rfl) hr (cloneStr_one _) (by unfold maxLen; omega) (by omega) hbase h
theorem gappStr {w : World} {ρ : Operand → Value} {o : Oper} {R : Value → World → Prop} (s x : Operand)
  (ho : o.op = .call { callee := .builtin .append, args := #[s, x], argTypes := #[27, 27] }) (v : Value) (n : Nat) (xs : List Value) (hs : ρ s = v) {S : Nat → Prop} (hown : RowIn S w 9 1 v n xs)
  (A : Option Addr) (q c lo hi' : Nat) (l : List ByteArray) (hx : ρ x = .slice A q c) (hl : l.length = q) (hr : Rd w lo hi' A (strs l)) (hA : A = none → c = 0) (h63 : n + q ≤ 100000000)
  (h : ∀ A' c' w', RowIn (fun k => S k ∨ k = w.heap.size) w' 9 1 (.slice A' (n + q) c') (n + q) (xs ++ strs l) → (∀ k, (.slice A' (n + q) c' : Value).ownBlock = some k → k < w'.heap.size) → w.grownBy w' v.ownBlock → R (.slice A' (n + q) c') w') :
  Gives Tryz.prog R ((execOp ρ o).run Tryz.prog w) := by
 obtain ⟨i0, hi0, hz0, hz1, hz2⟩ := info_parts info_string
 exact gives_append_rd s x _ ho _ i0 (.string ByteArray.empty) 1 16 Tryz.underlying27 hi0 hz0 hz1 hz2 rfl (by decide) v n xs hs hown A q c lo hi' _ hx (by rw [strs_len, hl]; try omega) hr hA (cloneStr_one _) (by unfold maxLen; omega) (by omega) h
theorem gapp1Str {w : World} {ρ : Operand → Value} {o : Oper} {R : Value → World → Prop} (s x : Operand)
  (ho : o.op = .call { callee := .builtin .append, args := #[s, x], argTypes := #[27, 27] }) (v : Value) (n : Nat) (xs : List Value) (hs : ρ s = v) {S : Nat → Prop} (hown : RowIn S w 9 1 v n xs)
  (k : Nat) (x0 : ByteArray) (hx : ρ x = .slice (some ⟨k, 0, none⟩) 1 1) (hr : NewBox w k (strs [x0])) (h63 : n + 1 ≤ 100000000)
  (h : ∀ A' c' w', RowIn (fun k => S k ∨ k = w.heap.size) w' 9 1 (.slice A' (n + 1) c') (n + 1) (xs ++ strs [x0]) → (∀ k, (.slice A' (n + 1) c' : Value).ownBlock = some k → k < w'.heap.size) → w.grownBy w' v.ownBlock → R (.slice A' (n + 1) c') w') :
  Gives Tryz.prog R ((execOp ρ o).run Tryz.prog w) :=
 gappStr s x ho v n xs hs hown _ 1 1 0 w.heap.size [x0] hx rfl (NewBox.rd hr) (fun h => by cases h) h63 h
theorem appEnt {w : World} {ops : Array Oper} {rest : List Oper} {o : Oper} {a : Act} {Q : Exit → Act → World → Prop} (hgd : o.guard = none) (s x : Operand)
  (ho : o.op = .call { callee := .builtin .append, args := #[s, x], argTypes := #[42, 42] }) (base : Nat) (v : Value) (n : Nat) (xs : List Value) (hs : a.eval s = v) (hown : w.ownsRow base 79 5 v n xs)
  (A : Option Addr) (q c lo hi' : Nat) (l : List Ent) (hx : a.eval x = .slice A q c) (hl : l.length = q) (hr : Rd w lo hi' A (ents l)) (hA : A = none → c = 0)
  (h63 : n + q ≤ 100000000) (hbase : base ≤ w.heap.size)
  (h : ∀ v' w', w'.ownsRow base 79 5 v' (n + q) (xs ++ ents l) → w.grownBy w' v.ownBlock → wpList Tryz.prog ops Q rest (a.put o.dst v') w') : wpList Tryz.prog ops Q (o :: rest) a w := by
 obtain ⟨i0, hi0, hz0, hz1, hz2⟩ := info_parts info_Entry
 exact wpList_append_rd hgd s x _ ho base _ i0 (.agg #[.string ByteArray.empty, .int .i64 0, .int .i64 0, .string ByteArray.empty, .string ByteArray.empty]) 5 64 Tryz.underlying42 hi0 hz0 hz1 hz2 rfl (by decide) v n xs hs hown A q c lo hi' _ hx (by rw [ents_len, hl]; try omega) hr hA (cloneEnt_one _) (by unfold maxLen; omega) (by omega) hbase h
theorem app1Ent {w : World} {ops : Array Oper} {rest : List Oper} {o : Oper} {a : Act} {Q : Exit → Act → World → Prop} (hgd : o.guard = none) (s x : Operand)
  (ho : o.op = .call { callee := .builtin .append, args := #[s, x], argTypes := #[42, 42] }) (base : Nat) (v : Value) (n : Nat) (xs : List Value) (hs : a.eval s = v) (hown : w.ownsRow base 79 5 v n xs)
  (k : Nat) (x0 : Ent) (hx : a.eval x = .slice (some ⟨k, 0, none⟩) 1 1) (hr : NewBox w k (ents [x0])) (h63 : n + 1 ≤ 100000000) (hbase : base ≤ w.heap.size)
  (h : ∀ v' w', w'.ownsRow base 79 5 v' (n + 1) (xs ++ ents [x0]) → w.grownBy w' v.ownBlock → wpList Tryz.prog ops Q rest (a.put o.dst v') w') : wpList Tryz.prog ops Q (o :: rest) a w := by
 obtain ⟨i0, hi0, hz0, hz1, hz2⟩ := info_parts info_Entry
 exact wpList_append_one hgd s x _ ho base _ i0 (.agg #[.string ByteArray.empty, .int .i64 0, .int .i64 0, .string ByteArray.empty, .string ByteArray.empty]) 5 64 Tryz.underlying42 hi0 hz0 hz1 hz2 rfl (by decide) v n xs hs hown k 1 _ hx (by rw [ents_len]; try rfl) hr (cloneEnt_one _) (by unfold maxLen; omega) (by omega) hbase h
theorem gappEnt {w : World} {ρ : Operand → Value} {o : Oper} {R : Value → World → Prop} (s x : Operand)
  (ho : o.op = .call { callee := .builtin .append, args := #[s, x], argTypes := #[42, 42] }) (v : Value) (n : Nat) (xs : List Value) (hs : ρ s = v) {S : Nat → Prop} (hown : RowIn S w 79 5 v n xs)
  (A : Option Addr) (q c lo hi' : Nat) (l : List Ent) (hx : ρ x = .slice A q c) (hl : l.length = q) (hr : Rd w lo hi' A (ents l)) (hA : A = none → c = 0) (h63 : n + q ≤ 100000000)
  (h : ∀ A' c' w', RowIn (fun k => S k ∨ k = w.heap.size) w' 79 5 (.slice A' (n + q) c') (n + q) (xs ++ ents l) → (∀ k, (.slice A' (n + q) c' : Value).ownBlock = some k → k < w'.heap.size) → w.grownBy w' v.ownBlock → R (.slice A' (n + q) c') w') :
  Gives Tryz.prog R ((execOp ρ o).run Tryz.prog w) := by
 obtain ⟨i0, hi0, hz0, hz1, hz2⟩ := info_parts info_Entry
 exact gives_append_rd s x _ ho _ i0 (.agg #[.string ByteArray.empty, .int .i64 0, .int .i64 0, .string ByteArray.empty, .string ByteArray.empty]) 5 64 Tryz.underlying42 hi0 hz0 hz1 hz2 rfl (by decide) v n xs hs hown A q c lo hi' _ hx (by rw [ents_len, hl]; try omega) hr hA (cloneEnt_one _) (by unfold maxLen; omega) (by omega) h
theorem gapp1Ent {w : World} {ρ : Operand → Value} {o : Oper} {R : Value → World → Prop} (s x : Operand)
  (ho : o.op = .call { callee := .builtin .append, args := #[s, x], argTypes := #[42, 42] }) (v : Value) (n : Nat) (xs : List Value) (hs : ρ s = v) {S : Nat → Prop} (hown : RowIn S w 79 5 v n xs)
  (k : Nat) (x0 : Ent) (hx : ρ x = .slice (some ⟨k, 0, none⟩) 1 1) (hr : NewBox w k (ents [x0])) (h63 : n + 1 ≤ 100000000)
  (h : ∀ A' c' w', RowIn (fun k => S k ∨ k = w.heap.size) w' 79 5 (.slice A' (n + 1) c') (n + 1) (xs ++ ents [x0]) → (∀ k, (.slice A' (n + 1) c' : Value).ownBlock = some k → k < w'.heap.size) → w.grownBy w' v.ownBlock → R (.slice A' (n + 1) c') w') :
  Gives Tryz.prog R ((execOp ρ o).run Tryz.prog w) :=
 gappEnt s x ho v n xs hs hown _ 1 1 0 w.heap.size [x0] hx rfl (NewBox.rd hr) (fun h => by cases h) h63 h
end Go.Proofs.YtmmepogjocfefaaGreat
