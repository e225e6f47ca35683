/- Part 17 of the proof of FnWrites: lemmas and contracts. -/
import Derived.Test.YtoccjgcokffkbaaGreatTw16
import Derived.Deep.AppendLies
namespace Go.Proofs.YtoccjgcokffkbaaGreat
set_option linter.unusedVariables false
set_option linter.unusedSimpArgs false
set_option maxHeartbeats 20000000
set_option maxRecDepth 100000
section
open Go.RowKit
structure Bk where
 E : Option Addr
 R : Option Addr
 H : Option Addr
 A1 : Option Addr
 A2 : Option Addr
 ce : Nat
 cr : Nat
 ch : Nat
 c1 : Nat
 c2 : Nat
structure Bm where
 width : Int
 es : List Ent
 rs : List Rcp
 hs : List Hd
structure aH (w : World) (lo hi : Nat) (a : Bk) (m : Bm) : Prop where
 ok : aB m.width m.es m.rs m.hs
 rE : Rd w lo hi a.E (aQ m.es)
 rR : Rd w lo hi a.R (bf m.rs)
 rH : Rd w lo hi a.H (hds m.hs)
 r1 : Rd w lo hi a.A1 (strs (pk1 m.width m.es m.hs))
 r2 : Rd w lo hi a.A2 (strs (pk2 m.width m.rs m.hs))
 kE : m.es.length ≤ a.ce
 kR : m.rs.length ≤ a.cr
 kH : m.hs.length ≤ a.ch
 nE : a.E = none → a.ce = 0
 nR : a.R = none → a.cr = 0
 nH : a.H = none → a.ch = 0
 n1 : a.A1 = none → a.c1 = 0
 n2 : a.A2 = none → a.c2 = 0
section
variable {w w' : World} {lo hi lo' hi' : Nat} {a : Bk} {m : Bm}
theorem aH.map (h : aH w lo hi a m) (f : ∀ A xs, Rd w lo hi A xs → Rd w' lo' hi' A xs) : aH w' lo' hi' a m :=
 ⟨h.ok, f _ _ h.rE, f _ _ h.rR, f _ _ h.rH, f _ _ h.r1, f _ _ h.r2, h.kE, h.kR, h.kH, h.nE, h.nR, h.nH, h.n1, h.n2⟩
theorem aH.below (h : aH w lo hi a m) (hb : Below w.heap.size w w') : aH w' lo hi a m := h.map fun _ _ r => r.below hb
theorem aH.only (h : aH w lo hi a m) (ho : Only lo' hi' w w') (hd : hi ≤ lo' ∨ hi' ≤ lo) : aH w' lo hi a m := h.map fun _ _ r => r.only ho hd
theorem aH.alloc (h : aH w lo hi a m) (o : Obj) : aH (w.alloc o) lo hi a m := h.map fun _ _ r => r.alloc o
theorem aH.drew (h : aH w lo hi a m) : aH w.drew lo hi a m := h.map fun _ _ r => r.drew
theorem aH.setCell (h : aH w lo hi a m) {p : Addr} (hp : p.block < lo ∨ hi ≤ p.block) (u : Value) : aH (w.setCell p u) lo hi a m := h.map fun _ _ r => r.setCell hp u
theorem aH.mono (h : aH w lo hi a m) (h1 : lo' ≤ lo) (h2 : hi ≤ hi') (h3 : hi' ≤ w.heap.size) : aH w lo' hi' a m := h.map fun _ _ r => r.mono h1 h2 h3
theorem aH.base (h : aH w lo hi a m) : aH w 0 w.heap.size a m := h.map fun _ _ r => r.base
end
theorem fe {t : ByteArray} (h : bW t = true) : t.size ≤ 20 := by
 rw [bW, Bool.and_eq_true] at h
 have := ax.1 h.1
 omega
theorem ent_fit {e : Ent} (h : aY e = true) : e.fits := by
 rw [aY, Bool.and_eq_true, Bool.and_eq_true, dK, Bool.and_eq_true, Bool.and_eq_true] at h
 obtain ⟨h1, h2, h3, h4, h5⟩ := h
 have a1 := fe h1
 have a2 := ax.1 h2
 have a3 := ax.1 h3
 have a4 := of_decide_eq_true h4
 have a5 := of_decide_eq_true h5
 exact ⟨⟨by omega, by omega⟩, ⟨by omega, by omega⟩, by unfold maxLen; omega, by unfold maxLen; omega, by unfold maxLen; omega⟩
theorem rcp_fit {r : Rcp} (h : bZ r = true) : r.fits := by
 rw [bZ, Bool.and_eq_true, Bool.and_eq_true] at h
 obtain ⟨h1, h2, h3⟩ := h
 have a1 := fe h1
 have a2 := fe h2
 have a3 := ax.1 h3
 exact ⟨⟨by omega, by omega⟩, by unfold maxLen; omega, by unfold maxLen; omega⟩
theorem cK {width : Int} {es : List Ent} {rs : List Rcp} {hs : List Hd} (h : aB width es rs hs) :
  (∀ x ∈ es, x.fits) ∧ (∀ x ∈ rs, x.fits) ∧ (∀ x ∈ hs, x.fits) ∧ es.length ≤ 512 ∧ rs.length ≤ 512 ∧ hs.length ≤ 400 ∧ hs.length + dG Hd.bulk hs ≤ 1048576 ∧ (ae hs).fits ∧ (ae hs).bulk ≤ 64 ∧
  (pk1 width es hs).length ≤ 20 ∧ (pk2 width rs hs).length ≤ 20 := by
 have hh : ∀ x ∈ hs, x.fits ∧ x.bulk ≤ 64 := fun x hx => by
  obtain ⟨k, hk⟩ := List.mem_iff_getElem?.1 hx
  have h1 := eO (fA h.heads hk).2.1
  exact ⟨⟨⟨by omega, by omega⟩, ⟨by omega, by omega⟩, ⟨by omega, by omega⟩, by unfold maxLen; omega, by unfold maxLen; omega⟩, by show x.root.size + x.troot.size ≤ 64; omega⟩
 have hl : ∀ l : List Hd, (∀ x ∈ l, x.bulk ≤ 64) → dG Hd.bulk l ≤ l.length * 64 := by
  intro l
  induction l with
  | nil => intro _; exact Nat.zero_le _
  | cons x l ih =>
    intro hx
    have h1 := hx x List.mem_cons_self
    have h2 := ih (fun y hy => hx y (List.mem_cons_of_mem _ hy))
    show x.bulk + dG Hd.bulk l ≤ _
    rw [List.length_cons, Nat.add_mul]; omega
 have hb := hl hs (fun x hx => (hh x hx).2)
 have hn := headsOk_len h.heads
 have hlast := hh (ae hs) (List.mem_of_getElem? (eH h.pos))
 obtain ⟨r1, r2, _, _⟩ := sealOk_all h.sealed
 have p1 := (cO r1)
 have p2 := (cO r2)
 have q1 := popC_le (ae hs).size
 have q2 := popC_le (ae hs).taken
 refine ⟨fun x hx => ?_, fun x hx => ?_, fun x hx => (hh x hx).1, logOk_len h.log, gz h.bf, hn, by omega, hlast.1, hlast.2, by omega, by omega⟩
 ·exact ent_fit (logOk_mem h.log x hx)
 exact rcp_fit (rcpsOk_mem h.bf x hx)
theorem info_Head : (Tryz.prog.info? 33).map (fun i => (i.zero, i.size, i.bytes)) = some (some (.agg #[.int .i64 0, .int .i64 0, .string ByteArray.empty, .int .i64 0, .string ByteArray.empty]), 5, 56) := by kernel_rfl
theorem rcps_one (l : List Rcp) : ∀ u ∈ bf l, u.oneCell' = true := by
 intro u hu
 obtain ⟨x, _, h⟩ := List.mem_flatMap.1 hu
 simp only [Rcp.cells, List.mem_cons, List.not_mem_nil, or_false] at h
 rcases h with rfl | rfl | rfl <;> rfl
theorem hds_one (l : List Hd) : ∀ u ∈ hds l, u.oneCell' = true := by
 intro u hu
 obtain ⟨x, _, h⟩ := List.mem_flatMap.1 hu
 simp only [Hd.cells, List.mem_cons, List.not_mem_nil, or_false] at h
 rcases h with rfl | rfl | rfl | rfl | rfl <;> rfl
theorem rcps_app (a b : List Rcp) : bf (a ++ b) = bf a ++ bf b := by rw [bf, List.flatMap_append]; rfl
theorem hds_app (a b : List Hd) : hds (a ++ b) = hds a ++ hds b := by rw [hds, List.flatMap_append]; rfl
theorem gappRcp {w : World} {ρ : Operand → Value} {o : Oper} {R : Value → World → Prop} (s x : Operand)
  (ho : o.op = .call { callee := .builtin .append, args := #[s, x], argTypes := #[27, 27] }) (v : Value) (n : Nat) (xs : List Value) (hs : ρ s = v) {S : Nat → Prop} (hown : bM S w 43 3 v n xs)
  (A : Option Addr) (q c lo hi' : Nat) (l : List Rcp) (hx : ρ x = .slice A q c) (hl : l.length = q) (hr : Rd w lo hi' A (bf l)) (hA : A = none → c = 0) (h63 : n + q ≤ 100000000)
  (h : ∀ A' c' w', bM (fun k => S k ∨ k = w.heap.size) w' 43 3 (.slice A' (n + q) c') (n + q) (xs ++ bf l) → (∀ k, (.slice A' (n + q) c' : Value).ownBlock = some k → k < w'.heap.size) → w.grownBy w' v.ownBlock → R (.slice A' (n + q) c') w') :
  Gives Tryz.prog R ((execOp ρ o).run Tryz.prog w) := by
 obtain ⟨i0, hi0, hz0, hz1, hz2⟩ := info_parts gZ
 exact gives_append_rd s x _ ho _ i0 (.agg #[.string ByteArray.empty, .string ByteArray.empty, .int .i64 0]) 3 40 Tryz.underlying27 hi0 hz0 hz1 hz2 rfl (by decide) v n xs hs hown A q c lo hi' _ hx (by rw [rcps_len, hl]; try omega) hr hA (rcps_one _) (by unfold maxLen; omega) (by omega) h
theorem gappHd {w : World} {ρ : Operand → Value} {o : Oper} {R : Value → World → Prop} (s x : Operand)
  (ho : o.op = .call { callee := .builtin .append, args := #[s, x], argTypes := #[28, 28] }) (v : Value) (n : Nat) (xs : List Value) (hs : ρ s = v) {S : Nat → Prop} (hown : bM S w 33 5 v n xs)
  (A : Option Addr) (q c lo hi' : Nat) (l : List Hd) (hx : ρ x = .slice A q c) (hl : l.length = q) (hr : Rd w lo hi' A (hds l)) (hA : A = none → c = 0) (h63 : n + q ≤ 100000000)
  (h : ∀ A' c' w', bM (fun k => S k ∨ k = w.heap.size) w' 33 5 (.slice A' (n + q) c') (n + q) (xs ++ hds l) → (∀ k, (.slice A' (n + q) c' : Value).ownBlock = some k → k < w'.heap.size) → w.grownBy w' v.ownBlock → R (.slice A' (n + q) c') w') :
  Gives Tryz.prog R ((execOp ρ o).run Tryz.prog w) := by
 obtain ⟨i0, hi0, hz0, hz1, hz2⟩ := info_parts info_Head
 exact gives_append_rd s x _ ho _ i0 (.agg #[.int .i64 0, .int .i64 0, .string ByteArray.empty, .int .i64 0, .string ByteArray.empty]) 5 56 Tryz.underlying28 hi0 hz0 hz1 hz2 rfl (by decide) v n xs hs hown A q c lo hi' _ hx (by rw [hds_len, hl]; try omega) hr hA (hds_one _) (by unfold maxLen; omega) (by omega) h
def aU (w : World) (lo hi : Nat) (a : Value × Nat) (xs : List Value) : Prop := w.ownsRow lo 9 1 a.1 a.2 xs ∧ ∀ k, a.1.ownBlock = some k → k < hi
section
variable {w w' : World} {lo hi lo' hi' : Nat} {a : Value × Nat} {xs : List Value}
theorem aU.keep (h : aU w lo hi a xs) (hb : ∀ k, k < w.heap.size → lo ≤ k → k < hi → w'.heap[k]? = w.heap[k]?) : aU w' lo hi a xs := by
 refine ⟨⟨h.1.1, ?_⟩, h.2⟩
 rcases h.1.2 with h1 | ⟨g, cap, cur, h1, h2, h3, h4⟩
 ·exact .inl h1
 ·exact .inr ⟨g, cap, cur, h1, h2, (hb g (Array.getElem?_eq_some_iff.1 h3).1 h2 (h.2 g (by rw [h1]; rfl))).trans h3, h4⟩
theorem aU.of {n : Nat} {v : Value} (h : w.ownsRow lo 9 1 v n xs) : aU w lo w.heap.size (v, n) xs := ⟨h, fun k hk => (h.lt k hk).2⟩
theorem aU.mono (h : aU w lo hi a xs) (h1 : lo' ≤ lo) (h2 : hi ≤ hi') : aU w lo' hi' a xs := ⟨row_mono h.1 h1, fun k hk => Nat.lt_of_lt_of_le (h.2 k hk) h2⟩
theorem aU.below (h : aU w lo hi a xs) (hb : Below w.heap.size w w') : aU w' lo hi a xs := h.keep (fun k hk _ _ => hb.block k hk)
theorem aU.alloc (h : aU w lo hi a xs) (o : Obj) : aU (w.alloc o) lo hi a xs := h.below ((Below.refl _ _).alloc (Nat.le_refl _) o)
theorem aU.drew (h : aU w lo hi a xs) : aU w.drew lo hi a xs := h
theorem aU.setCell (h : aU w lo hi a xs) {p : Addr} (hp : p.block < lo ∨ hi ≤ p.block) (u : Value) : aU (w.setCell p u) lo hi a xs := h.keep (fun k _ h1 h2 => Below.heap_setCell _ _ _ _ (by omega))
theorem aU.only (h : aU w lo hi a xs) (ho : Only lo' hi' w w') (hd : hi ≤ lo' ∨ hi' ≤ lo) : aU w' lo hi a xs := h.keep (fun k hk h1 h2 => ho.block k hk (by omega))
theorem aU.own {A : Option Addr} {n c m : Nat} (h : aU w lo hi (.slice A n c, m) xs) (hm : m = n) : Own w lo w.heap.size A xs := by
 subst hm; exact Own.bn h.1
end
theorem rowB_app {w w5 : World} {lo n m : Nat} {v v5 : Value} {xs ys : List Value} (h : w.ownsRow lo 9 1 v n xs) (t : Obj) (h5 : w5.ownsRow lo 9 1 v5 m ys) (hg : (w.alloc t).grownBy w5 v.ownBlock) :
  aU w5 lo w5.heap.size (v5, m) ys ∧ Only lo (w.heap.size + 1) w w5 := by
 refine ⟨aU.of h5, ?_⟩
 have h1 : Only lo (w.heap.size + 1) (w.alloc t) w5 := by
  have := bJ (h.alloc t) hg
  simpa using this
 exact (Only.of_below ((Below.refl _ _).alloc (Nat.le_refl _) t)).trans h1
def aJ (w : World) (lo hi : Nat) (a : (TypeId × Nat) × Value × Nat) (xs : List Value) : Prop := w.ownsRow lo a.1.1 a.1.2 a.2.1 a.2.2 xs ∧ ∀ k, a.2.1.ownBlock = some k → k < hi
section
variable {w w' : World} {lo hi lo' hi' : Nat} {a : (TypeId × Nat) × Value × Nat} {xs : List Value}
theorem aJ.keep (h : aJ w lo hi a xs) (hb : ∀ k, k < w.heap.size → lo ≤ k → k < hi → w'.heap[k]? = w.heap[k]?) : aJ w' lo hi a xs := by
 refine ⟨⟨h.1.1, ?_⟩, h.2⟩
 rcases h.1.2 with h1 | ⟨g, cap, cur, h1, h2, h3, h4⟩
 ·exact .inl h1
 ·exact .inr ⟨g, cap, cur, h1, h2, (hb g (Array.getElem?_eq_some_iff.1 h3).1 h2 (h.2 g (by rw [h1]; rfl))).trans h3, h4⟩
theorem aJ.of {e : TypeId} {size n : Nat} {v : Value} (h : w.ownsRow lo e size v n xs) : aJ w lo w.heap.size ((e, size), v, n) xs := ⟨h, fun k hk => (h.lt k hk).2⟩
theorem aJ.mono (h : aJ w lo hi a xs) (h1 : lo' ≤ lo) (h2 : hi ≤ hi') : aJ w lo' hi' a xs := ⟨row_mono h.1 h1, fun k hk => Nat.lt_of_lt_of_le (h.2 k hk) h2⟩
theorem aJ.below (h : aJ w lo hi a xs) (hb : Below w.heap.size w w') : aJ w' lo hi a xs := h.keep (fun k hk _ _ => hb.block k hk)
theorem aJ.alloc (h : aJ w lo hi a xs) (o : Obj) : aJ (w.alloc o) lo hi a xs := h.below ((Below.refl _ _).alloc (Nat.le_refl _) o)
theorem aJ.drew (h : aJ w lo hi a xs) : aJ w.drew lo hi a xs := h
theorem aJ.setCell (h : aJ w lo hi a xs) {p : Addr} (hp : p.block < lo ∨ hi ≤ p.block) (u : Value) : aJ (w.setCell p u) lo hi a xs := h.keep (fun k _ h1 h2 => Below.heap_setCell _ _ _ _ (by omega))
theorem aJ.only (h : aJ w lo hi a xs) (ho : Only lo' hi' w w') (hd : hi ≤ lo' ∨ hi' ≤ lo) : aJ w' lo hi a xs := h.keep (fun k hk h1 h2 => ho.block k hk (by omega))
theorem aJ.own {e : TypeId} {size n c : Nat} {A : Option Addr} (h : aJ w lo hi ((e, size), .slice A n c, n) xs) (hh : hi ≤ w.heap.size) : n ≤ c ∧ (A = none → c = 0) ∧ Own w lo hi A xs := by
 obtain ⟨A', c', e1, h1, h2, h3⟩ := az h.1
 injection e1 with e1 _ e3
 subst e1
 subst e3
 refine ⟨h1, h2, fun hn => ?_⟩
 obtain ⟨b, off, g1, g2, g3, g4, g5, g6⟩ := h3 hn
 subst g1
 exact ⟨b, off, rfl, g2, h.2 b rfl, hh, g5, g6⟩
theorem aJ.rd {e : TypeId} {size n c : Nat} {A : Option Addr} (h : aJ w lo hi ((e, size), .slice A n c, n) xs) (hh : hi ≤ w.heap.size) : Rd w lo hi A xs := (h.own hh).2.2.rd
end
theorem aJ.keepB {w w' : World} {lo hi : Nat} {a : (TypeId × Nat) × Value × Nat} {xs : List Value} (h : aJ w lo hi a xs) (hb : ∀ k, a.2.1.ownBlock = some k → k < w.heap.size → w'.heap[k]? = w.heap[k]?) : aJ w' lo hi a xs := by
 refine ⟨⟨h.1.1, ?_⟩, h.2⟩
 rcases h.1.2 with h1 | ⟨g, cap, cur, h1, h2, h3, h4⟩
 ·exact .inl h1
 exact .inr ⟨g, cap, cur, h1, h2, (hb g (by rw [h1]; rfl) (Array.getElem?_eq_some_iff.1 h3).1).trans h3, h4⟩
theorem aJ.grown {w w' : World} {lo hi : Nat} {a : (TypeId × Nat) × Value × Nat} {xs : List Value} (h : aJ w lo hi a xs) {r : Option Nat} (hg : w.grownBy w' r) (hap : ∀ k, a.2.1.ownBlock = some k → r ≠ some k) : aJ w' lo hi a xs :=
 h.keepB fun k hk hl => hg.block k hl (fun e => hap k hk e.symm)
theorem aJ.of0 {w : World} {lo hi n size : Nat} {e : TypeId} {v : Value} {xs : List Value} (h : w.ownsRow 0 e size v n xs) (hb : ∀ k, v.ownBlock = some k → lo ≤ k ∧ k < hi) : aJ w lo hi ((e, size), v, n) xs := by
 refine ⟨⟨h.1, ?_⟩, fun k hk => (hb k hk).2⟩
 rcases h.2 with h1 | ⟨g, cap, cur, h1, _, h3, h4⟩
 ·exact .inl h1
 exact .inr ⟨g, cap, cur, h1, (hb g (by rw [h1]; rfl)).1, h3, h4⟩
theorem aJ.at_ {w : World} {lo hi : Nat} {a : (TypeId × Nat) × Value × Nat} {xs : List Value} (h : aJ w lo hi a xs) : ∀ k, a.2.1.ownBlock = some k → lo ≤ k ∧ k < hi := fun k hk => ⟨(h.1.lt k hk).1, h.2 k hk⟩
theorem aJ.onlyG {w w' : World} {lo hi : Nat} {a : (TypeId × Nat) × Value × Nat} {xs : List Value} (h : aJ w lo hi a xs) (hg : w.grownBy w' a.2.1.ownBlock) : Only lo hi w w' :=
 ⟨hg.os, hg.tape, hg.output, hg.size, fun k hk hd => hg.block k hk (fun e => by have := h.at_ k e.symm; omega)⟩
def Ap (v1 v2 : Value) : Prop := ∀ k, v1.ownBlock = some k → v2.ownBlock ≠ some k
theorem Ap.symm {v1 v2 : Value} (h : Ap v1 v2) : Ap v2 v1 := fun k h1 h2 => h k h2 h1
structure Bl where
 es : List Ent
 rs : List Rcp
 hs : List Hd
 l1 : List ByteArray
 l2 : List ByteArray
def Bm.bl (m : Bm) : Bl := ⟨m.es, m.rs, m.hs, pk1 m.width m.es m.hs, pk2 m.width m.rs m.hs⟩
structure bY (w : World) (lo hi : Nat) (a : Bk) (m : Bl) : Prop where
 e : aJ w lo hi ((41, 5), .slice a.E m.es.length a.ce, m.es.length) (aQ m.es)
 r : aJ w lo hi ((43, 3), .slice a.R m.rs.length a.cr, m.rs.length) (bf m.rs)
 h : aJ w lo hi ((33, 5), .slice a.H m.hs.length a.ch, m.hs.length) (hds m.hs)
 a1 : aJ w lo hi ((9, 1), .slice a.A1 m.l1.length a.c1, m.l1.length) (strs m.l1)
 a2 : aJ w lo hi ((9, 1), .slice a.A2 m.l2.length a.c2, m.l2.length) (strs m.l2)
 er : Ap (.slice a.E m.es.length a.ce) (.slice a.R m.rs.length a.cr)
 eh : Ap (.slice a.E m.es.length a.ce) (.slice a.H m.hs.length a.ch)
 rh : Ap (.slice a.R m.rs.length a.cr) (.slice a.H m.hs.length a.ch)
 r1 : Ap (.slice a.A1 m.l1.length a.c1) (.slice a.R m.rs.length a.cr)
 r2 : Ap (.slice a.A2 m.l2.length a.c2) (.slice a.R m.rs.length a.cr)
 h1 : Ap (.slice a.A1 m.l1.length a.c1) (.slice a.H m.hs.length a.ch)
 h2 : Ap (.slice a.A2 m.l2.length a.c2) (.slice a.H m.hs.length a.ch)
section
variable {w w' : World} {lo hi lo' hi' : Nat} {a : Bk} {m : Bl}
theorem bY.map (h : bY w lo hi a m) (f : ∀ {a xs}, aJ w lo hi a xs → aJ w' lo' hi' a xs) : bY w' lo' hi' a m :=
 ⟨f h.e, f h.r, f h.h, f h.a1, f h.a2, h.er, h.eh, h.rh, h.r1, h.r2, h.h1, h.h2⟩
theorem bY.below (h : bY w lo hi a m) (hb : Below w.heap.size w w') : bY w' lo hi a m := h.map fun r => r.below hb
theorem bY.only (h : bY w lo hi a m) (ho : Only lo' hi' w w') (hd : hi ≤ lo' ∨ hi' ≤ lo) : bY w' lo hi a m := h.map fun r => r.only ho hd
theorem bY.alloc (h : bY w lo hi a m) (o : Obj) : bY (w.alloc o) lo hi a m := h.map fun r => r.alloc o
theorem bY.drew (h : bY w lo hi a m) : bY w.drew lo hi a m := h.map fun r => r.drew
theorem bY.setCell (h : bY w lo hi a m) {p : Addr} (hp : p.block < lo ∨ hi ≤ p.block) (u : Value) : bY (w.setCell p u) lo hi a m := h.map fun r => r.setCell hp u
theorem bY.mono (h : bY w lo hi a m) (h1 : lo' ≤ lo) (h2 : hi ≤ hi') : bY w lo' hi' a m := h.map fun r => r.mono h1 h2
end
theorem brk_rows {w : World} {lo ea eb ra rb ha hb ne nr nh ce cr ch c1 c2 : Nat} {E R H A1 A2 : Option Addr} {width : Int} {es : List Ent} {rs : List Rcp} {hs : List Hd} (ok : aB width es rs hs) (hne : es.length = ne) (hnr : rs.length = nr) (hnh : hs.length = nh)
  (e : aJ w ea eb ((41, 5), .slice E ne ce, ne) (aQ es)) (r : aJ w ra rb ((43, 3), .slice R nr cr, nr) (bf rs)) (h : aJ w ha hb ((33, 5), .slice H nh ch, nh) (hds hs))
  (a1 : Rd w lo w.heap.size A1 (strs (pk1 width es hs))) (a2 : Rd w lo w.heap.size A2 (strs (pk2 width rs hs))) (n1 : A1 = none → c1 = 0) (n2 : A2 = none → c2 = 0) (h1 : lo ≤ ea ∧ eb ≤ w.heap.size) (h2 : lo ≤ ra ∧ rb ≤ w.heap.size) (h3 : lo ≤ ha ∧ hb ≤ w.heap.size) :
  aH w lo w.heap.size ⟨E, R, H, A1, A2, ce, cr, ch, c1, c2⟩ ⟨width, es, rs, hs⟩ := by
 subst hne
 subst hnr
 subst hnh
 obtain ⟨p1, p2, p3⟩ := e.own h1.2
 obtain ⟨q1, q2, q3⟩ := r.own h2.2
 obtain ⟨r1, r2, r3⟩ := h.own h3.2
 exact ⟨ok, p3.rd.mono h1.1 h1.2 (Nat.le_refl _), q3.rd.mono h2.1 h2.2 (Nat.le_refl _), r3.rd.mono h3.1 h3.2 (Nat.le_refl _), a1, a2, p1, q1, r1, p2, q2, r2, n1, n2⟩
theorem aJ.cast {w : World} {lo hi : Nat} {a a' : (TypeId × Nat) × Value × Nat} {xs : List Value} (h : aJ w lo hi a xs) (e : a = a') : aJ w lo hi a' xs := e ▸ h
theorem app1LRcp {w : World} {ops : Array Oper} {rest : List Oper} {o : Oper} {a : Act} {Q : Exit → Act → World → Prop} (hgd : o.guard = none) (s x : Operand)
  (ho : o.op = .call { callee := .builtin .append, args := #[s, x], argTypes := #[27, 27] }) (lo hi k : Nat) (v : Value) (n : Nat) (xs : List Value) (x0 : Rcp) (hs : a.eval s = v) (h0 : aJ w lo hi ((43, 3), v, n) xs)
  (hx : a.eval x = .slice (some ⟨k, 0, none⟩) 1 1) (hr : aa w k (bf [x0])) (h63 : n + 1 ≤ 100000000) (hbase : lo ≤ w.heap.size) (H : Nat) (hH : w.heap.size = H)
  (h : ∀ g cap w', lo ≤ g → (g < hi ∨ g = H) → g < w'.heap.size → aJ w' g (g + 1) ((43, 3), .slice (some ⟨g, 0, none⟩) (n + 1) cap, n + 1) (xs ++ bf [x0]) → w.grownBy w' v.ownBlock → wpList Tryz.prog ops Q rest (a.put o.dst (.slice (some ⟨g, 0, none⟩) (n + 1) cap)) w') : wpList Tryz.prog ops Q (o :: rest) a w := by
 obtain ⟨i0, hi0, hz0, hz1, hz2⟩ := info_parts gZ
 refine wpList_append_lies _ hgd s x _ ho lo _ i0 (.agg #[.string ByteArray.empty, .string ByteArray.empty, .int .i64 0]) 3 40 Tryz.underlying27 hi0 hz0 hz1 hz2 rfl (by decide) v n xs hs h0.1 ⟨k, 0, none⟩ 1 1 (bf [x0]) hx (by rw [rcps_len]; try rfl) (fun j u hu => by rw [Addr.add_lit, Nat.zero_add]; exact (hr.2.1 j).trans hu) (rcps_one _) (by omega) (by unfold maxLen; omega) (by omega) hbase H hH ?_
 intro g cap w' h1 h2 h3 h4
 have hlo : lo ≤ g := (h1.lt g rfl).1
 refine h g cap w' hlo (h3.elim (fun e => .inl (h0.2 g e)) .inr) h4 ⟨?_, fun k hk => by have hk' : g = k := (by injection hk); show k < g + 1; omega⟩ h2
 refine ⟨h1.1, ?_⟩
 rcases h1.2 with ⟨e, _⟩ | ⟨g', cap', cur, e, h5, h6⟩
 ·cases e
 cases e; exact .inr ⟨g, cap, cur, rfl, Nat.le_refl _, h6⟩
theorem app1LHd {w : World} {ops : Array Oper} {rest : List Oper} {o : Oper} {a : Act} {Q : Exit → Act → World → Prop} (hgd : o.guard = none) (s x : Operand)
  (ho : o.op = .call { callee := .builtin .append, args := #[s, x], argTypes := #[28, 28] }) (lo hi k : Nat) (v : Value) (n : Nat) (xs : List Value) (x0 : Hd) (hs : a.eval s = v) (h0 : aJ w lo hi ((33, 5), v, n) xs)
  (hx : a.eval x = .slice (some ⟨k, 0, none⟩) 1 1) (hr : aa w k (hds [x0])) (h63 : n + 1 ≤ 100000000) (hbase : lo ≤ w.heap.size) (H : Nat) (hH : w.heap.size = H)
  (h : ∀ g cap w', lo ≤ g → (g < hi ∨ g = H) → g < w'.heap.size → aJ w' g (g + 1) ((33, 5), .slice (some ⟨g, 0, none⟩) (n + 1) cap, n + 1) (xs ++ hds [x0]) → w.grownBy w' v.ownBlock → wpList Tryz.prog ops Q rest (a.put o.dst (.slice (some ⟨g, 0, none⟩) (n + 1) cap)) w') : wpList Tryz.prog ops Q (o :: rest) a w := by
 obtain ⟨i0, hi0, hz0, hz1, hz2⟩ := info_parts info_Head
 refine wpList_append_lies _ hgd s x _ ho lo _ i0 (.agg #[.int .i64 0, .int .i64 0, .string ByteArray.empty, .int .i64 0, .string ByteArray.empty]) 5 56 Tryz.underlying28 hi0 hz0 hz1 hz2 rfl (by decide) v n xs hs h0.1 ⟨k, 0, none⟩ 1 1 (hds [x0]) hx (by rw [hds_len]; try rfl) (fun j u hu => by rw [Addr.add_lit, Nat.zero_add]; exact (hr.2.1 j).trans hu) (hds_one _) (by omega) (by unfold maxLen; omega) (by omega) hbase H hH ?_
 intro g cap w' h1 h2 h3 h4
 have hlo : lo ≤ g := (h1.lt g rfl).1
 refine h g cap w' hlo (h3.elim (fun e => .inl (h0.2 g e)) .inr) h4 ⟨?_, fun k hk => by have hk' : g = k := (by injection hk); show k < g + 1; omega⟩ h2
 refine ⟨h1.1, ?_⟩
 rcases h1.2 with ⟨e, _⟩ | ⟨g', cap', cur, e, h5, h6⟩
 ·cases e
 cases e; exact .inr ⟨g, cap, cur, rfl, Nat.le_refl _, h6⟩
theorem bY.pushE {w : World} {lo hi lo0 : Nat} {a : Bk} {m : Bm} (h : bY w lo hi a m.bl) (hh : hi ≤ w.heap.size) (h0 : lo0 ≤ lo) (ok : aB m.width m.es m.rs m.hs) {x : Ent} {E' : Option Addr} {c' : Nat} (hn : aB m.width (m.es ++ [x]) m.rs m.hs)
  (hE : Rd w lo0 hi E' (aQ (m.es ++ [x]))) (hc : m.es.length + 1 ≤ c') (he : E' = none → c' = 0) : aH w lo0 hi { a with E := E', ce := c' } { m with es := m.es ++ [x] } := by
 obtain ⟨q1, q2, q3⟩ := h.r.own hh
 obtain ⟨r1, r2, r3⟩ := h.h.own hh
 obtain ⟨_, s2, s3⟩ := h.a1.own hh
 obtain ⟨_, t2, t3⟩ := h.a2.own hh
 refine ⟨hn, hE, q3.rd.mono h0 (Nat.le_refl _) hh, r3.rd.mono h0 (Nat.le_refl _) hh, ?_, t3.rd.mono h0 (Nat.le_refl _) hh, by show (m.es ++ [x]).length ≤ c'; rw [List.length_append]; exact hc, q1, r1, he, q2, r2, s2, t2⟩
 show Rd w lo0 hi a.A1 (strs (pk1 m.width (m.es ++ [x]) m.hs))
 rw [pk1_more ok]
 exact s3.rd.mono h0 (Nat.le_refl _) hh
end
end Go.Proofs.YtoccjgcokffkbaaGreat
