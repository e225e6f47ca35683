/- Part 3 of the proof of FnWrites: lemmas and contracts. -/
import Derived.BigQuiet
import Derived.Deep.QuietTactic
import Derived.Laws.BitsLemmas
import Derived.Laws.IdiomStrings
import Derived.Test.YtoccjgcokffkbaaGreatTw2
import Derived.Test.YtoccjgcokffkbaaGreatRows
import Derived.WalkKit
import Derived.ProofKit
import Derived.OpenShut
import Derived.ChangeOld
namespace Go.Proofs.YtoccjgcokffkbaaGreat
set_option linter.unusedVariables false
set_option linter.unusedSimpArgs false
set_option maxHeartbeats 20000000
set_option maxRecDepth 100000
section
open Go.RowKit
theorem aa.setD {w : World} {k : Nat} {cs : List Value} (h : aa w k cs) {o : Nat} (ho : o < cs.length) (u : Value) : aa (w.setCell ⟨k, o, none⟩ u) k (cs.set o u) := by
 refine ⟨by simpa [World.setCell] using h.1, fun i => ?_, fun i => by simpa using h.2.2 i⟩
 by_cases hij : o = i
 ·subst hij
  rw [List.getElem?_set_self ho]
  exact World.cell?_setCell_same _ _ _ ((h.2.1 o).trans (List.getElem?_eq_getElem ho))
 rw [List.getElem?_set_ne hij, World.cell?_setCell_other _ _ _ _ (by simp only [ne_eq, Addr.mk.injEq, and_true, true_and]; omega)]
 exact h.2.1 i
theorem and255 (n : Int) : bits .and .i64 n 255 = n % 256 := by
 have h255 : (BitVec.ofInt 64 255).toNat = 2 ^ 8 - 1 := by decide
 have key : (BitVec.ofInt 64 n &&& BitVec.ofInt 64 255).toNat = (n % ((2 ^ 64 : Nat) : Int)).toNat % 2 ^ 8 := by
  rw [BitVec.toNat_and, BitVec.toNat_ofInt, h255, Nat.and_two_pow_sub_one_eq_mod]
 show IntKind.i64.wrap ((BitVec.ofInt 64 n &&& BitVec.ofInt 64 255).toNat : Nat) = n % 256
 rw [key, IntKind.wrap_i64]
 omega
theorem and30 (n : Int) : bits .and .i64 n 1073741823 = n % 1073741824 := by
 have h30 : (BitVec.ofInt 64 1073741823).toNat = 2 ^ 30 - 1 := by decide
 have key : (BitVec.ofInt 64 n &&& BitVec.ofInt 64 1073741823).toNat = (n % ((2 ^ 64 : Nat) : Int)).toNat % 2 ^ 30 := by
  rw [BitVec.toNat_and, BitVec.toNat_ofInt, h30, Nat.and_two_pow_sub_one_eq_mod]
 show IntKind.i64.wrap ((BitVec.ofInt 64 n &&& BitVec.ofInt 64 1073741823).toNat : Nat) = n % 1073741824
 rw [key, IntKind.wrap_i64]
 omega
theorem post_named {P : Program} {f : Func} {R : Ending → World → Prop} {e : Exit} {a : Act} {W : World} (h : ∀ W', W' = W → bodyPost P f R e a W') : bodyPost P f R e a W := h W rfl
def bys (l : List Int) : List Value := l.map (Value.int .u8)
def CurAt (w : World) (p : Nat) (B : Option Addr) (n g : Nat) : Prop := ∃ (i : Nat) (h : Int), aa w p [.slice B n g, .int .i64 i, .int .i64 h] ∧ i ≤ n
theorem l01Byte_c (p n g lo hi : Nat) (B : Option Addr) (l : List Int) (w : World) (hc : CurAt w p B n g) (hr : Rd w lo hi B (bys l)) (hl : l.length = n) (hn : n ≤ 1048576) (hb : ∀ x ∈ l, 0 ≤ x ∧ x ≤ 255) (hhi : hi ≤ p) :
  Calls Tryz.prog 62 #[.pointer (some ⟨p, 0, none⟩)] w fun e w' => ∃ x : Int, e = .returned (.int .i64 x) ∧ 0 ≤ x ∧ x ≤ 255 ∧ CurAt w' p B n g ∧ Only p (p + 1) w w' := by
 obtain ⟨i, h, hx, hi2⟩ := hc
 have e0 : w.cell? ⟨p, 0, none⟩ = some (.slice B n g) := hx.cell (o := 0) rfl
 have e1 : w.cell? ⟨p, 1, none⟩ = some (.int .i64 i) := hx.cell (o := 1) rfl
 have e2 : w.cell? ⟨p, 2, none⟩ = some (.int .i64 h) := hx.cell (o := 2) rfl
 have hf := hx.2.2
 have hp := hx.1
 go_enter Tryz.func62, Tryz.ntmps62
 go_wp2_with fail
 obtain ⟨h2, hh2⟩ : ∃ h2, h2 = wrap64 (wrap64 (h * 6364136223846793005) + 1442695040888963407) := ⟨_, rfl⟩
 rw [← hh2]
 refine aC (fun w1 hw => ?_)
 have hx1 : aa w1 p [.slice B n g, .int .i64 i, .int .i64 h2] := by rw [hw]; exact hx.setD (o := 2) (by simp) _
 have ho1 : Only p (p + 1) w w1 := by rw [hw]; exact (Only.refl _ _ _).setCell (by exact Nat.le_refl _) (by exact Nat.lt_succ_self _) _
 clear hw hh2 e0 e1 e2 hf hp hx
 have e0 : w1.cell? ⟨p, 0, none⟩ = some (.slice B n g) := hx1.cell (o := 0) rfl
 have e1 : w1.cell? ⟨p, 1, none⟩ = some (.int .i64 i) := hx1.cell (o := 1) rfl
 have e2 : w1.cell? ⟨p, 2, none⟩ = some (.int .i64 h2) := hx1.cell (o := 2) rfl
 have hf := hx1.2.2
 have hp := hx1.1
 go_quiet (fail)
 have hxb := and255 (bits .xor .i64 (h2 / 8589934592) (h2 / 35184372088832))
 generalize bits .and .i64 (bits .xor .i64 (h2 / 8589934592) (h2 / 35184372088832)) 255 = x at *
 generalize bits .xor .i64 (h2 / 8589934592) (h2 / 35184372088832) = x0 at *
 have hx0 : 0 ≤ x ∧ x ≤ 255 := by omega
 generalize hw2 : w1.drewN nq = w2
 have hx2 : aa w2 p [.slice B n g, .int .i64 i, .int .i64 h2] := by rw [← hw2]; exact hx1.drewN _
 have ho2 : Only p (p + 1) w w2 := by rw [← hw2]; exact ho1.trans ⟨rfl, rfl, rfl, Nat.le_refl _, fun _ _ _ => rfl⟩
 clear hw2 hxb e0 e1 e2 hf hp hx1 ho1
 have e0 : w2.cell? ⟨p, 0, none⟩ = some (.slice B n g) := hx2.cell (o := 0) rfl
 have e1 : w2.cell? ⟨p, 1, none⟩ = some (.int .i64 i) := hx2.cell (o := 1) rfl
 have hp := hx2.1
 go_wp2_with fail
 go_quiet (fail)
 generalize hw3 : w2.drewN _ = w3
 have hx3 : aa w3 p [.slice B n g, .int .i64 i, .int .i64 h2] := by rw [← hw3]; exact hx2.drewN _
 have ho3 : Only p (p + 1) w w3 := by rw [← hw3]; exact ho2.trans ⟨rfl, rfl, rfl, Nat.le_refl _, fun _ _ _ => rfl⟩
 clear hw3 e0 e1 hp hx2 ho2
 by_cases hlt : i < n
 ·obtain ⟨b, off, rfl, q1, q2, q3, q4⟩ := hr (fun e => by rw [bys] at e; have := List.map_eq_nil_iff.1 e; rw [this] at hl; simp at hl; omega)
  obtain ⟨v, hv⟩ : ∃ v, l[i]? = some v := ⟨_, List.getElem?_eq_getElem (by omega)⟩
  have hvb := hb v (List.mem_of_getElem? hv)
  have hcell := q4 i (.int .u8 v) (by rw [bys, List.getElem?_map, hv]; rfl)
  have hc3 : w3.cell? ⟨b, off + i, none⟩ = some (.int .u8 v) := (World.cell?_of_block (ho3.block b (by omega) (.inl (by omega)))).trans hcell
  have e0 : w3.cell? ⟨p, 0, none⟩ = some (.slice (some ⟨b, off, none⟩) n g) := hx3.cell (o := 0) rfl
  have e1 : w3.cell? ⟨p, 1, none⟩ = some (.int .i64 i) := hx3.cell (o := 1) rfl
  have hp := hx3.1
  have hI : (i : Int) < n := by omega
  have hN : (n : Int) ≤ 1048576 := by omega
  clear hcell hv q4 hr
  go_wp2_with fail
  go_quiet (fail)
  have hyb := and255 (x + v)
  generalize bits .and .i64 (x + v) 255 = y at *
  have hy0 : 0 ≤ y ∧ y ≤ 255 := by omega
  generalize hw4 : w3.drewN _ = w4
  have hx4 : aa w4 p [.slice (some ⟨b, off, none⟩) n g, .int .i64 i, .int .i64 h2] := by rw [← hw4]; exact hx3.drewN _
  have ho4 : Only p (p + 1) w w4 := by rw [← hw4]; exact ho3.trans ⟨rfl, rfl, rfl, Nat.le_refl _, fun _ _ _ => rfl⟩
  clear hw4 hyb e0 e1 hp hx3 ho3 hc3
  have e1 : w4.cell? ⟨p, 1, none⟩ = some (.int .i64 i) := hx4.cell (o := 1) rfl
  have hf := hx4.2.2; have hp := hx4.1
  have hI2 : (i : Int) ≤ 1048576 := by omega
  go_wp2
  refine post_named (fun w5 hw => ?_)
  have hx5 : aa w5 p [.slice (some ⟨b, off, none⟩) n g, .int .i64 ((i : Int) + 1), .int .i64 h2] := by rw [hw]; exact hx4.setD (o := 1) (by simp) _
  have ho5 : Only p (p + 1) w w5 := by rw [hw]; exact ho4.setCell (by exact Nat.le_refl _) (by exact Nat.lt_succ_self _) _
  clear hw
  go_ret
  exact ⟨y, rfl, hy0.1, hy0.2, ⟨i + 1, h2, hx5, by omega⟩, ho5⟩
 have hnlt : ¬ (i : Int) < n := by omega
 go_wp2
 go_ret
 exact ⟨x, rfl, hx0.1, hx0.2, ⟨i, h2, hx3, hi2⟩, ho3⟩
structure Code (w : World) (p : Nat) (B : Option Addr) (n g lo hi : Nat) (l : List Int) : Prop where
 cur : CurAt w p B n g
 rd : Rd w lo hi B (bys l)
 len : l.length = n
 small : n ≤ 1048576
 byte : ∀ x ∈ l, 0 ≤ x ∧ x ≤ 255
 far : hi ≤ p
theorem Code.next {w w' : World} {p n g lo hi : Nat} {B : Option Addr} {l : List Int} (h : Code w p B n g lo hi l) (hc : CurAt w' p B n g) (ho : Only p (p + 1) w w') : Code w' p B n g lo hi l :=
 ⟨hc, h.rd.keep ho.size (fun k _ hk => ho.block k (by obtain ⟨_, _, hx, _⟩ := h.cur; have := hx.1; have := h.far; omega) (.inl (by have := h.far; omega))), h.len, h.small, h.byte, h.far⟩
theorem Code.below {w w' : World} {p n g lo hi : Nat} {B : Option Addr} {l : List Int} (h : Code w p B n g lo hi l) (hb : Below w.heap.size w w') : Code w' p B n g lo hi l := by
 obtain ⟨i, k, hx, hi2⟩ := h.cur
 exact ⟨⟨i, k, hx.below hb, hi2⟩, h.rd.below hb, h.len, h.small, h.byte, h.far⟩
theorem byte_c {w : World} {p n g lo hi : Nat} {B : Option Addr} {l : List Int} (h : Code w p B n g lo hi l) :
  Calls Tryz.prog 62 #[.pointer (some ⟨p, 0, none⟩)] w fun e w' => ∃ x : Int, e = .returned (.int .i64 x) ∧ 0 ≤ x ∧ x ≤ 255 ∧ Code w' p B n g lo hi l ∧ Only p (p + 1) w w' :=
 (l01Byte_c p n g lo hi B l w h.cur h.rd h.len h.small h.byte h.far).mono fun e w' ⟨x, h1, h2, h3, h4, h5⟩ => ⟨x, h1, h2, h3, h.next h4 h5, h5⟩
theorem bU (p n g lo hi : Nat) (B : Option Addr) (l : List Int) (m : Int) (w : World) (h : Code w p B n g lo hi l) (hm : 0 < m) (hm2 : m ≤ 1000000) :
  Calls Tryz.prog 31 #[.pointer (some ⟨p, 0, none⟩), .int .i64 m] w fun e w' => ∃ x : Int, e = .returned (.int .i64 x) ∧ 0 ≤ x ∧ x < m ∧ Code w' p B n g lo hi l ∧ Only p (p + 1) w w' := by
 have HC := lH h
 clear h
 go_enter Tryz.func31, Tryz.ntmps31
 rcases (show m ≤ 256 ∨ 256 < m by omega) with h1 | h1
 ·go_wp2_with fail
  refine (byte_c HC.out).mono ?_
  rintro e w1 ⟨x, rfl, x0, x1, hc1, ho1⟩
  have HC1 := lH hc1
  have HO1 := lH ho1
  clear hc1 ho1 HC
  have E1 : x.tmod m = x % m := Int.tmod_eq_emod_of_nonneg x0
  have E2 := Int.emod_nonneg x (show m ≠ 0 by omega)
  have E3 := Int.emod_lt_of_pos x hm
  obtain ⟨y, hy⟩ : ∃ y, y = x % m := ⟨_, rfl⟩
  rw [← hy] at E1 E2 E3
  clear hy
  have hm0 : (m == 0) = false := beq_eq_false_iff_ne.2 (by omega)
  go_wp2
  go_ret
  exact ⟨y, rfl, E2, E3, HC1.out, HO1.out⟩
 go_wp2_with fail
 refine (byte_c HC.out).mono ?_
 rintro e w1 ⟨x, rfl, x0, x1, hc1, ho1⟩
 have HC1 := lH hc1
 have HO1 := lH ho1
 clear hc1 ho1 HC
 go_wp2_with fail
 refine (byte_c HC1.out).mono ?_
 rintro e w2 ⟨y, rfl, y0, y1, hc2, ho2⟩
 have HC2 := lH hc2
 have HO2 := lH (HO1.out.trans ho2)
 clear hc2 ho2 HC1 HO1
 go_wp2_with fail
 refine (byte_c HC2.out).mono ?_
 rintro e w3 ⟨z, rfl, z0, z1, hc3, ho3⟩
 have HC3 := lH hc3
 have HO3 := lH (HO2.out.trans ho3)
 clear hc3 ho3 HC2 HO2
 go_wp2_with fail
 refine (byte_c HC3.out).mono ?_
 rintro e w4 ⟨u, rfl, u0, u1, hc4, ho4⟩
 have HC4 := lH hc4
 have HO4 := lH (HO3.out.trans ho4)
 clear hc4 ho4 HC3 HO3
 obtain ⟨t, ht⟩ : ∃ t, t = x * 16777216 + y * 65536 + z * 256 + u := ⟨_, rfl⟩
 have ht0 : 0 ≤ t := by omega
 have E1 : t.tmod m = t % m := Int.tmod_eq_emod_of_nonneg ht0
 have E2 := Int.emod_nonneg t (show m ≠ 0 by omega)
 have E3 := Int.emod_lt_of_pos t hm
 obtain ⟨r, hr⟩ : ∃ r, r = t % m := ⟨_, rfl⟩
 rw [← hr] at E1 E2 E3
 rw [ht] at E1
 clear hr ht ht0
 have hm0 : (m == 0) = false := beq_eq_false_iff_ne.2 (by omega)
 go_wp2
 go_ret
 exact ⟨r, rfl, E2, E3, HC4.out, HO4.out⟩
theorem l01New_c (n g lo hi : Nat) (B : Option Addr) (l : List Int) (w : World) (hr : Rd w lo hi B (bys l)) (hl : l.length = n) (hn : n ≤ 1048576) (hb : ∀ x ∈ l, 0 ≤ x ∧ x ≤ 255) :
  Calls Tryz.prog 29 #[.slice B n g] w fun e w' => e = .returned (.pointer (some ⟨w.heap.size, 0, none⟩)) ∧ Code w' w.heap.size B n g 0 w.heap.size l ∧ w.heap.size < w'.heap.size ∧ Below w.heap.size w w' := by
 have HR := lH hr.base
 have HL := lH hl
 have HB := lH hb
 have hnI : (n : Int) ≤ 1048576 := by omega
 clear hr hl hb
 go_enter Tryz.func29, Tryz.ntmps29
 go_wp2
 go_loop [3, 4] (fun a i => ∃ (h : Int) (j : Nat), a = .int .i64 h ∧ i = .int .i64 j ∧ 0 ≤ h ∧ h ≤ 1073741823 ∧ j ≤ n) (fun _ i => n - (intOf i).toNat)
 case atStart => exact ⟨74074 + n, 0, rfl, rfl, by omega, by omega, Nat.zero_le _⟩
 case round =>
  obtain ⟨h, j, rfl, rfl, h0, h1, hj⟩ := hrel
  rcases (show (j < n ∧ j < 4000) ∨ ¬ j < n ∨ (j < n ∧ ¬ j < 4000) by omega) with ⟨hlt, h4⟩ | hlt | ⟨hlt, h4⟩
  ·obtain ⟨b, off, rfl, q1, q2, q3, q4⟩ := HR.out (fun e => by rw [bys] at e; have := List.map_eq_nil_iff.1 e; have h9 := HL.out; rw [this] at h9; simp at h9; omega)
   obtain ⟨v, hv⟩ : ∃ v, l[j]? = some v := ⟨_, List.getElem?_eq_getElem (by rw [HL.out]; exact hlt)⟩
   have hvb := HB.out v (List.mem_of_getElem? hv)
   have hcell : w.cell? ⟨b, off + j, none⟩ = some (.int .u8 v) := q4 j (.int .u8 v) (by rw [bys, List.getElem?_map, hv]; rfl)
   have hbw : b < w.heap.size := q2
   have hI : (j : Int) < n := by omega
   have hI4 : (j : Int) < 4000 := by omega
   have E1 := and30 (h * 131 + v + 7)
   obtain ⟨y, hy⟩ : ∃ y, y = (h * 131 + v + 7) % 1073741824 := ⟨_, rfl⟩
   rw [← hy] at E1
   have hy0 : 0 ≤ y ∧ y ≤ 1073741823 := by omega
   clear hy hv q4; go_wp2
   go_round
   case rel => exact ⟨y, j + 1, rfl, by go_num, hy0.1, hy0.2, by omega⟩
   case measure => simp [intOf]; omega
  ·have hI : ¬ (j : Int) < n := by omega
   go_wp2
   refine post_named (fun w2 hw => ?_)
   have hx : aa w2 w.heap.size [.slice B n g, .int .i64 0, .int .i64 h] := by rw [hw]; exact aa.new _ #[.slice B n g, .int .i64 0, .int .i64 h] _
   have hbl : Below w.heap.size w w2 := by rw [hw]; exact (Below.refl _ _).alloc (Nat.le_refl _) _
   clear hw
   go_ret
   exact ⟨rfl, ⟨⟨0, h, hx, Nat.zero_le _⟩, HR.out.below hbl, HL.out, hn, HB.out, Nat.le_refl _⟩, hx.1, hbl⟩
  have hI : (j : Int) < n := by omega
  have hI4 : ¬ (j : Int) < 4000 := by omega
  go_wp2
  refine post_named (fun w2 hw => ?_)
  have hx : aa w2 w.heap.size [.slice B n g, .int .i64 0, .int .i64 h] := by rw [hw]; exact aa.new _ #[.slice B n g, .int .i64 0, .int .i64 h] _
  have hbl : Below w.heap.size w w2 := by rw [hw]; exact (Below.refl _ _).alloc (Nat.le_refl _) _
  clear hw
  go_ret
  exact ⟨rfl, ⟨⟨0, h, hx, Nat.zero_le _⟩, HR.out.below hbl, HL.out, hn, HB.out, Nat.le_refl _⟩, hx.1, hbl⟩
theorem info_dbyte : (Tryz.prog.info? 5).map (fun i => (i.zero, i.size, i.bytes)) = some (some (.int .u8 0), 1, 1) := by kernel_rfl
theorem one_dbys (l : List UInt8) : ∀ u ∈ Lib.byteCells l, u.oneCell' = true := one_map (fun _ => rfl) l
theorem dbys_len (l : List UInt8) : (Lib.byteCells l).length = l.length := by simp [Lib.byteCells]
theorem dbys_app (a b : List UInt8) : Lib.byteCells (a ++ b) = Lib.byteCells a ++ Lib.byteCells b := by simp [Lib.byteCells]
theorem app1Db {w : World} {ops : Array Oper} {rest : List Oper} {o : Oper} {a : Act} {Q : Exit → Act → World → Prop} (hgd : o.guard = none) (s x : Operand)
  (ho : o.op = .call { callee := .builtin .append, args := #[s, x], argTypes := #[22, 22] }) (base : Nat) (v : Value) (n : Nat) (xs : List Value) (hs : a.eval s = v) (hown : w.ownsRow base 5 1 v n xs)
  (k : Nat) (x0 : UInt8) (hx : a.eval x = .slice (some ⟨k, 0, none⟩) 1 1) (hr : aa w k (Lib.byteCells [x0])) (h63 : n + 1 ≤ 100000000) (hbase : base ≤ w.heap.size)
  (h : ∀ v' w', w'.ownsRow base 5 1 v' (n + 1) (xs ++ Lib.byteCells [x0]) → w.grownBy w' v.ownBlock → wpList Tryz.prog ops Q rest (a.put o.dst v') w') : wpList Tryz.prog ops Q (o :: rest) a w := by
 obtain ⟨i0, hi0, hz0, hz1, hz2⟩ := info_parts info_dbyte
 exact eY hgd s x _ ho base _ i0 (.int .u8 0) 1 1 Tryz.underlying22 hi0 hz0 hz1 hz2 rfl (by decide) v n xs hs hown k 1 _ hx (by rw [dbys_len]; try rfl) hr (one_dbys _) (by unfold maxLen; omega) (by omega) hbase h
theorem row_onlyP {w w' : World} {base lo hi n size : Nat} {e : TypeId} {v : Value} {xs : List Value} (h : w.ownsRow base e size v n xs) (ho : Only lo hi w w') (hd : hi ≤ base) : w'.ownsRow base e size v n xs := by
 refine ⟨h.1, ?_⟩
 rcases h.2 with h1 | ⟨g, cap, cur, h1, h2, h3, h4⟩
 ·exact .inl h1
 ·exact .inr ⟨g, cap, cur, h1, h2, (ho.block g (Array.getElem?_eq_some_iff.1 h3).1 (.inr (by omega))).trans h3, h4⟩
theorem row_formD {w : World} {base size n : Nat} {e : TypeId} {v : Value} {xs : List Value} (h : w.ownsRow base e size v n xs) (hn : 0 < n) : ∃ g cap, v = .slice (some ⟨g, 0, none⟩) n cap := by
 rcases h.2 with ⟨_, h0⟩ | ⟨g, cap, _, hv, _⟩
 ·omega
 exact ⟨g, cap, hv⟩
theorem only_two {lo hi lo' hi' : Nat} {a b c : World} (h : Only lo hi a b) (k : Only lo' hi' b c) (hl : a.heap.size ≤ lo') : Only lo hi a c :=
 ⟨k.os.trans h.os, k.tape.trans h.tape, k.output.trans h.output, Nat.le_trans h.size k.size, fun i hi1 hd => (k.block i (Nat.lt_of_lt_of_le hi1 h.size) (.inl (by omega))).trans (h.block i hi1 hd)⟩
theorem Code.only {w w' : World} {p n g lo hi lo' hi' : Nat} {B : Option Addr} {l : List Int} (h : Code w p B n g lo hi l) (ho : Only lo' hi' w w') (hp : p < lo') : Code w' p B n g lo hi l := by
 obtain ⟨i, k, hx, hi2⟩ := h.cur
 have hf := h.far
 have hpw := hx.1
 exact ⟨⟨i, k, hx.only ho (.inl hp), hi2⟩, h.rd.keep ho.size (fun k _ hk => ho.block k (by omega) (.inl (by omega))), h.len, h.small, h.byte, h.far⟩
theorem byte_cell {x : Int} (h0 : 0 ≤ x) (h1 : x ≤ 255) : Lib.byteCells [UInt8.ofNat x.toNat] = [.int .u8 x] := by
 simp [Lib.byteCells]
 omega
theorem l01Text_c (p n g lo hi : Nat) (B : Option Addr) (l : List Int) (m : Nat) (w : World) (h : Code w p B n g lo hi l) (hm : m ≤ 5000) (hp : p < w.heap.size) :
  Calls Tryz.prog 34 #[.pointer (some ⟨p, 0, none⟩), .int .i64 m] w fun e w' => ∃ s : ByteArray, e = .returned (.string s) ∧ s.size = m ∧ Code w' p B n g lo hi l ∧ Only p (p + 1) w w' := by
 have HC := lH h
 have hmI : (m : Int) ≤ 5000 := by omega
 have HROW : Hid ((w.alloc (.cells #[] 5)).ownsRow w.heap.size 5 1 (.slice (some ⟨w.heap.size, 0, none⟩) 0 0) 0 []) := lH (World.ownsRow_made w #[] 0 (Nat.le_refl _) (Nat.zero_le _) (by simp))
 clear h
 go_enter Tryz.func34, Tryz.ntmps34
 go_wp2
 go_loopw [5, 6] (fun v i wx => ∃ (k g0 c0 : Nat) (bs : List UInt8), k ≤ m ∧ i = .int .i64 k ∧ v = .slice (some ⟨g0, 0, none⟩) k c0 ∧ bs.length = k ∧ wx.ownsRow w.heap.size 5 1 (.slice (some ⟨g0, 0, none⟩) k c0) k (Lib.byteCells bs) ∧ Code wx p B n g lo hi l ∧ Only p (p + 1) w wx) (fun _ i _ => m - (intOf i).toNat)
 case atStart => exact ⟨0, _, 0, [], Nat.zero_le _, rfl, rfl, rfl, HROW.out, HC.out.below ((Below.refl _ _).alloc (Nat.le_refl _) _), Only.of_below ((Below.refl _ _).alloc (Nat.le_refl _) _)⟩
 case round =>
  clear HROW HC; obtain ⟨k, g0, c0, bs, hk, rfl, rfl, hbs, how, hcd, hon⟩ := hrel
  have HOW := lH how
  have HCD := lH hcd
  have HON := lH hon
  have HBS := lH hbs
  have hsz := hon.size
  by_cases hlt : k < m
  ·have hI : (k : Int) < m := by omega
   clear how hcd hon hbs
   go_wp2_with fail
   refine (byte_c HCD.out).mono ?_
   rintro e w1 ⟨x, rfl, x0, x1, hc1, ho1⟩
   have HC1 := lH hc1
   have HO1 := lH (HON.out.trans ho1)
   have HW1 := lH (row_onlyP HOW.out ho1 (by omega))
   have hs1 := ho1.size
   have E1 : IntKind.u8.wrap x = x := by rw [IntKind.wrap_u8]; omega
   clear hc1 ho1 HCD HON HOW
   have hbx : ∀ W : World, aa (W.alloc (.cells #[.int .u8 x] 5)) W.heap.size (Lib.byteCells [UInt8.ofNat x.toNat]) := fun W => by rw [byte_cell x0 x1]; exact aa.new W #[.int .u8 x] _
   have HBX := lH hbx
   clear hbx
   go_wp2_with (at_builtin; refine app1Db rfl _ _ rfl w.heap.size _ _ _ rfl (HW1.out.alloc _) w1.heap.size (UInt8.ofNat x.toNat) rfl (HBX.out w1) (by omega) (by simp; omega) ?_)
   intro v2 w2 hown2 hg2
   obtain ⟨g2, c2, hge⟩ := row_formD hown2 (Nat.succ_pos k)
   subst hge
   have hon2 := bJ (HW1.out.alloc _) hg2
   rw [← dbys_app] at hown2
   have HW2 := lH hown2
   have hA : Only w.heap.size (w1.heap.size + 1) w1 w2 := (Only.of_below ((Below.refl _ _).alloc (Nat.le_refl _) _)).trans (by simpa using hon2)
   have HO2 := lH (only_two HO1.out hA (Nat.le_refl _))
   have HC2 := lH (HC1.out.only hA hp)
   have HLB : Hid ((bs ++ [UInt8.ofNat x.toNat]).length = k + 1) := lH (by rw [List.length_append, HBS.out]; rfl)
   clear hown2 hg2 hon2 hA HO1 HC1 HW1 HBX; go_wp2
   go_roundw
   case rel => exact ⟨k + 1, g2, c2, bs ++ [UInt8.ofNat x.toNat], by omega, by go_num, rfl, HLB.out, HW2.out, HC2.out, HO2.out⟩
   case measure => simp [intOf]; omega
  obtain rfl : k = m := by omega
  have hcb := run_convert_bytes_back (P := Tryz.prog) wr 22 9 5 ⟨g0, 0, none⟩ c0 bs Tryz.underlying22 Tryz.underlying5 Tryz.underlying9 (fun j hj => by
   have h := how.cellAt j (by omega)
   rw [Addr.add_lit, Nat.zero_add, h]
   simp [Lib.byteCells, hj])
  rw [hbs] at hcb
  have hss : (⟨bs.toArray⟩ : ByteArray).size = k := by show bs.toArray.size = k; simpa using hbs
  have HSS := lH hss
  generalize (⟨bs.toArray⟩ : ByteArray) = s at *
  clear how hcd hon hbs hlt hss; go_wp2
  go_ret
  exact ⟨s, rfl, HSS.out, HCD.out, HON.out⟩
end
section
open Go.RowKit Go.WideShapes Go.Deep
theorem Tryz.own : ownKnob Tryz.prog.godebug = none := by kernel_rfl
theorem Tryz.laidOut : laidOutB Tryz.prog = true := by kernel_rfl
section
variable {H : Type} {enc : TypeId × Value → H} {w : World} {spare : Nat → Bool} {held : Bool}
def u8s (l : List Int) : List Value := l.flatMap fun s => [Value.int .u8 s]
def Lst (w : World) (A : Option Addr) (n c : Nat) (len : Nat) (cells : List Value) : Prop :=
 len = n ∧ n ≤ c ∧ c ≤ maxLen ∧ Rd w 0 w.heap.size A cells
theorem trod_u8s {fuel : Nat} {cs : List Value} {r : DataW H × List MemPlace} (h : DataW.trod enc Tryz.prog w 0 spare held fuel 22 cs = some r) :
  ∃ (A : Option Addr) (n c : Nat) (l : List Int), cs = [.slice A n c] ∧ Lst w A n c l.length (u8s l) ∧ ∀ x ∈ l, 0 ≤ x ∧ x ≤ 255 := by
 obtain ⟨A, n, c, l, rfl, h1, h2, h3, h4, h5⟩ := open_flat (fun s => [Value.int .u8 s]) (fun x => 0 ≤ x ∧ x ≤ 255) 1 (by omega) (fun _ => rfl) Tryz.underlying22 (by kernel_rfl) (fun _ _ _ h => trod_u8 Tryz.underlying5 h) h
 exact ⟨A, n, c, l, rfl, ⟨h1, h2, h3, h4⟩, h5⟩
theorem open_u8s {r : Reach} {b0 : Nat} {v : Value} {d : DataW H} {ps : List MemPlace} (hv : Value.okWide Tryz.prog w r b0 22 v) (h : DataW.Trod enc Tryz.prog w 0 spare held 22 v d ps) :
  ∃ (A : Option Addr) (n c : Nat) (l : List Int), v = .slice A n c ∧ Lst w A n c l.length (u8s l) ∧ ∀ x ∈ l, 0 ≤ x ∧ x ≤ 255 := by
 obtain ⟨a0, len, cap, rfl⟩ := okWide_slice Tryz.underlying22 hv
 obtain ⟨fuel, hf⟩ := h
 obtain ⟨A, n, c, l, he, h1, h2⟩ := trod_u8s hf
 exact ⟨A, n, c, l, by simpa [Value.cells] using he, h1, h2⟩
end
end
section
open Go.RowKit
theorem fV : ∀ (p r : List Char), (∀ c ∈ p, c ≠ Char.ofNat 32) → wordsSigns (p ++ Char.ofNat 32 :: r) = p :: wordsSigns r
 | [], r, _ => rfl
 | c :: p, r, h => by
   have ih := fV p r (fun x hx => h x (List.mem_cons_of_mem _ hx))
   have hc : c ≠ Char.ofNat 32 := h c List.mem_cons_self
   rw [List.cons_append, wordsSigns.eq_3 _ _ (fun e => hc e), ih]
def initA : List Nat := [104, 97, 114, 110, 101, 115, 115]
def initB : List Nat := [53, 48, 98, 97, 51, 49, 57, 97, 100, 101, 50, 100, 99, 55, 99, 100, 54, 102, 52, 54, 98, 57, 100, 99, 56, 51, 57, 49, 54, 53, 48, 101, 100, 57, 99, 102, 50, 100, 53, 48, 98, 98, 99, 52, 99, 53, 52, 100, 102, 97, 50, 54, 98, 100, 53, 97, 56, 49, 100, 50, 54, 102, 101, 97]
def initC : List Nat := [99, 117, 116]
def initR : List Nat := [97, 116, 32, 108, 111, 111, 112, 46, 101, 120, 97, 109, 112, 108, 101, 47, 103, 48, 48, 48, 55, 52, 47, 108, 97, 119, 115, 46, 70, 110, 65, 117, 100, 105, 116, 115, 32, 108, 111, 111, 112, 46, 101, 120, 97, 109, 112, 108, 101, 47, 103, 48, 48, 48, 55, 52, 47, 108, 97, 119, 115, 46, 70, 110, 76, 97, 116, 101, 114, 32, 108, 111, 111, 112, 46, 101, 120, 97, 109, 112, 108, 101, 47, 103, 48, 48, 48, 55, 52, 47, 108, 97, 119, 115, 46, 70, 110, 80, 114, 111, 111, 102, 115, 32, 108, 111, 111, 112, 46, 101, 120, 97, 109, 112, 108, 101, 47, 103, 48, 48, 48, 55, 52, 47, 108, 97, 119, 115, 46, 70, 110, 68, 101, 101, 100, 115, 32, 108, 111, 111, 112, 46, 101, 120, 97, 109, 112, 108, 101, 47, 103, 48, 48, 48, 55, 52, 47, 108, 97, 119, 115, 46, 70, 110, 87, 114, 105, 116, 101, 115]
theorem init_eq : Tryz.prog.initOrder = String.ofList (List.map Char.ofNat initA ++ Char.ofNat 32 :: (List.map Char.ofNat initB ++ Char.ofNat 32 :: (List.map Char.ofNat initC ++ Char.ofNat 32 :: List.map Char.ofNat initR))) := by kernel_rfl
theorem init_words : ∃ rest, behindMainWord (wordsSigns Tryz.prog.initOrder.toList) = "cut".toList :: rest := by
 rw [init_eq, String.toList_ofList, fV _ _ (by decide), fV _ _ (by decide), fV _ _ (by decide)]
 generalize wordsSigns (List.map Char.ofNat initR) = rest
 exact ⟨rest, by
  have h1 : ("harness".toList : List Char) = List.map Char.ofNat initA := by decide
  have h2 : isSumSigns (List.map Char.ofNat initB) = true := by decide
  have h3 : ("cut".toList : List Char) = List.map Char.ofNat initC := by decide
  rw [behindMainWord, h2, ← h1, ← h3]
  simp⟩
theorem strip_cut (rest : List (List Char)) : stripLifts liftWords ("cut".toList :: rest) = ([], "cut".toList :: rest) := by
 simp [stripLifts, liftWords]
theorem mayEnter_cut {P : Program} {rest : List (List Char)} (h : behindMainWord (wordsSigns P.initOrder.toList) = "cut".toList :: rest) (h1 : P.laysLater = false) (h2 : P.bearsReflect = false) (h3 : P.doorFits [] = true) : P.mayEnter = true := by
 rw [Program.mayEnter, h]
 simp only [strip_cut, h1, h2, h3]
 simp
theorem headLifts_cut {P : Program} {rest : List (List Char)} (h : behindMainWord (wordsSigns P.initOrder.toList) = "cut".toList :: rest) : P.headLifts = [] := by
 rw [Program.headLifts, h]
 simp only [strip_cut]
 simp
theorem liftsFinal_cut {P : Program} {rest : List (List Char)} (h : behindMainWord (wordsSigns P.initOrder.toList) = "cut".toList :: rest) : P.liftsFinal = false := by
 rw [Program.liftsFinal, h, headLifts_cut h]
 simp
theorem make_cut {P : Program} {rest : List (List Char)} (h : behindMainWord (wordsSigns P.initOrder.toList) = "cut".toList :: rest) : P.make = some .cut := by
 rw [Program.make, h]
 simp
theorem seat_lays : Tryz.prog.laysLater = false := by kernel_rfl
theorem seat_reflect : Tryz.prog.bearsReflect = false := by kernel_rfl
theorem seat_door : Tryz.prog.doorFits [] = true := by kernel_rfl
theorem seat_enter : Tryz.prog.mayEnter = true := let ⟨_, h⟩ := init_words; mayEnter_cut h seat_lays seat_reflect seat_door
theorem seat_final : Tryz.prog.liftsFinal = false := let ⟨_, h⟩ := init_words; liftsFinal_cut h
theorem seat_make : Tryz.prog.make = some .cut := let ⟨_, h⟩ := init_words; make_cut h
theorem u8s_bys (l : List Int) : u8s l = bys l := by rw [u8s, bys]; induction l with | nil => rfl | cons x l ih => rw [List.flatMap_cons, List.map_cons, ih]; rfl
section
open Go.ChangeShapes Go.WideShapes Go.ChangeAt
open Go.ChangeMaps (open_string)
theorem lifted_FnWrites (hw : ∀ (n g : Nat) (B : Option Addr) (l : List Int) (w : World), Rd w 0 w.heap.size B (bys l) → l.length = n → n ≤ g → n ≤ maxLen → (∀ x ∈ l, 0 ≤ x ∧ x ≤ 255) → Calls Tryz.prog 7 #[.slice B n g] w fun e w' => e = .returned (.bool true) ∧ Below w.heap.size w w')
  (os : Os) (started : os.Started) (H : Type) (enc : TypeId × Value → H) :
  ReturnsInHanded {} Tryz.checked os 7 .any (Rows.fnWritesSpec.pre6 enc Tryz.prog Tryz.f7 Rows.fnWritesRow.domain false) (Rows.fnWritesSpec.post enc Tryz.prog Tryz.f7 false true false false) := by
 refine returnsInHanded_of_change (C := Tryz.checked) Tryz.own started (by kernel_rfl) Tryz.func7
  (ChangeSpec.witness6 (enc := enc) (C := Tryz.checked) false ⟨#[], #[.slice none 0 0], []⟩ 8 (by kernel_rfl) (by kernel_rfl) (by kernel_rfl) (by kernel_rfl)) ?_
 intro W base args ds gs before hval0 hW hcnd _
 have hval : ∀ (j : Nat) t v, Tryz.f7.params[j]? = some t → args[j]? = some v → Value.okWide Tryz.prog W .any base t v := hval0
 have hW' := hW
 obtain ⟨p, q, hA0, hV, rfl, hfz, hnd⟩ := hW
 have hA : DataW.TrodAll enc Tryz.prog W 0 (fun _ => true) true Tryz.f7.params.toList args.toList ds p := hA0
 rw [Tryz.params7] at hA hval
 obtain ⟨v0, vs0, d0, ds0, p0, q0, hargs, rfl, rfl, h0, r0⟩ := trodAll_cons hA
 obtain ⟨rfl, rfl, rfl⟩ := trodAll_nil r0
 obtain rfl : args = #[v0] := by cases args; simp_all
 obtain ⟨rfl, rfl⟩ := trodVars_none hV
 have lt0 : ∀ x ∈ p0, x.block < W.heap.size := by obtain ⟨m, hm⟩ := h0; exact DataW.trod_lt m _ _ _ hm
 have kk0 := h0
 obtain ⟨A0, n0, c0, l0, rfl, o0, hil0⟩ := open_u8s (hval 0 _ v0 rfl rfl) h0
 obtain ⟨rfl, o0b, o0c, o0d⟩ := o0
 clear hA0 hval0
 refine (hw _ c0 A0 l0 W (u8s_bys l0 ▸ o0d) rfl o0b (Nat.le_trans o0b o0c) hil0).mono fun e W' ⟨he, bel⟩ => ?_
 subst he
 exact ⟨_, rfl, _, _, _, [], _, [], hW', trodAll_mk1 (shut_bool Tryz.underlying4 _), (trodAll_cons_mk (Below.trod Tryz.laidOut (by kernel_rfl) (of_decide_eq_true (by kernel_rfl)) kk0 bel lt0) trodAll_mk0), rfl, bel.frame _, fun h => by cases h⟩
theorem said_FnWrites (hw : ∀ (n g : Nat) (B : Option Addr) (l : List Int) (w : World), Rd w 0 w.heap.size B (bys l) → l.length = n → n ≤ g → n ≤ maxLen → (∀ x ∈ l, 0 ≤ x ∧ x ≤ 255) → Calls Tryz.prog 7 #[.slice B n g] w fun e w' => e = .returned (.bool true) ∧ Below w.heap.size w w') : Rows.FnWritesSaid :=
 OpenClaim.holds_of_wide 7 Tryz.f7 rfl rfl rfl rfl rfl rfl rfl ⟨rfl, rfl, rfl, rfl, rfl⟩ rfl rfl rfl rfl rfl (by kernel_rfl) Tryz.func7 (by show joinedFacts Tryz.prog 7 Tryz.f7 Rows.fnWritesSpec Rows.fnWritesRow = true; unfold joinedFacts; rw [seat_enter, seat_final, seat_make]; kernel_rfl)
  (of_decide_eq_true (by kernel_rfl)) (by unfold Func.isWrapper; first | (rw [if_pos (by decide +kernel)]; kernel_rfl) | (rw [if_neg (by decide +kernel)]; exact ⟨rfl, rfl⟩))
  (fun os started H enc _ => lifted_FnWrites hw os started H enc)
end
end
end Go.Proofs.YtoccjgcokffkbaaGreat
