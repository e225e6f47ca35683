/- append of words and of bytes. -/
import Derived.Test.YtmmepogjocfefaaGreatApp
import Derived.Test.YtmmepogjocfefaaGreatHash1
import Derived.Lib.UnsafeStr
namespace Go.Proofs.YtmmepogjocfefaaGreat
set_option linter.unusedVariables false
set_option linter.unusedSimpArgs false
open Go.RowKit

theorem info_word : (Tryz.prog.info? 204).map (fun i => (i.zero, i.size, i.bytes)) = some (some (.int .u32 0), 1, 4) := by kernel_rfl
theorem info_byte : (Tryz.prog.info? 5).map (fun i => (i.zero, i.size, i.bytes)) = some (some (.int .u8 0), 1, 1) := by kernel_rfl
theorem one_ws (l : List Int) : ∀ u ∈ ws l, u.oneCell' = true := one_map (fun _ => rfl) l
theorem one_bys (l : List UInt8) : ∀ u ∈ Lib.byteCells l, u.oneCell' = true := one_map (fun _ => rfl) l
theorem bys_len (l : List UInt8) : (Lib.byteCells l).length = l.length := by simp [Lib.byteCells]
theorem ws_app (a b : List Int) : ws (a ++ b) = ws a ++ ws b := by simp [ws]
theorem bys_app (a b : List UInt8) : Lib.byteCells (a ++ b) = Lib.byteCells a ++ Lib.byteCells b := by simp [Lib.byteCells]
theorem appWd {w : World} {ops : Array Oper} {rest : List Oper} {o : Oper} {a : Act} {Q : Exit → Act → World → Prop} (hgd : o.guard = none) (s x : Operand)
  (ho : o.op = .call { callee := .builtin .append, args := #[s, x], argTypes := #[206, 206] }) (base : Nat) (v : Value) (n : Nat) (xs : List Value) (hs : a.eval s = v) (hown : w.ownsRow base 204 1 v n xs)
  (A : Option Addr) (q c lo hi' : Nat) (l : List Int) (hx : a.eval x = .slice A q c) (hl : l.length = q) (hr : Rd w lo hi' A (ws l)) (hA : A = none → c = 0)
  (h63 : n + q ≤ 100000000) (hbase : base ≤ w.heap.size)
  (h : ∀ v' w', w'.ownsRow base 204 1 v' (n + q) (xs ++ ws l) → w.grownBy w' v.ownBlock → wpList Tryz.prog ops Q rest (a.put o.dst v') w') : wpList Tryz.prog ops Q (o :: rest) a w := by
 obtain ⟨i0, hi0, hz0, hz1, hz2⟩ := info_parts info_word
 exact wpList_append_rd hgd s x _ ho base _ i0 (.int .u32 0) 1 4 Tryz.underlying206 hi0 hz0 hz1 hz2 rfl (by decide) v n xs hs hown A q c lo hi' _ hx (by rw [ws_len, hl]; try omega) hr hA (one_ws _) (by unfold maxLen; omega) (by omega) hbase h
theorem app1Wd {w : World} {ops : Array Oper} {rest : List Oper} {o : Oper} {a : Act} {Q : Exit → Act → World → Prop} (hgd : o.guard = none) (s x : Operand)
  (ho : o.op = .call { callee := .builtin .append, args := #[s, x], argTypes := #[206, 206] }) (base : Nat) (v : Value) (n : Nat) (xs : List Value) (hs : a.eval s = v) (hown : w.ownsRow base 204 1 v n xs)
  (k : Nat) (x0 : Int) (hx : a.eval x = .slice (some ⟨k, 0, none⟩) 1 1) (hr : NewBox w k (ws [x0])) (h63 : n + 1 ≤ 100000000) (hbase : base ≤ w.heap.size)
  (h : ∀ v' w', w'.ownsRow base 204 1 v' (n + 1) (xs ++ ws [x0]) → w.grownBy w' v.ownBlock → wpList Tryz.prog ops Q rest (a.put o.dst v') w') : wpList Tryz.prog ops Q (o :: rest) a w := by
 obtain ⟨i0, hi0, hz0, hz1, hz2⟩ := info_parts info_word
 exact wpList_append_one hgd s x _ ho base _ i0 (.int .u32 0) 1 4 Tryz.underlying206 hi0 hz0 hz1 hz2 rfl (by decide) v n xs hs hown k 1 _ hx (by rw [ws_len]; try rfl) hr (one_ws _) (by unfold maxLen; omega) (by omega) hbase h
theorem gappWd {w : World} {ρ : Operand → Value} {o : Oper} {R : Value → World → Prop} (s x : Operand)
  (ho : o.op = .call { callee := .builtin .append, args := #[s, x], argTypes := #[206, 206] }) (v : Value) (n : Nat) (xs : List Value) (hs : ρ s = v) {S : Nat → Prop} (hown : RowIn S w 204 1 v n xs)
  (A : Option Addr) (q c lo hi' : Nat) (l : List Int) (hx : ρ x = .slice A q c) (hl : l.length = q) (hr : Rd w lo hi' A (ws l)) (hA : A = none → c = 0) (h63 : n + q ≤ 100000000)
  (h : ∀ A' c' w', RowIn (fun k => S k ∨ k = w.heap.size) w' 204 1 (.slice A' (n + q) c') (n + q) (xs ++ ws l) → (∀ k, (.slice A' (n + q) c' : Value).ownBlock = some k → k < w'.heap.size) → w.grownBy w' v.ownBlock → R (.slice A' (n + q) c') w') :
  Gives Tryz.prog R ((execOp ρ o).run Tryz.prog w) := by
 obtain ⟨i0, hi0, hz0, hz1, hz2⟩ := info_parts info_word
 exact gives_append_rd s x _ ho _ i0 (.int .u32 0) 1 4 Tryz.underlying206 hi0 hz0 hz1 hz2 rfl (by decide) v n xs hs hown A q c lo hi' _ hx (by rw [ws_len, hl]; try omega) hr hA (one_ws _) (by unfold maxLen; omega) (by omega) h
theorem gapp1Wd {w : World} {ρ : Operand → Value} {o : Oper} {R : Value → World → Prop} (s x : Operand)
  (ho : o.op = .call { callee := .builtin .append, args := #[s, x], argTypes := #[206, 206] }) (v : Value) (n : Nat) (xs : List Value) (hs : ρ s = v) {S : Nat → Prop} (hown : RowIn S w 204 1 v n xs)
  (k : Nat) (x0 : Int) (hx : ρ x = .slice (some ⟨k, 0, none⟩) 1 1) (hr : NewBox w k (ws [x0])) (h63 : n + 1 ≤ 100000000)
  (h : ∀ A' c' w', RowIn (fun k => S k ∨ k = w.heap.size) w' 204 1 (.slice A' (n + 1) c') (n + 1) (xs ++ ws [x0]) → (∀ k, (.slice A' (n + 1) c' : Value).ownBlock = some k → k < w'.heap.size) → w.grownBy w' v.ownBlock → R (.slice A' (n + 1) c') w') :
  Gives Tryz.prog R ((execOp ρ o).run Tryz.prog w) :=
 gappWd s x ho v n xs hs hown _ 1 1 0 w.heap.size [x0] hx rfl (NewBox.rd hr) (fun h => by cases h) h63 h
theorem appBy {w : World} {ops : Array Oper} {rest : List Oper} {o : Oper} {a : Act} {Q : Exit → Act → World → Prop} (hgd : o.guard = none) (s x : Operand)
  (ho : o.op = .call { callee := .builtin .append, args := #[s, x], argTypes := #[141, 141] }) (base : Nat) (v : Value) (n : Nat) (xs : List Value) (hs : a.eval s = v) (hown : w.ownsRow base 5 1 v n xs)
  (A : Option Addr) (q c lo hi' : Nat) (l : List UInt8) (hx : a.eval x = .slice A q c) (hl : l.length = q) (hr : Rd w lo hi' A (Lib.byteCells l)) (hA : A = none → c = 0)
  (h63 : n + q ≤ 100000000) (hbase : base ≤ w.heap.size)
  (h : ∀ v' w', w'.ownsRow base 5 1 v' (n + q) (xs ++ Lib.byteCells l) → w.grownBy w' v.ownBlock → wpList Tryz.prog ops Q rest (a.put o.dst v') w') : wpList Tryz.prog ops Q (o :: rest) a w := by
 obtain ⟨i0, hi0, hz0, hz1, hz2⟩ := info_parts info_byte
 exact wpList_append_rd hgd s x _ ho base _ i0 (.int .u8 0) 1 1 Tryz.underlying141 hi0 hz0 hz1 hz2 rfl (by decide) v n xs hs hown A q c lo hi' _ hx (by rw [bys_len, hl]; try omega) hr hA (one_bys _) (by unfold maxLen; omega) (by omega) hbase h
theorem app1By {w : World} {ops : Array Oper} {rest : List Oper} {o : Oper} {a : Act} {Q : Exit → Act → World → Prop} (hgd : o.guard = none) (s x : Operand)
  (ho : o.op = .call { callee := .builtin .append, args := #[s, x], argTypes := #[141, 141] }) (base : Nat) (v : Value) (n : Nat) (xs : List Value) (hs : a.eval s = v) (hown : w.ownsRow base 5 1 v n xs)
  (k : Nat) (x0 : UInt8) (hx : a.eval x = .slice (some ⟨k, 0, none⟩) 1 1) (hr : NewBox w k (Lib.byteCells [x0])) (h63 : n + 1 ≤ 100000000) (hbase : base ≤ w.heap.size)
  (h : ∀ v' w', w'.ownsRow base 5 1 v' (n + 1) (xs ++ Lib.byteCells [x0]) → w.grownBy w' v.ownBlock → wpList Tryz.prog ops Q rest (a.put o.dst v') w') : wpList Tryz.prog ops Q (o :: rest) a w := by
 obtain ⟨i0, hi0, hz0, hz1, hz2⟩ := info_parts info_byte
 exact wpList_append_one hgd s x _ ho base _ i0 (.int .u8 0) 1 1 Tryz.underlying141 hi0 hz0 hz1 hz2 rfl (by decide) v n xs hs hown k 1 _ hx (by rw [bys_len]; try rfl) hr (one_bys _) (by unfold maxLen; omega) (by omega) hbase h
theorem gappBy {w : World} {ρ : Operand → Value} {o : Oper} {R : Value → World → Prop} (s x : Operand)
  (ho : o.op = .call { callee := .builtin .append, args := #[s, x], argTypes := #[141, 141] }) (v : Value) (n : Nat) (xs : List Value) (hs : ρ s = v) {S : Nat → Prop} (hown : RowIn S w 5 1 v n xs)
  (A : Option Addr) (q c lo hi' : Nat) (l : List UInt8) (hx : ρ x = .slice A q c) (hl : l.length = q) (hr : Rd w lo hi' A (Lib.byteCells l)) (hA : A = none → c = 0) (h63 : n + q ≤ 100000000)
  (h : ∀ A' c' w', RowIn (fun k => S k ∨ k = w.heap.size) w' 5 1 (.slice A' (n + q) c') (n + q) (xs ++ Lib.byteCells l) → (∀ k, (.slice A' (n + q) c' : Value).ownBlock = some k → k < w'.heap.size) → w.grownBy w' v.ownBlock → R (.slice A' (n + q) c') w') :
  Gives Tryz.prog R ((execOp ρ o).run Tryz.prog w) := by
 obtain ⟨i0, hi0, hz0, hz1, hz2⟩ := info_parts info_byte
 exact gives_append_rd s x _ ho _ i0 (.int .u8 0) 1 1 Tryz.underlying141 hi0 hz0 hz1 hz2 rfl (by decide) v n xs hs hown A q c lo hi' _ hx (by rw [bys_len, hl]; try omega) hr hA (one_bys _) (by unfold maxLen; omega) (by omega) h
theorem gapp1By {w : World} {ρ : Operand → Value} {o : Oper} {R : Value → World → Prop} (s x : Operand)
  (ho : o.op = .call { callee := .builtin .append, args := #[s, x], argTypes := #[141, 141] }) (v : Value) (n : Nat) (xs : List Value) (hs : ρ s = v) {S : Nat → Prop} (hown : RowIn S w 5 1 v n xs)
  (k : Nat) (x0 : UInt8) (hx : ρ x = .slice (some ⟨k, 0, none⟩) 1 1) (hr : NewBox w k (Lib.byteCells [x0])) (h63 : n + 1 ≤ 100000000)
  (h : ∀ A' c' w', RowIn (fun k => S k ∨ k = w.heap.size) w' 5 1 (.slice A' (n + 1) c') (n + 1) (xs ++ Lib.byteCells [x0]) → (∀ k, (.slice A' (n + 1) c' : Value).ownBlock = some k → k < w'.heap.size) → w.grownBy w' v.ownBlock → R (.slice A' (n + 1) c') w') :
  Gives Tryz.prog R ((execOp ρ o).run Tryz.prog w) :=
 gappBy s x ho v n xs hs hown _ 1 1 0 w.heap.size [x0] hx rfl (NewBox.rd hr) (fun h => by cases h) h63 h
end Go.Proofs.YtmmepogjocfefaaGreat
