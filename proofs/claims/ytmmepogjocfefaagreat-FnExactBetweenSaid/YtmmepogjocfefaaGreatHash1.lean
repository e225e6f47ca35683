/- Words: constants and turns. Arrays of words in a variable's block. The mixing of a block into a state. Words read out of a text, and written into one. The blocks of a text, mixed into a state. -/
import Derived.Test.YtmmepogjocfefaaGreatNum
import Derived.Laws.BitsAllLaws
import Derived.Test.YtmmepogjocfefaaGreatWk
import Derived.Laws.BitsLemmas
import Derived.Test.YtmmepogjocfefaaGreatKit2
import Derived.StillTailTactics
import Derived.Deep.QuietTactic
import Derived.BigQuiet
namespace Go.Proofs.YtmmepogjocfefaaGreat
set_option linter.unusedVariables false
set_option linter.unusedSimpArgs false
open Go.RowKit

theorem stop_here {p : Prop} (h : True → p) : p := h trivial
/-- a constant of the hash -/
def cst (k : Int) : Int := (k % 4294967296 + 1) % 4294967296 * 2654435761 % 4294967296
theorem cst_w (k : Int) : 0 ≤ cst k ∧ cst k < 4294967296 := by unfold cst; omega
/-- a turn by one -/
def rot1 (x : Int) : Int := x * 2 % 4294967296 + x / 2147483648
/-- a turn by so many -/
def rotN : Nat → Int → Int
 | 0, x => x
 | n + 1, x => rot1 (rotN n x)
theorem rot1_w {x : Int} (h : 0 ≤ x ∧ x < 4294967296) : 0 ≤ rot1 x ∧ rot1 x < 4294967296 := by unfold rot1; omega
theorem rotN_w {x : Int} (h : 0 ≤ x ∧ x < 4294967296) : ∀ n, 0 ≤ rotN n x ∧ rotN n x < 4294967296
 | 0 => h
 | n + 1 => rot1_w (rotN_w h n)
theorem pw2 (n : Nat) (h : n < 32) : (2 : Int) ^ n * 2 ^ (31 - n) = 2147483648 := by
 rw [← Int.pow_add, show n + (31 - n) = 31 by omega]; rfl
theorem rotN_eq {x : Int} (h : 0 ≤ x ∧ x < 4294967296) : ∀ n : Nat, n < 32 → rotN n x = x * 2 ^ n % 4294967296 + x / 2 ^ (32 - n) := by
 intro n hn
 induction n with
 | zero => show x = _; simp only [Nat.sub_zero, Int.pow_zero]; omega
 | succ n ih =>
   have e := ih (by omega)
   show rot1 (rotN n x) = _
   rw [e]
   unfold rot1
   clear ih e
   have hP := pw2 n (by omega)
   obtain ⟨m, hm⟩ : ∃ m, m = 31 - n := ⟨_, rfl⟩
   rw [show 32 - n = m + 1 by omega, show 32 - (n + 1) = m by omega, Int.pow_succ, Int.pow_succ]
   rw [← hm] at hP
   have hp0 : (0 : Int) < 2 ^ n := Int.pow_pos (by decide)
   have hm0 : (0 : Int) < 2 ^ m := Int.pow_pos (by decide)
   clear hm
   generalize (2 : Int) ^ n = p at *
   generalize (2 : Int) ^ m = M at *
   rw [← Int.ediv_ediv_of_nonneg (by omega : 0 ≤ M), ← Int.mul_assoc]
   have e1 : x = M * (x / M) + x % M := (Int.mul_ediv_add_emod x M).symm
   have r0 : 0 ≤ x % M := Int.emod_nonneg _ (by omega)
   have r1 : x % M < M := Int.emod_lt_of_pos _ hm0
   have e2 : x * p = (x / M) * 2147483648 + x % M * p := by
    conv => lhs; rw [e1]
    rw [Int.add_mul, ← hP, Int.mul_comm M, Int.mul_assoc, Int.mul_comm M]
   have t0 : 0 ≤ x % M * p := Int.mul_nonneg r0 (by omega)
   have t1 : (x % M + 1) * p ≤ M * p := Int.mul_le_mul_of_nonneg_right (by omega) (by omega)
   rw [Int.add_mul, Int.one_mul, Int.mul_comm M, hP] at t1
   have a0 : 0 ≤ x / M := Int.ediv_nonneg h.1 (by omega)
   have a1 : x / M < 2 * p := by
    apply Int.ediv_lt_of_lt_mul hm0
    rw [Int.mul_assoc, hP]; omega
   clear e1 r0 r1 hP
   generalize x * p = y at *
   generalize x % M * p = t at *
   generalize x / M = a at *
   subst e2
   have q1 : (a * 2147483648 + t) % 4294967296 = a % 2 * 2147483648 + t := by omega
   have q2 : (a * 2147483648 + t) * 2 % 4294967296 = 2 * t := by omega
   rw [q1, q2]
   have q3 : (a % 2 * 2147483648 + t + a / 2) / 2147483648 = a % 2 := by omega
   have q4 : (a % 2 * 2147483648 + t + a / 2) * 2 % 4294967296 = 2 * (t + a / 2) := by omega
   rw [q3, q4]
   omega

set_option maxRecDepth 100000 in
set_option maxHeartbeats 400000 in
theorem implConstant_c (k : Int) (w : World) : Calls Tryz.prog 218 #[.int .i64 k] w fun e w' => e = .returned (.int .u32 (cst k)) ∧ w = w' := by
 go_enter Tryz.func218, Tryz.ntmps218
 go_wp2
 go_ret
 exact ⟨by unfold cst; simp [Go.IntKind.wrap_u32'], rfl⟩
set_option maxRecDepth 100000 in
set_option maxHeartbeats 400000 in
theorem specConstant_c (k : Int) (w : World) : Calls Tryz.prog 216 #[.int .i64 k] w fun e w' => e = .returned (.int .u32 (cst k)) ∧ w = w' := by
 go_enter Tryz.func216, Tryz.ntmps216
 go_wp2
 go_ret
 exact ⟨by unfold cst; simp [Go.IntKind.wrap_u32'], rfl⟩
theorem and31 (n : Nat) (hn : n < 32) : bits .and .u64 (n : Int) 31 = n := by
 have e := u64_and_nat n 31 (by omega) (by omega)
 rw [show n &&& 31 = n from by rw [show 31 = 2 ^ 5 - 1 from rfl, Nat.and_two_pow_sub_one_eq_mod]; omega] at e
 exact e
theorem wraps32 (n : Int) (h₀ : 0 ≤ n) (h₁ : n < 2 ^ 32) : IntKind.u32.wrap n = n := by rw [Go.IntKind.wrap_u32']; omega
theorem or_rot {x : Int} (h : 0 ≤ x ∧ x < 4294967296) (n : Nat) (hn : n < 32) : bits .or .u32 (x * 2 ^ n % 4294967296) (x / 2 ^ (32 - n)) = rotN n x := by
 rw [rotN_eq h n hn]
 have hp0 : (0 : Int) < 2 ^ n := Int.pow_pos (by decide)
 have hm0 : (0 : Int) < 2 ^ (32 - n) := Int.pow_pos (by decide)
 have hP : (2 : Int) ^ n * 2 ^ (32 - n) = 4294967296 := by
  rw [← Int.pow_add, show n + (32 - n) = 32 by omega]; rfl
 have q0 : 0 ≤ x / 2 ^ (32 - n) := Int.ediv_nonneg h.1 (by omega)
 have q1 : x / 2 ^ (32 - n) < 2 ^ n := by
  apply Int.ediv_lt_of_lt_mul hm0
  rw [hP]; exact h.2
 have q2 : x / 2 ^ (32 - n) < 4294967296 := Int.lt_of_le_of_lt (Int.ediv_le_self _ h.1) h.2
 exact bits_join .u32 32 (by decide) wraps32 n _ _ (by omega) (by rw [Int.emod_emod_of_dvd _ ⟨2 ^ (32 - n), hP.symm⟩]; exact Int.mul_emod_left x _) (by omega) q0 q1 q2
set_option maxRecDepth 100000 in
set_option maxHeartbeats 400000 in
theorem RotateLeft32_c (x : Int) (n : Nat) (w : World) (h : 0 ≤ x ∧ x < 4294967296) (hn : n < 32) : Calls Tryz.prog 223 #[.int .u32 x, .int .i64 n] w fun e w' => e = .returned (.int .u32 (rotN n x)) ∧ w = w' := by
 have hb := and31 n hn
 go_enter Tryz.func223, Tryz.ntmps223
 go_wp2
 go_ret
 exact ⟨by rw [or_rot h n hn]; rfl, rfl⟩
set_option maxRecDepth 100000 in
set_option maxHeartbeats 400000 in
theorem implTurn_c (x : Int) (n : Nat) (w : World) (h : 0 ≤ x ∧ x < 4294967296) (hn : n < 32) : Calls Tryz.prog 219 #[.int .u32 x, .int .i64 n] w fun e w' => e = .returned (.int .u32 (rotN n x)) ∧ w = w' := by
 have hb : (n : Int) % 32 = n := by omega
 go_enter Tryz.func219, Tryz.ntmps219
 go_wp2_with fail
 refine (RotateLeft32_c x n _ h hn).mono ?_
 rintro e w1 ⟨rfl, rfl⟩
 go_wp2
 go_ret
 exact ⟨rfl, rfl⟩
set_option maxRecDepth 100000 in
set_option maxHeartbeats 400000 in
theorem specTurn_c (x : Int) (n : Nat) (w : World) (h : 0 ≤ x ∧ x < 4294967296) (hn : n < 32) : Calls Tryz.prog 217 #[.int .u32 x, .int .i64 n] w fun e w' => e = .returned (.int .u32 (rotN n x)) ∧ w = w' := by
 have hb : (n : Int) % 32 = n := by omega
 go_enter Tryz.func217, Tryz.ntmps217
 go_wp2
 go_loop [0, 6] (fun y i => ∃ k : Nat, k ≤ n ∧ i = .int .i64 k ∧ y = .int .u32 (rotN k x)) (fun _ i => n - (intOf i).toNat)
 case atStart => exact ⟨0, Nat.zero_le _, rfl, rfl⟩
 case round =>
  obtain ⟨k, hk, rfl, rfl⟩ := hrel
  have hw := rotN_w h k
  have hs : rotN (k + 1) x = rot1 (rotN k x) := rfl
  have HS := Lib.hid hs
  clear hs
  generalize hy : rotN k x = y at *
  have HY := Lib.hid hy
  clear hy
  have ho : bits .or .u32 (y * 2 % 4294967296) (y / 2147483648) = rot1 y := or_rot hw 1 (by omega)
  go_wp2
  all_goals first
   | (refine ⟨⟨k + 1, by omega, by go_num, by rw [HS.out]⟩, ?_⟩
      simp [intOf]; omega)
   | (obtain rfl : k = n := by omega
      go_ret
      exact ⟨by rw [HY.out]; rfl, rfl⟩)
end Go.Proofs.YtmmepogjocfefaaGreat

namespace Go.Proofs.YtmmepogjocfefaaGreat
set_option linter.unusedVariables false
set_option linter.unusedSimpArgs false
open Go.RowKit

def ws (l : List Int) : List Value := l.map (Value.int .u32)
theorem ws_len (l : List Int) : (ws l).length = l.length := by simp [ws]
theorem ws_get {l : List Int} {k : Nat} {s : Int} (h : l[k]? = some s) : (ws l)[k]? = some (.int .u32 s) := by simp [ws, h]
theorem ws_set (l : List Int) (k : Nat) (x : Int) : (ws l).set k (.int .u32 x) = ws (l.set k x) := by simp [ws, List.map_set]
theorem NewBox.set {w : World} {k : Nat} {cs : List Value} (h : NewBox w k cs) {o : Nat} (ho : o < cs.length) (u : Value) : NewBox (w.setCell ⟨k, o, none⟩ u) k (cs.set o u) := by
 refine ⟨by simpa [World.setCell] using h.1, fun i => ?_, fun i => by simpa using h.2.2 i⟩
 by_cases hij : o = i
 ·subst hij
  rw [List.getElem?_set_self ho]
  exact World.cell?_setCell_same _ _ _ ((h.2.1 o).trans (List.getElem?_eq_getElem ho))
 ·rw [List.getElem?_set_ne hij, World.cell?_setCell_other _ _ _ _ (by simp only [ne_eq, Addr.mk.injEq, and_true, true_and]; omega)]
  exact h.2.1 i
theorem NewBox.setW {w : World} {k : Nat} {l : List Int} (h : NewBox w k (ws l)) {o : Nat} (ho : o < l.length) (x : Int) : NewBox (w.setCell ⟨k, o, none⟩ (.int .u32 x)) k (ws (l.set o x)) := by
 rw [← ws_set]; exact h.set (by rw [ws_len]; exact ho) _
theorem NewBox.word {w : World} {k : Nat} {l : List Int} (h : NewBox w k (ws l)) {o : Nat} (ho : o < l.length) : w.cell? ⟨k, o, none⟩ = some (.int .u32 l[o]) := h.cell (ws_get (List.getElem?_eq_getElem ho))
theorem list8 {l : List Int} (h : l.length = 8) : ∃ a b c d e f g i, l = [a, b, c, d, e, f, g, i] := by
 match l, h with
 | [a, b, c, d, e, f, g, i], _ => exact ⟨a, b, c, d, e, f, g, i, rfl⟩

theorem bodyPost_named {P : Program} {f : Func} {R : Ending → World → Prop} {e : Exit} {a : Act} {W : World} (h : ∀ W', W' = W → bodyPost P f R e a W') : bodyPost P f R e a W := h W rfl
/-- a whole array is written -/
theorem NewBox.set8 {w x : World} {B k : Nat} {b0 b1 b2 b3 b4 b5 b6 b7 : Int} (h : NewBox w k (ws [b0, b1, b2, b3, b4, b5, b6, b7])) (hb : Below B x w) (hk : B ≤ k) (a0 a1 a2 a3 a4 a5 a6 a7 : Int) :
  ∀ W, W = ((((((((w.setCell ⟨k, 0, none⟩ (.int .u32 a0)).setCell ⟨k, 1, none⟩ (.int .u32 a1)).setCell ⟨k, 2, none⟩ (.int .u32 a2)).setCell ⟨k, 3, none⟩ (.int .u32 a3)).setCell ⟨k, 4, none⟩ (.int .u32 a4)).setCell ⟨k, 5, none⟩ (.int .u32 a5)).setCell ⟨k, 6, none⟩ (.int .u32 a6)).setCell ⟨k, 7, none⟩ (.int .u32 a7)) →
    NewBox W k (ws [a0, a1, a2, a3, a4, a5, a6, a7]) ∧ Below B x W ∧ Only k (k + 1) w W := by
 rintro W rfl
 refine ⟨?_, ?_, ?_⟩
 ·have h0 := h.setW (o := 0) (by simp) a0
  have h1 := h0.setW (o := 1) (by simp) a1
  have h2 := h1.setW (o := 2) (by simp) a2
  have h3 := h2.setW (o := 3) (by simp) a3
  have h4 := h3.setW (o := 4) (by simp) a4
  have h5 := h4.setW (o := 5) (by simp) a5
  have h6 := h5.setW (o := 6) (by simp) a6
  exact h6.setW (o := 7) (by simp) a7
 ·exact (((((((hb.setCell hk _).setCell hk _).setCell hk _).setCell hk _).setCell hk _).setCell hk _).setCell hk _).setCell hk _
 ·have hs := Nat.lt_succ_self k
  have hk := Nat.le_refl k
  exact ((((((((Only.refl k (k + 1) w).setCell hk hs _).setCell hk hs _).setCell hk hs _).setCell hk hs _).setCell hk hs _).setCell hk hs _).setCell hk hs _).setCell hk hs _

/-- the first state's word -/
def fw (tag : Int) (i : Int) : Int := (tag + 1) * (2 * i + 3) % 4294967296 * 2246822519 % 4294967296
def firstW (tag : Int) : List Int := (List.range 8).map fun i : Nat => fw tag i
def firstUp (tag : Int) (k : Nat) : List Int := (List.range 8).map fun i : Nat => if i < k then fw tag i else 0
theorem firstUp_len (tag : Int) (k : Nat) : (firstUp tag k).length = 8 := by simp [firstUp]
theorem firstUp_set (tag : Int) (k : Nat) (h : k < 8) : (firstUp tag k).set k (fw tag k) = firstUp tag (k + 1) := by
 apply List.ext_getElem?
 intro i
 by_cases h1 : k = i
 ·subst h1
  rw [List.getElem?_set_self (by rw [firstUp_len]; exact h)]
  simp [firstUp, h]
 ·rw [List.getElem?_set_ne h1]
  by_cases h2 : i < 8
  ·simp only [firstUp, List.getElem?_map, List.getElem?_range h2, Option.map_some]
   by_cases h3 : i < k
   ·rw [if_pos h3, if_pos (by omega)]
   ·rw [if_neg h3, if_neg (by omega)]
  ·rw [List.getElem?_eq_none (by rw [firstUp_len]; omega), List.getElem?_eq_none (by rw [firstUp_len]; omega)]
theorem firstUp_all (tag : Int) : firstUp tag 8 = firstW tag := by
 apply List.map_congr_left
 intro i hi
 rw [List.mem_range] at hi
 rw [if_pos hi]
theorem firstW_len (tag : Int) : (firstW tag).length = 8 := by simp [firstW]

set_option maxRecDepth 100000 in
set_option maxHeartbeats 400000 in
theorem firstState_c (tag : Int) (w : World) (h0 : 0 ≤ tag) (h1 : tag ≤ 255) : Calls Tryz.prog 202 #[.int .i64 tag] w fun e w' => e = .returned (.agg (ws (firstW tag)).toArray) ∧ Below w.heap.size w w' := by
 go_enter Tryz.func202, Tryz.ntmps202
 go_wp2
 go_loopw [5] (fun i wx => ∃ k : Nat, k ≤ 8 ∧ i = .int .i64 k ∧ Below w.heap.size w wx ∧ NewBox wx w.heap.size (ws (firstUp tag 0)) ∧ NewBox wx (w.heap.size + 1) (ws (firstUp tag k))) (fun i _ => 8 - (intOf i).toNat)
 case atStart =>
  refine ⟨0, Nat.zero_le _, rfl, ((Below.refl _ _).alloc (Nat.le_refl _) _).alloc (by simp) _, ?_, ?_⟩
  ·exact (NewBox.new w _ _).alloc _
  ·have := NewBox.new (w.alloc (.cells #[.int .u32 0, .int .u32 0, .int .u32 0, .int .u32 0, .int .u32 0, .int .u32 0, .int .u32 0, .int .u32 0] 222)) #[.int .u32 0, .int .u32 0, .int .u32 0, .int .u32 0, .int .u32 0, .int .u32 0, .int .u32 0, .int .u32 0] 222
   rw [show (w.alloc (.cells #[.int .u32 0, .int .u32 0, .int .u32 0, .int .u32 0, .int .u32 0, .int .u32 0, .int .u32 0, .int .u32 0] 222)).heap.size = w.heap.size + 1 by simp] at this
   exact this
 case round =>
  obtain ⟨k, hk, rfl, hb, hx, hy⟩ := hrel
  by_cases hlt : k < 8
  ·have hc := hy.word (by rw [firstUp_len]; exact hlt : k < _)
   have hf := hy.2.2 k
   have HB := Lib.hid hb
   have HX := Lib.hid hx
   have HY := Lib.hid hy
   clear hb hx hy
   go_wp2
   refine ⟨⟨k + 1, by omega, by go_num, HB.out.setCell (by simp) _, HX.out.setCell (by simp) _, ?_⟩, by simp [intOf]; omega⟩
   rw [← firstUp_set tag k hlt]
   exact HY.out.setW (by rw [firstUp_len]; exact hlt) _
  ·obtain rfl : k = 8 := by omega
   rw [firstUp_all] at hy
   have hn := firstW_len tag
   have hn0 := firstUp_len tag 0
   generalize hl : firstW tag = l at *
   have HL := Lib.hid hl
   clear hl
   generalize firstUp tag 0 = l0 at *
   obtain ⟨a0, a1, a2, a3, a4, a5, a6, a7, rfl⟩ := list8 hn
   obtain ⟨b0, b1, b2, b3, b4, b5, b6, b7, rfl⟩ := list8 hn0
   clear hn hn0
   have c0 := hy.cell (o := 0) (v := .int .u32 a0) rfl
   have c1 := hy.cell (o := 1) (v := .int .u32 a1) rfl
   have c2 := hy.cell (o := 2) (v := .int .u32 a2) rfl
   have c3 := hy.cell (o := 3) (v := .int .u32 a3) rfl
   have c4 := hy.cell (o := 4) (v := .int .u32 a4) rfl
   have c5 := hy.cell (o := 5) (v := .int .u32 a5) rfl
   have c6 := hy.cell (o := 6) (v := .int .u32 a6) rfl
   have c7 := hy.cell (o := 7) (v := .int .u32 a7) rfl
   have d0 := hx.cell (o := 0) (v := .int .u32 b0) rfl
   have d1 := hx.cell (o := 1) (v := .int .u32 b1) rfl
   have d2 := hx.cell (o := 2) (v := .int .u32 b2) rfl
   have d3 := hx.cell (o := 3) (v := .int .u32 b3) rfl
   have d4 := hx.cell (o := 4) (v := .int .u32 b4) rfl
   have d5 := hx.cell (o := 5) (v := .int .u32 b5) rfl
   have d6 := hx.cell (o := 6) (v := .int .u32 b6) rfl
   have d7 := hx.cell (o := 7) (v := .int .u32 b7) rfl
   have hf := hx.2.2
   have HB := Lib.hid hb
   have HX := Lib.hid hx
   clear hb hx hy
   go_wp2
   refine bodyPost_named fun W hW => ?_
   obtain ⟨hN, hB, _⟩ := HX.out.set8 HB.out (Nat.le_refl _) a0 a1 a2 a3 a4 a5 a6 a7 W hW
   clear hW
   have e0 := hN.cell (o := 0) (v := .int .u32 a0) rfl
   have e1 := hN.cell (o := 1) (v := .int .u32 a1) rfl
   have e2 := hN.cell (o := 2) (v := .int .u32 a2) rfl
   have e3 := hN.cell (o := 3) (v := .int .u32 a3) rfl
   have e4 := hN.cell (o := 4) (v := .int .u32 a4) rfl
   have e5 := hN.cell (o := 5) (v := .int .u32 a5) rfl
   have e6 := hN.cell (o := 6) (v := .int .u32 a6) rfl
   have e7 := hN.cell (o := 7) (v := .int .u32 a7) rfl
   refine bodyPost_ret (v := .agg #[.int .u32 a0, .int .u32 a1, .int .u32 a2, .int .u32 a3, .int .u32 a4, .int .u32 a5, .int .u32 a6, .int .u32 a7]) (by simp [results, Tryz.results202, go_sem, e0, e1, e2, e3, e4, e5, e6, e7]) rfl ?_
   exact ⟨by rw [HL.out]; rfl, hB⟩
end Go.Proofs.YtmmepogjocfefaaGreat

namespace Go.Proofs.YtmmepogjocfefaaGreat
set_option linter.unusedVariables false
set_option linter.unusedSimpArgs false
open Go.RowKit

/-- so many words -/
def Wds (n : Nat) (l : List Int) : Prop := l.length = n ∧ ∀ x ∈ l, 0 ≤ x ∧ x < 4294967296
theorem Wds.at_ {n : Nat} {l : List Int} (h : Wds n l) {k : Nat} (hk : k < n) : 0 ≤ l.getD k 0 ∧ l.getD k 0 < 4294967296 := by
 have hl : k < l.length := by rw [h.1]; exact hk
 rw [List.getD_eq_getElem?_getD, List.getElem?_eq_getElem hl]
 exact h.2 _ (List.getElem_mem hl)
theorem Wds.set {n : Nat} {l : List Int} (h : Wds n l) (k : Nat) {x : Int} (hx : 0 ≤ x ∧ x < 4294967296) : Wds n (l.set k x) :=
 ⟨by rw [List.length_set]; exact h.1, fun y hy => by
   rcases List.mem_or_eq_of_mem_set hy with h1 | rfl
   ·exact h.2 y h1
   ·exact hx⟩
theorem NewBox.wd {w : World} {k n : Nat} {l : List Int} (h : NewBox w k (ws l)) (hl : l.length = n) {o : Nat} (ho : o < n) : w.cell? ⟨k, o, none⟩ = some (.int .u32 (l.getD o 0)) := by
 subst hl
 rw [h.word ho, List.getD_eq_getElem?_getD, List.getElem?_eq_getElem ho]; rfl
theorem xor_w {a b : Int} (h : 0 ≤ a ∧ a < 4294967296) (k : 0 ≤ b ∧ b < 4294967296) : 0 ≤ bits .xor .u32 a b ∧ bits .xor .u32 a b < 4294967296 := by
 rw [u32_xor a b h.1 h.2 k.1 k.2]
 have hx : a.toNat ^^^ b.toNat < 2 ^ 32 := Nat.xor_lt_two_pow (by omega) (by omega)
 omega

def mixA (b v : List Int) (r i : Nat) : List Int := v.set i ((v.getD i 0 + (cst (8 * r + i) + bits .xor .u32 (v.getD ((i + 1) % 8) 0) (b.getD ((8 * r + 5 * i + r / 2) % 16) 0)) % 4294967296) % 4294967296)
def mixB (v : List Int) (r i : Nat) : List Int := v.set i (bits .xor .u32 (rotN (5 + (i + 3 * r) % 23) (v.getD i 0)) (v.getD ((i + 3) % 8) 0))
def mixRow (b v : List Int) (r : Nat) : Nat → List Int
 | 0 => v
 | i + 1 => mixB (mixA b (mixRow b v r i) r i) r i
def mixU (b v : List Int) : Nat → List Int
 | 0 => v
 | r + 1 => mixRow b (mixU b v r) r 8
/-- what is added at the end, up to k -/
def addW (s v : List Int) : Nat → List Int
 | 0 => v
 | k + 1 => (addW s v k).set k (((addW s v k).getD k 0 + s.getD k 0) % 4294967296)
def mixAll1 (s b : List Int) : List Int := addW s (mixU b s 12) 8
theorem mixA_w {b v : List Int} (h : Wds 8 v) (r i : Nat) : Wds 8 (mixA b v r i) := h.set _ (by omega)
theorem mixB_w {v : List Int} (h : Wds 8 v) {r i : Nat} (hi : i < 8) : Wds 8 (mixB v r i) := h.set _ (xor_w (rotN_w (h.at_ hi) _) (h.at_ (by omega)))
theorem mixRow_w {b v : List Int} (h : Wds 8 v) (r : Nat) : ∀ i, i ≤ 8 → Wds 8 (mixRow b v r i)
 | 0, _ => h
 | i + 1, hi => mixB_w (mixA_w (mixRow_w h r i (by omega)) r i) (by omega)
theorem mixU_w {b v : List Int} (h : Wds 8 v) : ∀ r, Wds 8 (mixU b v r)
 | 0 => h
 | r + 1 => mixRow_w (mixU_w h r) r 8 (Nat.le_refl _)
theorem addW_w {s v : List Int} (h : Wds 8 v) : ∀ k, Wds 8 (addW s v k)
 | 0 => h
 | k + 1 => (addW_w h k).set _ (by omega)
theorem mixAll1_w {s b : List Int} (h : Wds 8 s) : Wds 8 (mixAll1 s b) := addW_w (mixU_w h 12) 8
theorem list16 {l : List Int} (h : l.length = 16) : ∃ a0 a1 a2 a3 a4 a5 a6 a7 b0 b1 b2 b3 b4 b5 b6 b7, l = [a0, a1, a2, a3, a4, a5, a6, a7, b0, b1, b2, b3, b4, b5, b6, b7] := by
 match l, h with
 | [a0, a1, a2, a3, a4, a5, a6, a7, b0, b1, b2, b3, b4, b5, b6, b7], _ => exact ⟨a0, a1, a2, a3, a4, a5, a6, a7, b0, b1, b2, b3, b4, b5, b6, b7, rfl⟩

/-- where the mixing stands: v in its variable -/
structure MixAt (w : World) (s b v : List Int) (wx : World) : Prop where
 below : Below w.heap.size w wx
 s : NewBox wx w.heap.size (ws s)
 b : NewBox wx (w.heap.size + 1) (ws b)
 z : NewBox wx (w.heap.size + 1 + 1) (ws [0, 0, 0, 0, 0, 0, 0, 0])
 v : NewBox wx (w.heap.size + 1 + 1 + 1) (ws v)
theorem MixAt.set {w : World} {s b v : List Int} {wx : World} (h : MixAt w s b v wx) {o : Nat} (ho : o < v.length) (x : Int) : MixAt w s b (v.set o x) (wx.setCell ⟨w.heap.size + 1 + 1 + 1, o, none⟩ (.int .u32 x)) :=
 ⟨h.below.setCell (by simp only; omega) _, h.s.setCell (by show _ ≠ _; simp only; omega) _, h.b.setCell (by show _ ≠ _; simp only; omega) _, h.z.setCell (by show _ ≠ _; simp only; omega) _, h.v.setW ho x⟩
theorem MixAt.drew {w : World} {s b v : List Int} {wx : World} (h : MixAt w s b v wx) : MixAt w s b v wx.drew := ⟨h.below.drew, h.s.drew, h.b.drew, h.z.drew, h.v.drew⟩
theorem MixAt.new (w : World) (s b v : List Int) (t1 t2 t3 t4 : TypeId) : MixAt w s b v ((((w.alloc (.cells (ws s).toArray t1)).alloc (.cells (ws b).toArray t2)).alloc (.cells (ws [0, 0, 0, 0, 0, 0, 0, 0]).toArray t3)).alloc (.cells (ws v).toArray t4)) := by
 have n0 := NewBox.new w (ws s).toArray t1
 have n1 := NewBox.new (w.alloc (.cells (ws s).toArray t1)) (ws b).toArray t2
 have n2 := NewBox.new ((w.alloc (.cells (ws s).toArray t1)).alloc (.cells (ws b).toArray t2)) (ws [0, 0, 0, 0, 0, 0, 0, 0]).toArray t3
 have n3 := NewBox.new (((w.alloc (.cells (ws s).toArray t1)).alloc (.cells (ws b).toArray t2)).alloc (.cells (ws [0, 0, 0, 0, 0, 0, 0, 0]).toArray t3)) (ws v).toArray t4
 have z : ∀ (w : World) (o : Obj), (w.alloc o).heap.size = w.heap.size + 1 := fun w o => by simp
 simp only [z] at n1 n2 n3
 refine ⟨((((Below.refl _ _).alloc (Nat.le_refl _) _).alloc (by simp only [z]; omega) _).alloc (by simp only [z]; omega) _).alloc (by simp only [z]; omega) _, ((n0.alloc _).alloc _).alloc _, (n1.alloc _).alloc _, n2.alloc _, n3⟩

set_option maxRecDepth 100000 in
set_option maxHeartbeats 400000 in
theorem mixed_c' (s b S : List Int) (w : World) (hs : Wds 8 s) (hb : Wds 16 b) (hS : S = mixAll1 s b) : Calls Tryz.prog 212 #[.agg (ws s).toArray, .agg (ws b).toArray] w fun e w' => e = .returned (.agg (ws S).toArray) ∧ Below w.heap.size w w' := by
 have hM : ∀ W, W = ((((w.alloc (.cells (ws s).toArray 222)).alloc (.cells (ws b).toArray 232)).alloc (.cells (ws [0, 0, 0, 0, 0, 0, 0, 0]).toArray 222)).alloc (.cells (ws s).toArray 222)) → MixAt w s b s W := by
  rintro W rfl
  exact MixAt.new w s b s _ _ _ _
 have HM := Lib.hid hM
 clear hM
 obtain ⟨a0, a1, a2, a3, a4, a5, a6, a7, es⟩ := list8 hs.1
 obtain ⟨b0, b1, b2, b3, b4, b5, b6, b7, b8, b9, b10, b11, b12, b13, b14, b15, eb⟩ := list16 hb.1
 have HS := Lib.hid hs
 have HBL := Lib.hid hb
 have HSS := Lib.hid hS
 have HES := Lib.hid es
 have HEB := Lib.hid eb
 go_enter Tryz.func212, Tryz.ntmps212
 simp only [es, eb, ws, List.map_cons, List.map_nil]
 clear hs hb hS es eb
 go_wp2
 go_loopw [10] (fun i wx => ∃ r : Nat, r ≤ 12 ∧ i = .int .i64 r ∧ MixAt w s b (mixU b s r) wx) (fun i _ => 12 - (intOf i).toNat)
 case atStart => exact ⟨0, Nat.zero_le _, rfl, HM.out _ (by rw [HES.out, HEB.out]; rfl)⟩
 case round =>
  clear HM
  obtain ⟨r, hr, rfl, hA⟩ := hrel
  have HV : Hid (Wds 8 (mixU b s r)) := mixU_w HS.out r
  by_cases hlt : r < 12
  ·have HA := Lib.hid hA
   clear hA
   go_wp2
   have hdr : decide ((r : Int) < 12) = true := decide_eq_true (by omega)
   simp only [hdr]
   clear hdr
   go_loopw [13] (fun i wx => ∃ k : Nat, k ≤ 8 ∧ i = .int .i64 k ∧ MixAt w s b (mixRow b (mixU b s r) r k) wx) (fun i _ => 8 - (intOf i).toNat)
   case atStart => exact ⟨0, Nat.zero_le _, rfl, HA.out⟩
   case round =>
    clear HA
    obtain ⟨k, hk, rfl, hA⟩ := hrel
    by_cases hlk : k < 8
    ·have hvw : Wds 8 (mixRow b (mixU b s r) r k) := mixRow_w HV.out r k hk
     have hnx : mixRow b (mixU b s r) r (k + 1) = mixB (mixA b (mixRow b (mixU b s r) r k) r k) r k := rfl
     generalize mixRow b (mixU b s r) r k = v at *
     have HNX := Lib.hid hnx
     clear hnx
     have hma : mixA b v r k = v.set k ((v.getD k 0 + (cst (8 * r + k) + bits .xor .u32 (v.getD ((k + 1) % 8) 0) (b.getD ((8 * r + 5 * k + r / 2) % 16) 0)) % 4294967296) % 4294967296) := rfl
     obtain ⟨m2, hm2⟩ : ∃ m, m = (k + 1) % 8 := ⟨_, rfl⟩
     obtain ⟨m3, hm3⟩ : ∃ m, m = (8 * r + 5 * k + r / 2) % 16 := ⟨_, rfl⟩
     rw [← hm2, ← hm3] at hma
     have p1 := hA.v.wd hvw.1 hlk
     have p2 := hA.v.wd hvw.1 (show m2 < 8 by omega)
     have p3 := hA.b.wd HBL.out.1 (show m3 < 16 by omega)
     have x1 := hvw.at_ hlk
     have x2 := hvw.at_ (show m2 < 8 by omega)
     have x3 := HBL.out.at_ (show m3 < 16 by omega)
     have hf := hA.v.2.2 k
     have xc := cst_w (8 * r + k)
     generalize v.getD k 0 = y1 at *
     generalize v.getD m2 0 = y2 at *
     generalize b.getD m3 0 = y3 at *
     have xx := xor_w x2 x3
     have HC : Calls Tryz.prog 218 #[.int .i64 (8 * (r : Int) + k)] wr.drew fun e w'' => e = .returned (.int .u32 (cst (8 * r + k))) ∧ w'' = wr.drew := (implConstant_c _ _).mono fun _ _ h => ⟨h.1, h.2.symm⟩
     have E1 : IntKind.i64.wrap (8 * (r : Int)) = 8 * r := by rw [IntKind.wrap_i64]; omega
     have E2 : IntKind.i64.wrap (8 * (r : Int) + k) = 8 * r + k := by rw [IntKind.wrap_i64]; omega
     have E3 : IntKind.i64.wrap ((k : Int) + 1) = k + 1 := by rw [IntKind.wrap_i64]; omega
     have E4 : ((k : Int) + 1).tmod 8 = m2 := by rw [Int.tmod_eq_emod_of_nonneg (by omega)]; omega
     have E5 : IntKind.i64.wrap (5 * (k : Int)) = 5 * k := by rw [IntKind.wrap_i64]; omega
     have E6 : IntKind.i64.wrap (8 * (r : Int) + 5 * k) = 8 * r + 5 * k := by rw [IntKind.wrap_i64]; omega
     have E7 : (r : Int).tdiv 2 = (r / 2 : Nat) := by rw [Int.tdiv_eq_ediv_of_nonneg (by omega)]; omega
     have E8 : IntKind.i64.wrap ((r / 2 : Nat) : Int) = (r / 2 : Nat) := by rw [IntKind.wrap_i64]; omega
     have E9 : IntKind.i64.wrap (8 * (r : Int) + 5 * k + (r / 2 : Nat)) = 8 * r + 5 * k + (r / 2 : Nat) := by rw [IntKind.wrap_i64]; omega
     have E10 : (8 * (r : Int) + 5 * k + (r / 2 : Nat)).tmod 16 = m3 := by rw [Int.tmod_eq_emod_of_nonneg (by omega)]; omega
     generalize hcc : cst (8 * (r : Int) + k) = c at *
     have HCC := Lib.hid hcc
     have HA := Lib.hid hA
     have HVW := Lib.hid hvw
     have HMA := Lib.hid hma
     have H2 := Lib.hid hm2
     have H3 := Lib.hid hm3
     have B2 : (m2 : Int) < 8 := by omega
     have B3 : (m3 : Int) < 16 := by omega
     have B1 : (k : Int) < 8 := by omega
     clear hA hvw hma hm2 hm3 hcc
     generalize (r / 2 : Nat) = rh at *
     go_wp2
     refine wp_region_still_tail 28 (by kernel_rfl) (by kernel_rfl) ?_
     simp only [List.take_succ_cons, List.take_zero, List.drop_succ_cons, List.drop_zero]
     repeat still_step
     still_call HC
     repeat still_step
     refine wpStill_nil ?_
     change wpList _ _ _ _ _ wr.drew
     have HA2 := Lib.hid HA.out.drew
     have hf2 : wr.drew.frozen? ⟨w.heap.size + 1 + 1 + 1, k, none⟩ = false := hf
     have p12 : wr.drew.cell? ⟨w.heap.size + 1 + 1 + 1, k, none⟩ = some (.int .u32 y1) := p1
     clear HA HC p1 p2 p3 hf
     generalize wr.drew = wq at *
     go_wp2
     have hA : MixAt w s b (mixA b v r k) (wq.setCell ⟨w.heap.size + 1 + 1 + 1, k, none⟩ (.int .u32 ((y1 + (c + bits .xor .u32 y2 y3) % 4294967296) % 4294967296))) := by
      rw [HMA.out]
      exact HA2.out.set (by rw [HVW.out.1]; exact hlk) _
     have hvw : Wds 8 (mixA b v r k) := mixA_w HVW.out r k
     clear HA2 hf2 p12
     generalize wq.setCell ⟨w.heap.size + 1 + 1 + 1, k, none⟩ (.int .u32 ((y1 + (c + bits .xor .u32 y2 y3) % 4294967296) % 4294967296)) = wp at *
     clear HMA HVW
     have hmb : mixB (mixA b v r k) r k = (mixA b v r k).set k (bits .xor .u32 (rotN (5 + (k + 3 * r) % 23) ((mixA b v r k).getD k 0)) ((mixA b v r k).getD ((k + 3) % 8) 0)) := rfl
     obtain ⟨m5, hm5⟩ : ∃ m, m = (k + 3 * r) % 23 := ⟨_, rfl⟩
     obtain ⟨m6, hm6⟩ : ∃ m, m = (k + 3) % 8 := ⟨_, rfl⟩
     rw [← hm5, ← hm6] at hmb
     generalize mixA b v r k = v1 at *
     have p4 := hA.v.wd hvw.1 hlk
     have p6 := hA.v.wd hvw.1 (show m6 < 8 by omega)
     have x4 := hvw.at_ hlk
     have hf := hA.v.2.2 k
     generalize v1.getD k 0 = z1 at *
     generalize v1.getD m6 0 = z6 at *
     have HT : Calls Tryz.prog 219 #[.int .u32 z1, .int .i64 (5 + (m5 : Int))] wp.drew fun e w'' => e = .returned (.int .u32 (rotN (5 + m5) z1)) ∧ w'' = wp.drew := (implTurn_c z1 (5 + m5) _ x4 (by omega)).mono fun _ _ h => ⟨h.1, h.2.symm⟩
     have D1 : IntKind.i64.wrap (3 * (r : Int)) = 3 * r := by rw [IntKind.wrap_i64]; omega
     have D2 : IntKind.i64.wrap ((k : Int) + 3 * r) = k + 3 * r := by rw [IntKind.wrap_i64]; omega
     have D3 : ((k : Int) + 3 * r).tmod 23 = m5 := by rw [Int.tmod_eq_emod_of_nonneg (by omega)]; omega
     have D4 : IntKind.i64.wrap (5 + (m5 : Int)) = 5 + m5 := by rw [IntKind.wrap_i64]; omega
     have D5 : IntKind.i64.wrap ((k : Int) + 3) = k + 3 := by rw [IntKind.wrap_i64]; omega
     have D6 : ((k : Int) + 3).tmod 8 = m6 := by rw [Int.tmod_eq_emod_of_nonneg (by omega)]; omega
     have D7 : (m6 : Int) < 8 := by omega
     have HA := Lib.hid hA
     have HVW := Lib.hid hvw
     have HMB := Lib.hid hmb
     clear hA hvw hmb hm5 hm6
     generalize rotN (5 + m5) z1 = q1 at *
     refine wp_region_still_tail 18 (by kernel_rfl) (by kernel_rfl) ?_
     simp only [List.take_succ_cons, List.take_zero, List.drop_succ_cons, List.drop_zero]
     repeat still_step
     still_call HT
     repeat still_step
     refine wpStill_nil ?_
     change wpList _ _ _ _ _ wp.drew
     have HA2 := Lib.hid HA.out.drew
     have hf2 : wp.drew.frozen? ⟨w.heap.size + 1 + 1 + 1, k, none⟩ = false := hf
     have p12 : wp.drew.cell? ⟨w.heap.size + 1 + 1 + 1, k, none⟩ = some (.int .u32 z1) := p4
     clear HA HT p4 p6 hf
     generalize wp.drew = wq at *
     go_wp2
     go_round
     case rel =>
      refine ⟨k + 1, by omega, by go_num, ?_⟩
      rw [HNX.out, HMB.out]
      exact HA2.out.set (by rw [HVW.out.1]; exact hlk) _
     case measure => simp [intOf]; omega
    ·obtain rfl : k = 8 := by omega
     have HA := Lib.hid hA
     clear hA
     go_wp2
     first
      | exact ⟨⟨r + 1, by omega, by go_num, HA.out⟩, by simp [intOf]; omega⟩
      | (go_round
         case rel => exact ⟨r + 1, by omega, by go_num, HA.out⟩
         case measure => simp [intOf]; omega)
  ·obtain rfl : r = 12 := by omega
   have HA := Lib.hid hA
   clear hA
   have HU : Hid (Wds 8 (mixU b s 12)) := HV
   go_wp2
   have hSS := HSS.out
   unfold mixAll1 at hSS
   have HSS2 := Lib.hid hSS
   clear hSS HSS HV
   generalize mixU b s 12 = u at *
   have h12 : ((12 : Nat) : Int) = 12 := rfl
   simp only [h12]
   clear h12
   go_loopw [64] (fun i wx => ∃ k : Nat, k ≤ 8 ∧ i = .int .i64 k ∧ MixAt w s b (addW s u k) wx) (fun i _ => 8 - (intOf i).toNat)
   case atStart => exact ⟨0, Nat.zero_le _, rfl, HA.out⟩
   case round =>
    clear HA
    obtain ⟨k, hk, rfl, hA⟩ := hrel
    by_cases hlk : k < 8
    ·have hvw : Wds 8 (addW s u k) := addW_w HU.out k
     have hnx : addW s u (k + 1) = (addW s u k).set k (((addW s u k).getD k 0 + s.getD k 0) % 4294967296) := rfl
     generalize addW s u k = v at *
     have p1 := hA.v.wd hvw.1 hlk
     have p2 := hA.s.wd HS.out.1 hlk
     have x1 := hvw.at_ hlk
     have x2 := HS.out.at_ hlk
     have hf := hA.v.2.2 k
     generalize v.getD k 0 = y1 at *
     generalize s.getD k 0 = y2 at *
     have B1 : (k : Int) < 8 := by omega
     have HA := Lib.hid hA
     have HVW := Lib.hid hvw
     have HNX := Lib.hid hnx
     clear hA hvw hnx
     go_wp2
     refine wp_region_still_tail 8 (by kernel_rfl) (by kernel_rfl) ?_
     simp only [List.take_succ_cons, List.take_zero, List.drop_succ_cons, List.drop_zero]
     repeat still_step
     refine wpStill_nil ?_
     change wpList _ _ _ _ _ wr.drew
     have HA2 := Lib.hid HA.out.drew
     have hf2 : wr.drew.frozen? ⟨w.heap.size + 1 + 1 + 1, k, none⟩ = false := hf
     have p12 : wr.drew.cell? ⟨w.heap.size + 1 + 1 + 1, k, none⟩ = some (.int .u32 y1) := p1
     clear HA p1 p2 hf
     generalize wr.drew = wq at *
     go_wp2
     go_round
     case rel =>
      refine ⟨k + 1, by omega, by go_num, ?_⟩
      rw [HNX.out]
      exact HA2.out.set (by rw [HVW.out.1]; exact hlk) _
     case measure => simp [intOf]; omega
    ·obtain rfl : k = 8 := by omega
     have hn : (addW s u 8).length = 8 := (addW_w HU.out 8).1
     generalize addW s u 8 = l at *
     obtain ⟨c0, c1, c2, c3, c4, c5, c6, c7, rfl⟩ := list8 hn
     clear hn
     have e0 := hA.v.cell (o := 0) (v := .int .u32 c0) rfl
     have e1 := hA.v.cell (o := 1) (v := .int .u32 c1) rfl
     have e2 := hA.v.cell (o := 2) (v := .int .u32 c2) rfl
     have e3 := hA.v.cell (o := 3) (v := .int .u32 c3) rfl
     have e4 := hA.v.cell (o := 4) (v := .int .u32 c4) rfl
     have e5 := hA.v.cell (o := 5) (v := .int .u32 c5) rfl
     have e6 := hA.v.cell (o := 6) (v := .int .u32 c6) rfl
     have e7 := hA.v.cell (o := 7) (v := .int .u32 c7) rfl
     have d0 := hA.z.cell (o := 0) (v := .int .u32 0) rfl
     have d1 := hA.z.cell (o := 1) (v := .int .u32 0) rfl
     have d2 := hA.z.cell (o := 2) (v := .int .u32 0) rfl
     have d3 := hA.z.cell (o := 3) (v := .int .u32 0) rfl
     have d4 := hA.z.cell (o := 4) (v := .int .u32 0) rfl
     have d5 := hA.z.cell (o := 5) (v := .int .u32 0) rfl
     have d6 := hA.z.cell (o := 6) (v := .int .u32 0) rfl
     have d7 := hA.z.cell (o := 7) (v := .int .u32 0) rfl
     have hf := hA.z.2.2
     have HA := Lib.hid hA
     clear hA
     go_wp2
     refine bodyPost_named fun W hW => ?_
     obtain ⟨hN, hB, _⟩ := HA.out.z.set8 HA.out.below (by omega) c0 c1 c2 c3 c4 c5 c6 c7 W hW
     clear hW
     have e0 := hN.cell (o := 0) (v := .int .u32 c0) rfl
     have e1 := hN.cell (o := 1) (v := .int .u32 c1) rfl
     have e2 := hN.cell (o := 2) (v := .int .u32 c2) rfl
     have e3 := hN.cell (o := 3) (v := .int .u32 c3) rfl
     have e4 := hN.cell (o := 4) (v := .int .u32 c4) rfl
     have e5 := hN.cell (o := 5) (v := .int .u32 c5) rfl
     have e6 := hN.cell (o := 6) (v := .int .u32 c6) rfl
     have e7 := hN.cell (o := 7) (v := .int .u32 c7) rfl
     refine bodyPost_ret (v := .agg #[.int .u32 c0, .int .u32 c1, .int .u32 c2, .int .u32 c3, .int .u32 c4, .int .u32 c5, .int .u32 c6, .int .u32 c7]) (by simp [results, Tryz.results212, go_sem, e0, e1, e2, e3, e4, e5, e6, e7]) rfl ?_
     exact ⟨by rw [HSS2.out]; rfl, hB⟩
theorem mixed_c (s b : List Int) (w : World) (hs : Wds 8 s) (hb : Wds 16 b) : Calls Tryz.prog 212 #[.agg (ws s).toArray, .agg (ws b).toArray] w fun e w' => e = .returned (.agg (ws (mixAll1 s b)).toArray) ∧ Below w.heap.size w w' := mixed_c' s b _ w hs hb rfl
end Go.Proofs.YtmmepogjocfefaaGreat

namespace Go.Proofs.YtmmepogjocfefaaGreat
set_option linter.unusedVariables false
set_option linter.unusedSimpArgs false
open Go.RowKit

def wordAt (s : ByteArray) (k : Nat) (h : k + 4 ≤ s.size) : Int := ((((s[k].toNat : Int) * 256 + s[k + 1].toNat) * 256 + s[k + 2].toNat) * 256 + s[k + 3].toNat)
def wordText (x : Int) : ByteArray := strOfNums [x / 16777216, x / 65536 % 256, x / 256 % 256, x % 256]
theorem byte_lt (b : UInt8) : (0 : Int) ≤ (b.toNat : Int) ∧ (b.toNat : Int) < 256 := ⟨Int.natCast_nonneg _, by have := b.toNat_lt; omega⟩
def wordUp (s : ByteArray) (k : Nat) (h : k + 4 ≤ s.size) : Nat → Int
 | 0 => 0
 | 1 => s[k].toNat
 | 2 => (s[k].toNat : Int) * 256 + s[k + 1].toNat
 | 3 => ((s[k].toNat : Int) * 256 + s[k + 1].toNat) * 256 + s[k + 2].toNat
 | _ => wordAt s k h
theorem wordUp_w (s : ByteArray) (k : Nat) (h : k + 4 ≤ s.size) (j : Nat) (hj : j < 4) : 0 ≤ wordUp s k h j ∧ wordUp s k h j < 16777216 := by
 have b0 := byte_lt s[k]
 have b1 := byte_lt s[k + 1]
 have b2 := byte_lt s[k + 2]
 rcases j with _ | _ | _ | _ | j
 ·have e : wordUp s k h 0 = 0 := rfl
  rw [e]; omega
 ·have e : wordUp s k h (0 + 1) = s[k].toNat := rfl
  rw [e]; omega
 ·have e : wordUp s k h (0 + 1 + 1) = (s[k].toNat : Int) * 256 + s[k + 1].toNat := rfl
  rw [e]; omega
 ·have e : wordUp s k h (0 + 1 + 1 + 1) = ((s[k].toNat : Int) * 256 + s[k + 1].toNat) * 256 + s[k + 2].toNat := rfl
  rw [e]; omega
 ·omega
theorem or_word (b0 b1 b2 b3 : Int) (h0 : 0 ≤ b0 ∧ b0 < 256) (h1 : 0 ≤ b1 ∧ b1 < 256) (h2 : 0 ≤ b2 ∧ b2 < 256) (h3 : 0 ≤ b3 ∧ b3 < 256) :
  bits .or .u32 (bits .or .u32 (bits .or .u32 (b0 % 4294967296 * 16777216 % 4294967296) (b1 % 4294967296 * 65536 % 4294967296)) (b2 % 4294967296 * 256 % 4294967296)) (b3 % 4294967296) = ((b0 * 256 + b1) * 256 + b2) * 256 + b3 := by
 rw [bits_join .u32 32 (by decide) wraps32 24 (b0 % 4294967296 * 16777216 % 4294967296) (b1 % 4294967296 * 65536 % 4294967296) (by omega) (by omega) (by omega) (by omega) (by omega) (by omega)]
 rw [bits_join .u32 32 (by decide) wraps32 16 _ (b2 % 4294967296 * 256 % 4294967296) (by omega) (by omega) (by omega) (by omega) (by omega) (by omega)]
 rw [bits_join .u32 32 (by decide) wraps32 8 _ (b3 % 4294967296) (by omega) (by omega) (by omega) (by omega) (by omega) (by omega)]
 omega
theorem wordUp_next (s : ByteArray) (k : Nat) (h : k + 4 ≤ s.size) (j : Nat) (hj : j < 4) (q : Nat) (hqs : q < s.size) (hq : q = k + j) : wordUp s k h (j + 1) = wordUp s k h j * 256 + (s[q]'hqs).toNat := by
 subst hq
 match j, hj with
 | 0, _ =>
   show (s[k].toNat : Int) = 0 * 256 + (s[k + 0].toNat : Int)
   simp
 | 1, _ => rfl
 | 2, _ => rfl
 | 3, _ => rfl
theorem wordAt_w (s : ByteArray) (k : Nat) (h : k + 4 ≤ s.size) : 0 ≤ wordAt s k h ∧ wordAt s k h < 4294967296 := by
 unfold wordAt
 have b0 := byte_lt s[k]
 have b1 := byte_lt s[k + 1]
 have b2 := byte_lt s[k + 2]
 have b3 := byte_lt s[k + 3]
 omega
theorem below_drewN (w : World) (n : Nat) : Below w.heap.size w (w.drewN n) := ⟨rfl, rfl, rfl, Nat.le_refl _, fun _ _ => rfl⟩
set_option maxRecDepth 100000 in
set_option maxHeartbeats 400000 in
theorem implWordAt_c (s : ByteArray) (k : Nat) (w : World) (hs : s.size ≤ maxLen) (h : k + 4 ≤ s.size) : Calls Tryz.prog 211 #[.string s, .int .i64 k] w fun e w' => e = .returned (.int .u32 (wordAt s k h)) ∧ Below w.heap.size w w' := by
 unfold maxLen at hs
 obtain ⟨k1, hk1⟩ : ∃ j, j = k + 1 := ⟨_, rfl⟩
 obtain ⟨k2, hk2⟩ : ∃ j, j = k + 2 := ⟨_, rfl⟩
 obtain ⟨k3, hk3⟩ : ∃ j, j = k + 3 := ⟨_, rfl⟩
 have i0 : (k : Int) < (s.size : Int) := by omega
 have i1 : (k1 : Int) < (s.size : Int) := by omega
 have i2 : (k2 : Int) < (s.size : Int) := by omega
 have i3 : (k3 : Int) < (s.size : Int) := by omega
 have w1 : IntKind.i64.wrap ((k : Int) + 1) = k1 := by rw [IntKind.wrap_i64]; omega
 have w2 : IntKind.i64.wrap ((k : Int) + 2) = k2 := by rw [IntKind.wrap_i64]; omega
 have w3 : IntKind.i64.wrap ((k : Int) + 3) = k3 := by rw [IntKind.wrap_i64]; omega
 have H := Lib.hid (And.intro hk1 (And.intro hk2 hk3))
 clear hk1 hk2 hk3
 go_enter Tryz.func211, Tryz.ntmps211
 go_wp2
 go_quiet (fail)
 go_wp2
 go_ret
 obtain ⟨rfl, rfl, rfl⟩ := H.out
 exact ⟨ret_int (or_word _ _ _ _ (byte_lt _) (byte_lt _) (byte_lt _) (byte_lt _)), below_drewN w nq⟩
set_option maxRecDepth 100000 in
set_option maxHeartbeats 400000 in
theorem specWordAt_c (s : ByteArray) (k : Nat) (w : World) (hs : s.size ≤ maxLen) (h : k + 4 ≤ s.size) : Calls Tryz.prog 215 #[.string s, .int .i64 k] w fun e w' => e = .returned (.int .u32 (wordAt s k h)) ∧ w = w' := by
 unfold maxLen at hs
 go_enter Tryz.func215, Tryz.ntmps215
 go_wp2
 go_loop [5, 6] (fun v i => ∃ j : Nat, j ≤ 4 ∧ i = .int .i64 j ∧ v = .int .u32 (wordUp s k h j)) (fun _ i => 4 - (intOf i).toNat)
 case atStart => exact ⟨0, Nat.zero_le _, rfl, rfl⟩
 case round =>
  obtain ⟨j, hj, rfl, rfl⟩ := hrel
  by_cases hlt : j < 4
  ·obtain ⟨q, hq⟩ : ∃ q, q = k + j := ⟨_, rfl⟩
   have i0 : (q : Int) < (s.size : Int) := by omega
   have w1 : IntKind.i64.wrap ((k : Int) + j) = q := by rw [IntKind.wrap_i64]; omega
   have w2 : (k : Int) + j = q := by omega
   have hqs : q < s.size := by omega
   have hu := wordUp_w s k h j hlt
   have hn := wordUp_next s k h j hlt q hqs hq
   have HN := Lib.hid hn
   have HQ := Lib.hid hq
   clear hn hq
   generalize wordUp s k h j = y at *
   have b0 := byte_lt s[q]
   go_wp2
   go_round
   case rel => exact ⟨j + 1, by omega, by go_num, by rw [HN.out]⟩
   case measure => simp [intOf]; omega
  ·obtain rfl : j = 4 := by omega
   go_wp2
   go_ret
   exact ⟨rfl, rfl⟩
set_option maxRecDepth 100000 in
set_option maxHeartbeats 400000 in
theorem implWordText_c (x : Int) (w : World) (h : 0 ≤ x ∧ x < 4294967296) : Calls Tryz.prog 180 #[.int .u32 x] w fun e w' => e = .returned (.string (wordText x)) ∧ Below w.heap.size w w' := by
 have hc := conv_4 (P := Tryz.prog) 141 5 9 rfl rfl rfl w (x / 16777216) (x / 65536 % 256) (x / 256 % 256) (x % 256)
 go_enter Tryz.func180, Tryz.ntmps180
 go_wp2
 go_ret
 exact ⟨rfl, (Below.refl _ _).alloc (Nat.le_refl _) _⟩
set_option maxRecDepth 100000 in
set_option maxHeartbeats 400000 in
theorem specWordText_c (x : Int) (w : World) (h : 0 ≤ x ∧ x < 4294967296) : Calls Tryz.prog 214 #[.int .u32 x] w fun e w' => e = .returned (.string (wordText x)) ∧ Below w.heap.size w w' := by
 have hc := conv_4 (P := Tryz.prog) 141 5 9 rfl rfl rfl w (x / 16777216) (x / 65536 % 256) (x / 256 % 256) (x % 256)
 go_enter Tryz.func214, Tryz.ntmps214
 go_wp2
 go_ret
 exact ⟨rfl, (Below.refl _ _).alloc (Nat.le_refl _) _⟩
end Go.Proofs.YtmmepogjocfefaaGreat

namespace Go.Proofs.YtmmepogjocfefaaGreat
set_option linter.unusedVariables false
set_option linter.unusedSimpArgs false
open Go.RowKit

def wAt (t : ByteArray) (k : Nat) : Int := if h : k + 4 ≤ t.size then wordAt t k h else 0
theorem wAt_w (t : ByteArray) (k : Nat) : 0 ≤ wAt t k ∧ wAt t k < 4294967296 := by
 unfold wAt
 split
 ·exact wordAt_w t k _
 ·omega
theorem wAt_eq (t : ByteArray) (k : Nat) (h : k + 4 ≤ t.size) : wordAt t k h = wAt t k := by rw [wAt, dif_pos h]
theorem wAt_extract (t : ByteArray) (a b k : Nat) (hb : b ≤ t.size) (h : a + k + 4 ≤ b) : wAt (t.extract a b) k = wAt t (a + k) := by
 have hz : (t.extract a b).size = b - a := by rw [ByteArray.size_extract]; omega
 rw [wAt, dif_pos (by rw [hz]; omega), wAt, dif_pos (by omega)]
 unfold wordAt
 simp only [ByteArray.getElem_extract, Nat.add_assoc]
def blockAt (t : ByteArray) (o : Nat) : List Int := (List.range 16).map fun i : Nat => wAt t (o + 4 * i)
def blockUp (t : ByteArray) (o k : Nat) : List Int := (List.range 16).map fun i : Nat => if i < k then wAt t (o + 4 * i) else 0
theorem blockUp_len (t : ByteArray) (o k : Nat) : (blockUp t o k).length = 16 := by simp [blockUp]
theorem blockAt_wds (t : ByteArray) (o : Nat) : Wds 16 (blockAt t o) := ⟨by simp [blockAt], fun x hx => by
 obtain ⟨i, _, rfl⟩ := List.mem_map.1 hx
 exact wAt_w _ _⟩
theorem blockUp_set (t : ByteArray) (o k : Nat) (h : k < 16) : (blockUp t o k).set k (wAt t (o + 4 * k)) = blockUp t o (k + 1) := by
 apply List.ext_getElem?
 intro i
 by_cases h1 : k = i
 ·subst h1
  rw [List.getElem?_set_self (by rw [blockUp_len]; exact h)]
  simp [blockUp, h]
 ·rw [List.getElem?_set_ne h1]
  by_cases h2 : i < 16
  ·simp only [blockUp, List.getElem?_map, List.getElem?_range h2, Option.map_some]
   by_cases h3 : i < k
   ·rw [if_pos h3, if_pos (by omega)]
   ·rw [if_neg h3, if_neg (by omega)]
  ·rw [List.getElem?_eq_none (by rw [blockUp_len]; omega), List.getElem?_eq_none (by rw [blockUp_len]; omega)]
theorem blockUp_all (t : ByteArray) (o : Nat) : blockUp t o 16 = blockAt t o := by
 apply List.map_congr_left
 intro i hi
 rw [List.mem_range] at hi
 rw [if_pos hi]
def mixText (s : List Int) (t : ByteArray) : Nat → List Int
 | 0 => s
 | k + 1 => mixAll1 (mixText s t k) (blockAt t (64 * k))
theorem mixText_w {s : List Int} (h : Wds 8 s) (t : ByteArray) : ∀ k, Wds 8 (mixText s t k)
 | 0 => h
 | k + 1 => mixAll1_w (mixText_w h t k)
def szOf : Value → Nat
 | .string s => s.size
 | _ => 0

/-- where the mixing of a text stands -/
structure StAt (w : World) (s : List Int) (wx : World) : Prop where
 below : Below w.heap.size w wx
 s : NewBox wx w.heap.size (ws s)
 z : NewBox wx (w.heap.size + 1) (ws [0, 0, 0, 0, 0, 0, 0, 0])
theorem StAt.next {w : World} {s : List Int} {wx wy : World} (h : StAt w s wx) (hb : Below wx.heap.size wx wy) : StAt w s wy := ⟨below_then h.below hb h.below.size, h.s.below hb, h.z.below hb⟩
theorem StAt.new (w : World) (s : List Int) (t1 t2 : TypeId) : StAt w s ((w.alloc (.cells (ws s).toArray t1)).alloc (.cells (ws [0, 0, 0, 0, 0, 0, 0, 0]).toArray t2)) := by
 have n0 := NewBox.new w (ws s).toArray t1
 have n1 := NewBox.new (w.alloc (.cells (ws s).toArray t1)) (ws [0, 0, 0, 0, 0, 0, 0, 0]).toArray t2
 have z : ∀ (w : World) (o : Obj), (w.alloc o).heap.size = w.heap.size + 1 := fun w o => by simp
 simp only [z] at n1
 exact ⟨((Below.refl _ _).alloc (Nat.le_refl _) _).alloc (by simp only [z]; omega) _, n0.alloc _, n1⟩

set_option maxRecDepth 100000 in
set_option maxHeartbeats 4000000 in
theorem mixAll_c' (s S : List Int) (t : ByteArray) (w : World) (hs : Wds 8 s) (ht : t.size ≤ 100000) (hS : S = mixText s t (t.size / 64)) : Calls Tryz.prog 201 #[.agg (ws s).toArray, .string t] w fun e w' => e = .returned (.agg (ws S).toArray) ∧ Below w.heap.size w w' := by
 have hM : ∀ W, W = ((w.alloc (.cells (ws s).toArray 222)).alloc (.cells (ws [0, 0, 0, 0, 0, 0, 0, 0]).toArray 222)) → StAt w s W := by
  rintro W rfl
  exact StAt.new w s _ _
 have HM := Lib.hid hM
 clear hM
 obtain ⟨a0, a1, a2, a3, a4, a5, a6, a7, es⟩ := list8 hs.1
 have HS := Lib.hid hs
 have HSS := Lib.hid hS
 have HES := Lib.hid es
 go_enter Tryz.func201, Tryz.ntmps201
 simp only [es, ws, List.map_cons, List.map_nil]
 clear hs hS es
 go_wp2
 have HEX : Hid (t.extract 0 t.size = t) := by rw [Hid]; simp
 go_loopw [1, 5] (fun v _ wx => ∃ k : Nat, 64 * k ≤ t.size ∧ v = .string (t.extract (64 * k) t.size) ∧ StAt w (mixText s t k) wx) (fun v _ _ => szOf v)
 case atStart => exact ⟨0, Nat.zero_le _, by rw [Nat.mul_zero, HEX.out], HM.out _ (by rw [HES.out]; rfl)⟩
 case round =>
  clear HM
  obtain ⟨k, hk, rfl, hA⟩ := hrel
  have HV : Hid (Wds 8 (mixText s t k)) := mixText_w HS.out t k
  have hqz : (t.extract (64 * k) t.size).size = t.size - 64 * k := by rw [ByteArray.size_extract]; omega
  have hqe : ∀ i, i < 16 → 64 ≤ t.size - 64 * k → wAt (t.extract (64 * k) t.size) (4 * i) = wAt t (64 * k + 4 * i) := fun i hi h64 => wAt_extract t _ _ _ (Nat.le_refl _) (by omega)
  have hqn : 64 ≤ t.size - 64 * k → (t.extract (64 * k) t.size).extract 64 (t.extract (64 * k) t.size).size = t.extract (64 * (k + 1)) t.size := fun h => by
   rw [hqz, ByteArray.extract_extract]
   congr 1 <;> omega
  have hmk : mixText s t (k + 1) = mixAll1 (mixText s t k) (blockAt t (64 * k)) := rfl
  have HQE := Lib.hid hqe
  have HQN := Lib.hid hqn
  have HMK := Lib.hid hmk
  clear hqe hqn hmk
  obtain ⟨q, hq⟩ : ∃ q, q = t.extract (64 * k) t.size := ⟨_, rfl⟩
  rw [← hq] at hqz
  have HQZ := Lib.hid hqz
  have hq0 : (q.size : Int) ≤ 100000 := by omega
  have HQ := Lib.hid hq
  rw [← hq]
  clear hq hqz
  have HA := Lib.hid hA
  have HK := Lib.hid hk
  clear hA hk HEX
  by_cases h64 : 64 ≤ (q.size : Int)
  ·have h64n : 64 ≤ t.size - 64 * k := by have := HQZ.out; omega
   have H64 := Lib.hid h64n
   clear ht h64n
   go_wp2
   have hW0 : ∀ W, W = wr.alloc (.cells #[.int .u32 0, .int .u32 0, .int .u32 0, .int .u32 0, .int .u32 0, .int .u32 0, .int .u32 0, .int .u32 0, .int .u32 0, .int .u32 0, .int .u32 0, .int .u32 0, .int .u32 0, .int .u32 0, .int .u32 0, .int .u32 0] 232) → StAt w (mixText s t k) W ∧ NewBox W wr.heap.size (ws (blockUp t (64 * k) 0)) := by
    rintro W rfl
    exact ⟨HA.out.next ((Below.refl _ _).alloc (Nat.le_refl _) _), NewBox.new wr _ _⟩
   go_loopw [12] (fun i wx => ∃ j : Nat, j ≤ 16 ∧ i = .int .i64 j ∧ StAt w (mixText s t k) wx ∧ NewBox wx wr.heap.size (ws (blockUp t (64 * k) j))) (fun i _ => 16 - (intOf i).toNat)
   case atStart => exact ⟨0, Nat.zero_le _, rfl, hW0 _ rfl⟩
   case round =>
    clear hW0
    obtain ⟨j, hj, rfl, hB, hX⟩ := hrel
    have HB := Lib.hid hB
    have HX := Lib.hid hX
    clear hB hX
    by_cases hlj : j < 16
    ·obtain ⟨m4, hm4⟩ : ∃ m, m = 4 * j := ⟨_, rfl⟩
     have hfit : m4 + 4 ≤ q.size := by omega
     have E2 : 4 * (j : Int) = m4 := by omega
     have hB1 : (j : Int) < 16 := by omega
     have hwv : wordAt q m4 hfit = wAt t (64 * k + 4 * j) := by
      rw [wAt_eq, hm4, HQ.out]
      exact HQE.out j hlj H64.out
     have HWV := Lib.hid hwv
     clear hwv hm4
     go_wp2_with fail
     refine (implWordAt_c q m4 _ (by unfold maxLen; omega) hfit).mono ?_
     rintro e w1 ⟨rfl, hb1⟩
     rw [HWV.out]
     have hX := HX.out.below hb1
     have HB2 := Lib.hid (HB.out.next hb1)
     have hcx := hX.word (show j < _ by rw [blockUp_len]; exact hlj)
     have hfx := hX.2.2 j
     have HX2 := Lib.hid hX
     clear hb1 hX HB HX
     have hbs := blockUp_set t (64 * k) j hlj
     have HBS := Lib.hid hbs
     clear hbs
     generalize wAt t (64 * k + 4 * j) = y at *
     generalize (blockUp t (64 * k) j)[j]'_ = y0 at *
     go_wp2_with fail
     have hwr := HA.out
     go_round
     case rel =>
      refine ⟨j + 1, by omega, by go_num, ⟨HB2.out.below.setCell (by have := hwr.below.size; show _ ≤ _; simp only; omega) _, HB2.out.s.setCell (by have := hwr.s.1; show _ ≠ _; simp only; omega) _, HB2.out.z.setCell (by have := hwr.z.1; show _ ≠ _; simp only; omega) _⟩, ?_⟩
      rw [← HBS.out]
      exact HX2.out.setW (by rw [blockUp_len]; exact hlj) _
     case measure => simp [intOf]; omega
    ·obtain rfl : j = 16 := by omega
     have hX := HX.out
     rw [blockUp_all] at hX
     have hB := HB.out
     have hn := HV.out
     have hbw := blockAt_wds t (64 * k)
     have hM1 : Hid (mixText s t (k + 1) = mixAll1 (mixText s t k) (blockAt t (64 * k))) := HMK
     generalize mixText s t k = st at *
     generalize blockAt t (64 * k) = bl at *
     have HMX := fun W => mixed_c st bl W hn hbw
     have hmw : Wds 8 (mixAll1 st bl) := mixAll1_w hn
     generalize mixAll1 st bl = nx at *
     obtain ⟨c0, c1, c2, c3, c4, c5, c6, c7, rfl⟩ := list8 hn.1
     obtain ⟨b0, b1, b2, b3, b4, b5, b6, b7, b8, b9, b10, b11, b12, b13, b14, b15, rfl⟩ := list16 hbw.1
     obtain ⟨n0, n1, n2, n3, n4, n5, n6, n7, rfl⟩ := list8 hmw.1
     simp only [ws, List.map_cons, List.map_nil] at HMX
     have HMX2 := Lib.hid HMX
     have e0 := hB.s.cell (o := 0) (v := .int .u32 c0) rfl
     have e1 := hB.s.cell (o := 1) (v := .int .u32 c1) rfl
     have e2 := hB.s.cell (o := 2) (v := .int .u32 c2) rfl
     have e3 := hB.s.cell (o := 3) (v := .int .u32 c3) rfl
     have e4 := hB.s.cell (o := 4) (v := .int .u32 c4) rfl
     have e5 := hB.s.cell (o := 5) (v := .int .u32 c5) rfl
     have e6 := hB.s.cell (o := 6) (v := .int .u32 c6) rfl
     have e7 := hB.s.cell (o := 7) (v := .int .u32 c7) rfl
     have d0 := hX.cell (o := 0) (v := .int .u32 b0) rfl
     have d1 := hX.cell (o := 1) (v := .int .u32 b1) rfl
     have d2 := hX.cell (o := 2) (v := .int .u32 b2) rfl
     have d3 := hX.cell (o := 3) (v := .int .u32 b3) rfl
     have d4 := hX.cell (o := 4) (v := .int .u32 b4) rfl
     have d5 := hX.cell (o := 5) (v := .int .u32 b5) rfl
     have d6 := hX.cell (o := 6) (v := .int .u32 b6) rfl
     have d7 := hX.cell (o := 7) (v := .int .u32 b7) rfl
     have d8 := hX.cell (o := 8) (v := .int .u32 b8) rfl
     have d9 := hX.cell (o := 9) (v := .int .u32 b9) rfl
     have d10 := hX.cell (o := 10) (v := .int .u32 b10) rfl
     have d11 := hX.cell (o := 11) (v := .int .u32 b11) rfl
     have d12 := hX.cell (o := 12) (v := .int .u32 b12) rfl
     have d13 := hX.cell (o := 13) (v := .int .u32 b13) rfl
     have d14 := hX.cell (o := 14) (v := .int .u32 b14) rfl
     have d15 := hX.cell (o := 15) (v := .int .u32 b15) rfl
     have hfs := hB.s.2.2
     have HB2 := Lib.hid hB
     have HX2 := Lib.hid hX
     have HH := Lib.hid (And.intro hn (And.intro hbw hmw))
     clear hX HX hB HB HMX hn hbw hmw
     go_wp2_with fail
     refine (HMX2.out _).mono ?_
     rintro e w1 ⟨rfl, hb1⟩
     have hB3 := HB2.out.next hb1
     have f0 := hB3.s.cell (o := 0) (v := .int .u32 c0) rfl
     have f1 := hB3.s.cell (o := 1) (v := .int .u32 c1) rfl
     have f2 := hB3.s.cell (o := 2) (v := .int .u32 c2) rfl
     have f3 := hB3.s.cell (o := 3) (v := .int .u32 c3) rfl
     have f4 := hB3.s.cell (o := 4) (v := .int .u32 c4) rfl
     have f5 := hB3.s.cell (o := 5) (v := .int .u32 c5) rfl
     have f6 := hB3.s.cell (o := 6) (v := .int .u32 c6) rfl
     have f7 := hB3.s.cell (o := 7) (v := .int .u32 c7) rfl
     have hfs1 := hB3.s.2.2
     have HB3 := Lib.hid hB3
     clear hB3 hb1 e0 e1 e2 e3 e4 e5 e6 e7 d0 d1 d2 d3 d4 d5 d6 d7 d8 d9 d10 d11 d12 d13 d14 d15 hfs
     go_wp2_with fail
     go_round
     case rel =>
      obtain ⟨hN, hBe, ho⟩ := HB3.out.s.set8 HB3.out.below (Nat.le_refl _) n0 n1 n2 n3 n4 n5 n6 n7 _ rfl
      refine ⟨k + 1, by have := H64.out; have := HK.out; omega, ?_, ?_⟩
      ·rw [HQ.out]; exact congrArg Value.string (HQN.out H64.out)
      ·rw [hM1.out]; exact ⟨hBe, hN, HB3.out.z.only ho (by omega)⟩
     case measure => show (q.extract 64 q.size).size < q.size; rw [ByteArray.size_extract]; omega
  ·have hS2 : S = mixText s t k := by
    have h1 := HQZ.out
    have h2 := HK.out
    have h3 : t.size / 64 = k := by omega
    rw [HSS.out, h3]
   have HS2 := Lib.hid hS2
   have hn : (mixText s t k).length = 8 := HV.out.1
   have hA := HA.out
   clear HV HQE HQN HMK HA hS2
   generalize mixText s t k = l at *
   obtain ⟨c0, c1, c2, c3, c4, c5, c6, c7, rfl⟩ := list8 hn
   clear hn ht
   have e0 := hA.s.cell (o := 0) (v := .int .u32 c0) rfl
   have e1 := hA.s.cell (o := 1) (v := .int .u32 c1) rfl
   have e2 := hA.s.cell (o := 2) (v := .int .u32 c2) rfl
   have e3 := hA.s.cell (o := 3) (v := .int .u32 c3) rfl
   have e4 := hA.s.cell (o := 4) (v := .int .u32 c4) rfl
   have e5 := hA.s.cell (o := 5) (v := .int .u32 c5) rfl
   have e6 := hA.s.cell (o := 6) (v := .int .u32 c6) rfl
   have e7 := hA.s.cell (o := 7) (v := .int .u32 c7) rfl
   have d0 := hA.z.cell (o := 0) (v := .int .u32 0) rfl
   have d1 := hA.z.cell (o := 1) (v := .int .u32 0) rfl
   have d2 := hA.z.cell (o := 2) (v := .int .u32 0) rfl
   have d3 := hA.z.cell (o := 3) (v := .int .u32 0) rfl
   have d4 := hA.z.cell (o := 4) (v := .int .u32 0) rfl
   have d5 := hA.z.cell (o := 5) (v := .int .u32 0) rfl
   have d6 := hA.z.cell (o := 6) (v := .int .u32 0) rfl
   have d7 := hA.z.cell (o := 7) (v := .int .u32 0) rfl
   have hf := hA.z.2.2
   have HA := Lib.hid hA
   clear hA
   go_wp2
   refine bodyPost_named fun W hW => ?_
   obtain ⟨hN, hB, _⟩ := HA.out.z.set8 HA.out.below (by omega) c0 c1 c2 c3 c4 c5 c6 c7 W hW
   clear hW
   have e0 := hN.cell (o := 0) (v := .int .u32 c0) rfl
   have e1 := hN.cell (o := 1) (v := .int .u32 c1) rfl
   have e2 := hN.cell (o := 2) (v := .int .u32 c2) rfl
   have e3 := hN.cell (o := 3) (v := .int .u32 c3) rfl
   have e4 := hN.cell (o := 4) (v := .int .u32 c4) rfl
   have e5 := hN.cell (o := 5) (v := .int .u32 c5) rfl
   have e6 := hN.cell (o := 6) (v := .int .u32 c6) rfl
   have e7 := hN.cell (o := 7) (v := .int .u32 c7) rfl
   refine bodyPost_ret (v := .agg #[.int .u32 c0, .int .u32 c1, .int .u32 c2, .int .u32 c3, .int .u32 c4, .int .u32 c5, .int .u32 c6, .int .u32 c7]) (by simp [results, Tryz.results201, go_sem, e0, e1, e2, e3, e4, e5, e6, e7]) rfl ?_
   exact ⟨by rw [HS2.out]; rfl, hB⟩
theorem mixAll_c (s : List Int) (t : ByteArray) (w : World) (hs : Wds 8 s) (ht : t.size ≤ 100000) : Calls Tryz.prog 201 #[.agg (ws s).toArray, .string t] w fun e w' => e = .returned (.agg (ws (mixText s t (t.size / 64))).toArray) ∧ Below w.heap.size w w' := mixAll_c' s _ t w hs ht rfl
end Go.Proofs.YtmmepogjocfefaaGreat

