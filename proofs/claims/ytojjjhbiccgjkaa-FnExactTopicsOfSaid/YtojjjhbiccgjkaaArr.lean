/- Arrays of words in a variable's block. -/
import Derived.Test.YtojjjhbiccgjkaaWord
import Derived.Test.YtojjjhbiccgjkaaKit2
namespace Go.Proofs.Ytojjjhbiccgjkaa
set_option linter.unusedVariables false
set_option linter.unusedSimpArgs false
open Go.RowKit

def ws (l : List Int) : List Value := l.map (Value.int .u32)
theorem ws_len (l : List Int) : (ws l).length = l.length := by simp [ws]
theorem ws_get {l : List Int} {k : Nat} {s : Int} (h : l[k]? = some s) : (ws l)[k]? = some (.int .u32 s) := by simp [ws, h]
theorem ws_set (l : List Int) (k : Nat) (x : Int) : (ws l).set k (.int .u32 x) = ws (l.set k x) := by simp [ws, List.map_set]
theorem NewBox.set {w : World} {k : Nat} {cs : List Value} (h : NewBox w k cs) {o : Nat} (ho : o < cs.length) (u : Value) : NewBox (w.setCell ⟨k, o, none⟩ u) k (cs.set o u) := by
  refine ⟨by simpa [World.setCell] using h.1, fun i => ?_, fun i => by simpa using h.2.2 i⟩
  by_cases hij : o = i
  · subst hij
    rw [List.getElem?_set_self ho]
    exact World.cell?_setCell_same _ _ _ ((h.2.1 o).trans (List.getElem?_eq_getElem ho))
  · rw [List.getElem?_set_ne hij, World.cell?_setCell_other _ _ _ _ (by simp only [ne_eq, Addr.mk.injEq, and_true, true_and]; omega)]
    exact h.2.1 i
theorem NewBox.setW {w : World} {k : Nat} {l : List Int} (h : NewBox w k (ws l)) {o : Nat} (ho : o < l.length) (x : Int) : NewBox (w.setCell ⟨k, o, none⟩ (.int .u32 x)) k (ws (l.set o x)) := by
  rw [← ws_set]; exact h.set (by rw [ws_len]; exact ho) _
theorem NewBox.word {w : World} {k : Nat} {l : List Int} (h : NewBox w k (ws l)) {o : Nat} (ho : o < l.length) : w.cell? ⟨k, o, none⟩ = some (.int .u32 l[o]) := h.cell (ws_get (List.getElem?_eq_getElem ho))
theorem list8 {l : List Int} (h : l.length = 8) : ∃ a b c d e f g i, l = [a, b, c, d, e, f, g, i] := by
  match l, h with
  | [a, b, c, d, e, f, g, i], _ => exact ⟨a, b, c, d, e, f, g, i, rfl⟩

theorem bodyPost_named {P : Program} {f : Func} {R : Ending → World → Prop} {e : Exit} {a : Act} {W : World} (h : ∀ W', W' = W → bodyPost P f R e a W') : bodyPost P f R e a W := h W rfl
/-- a whole array is written -/
theorem NewBox.set8 {w x : World} {B k : Nat} {b0 b1 b2 b3 b4 b5 b6 b7 : Int} (h : NewBox w k (ws [b0, b1, b2, b3, b4, b5, b6, b7])) (hb : Below B x w) (hk : B ≤ k) (a0 a1 a2 a3 a4 a5 a6 a7 : Int) :
    ∀ W, W = ((((((((w.setCell ⟨k, 0, none⟩ (.int .u32 a0)).setCell ⟨k, 1, none⟩ (.int .u32 a1)).setCell ⟨k, 2, none⟩ (.int .u32 a2)).setCell ⟨k, 3, none⟩ (.int .u32 a3)).setCell ⟨k, 4, none⟩ (.int .u32 a4)).setCell ⟨k, 5, none⟩ (.int .u32 a5)).setCell ⟨k, 6, none⟩ (.int .u32 a6)).setCell ⟨k, 7, none⟩ (.int .u32 a7)) →
      NewBox W k (ws [a0, a1, a2, a3, a4, a5, a6, a7]) ∧ Below B x W ∧ Only k (k + 1) w W := by
  rintro W rfl
  refine ⟨?_, ?_, ?_⟩
  · have h0 := h.setW (o := 0) (by simp) a0
    have h1 := h0.setW (o := 1) (by simp) a1
    have h2 := h1.setW (o := 2) (by simp) a2
    have h3 := h2.setW (o := 3) (by simp) a3
    have h4 := h3.setW (o := 4) (by simp) a4
    have h5 := h4.setW (o := 5) (by simp) a5
    have h6 := h5.setW (o := 6) (by simp) a6
    exact h6.setW (o := 7) (by simp) a7
  · exact (((((((hb.setCell hk _).setCell hk _).setCell hk _).setCell hk _).setCell hk _).setCell hk _).setCell hk _).setCell hk _
  · have hs := Nat.lt_succ_self k
    have hk := Nat.le_refl k
    exact ((((((((Only.refl k (k + 1) w).setCell hk hs _).setCell hk hs _).setCell hk hs _).setCell hk hs _).setCell hk hs _).setCell hk hs _).setCell hk hs _).setCell hk hs _

/-- the first state's word -/
def fw (tag : Int) (i : Int) : Int := (tag + 1) * (2 * i + 3) % 4294967296 * 2246822519 % 4294967296
def firstW (tag : Int) : List Int := (List.range 8).map fun i : Nat => fw tag i
def firstUp (tag : Int) (k : Nat) : List Int := (List.range 8).map fun i : Nat => if i < k then fw tag i else 0
theorem firstUp_len (tag : Int) (k : Nat) : (firstUp tag k).length = 8 := by simp [firstUp]
theorem firstUp_set (tag : Int) (k : Nat) (h : k < 8) : (firstUp tag k).set k (fw tag k) = firstUp tag (k + 1) := by
  apply List.ext_getElem?
  intro i
  by_cases h1 : k = i
  · subst h1
    rw [List.getElem?_set_self (by rw [firstUp_len]; exact h)]
    simp [firstUp, h]
  · rw [List.getElem?_set_ne h1]
    by_cases h2 : i < 8
    · simp only [firstUp, List.getElem?_map, List.getElem?_range h2, Option.map_some]
      by_cases h3 : i < k
      · rw [if_pos h3, if_pos (by omega)]
      · rw [if_neg h3, if_neg (by omega)]
    · rw [List.getElem?_eq_none (by rw [firstUp_len]; omega), List.getElem?_eq_none (by rw [firstUp_len]; omega)]
theorem firstUp_all (tag : Int) : firstUp tag 8 = firstW tag := by
  apply List.map_congr_left
  intro i hi
  rw [List.mem_range] at hi
  rw [if_pos hi]
theorem firstW_len (tag : Int) : (firstW tag).length = 8 := by simp [firstW]

set_option maxRecDepth 100000 in
set_option maxHeartbeats 400000 in
theorem firstState_c (tag : Int) (w : World) (h0 : 0 ≤ tag) (h1 : tag ≤ 255) : Calls Try.prog 165 #[.int .i64 tag] w fun e w' => e = .returned (.agg (ws (firstW tag)).toArray) ∧ Below w.heap.size w w' := by
  go_enter Try.func165, Try.ntmps165
  go_wp2
  go_loopw [5] (fun i wx => ∃ k : Nat, k ≤ 8 ∧ i = .int .i64 k ∧ Below w.heap.size w wx ∧ NewBox wx w.heap.size (ws (firstUp tag 0)) ∧ NewBox wx (w.heap.size + 1) (ws (firstUp tag k))) (fun i _ => 8 - (intOf i).toNat)
  case atStart =>
    refine ⟨0, Nat.zero_le _, rfl, ((Below.refl _ _).alloc (Nat.le_refl _) _).alloc (by simp) _, ?_, ?_⟩
    · exact (NewBox.new w _ _).alloc _
    · have := NewBox.new (w.alloc (.cells #[.int .u32 0, .int .u32 0, .int .u32 0, .int .u32 0, .int .u32 0, .int .u32 0, .int .u32 0, .int .u32 0] 171)) #[.int .u32 0, .int .u32 0, .int .u32 0, .int .u32 0, .int .u32 0, .int .u32 0, .int .u32 0, .int .u32 0] 171
      rw [show (w.alloc (.cells #[.int .u32 0, .int .u32 0, .int .u32 0, .int .u32 0, .int .u32 0, .int .u32 0, .int .u32 0, .int .u32 0] 171)).heap.size = w.heap.size + 1 by simp] at this
      exact this
  case round =>
    obtain ⟨k, hk, rfl, hb, hx, hy⟩ := hrel
    by_cases hlt : k < 8
    · have hc := hy.word (by rw [firstUp_len]; exact hlt : k < _)
      have hf := hy.2.2 k
      have HB := Lib.hid hb
      have HX := Lib.hid hx
      have HY := Lib.hid hy
      clear hb hx hy
      go_wp2
      refine ⟨⟨k + 1, by omega, by go_num, HB.out.setCell (by simp) _, HX.out.setCell (by simp) _, ?_⟩, by simp [intOf]; omega⟩
      rw [← firstUp_set tag k hlt]
      exact HY.out.setW (by rw [firstUp_len]; exact hlt) _
    · obtain rfl : k = 8 := by omega
      rw [firstUp_all] at hy
      have hn := firstW_len tag
      have hn0 := firstUp_len tag 0
      generalize hl : firstW tag = l at *
      have HL := Lib.hid hl
      clear hl
      generalize firstUp tag 0 = l0 at *
      obtain ⟨a0, a1, a2, a3, a4, a5, a6, a7, rfl⟩ := list8 hn
      obtain ⟨b0, b1, b2, b3, b4, b5, b6, b7, rfl⟩ := list8 hn0
      clear hn hn0
      have c0 := hy.cell (o := 0) (v := .int .u32 a0) rfl
      have c1 := hy.cell (o := 1) (v := .int .u32 a1) rfl
      have c2 := hy.cell (o := 2) (v := .int .u32 a2) rfl
      have c3 := hy.cell (o := 3) (v := .int .u32 a3) rfl
      have c4 := hy.cell (o := 4) (v := .int .u32 a4) rfl
      have c5 := hy.cell (o := 5) (v := .int .u32 a5) rfl
      have c6 := hy.cell (o := 6) (v := .int .u32 a6) rfl
      have c7 := hy.cell (o := 7) (v := .int .u32 a7) rfl
      have d0 := hx.cell (o := 0) (v := .int .u32 b0) rfl
      have d1 := hx.cell (o := 1) (v := .int .u32 b1) rfl
      have d2 := hx.cell (o := 2) (v := .int .u32 b2) rfl
      have d3 := hx.cell (o := 3) (v := .int .u32 b3) rfl
      have d4 := hx.cell (o := 4) (v := .int .u32 b4) rfl
      have d5 := hx.cell (o := 5) (v := .int .u32 b5) rfl
      have d6 := hx.cell (o := 6) (v := .int .u32 b6) rfl
      have d7 := hx.cell (o := 7) (v := .int .u32 b7) rfl
      have hf := hx.2.2
      have HB := Lib.hid hb
      have HX := Lib.hid hx
      clear hb hx hy
      go_wp2
      refine bodyPost_named fun W hW => ?_
      obtain ⟨hN, hB, _⟩ := HX.out.set8 HB.out (Nat.le_refl _) a0 a1 a2 a3 a4 a5 a6 a7 W hW
      clear hW
      have e0 := hN.cell (o := 0) (v := .int .u32 a0) rfl
      have e1 := hN.cell (o := 1) (v := .int .u32 a1) rfl
      have e2 := hN.cell (o := 2) (v := .int .u32 a2) rfl
      have e3 := hN.cell (o := 3) (v := .int .u32 a3) rfl
      have e4 := hN.cell (o := 4) (v := .int .u32 a4) rfl
      have e5 := hN.cell (o := 5) (v := .int .u32 a5) rfl
      have e6 := hN.cell (o := 6) (v := .int .u32 a6) rfl
      have e7 := hN.cell (o := 7) (v := .int .u32 a7) rfl
      refine bodyPost_ret (v := .agg #[.int .u32 a0, .int .u32 a1, .int .u32 a2, .int .u32 a3, .int .u32 a4, .int .u32 a5, .int .u32 a6, .int .u32 a7]) (by simp [results, Try.results165, go_sem, e0, e1, e2, e3, e4, e5, e6, e7]) rfl ?_
      exact ⟨by rw [HL.out]; rfl, hB⟩
end Go.Proofs.Ytojjjhbiccgjkaa
