/- Proofs: the plain law of what they lead to. -/
import Derived.Test.YtojjjhbiccgjkaaHalf
import Derived.Test.YtojjjhbiccgjkaaGrwa
import Derived.Test.YtojjjhbiccgjkaaTree
namespace Go.Proofs.Ytojjjhbiccgjkaa
set_option linter.unusedVariables false
set_option linter.unusedSimpArgs false
open Go.RowKit

/-- how many steps lead from a place to the root -/
def inSt : Nat → Nat → Nat → Nat
  | 0, _, _ => 0
  | f + 1, n, a => if n ≤ 1 then 0 else if a < halfN n then inSt f (halfN n) a + 1 else inSt f (n - halfN n) (a - halfN n) + 1
def beSt : Nat → Nat → Nat → Bool → Nat
  | 0, _, _, _ => 0
  | f + 1, s, n, wh => if n ≤ s then (if wh then 0 else 1) else if s ≤ halfN n then beSt f s (halfN n) wh + 1 else beSt f (s - halfN n) (n - halfN n) false + 1
theorem inSt_end {f n a : Nat} (h : n ≤ 1) : inSt (f + 1) n a = 0 := by rw [inSt, if_pos h]
theorem inSt_lo {f n a : Nat} (h2 : 2 ≤ n) (h : a < halfN n) : inSt (f + 1) n a = inSt f (halfN n) a + 1 := by rw [inSt, if_neg (by omega), if_pos h]
theorem inSt_hi {f n a : Nat} (h2 : 2 ≤ n) (h : ¬ a < halfN n) : inSt (f + 1) n a = inSt f (n - halfN n) (a - halfN n) + 1 := by rw [inSt, if_neg (by omega), if_neg h]
theorem beSt_end {f s n : Nat} {wh : Bool} (h : n ≤ s) : beSt (f + 1) s n wh = if wh then 0 else 1 := by rw [beSt, if_pos h]
theorem beSt_lo {f s n : Nat} {wh : Bool} (h2 : s < n) (h : s ≤ halfN n) : beSt (f + 1) s n wh = beSt f s (halfN n) wh + 1 := by rw [beSt, if_neg (by omega), if_pos h]
theorem beSt_hi {f s n : Nat} {wh : Bool} (h2 : s < n) (h : ¬ s ≤ halfN n) : beSt (f + 1) s n wh = beSt f (s - halfN n) (n - halfN n) false + 1 := by rw [beSt, if_neg (by omega), if_neg h]
theorem inSt_le : ∀ {f n a : Nat}, n ≤ 512 → inSt f n a ≤ n
  | 0, _, _, _ => by rw [inSt]; omega
  | f + 1, n, a, h => by
    rw [inSt]
    split
    · omega
    · obtain ⟨k1, k2, k3⟩ := halfN_bd (n := n) (by omega) h
      split
      · have := inSt_le (f := f) (n := halfN n) (a := a) (by omega); omega
      · have := inSt_le (f := f) (n := n - halfN n) (a := a - halfN n) (by omega); omega
theorem beSt_le : ∀ {f s n : Nat} {wh : Bool}, 1 ≤ s → s ≤ n → n ≤ 512 → beSt f s n wh ≤ n
  | 0, _, _, _, _, _, _ => by rw [beSt]; omega
  | f + 1, s, n, wh, h1, h2, h5 => by
    rw [beSt]
    split
    · split <;> omega
    · obtain ⟨k1, k2, k3⟩ := halfN_bd (n := n) (by omega) h5
      split
      · have := beSt_le (f := f) (s := s) (n := halfN n) (wh := wh) h1 (by omega) (by omega); omega
      · have := beSt_le (f := f) (s := s - halfN n) (n := n - halfN n) (wh := false) (by omega) (by omega) (by omega); omega
theorem beSt_one {f s n : Nat} (h1 : 1 ≤ s) (h2 : s ≤ n) (h5 : n ≤ 512) (hf : n < f) : 1 ≤ beSt f s n false := by
  cases f with
  | zero => omega
  | succ f =>
    rw [beSt]
    split
    · exact Nat.le_refl _
    · split <;> omega
/-- the proof without its last, and its last -/
def prI (l : List ByteArray) : List ByteArray := l.take (l.length - 1)
def prL (l : List ByteArray) : ByteArray := l.getD (l.length - 1) ByteArray.empty
def inW (width : Int) (leaf : ByteArray) : Nat → Nat → Nat → List ByteArray → ByteArray × List ByteArray
  | 0, _, _, _ => (leaf, [])
  | f + 1, n, a, pr => if n ≤ 1 then (leaf, []) else
    if a < halfN n then (nodeT width (inW width leaf f (halfN n) a (prI pr)).1 (prL pr), (inW width leaf f (halfN n) a (prI pr)).2 ++ [(inW width leaf f (halfN n) a (prI pr)).1 ++ prL pr])
    else (nodeT width (prL pr) (inW width leaf f (n - halfN n) (a - halfN n) (prI pr)).1, (inW width leaf f (n - halfN n) (a - halfN n) (prI pr)).2 ++ [prL pr ++ (inW width leaf f (n - halfN n) (a - halfN n) (prI pr)).1])
structure Way where
  s : ByteArray
  b : ByteArray
  t : List ByteArray
def beW (width : Int) (root : ByteArray) : Nat → Nat → Nat → List ByteArray → Bool → Way
  | 0, _, _, _, _ => ⟨root, root, []⟩
  | f + 1, s, n, pr, wh => if n ≤ s then (if wh then ⟨root, root, []⟩ else ⟨prL pr, prL pr, []⟩) else
    if s ≤ halfN n then ⟨(beW width root f s (halfN n) (prI pr) wh).s, nodeT width (beW width root f s (halfN n) (prI pr) wh).b (prL pr), (beW width root f s (halfN n) (prI pr) wh).t ++ [(beW width root f s (halfN n) (prI pr) wh).b ++ prL pr]⟩
    else ⟨nodeT width (prL pr) (beW width root f (s - halfN n) (n - halfN n) (prI pr) false).s, nodeT width (prL pr) (beW width root f (s - halfN n) (n - halfN n) (prI pr) false).b,
      ((beW width root f (s - halfN n) (n - halfN n) (prI pr) false).t ++ [prL pr ++ (beW width root f (s - halfN n) (n - halfN n) (prI pr) false).s]) ++ [prL pr ++ (beW width root f (s - halfN n) (n - halfN n) (prI pr) false).b]⟩
theorem inW_end {width : Int} {leaf : ByteArray} {f n a : Nat} {pr : List ByteArray} (h : n ≤ 1) : inW width leaf (f + 1) n a pr = (leaf, []) := by rw [inW, if_pos h]
theorem inW_lo {width : Int} {leaf : ByteArray} {f n a : Nat} {pr : List ByteArray} (h2 : 2 ≤ n) (h : a < halfN n) : inW width leaf (f + 1) n a pr = (nodeT width (inW width leaf f (halfN n) a (prI pr)).1 (prL pr), (inW width leaf f (halfN n) a (prI pr)).2 ++ [(inW width leaf f (halfN n) a (prI pr)).1 ++ prL pr]) := by rw [inW, if_neg (by omega), if_pos h]
theorem inW_hi {width : Int} {leaf : ByteArray} {f n a : Nat} {pr : List ByteArray} (h2 : 2 ≤ n) (h : ¬ a < halfN n) : inW width leaf (f + 1) n a pr = (nodeT width (prL pr) (inW width leaf f (n - halfN n) (a - halfN n) (prI pr)).1, (inW width leaf f (n - halfN n) (a - halfN n) (prI pr)).2 ++ [prL pr ++ (inW width leaf f (n - halfN n) (a - halfN n) (prI pr)).1]) := by rw [inW, if_neg (by omega), if_neg h]
theorem beW_end {width : Int} {root : ByteArray} {f s n : Nat} {pr : List ByteArray} (h : n ≤ s) : beW width root (f + 1) s n pr true = ⟨root, root, []⟩ ∧ beW width root (f + 1) s n pr false = ⟨prL pr, prL pr, []⟩ := by
  constructor <;> (rw [beW, if_pos h]; rfl)
theorem beW_lo {width : Int} {root : ByteArray} {f s n : Nat} {pr : List ByteArray} {wh : Bool} (h2 : s < n) (h : s ≤ halfN n) : beW width root (f + 1) s n pr wh = ⟨(beW width root f s (halfN n) (prI pr) wh).s, nodeT width (beW width root f s (halfN n) (prI pr) wh).b (prL pr), (beW width root f s (halfN n) (prI pr) wh).t ++ [(beW width root f s (halfN n) (prI pr) wh).b ++ prL pr]⟩ := by rw [beW, if_neg (by omega), if_pos h]
theorem beW_hi {width : Int} {root : ByteArray} {f s n : Nat} {pr : List ByteArray} {wh : Bool} (h2 : s < n) (h : ¬ s ≤ halfN n) : beW width root (f + 1) s n pr wh = ⟨nodeT width (prL pr) (beW width root f (s - halfN n) (n - halfN n) (prI pr) false).s, nodeT width (prL pr) (beW width root f (s - halfN n) (n - halfN n) (prI pr) false).b,
      ((beW width root f (s - halfN n) (n - halfN n) (prI pr) false).t ++ [prL pr ++ (beW width root f (s - halfN n) (n - halfN n) (prI pr) false).s]) ++ [prL pr ++ (beW width root f (s - halfN n) (n - halfN n) (prI pr) false).b]⟩ := by rw [beW, if_neg (by omega), if_neg h]
theorem prI_len {l : List ByteArray} {k : Nat} (h : l.length = k + 1) : (prI l).length = k := by rw [prI, List.length_take]; omega
theorem prI_are {width : Int} {l : List ByteArray} (h : areH width l = true) : areH width (prI l) = true := areH_sub h (fun s hs => List.mem_of_mem_take hs)
theorem prL_size {width : Int} {l : List ByteArray} (h : areH width l = true) (hl : 1 ≤ l.length) : ((prL l).size : Int) = width := areH_mem h _ (getD_mem (by omega))
theorem prL_get {l : List ByteArray} {k : Nat} (h : l.length = k + 1) : l[k]? = some (prL l) := by
  rw [prL, List.getD_eq_getElem?_getD, h, Nat.add_sub_cancel, List.getElem?_eq_getElem (by omega)]; rfl
theorem inW_size {width : Int} {leaf : ByteArray} (hw : inR width 1 32 = true) (hl : (leaf.size : Int) = width) : ∀ {f n a : Nat} {pr : List ByteArray}, a < n → n ≤ 512 → areH width pr = true → pr.length = inSt f n a → ((inW width leaf f n a pr).1.size : Int) = width ∧ (inW width leaf f n a pr).2.length = inSt f n a
  | 0, n, a, pr, _, _, _, _ => ⟨by rw [inW]; exact hl, rfl⟩
  | f + 1, n, a, pr, ha, h5, hp, hn => by
    rcases Nat.lt_or_ge 1 n with h1 | h1
    · obtain ⟨k1, k2, k3⟩ := halfN_bd h1 h5
      by_cases hlt : a < halfN n
      · rw [inSt_lo h1 hlt] at hn
        obtain ⟨h6, h7⟩ := inW_size hw hl (f := f) (n := halfN n) (a := a) (pr := prI pr) hlt (by omega) (prI_are hp) (prI_len hn)
        rw [inW_lo h1 hlt, inSt_lo h1 hlt]
        exact ⟨nodeT_size hw h6 (prL_size hp (by omega)), by simp [h7]⟩
      · rw [inSt_hi h1 hlt] at hn
        obtain ⟨h6, h7⟩ := inW_size hw hl (f := f) (n := n - halfN n) (a := a - halfN n) (pr := prI pr) (by omega) (by omega) (prI_are hp) (prI_len hn)
        rw [inW_hi h1 hlt, inSt_hi h1 hlt]
        exact ⟨nodeT_size hw (prL_size hp (by omega)) h6, by simp [h7]⟩
    · rw [inW_end h1, inSt_end h1]; exact ⟨hl, rfl⟩
theorem beW_size {width : Int} {root : ByteArray} (hw : inR width 1 32 = true) (hl : (root.size : Int) = width) : ∀ {f s n : Nat} {pr : List ByteArray} {wh : Bool}, 1 ≤ s → s ≤ n → n ≤ 512 → areH width pr = true → pr.length = beSt f s n wh →
    ((beW width root f s n pr wh).s.size : Int) = width ∧ ((beW width root f s n pr wh).b.size : Int) = width ∧ (beW width root f s n pr wh).t.length ≤ 2 * beSt f s n wh
  | 0, s, n, pr, wh, _, _, _, _, _ => ⟨by rw [beW]; exact hl, by rw [beW]; exact hl, by rw [beW]; exact Nat.zero_le _⟩
  | f + 1, s, n, pr, wh, h1, hs, h5, hp, hn => by
    rcases Nat.lt_or_ge s n with h2 | h2
    · obtain ⟨k1, k2, k3⟩ := halfN_bd (n := n) (by omega) h5
      by_cases hlt : s ≤ halfN n
      · rw [beSt_lo h2 hlt] at hn
        obtain ⟨h6, h7, h8⟩ := beW_size hw hl (f := f) (s := s) (n := halfN n) (pr := prI pr) (wh := wh) h1 hlt (by omega) (prI_are hp) (prI_len hn)
        rw [beW_lo h2 hlt, beSt_lo h2 hlt]
        exact ⟨h6, nodeT_size hw h7 (prL_size hp (by omega)), by simp; omega⟩
      · rw [beSt_hi h2 hlt] at hn
        obtain ⟨h6, h7, h8⟩ := beW_size hw hl (f := f) (s := s - halfN n) (n := n - halfN n) (pr := prI pr) (wh := false) (by omega) (by omega) (by omega) (prI_are hp) (prI_len hn)
        rw [beW_hi h2 hlt, beSt_hi h2 hlt]
        exact ⟨nodeT_size hw (prL_size hp (by omega)) h6, nodeT_size hw (prL_size hp (by omega)) h7, by simp; omega⟩
    · cases wh
      · rw [beSt_end h2, if_neg (by decide)] at hn
        rw [(beW_end h2).2]
        exact ⟨prL_size hp (by omega), prL_size hp (by omega), Nat.zero_le _⟩
      · rw [(beW_end h2).1]
        exact ⟨hl, hl, Nat.zero_le _⟩
end Go.Proofs.Ytojjjhbiccgjkaa
