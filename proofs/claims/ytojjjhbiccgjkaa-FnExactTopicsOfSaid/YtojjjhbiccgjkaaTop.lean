/- The topics of a log, rising: the plain law. -/
import Derived.Lib.SlicesCompact
import Derived.Test.YtojjjhbiccgjkaaLogOk
namespace Go.Proofs.Ytojjjhbiccgjkaa
set_option linter.unusedVariables false
set_option linter.unusedSimpArgs false
open Go.Lib
theorem l8_trans {a b c : List UInt8} (h : a < b) (k : b < c) : a < c := List.lt_trans h k
theorem l8_lt {a b : List UInt8} (h : a ≤ b) (k : a ≠ b) : a < b := by
  rcases Decidable.em (a < b) with h1 | h1
  · exact h1
  · exact absurd (List.le_antisymm h (List.not_lt.1 h1)) k
theorem l8_irr (a : List UInt8) : ¬ a < a := List.lt_irrefl a
theorem compUp_spec (d : Array (List UInt8)) (hd : ∀ i j, i ≤ j → j < d.size → d[i]! ≤ d[j]!) : ∀ m, m ≤ d.size →
    (∀ x, x ∈ compactUpTo d m ↔ ∃ j, j < m ∧ d[j]! = x) ∧ (compactUpTo d m).Pairwise (· < ·)
  | 0, _ => ⟨fun x => by simp [compactUpTo], by simp [compactUpTo]⟩
  | m + 1, h => by
    obtain ⟨h1, h2⟩ := compUp_spec d hd m (by omega)
    rw [compactUpTo_succ]
    rcases hk : keeps d m with _ | _
    · simp only [Bool.false_eq_true, if_false, List.append_nil]
      refine ⟨fun x => ⟨fun hx => ?_, fun ⟨j, hj, hx⟩ => ?_⟩, h2⟩
      · obtain ⟨j, hj, hx⟩ := (h1 x).1 hx; exact ⟨j, by omega, hx⟩
      · rcases Nat.lt_or_ge j m with hjm | hjm
        · exact (h1 x).2 ⟨j, hjm, hx⟩
        · obtain rfl : j = m := by omega
          simp only [keeps, decide_eq_false_iff_not, not_or] at hk
          refine (h1 x).2 ⟨j - 1, by omega, ?_⟩
          rw [← hx]; exact (Classical.not_not.1 hk.2).symm
    · simp only [if_true]
      refine ⟨fun x => ⟨fun hx => ?_, fun ⟨j, hj, hx⟩ => ?_⟩, ?_⟩
      · rcases List.mem_append.1 hx with hx | hx
        · obtain ⟨j, hj, hx⟩ := (h1 x).1 hx; exact ⟨j, by omega, hx⟩
        · exact ⟨m, by omega, (List.mem_singleton.1 hx).symm⟩
      · rcases Nat.lt_or_ge j m with hjm | hjm
        · exact List.mem_append_left _ ((h1 x).2 ⟨j, hjm, hx⟩)
        · obtain rfl : j = m := by omega
          exact List.mem_append_right _ (List.mem_singleton.2 hx.symm)
      · rw [List.pairwise_append]
        refine ⟨h2, List.pairwise_singleton _ _, fun a ha b hb => ?_⟩
        rw [List.mem_singleton.1 hb]
        obtain ⟨j, hj, rfl⟩ := (h1 a).1 ha
        simp only [keeps, decide_eq_true_eq] at hk
        have h3 : d[m - 1]! < d[m]! := l8_lt (hd (m - 1) m (by omega) (by omega)) (fun e => by rcases hk with hk | hk; omega; exact hk e.symm)
        rcases Nat.lt_or_ge j (m - 1) with h4 | h4
        · rcases Decidable.em (d[j]! = d[m - 1]!) with e | e
          · rw [e]; exact h3
          · exact l8_trans (l8_lt (hd j (m - 1) (by omega) (by omega)) e) h3
        · obtain rfl : j = m - 1 := by omega
          exact h3
def topS (zs : List (List UInt8)) : List (List UInt8) := compact (zs.mergeSort fun x y => decide (x ≤ y))
theorem topS_spec (zs : List (List UInt8)) : (∀ x, x ∈ topS zs ↔ x ∈ zs) ∧ (topS zs).Pairwise (· < ·) := by
  have hs := List.pairwise_mergeSort (le := fun x y : List UInt8 => decide (x ≤ y)) (fun a b c h1 h2 => by simp at *; exact List.le_trans h1 h2) (fun a b => by simp; exact List.le_total a b) zs
  have hm := fun x => List.mem_mergeSort (le := fun x y : List UInt8 => decide (x ≤ y)) (l := zs) (a := x)
  unfold topS compact
  generalize zs.mergeSort (fun x y => decide (x ≤ y)) = ys at *
  have hd : ∀ i j, i ≤ j → j < ys.toArray.size → ys.toArray[i]! ≤ ys.toArray[j]! := by
    intro i j hij hj
    have hj' : j < ys.length := by simpa using hj
    rw [getElem!_pos ys.toArray i (by simp; omega), getElem!_pos ys.toArray j (by simp; omega)]
    rcases Nat.lt_or_ge i j with h | h
    · have := List.pairwise_iff_getElem.1 hs i j (by omega) hj' h
      simpa using this
    · obtain rfl : i = j := by omega
      exact List.le_refl _
  obtain ⟨h1, h2⟩ := compUp_spec ys.toArray hd ys.length (by simp)
  refine ⟨fun x => ?_, h2⟩
  rw [h1, ← hm]
  constructor
  · rintro ⟨j, hj, rfl⟩
    rw [getElem!_pos ys.toArray j (by simp; omega)]
    simp
  · intro hx
    obtain ⟨j, hj, rfl⟩ := List.mem_iff_getElem.1 hx
    exact ⟨j, hj, by rw [getElem!_pos ys.toArray j (by simp; omega)]; simp⟩
/-- a topic behind the first k of a rising row -/
def Above (S : List (List UInt8)) (k : Nat) (t : List UInt8) : Prop := k = 0 ∨ ∃ s, S[k - 1]? = some s ∧ s < t
theorem above_at {S : List (List UInt8)} (hp : S.Pairwise (· < ·)) {k j : Nat} (hk : k ≤ S.length) (hj : j < S.length) : Above S k S[j] ↔ k ≤ j := by
  constructor
  · rintro (h | ⟨s, h, h1⟩)
    · omega
    · obtain ⟨hl, rfl⟩ := List.getElem?_eq_some_iff.1 h
      rcases Nat.lt_or_ge j k with hjk | hjk
      · exfalso
        rcases Nat.lt_or_ge j (k - 1) with h2 | h2
        · have h3 := List.pairwise_iff_getElem.1 hp j (k - 1) hj hl h2
          exact l8_irr _ (l8_trans h1 h3)
        · have e : k - 1 = j := by omega
          simp only [e] at h1
          exact l8_irr _ h1
      · exact hjk
  · intro h
    rcases Nat.eq_zero_or_pos k with h0 | h0
    · exact .inl h0
    · exact .inr ⟨S[k - 1], List.getElem?_eq_getElem (by omega), List.pairwise_iff_getElem.1 hp (k - 1) j (by omega) hj (by omega)⟩
theorem top_end {ts : List (List UInt8)} {k : Nat} (hk : k ≤ (topS ts).length) (h : ∀ t ∈ ts, ¬ Above (topS ts) k t) : k = (topS ts).length := by
  obtain ⟨h1, h2⟩ := topS_spec ts
  rcases Nat.lt_or_ge k (topS ts).length with hl | hl
  · exact absurd ((above_at h2 hk hl).2 (Nat.le_refl _)) (h _ ((h1 _).1 (List.getElem_mem hl)))
  · omega
theorem top_next {ts : List (List UInt8)} {k : Nat} {x : List UInt8} (hk : k ≤ (topS ts).length) (hx : x ∈ ts) (ha : Above (topS ts) k x) (h : ∀ t ∈ ts, Above (topS ts) k t → x ≤ t) : (topS ts)[k]? = some x := by
  obtain ⟨h1, h2⟩ := topS_spec ts
  obtain ⟨j, hj, rfl⟩ := List.mem_iff_getElem.1 ((h1 x).2 hx)
  have hkj := (above_at h2 hk hj).1 ha
  rcases Nat.lt_or_ge k j with hl | hl
  · have h3 := h _ ((h1 _).1 (List.getElem_mem (show k < (topS ts).length by omega))) ((above_at h2 hk (by omega)).2 (Nat.le_refl _))
    have h4 := List.pairwise_iff_getElem.1 h2 k j (by omega) hj hl
    exact absurd (List.le_antisymm h3 (List.le_of_lt h4)) (fun e => l8_irr _ (e ▸ h4))
  · obtain rfl : k = j := by omega
    exact List.getElem?_eq_getElem hj
/-- the least so far among those behind the first k: nothing, or it -/
def Least (ts : List (List UInt8)) (k i : Nat) (x : List UInt8) : Prop :=
  (x = [] ∧ ∀ j t, j < i → ts[j]? = some t → ¬ Above (topS ts) k t) ∨ (x ≠ [] ∧ x ∈ ts ∧ Above (topS ts) k x ∧ ∀ j t, j < i → ts[j]? = some t → Above (topS ts) k t → x ≤ t)
theorem Least.start (ts : List (List UInt8)) (k : Nat) : Least ts k 0 [] := .inl ⟨rfl, fun _ _ h => by omega⟩
theorem Least.skip {ts : List (List UInt8)} {k i : Nat} {x t : List UInt8} (h : Least ts k i x) (ht : ts[i]? = some t) (hs : ¬ Above (topS ts) k t ∨ (x ≠ [] ∧ ¬ t < x)) : Least ts k (i + 1) x := by
  rcases h with ⟨h1, h2⟩ | ⟨h1, h2, h3, h4⟩
  · refine .inl ⟨h1, fun j u hj hu => ?_⟩
    rcases Nat.lt_or_ge j i with hl | hl
    · exact h2 j u hl hu
    · obtain rfl : j = i := by omega
      rw [ht] at hu; cases hu
      rcases hs with hs | hs
      · exact hs
      · exact absurd h1 hs.1
  · refine .inr ⟨h1, h2, h3, fun j u hj hu ha => ?_⟩
    rcases Nat.lt_or_ge j i with hl | hl
    · exact h4 j u hl hu ha
    · obtain rfl : j = i := by omega
      rw [ht] at hu; cases hu
      rcases hs with hs | hs
      · exact absurd ha hs
      · exact List.not_lt.1 hs.2
theorem Least.take {ts : List (List UInt8)} {k i : Nat} {x t : List UInt8} (h : Least ts k i x) (ht : ts[i]? = some t) (ha : Above (topS ts) k t) (hn : t ≠ []) (hs : x = [] ∨ t < x) : Least ts k (i + 1) t := by
  refine .inr ⟨hn, List.mem_of_getElem? ht, ha, fun j u hj hu hb => ?_⟩
  rcases Nat.lt_or_ge j i with hl | hl
  · rcases h with ⟨h1, h2⟩ | ⟨h1, h2, h3, h4⟩
    · exact absurd hb (h2 j u hl hu)
    · rcases hs with hs | hs
      · exact absurd hs h1
      · exact List.le_trans (List.le_of_lt hs) (h4 j u hl hu hb)
  · obtain rfl : j = i := by omega
    rw [ht] at hu; cases hu
    exact List.le_refl _
theorem Least.fin {ts : List (List UInt8)} {k : Nat} {x : List UInt8} (h : Least ts k ts.length x) (hk : k ≤ (topS ts).length) : (x = [] → k = (topS ts).length) ∧ (x ≠ [] → (topS ts)[k]? = some x) := by
  have hm : ∀ t, t ∈ ts → ∃ j, j < ts.length ∧ ts[j]? = some t := fun t ht => by
    obtain ⟨j, hj, rfl⟩ := List.mem_iff_getElem.1 ht; exact ⟨j, hj, List.getElem?_eq_getElem hj⟩
  rcases h with ⟨h1, h2⟩ | ⟨h1, h2, h3, h4⟩
  · exact ⟨fun _ => top_end hk (fun t ht => let ⟨j, hj, e⟩ := hm t ht; h2 j t hj e), fun e => absurd h1 e⟩
  · exact ⟨fun e => absurd e h1, fun _ => top_next hk h2 h3 (fun t ht ha => let ⟨j, hj, e⟩ := hm t ht; h4 j t hj e ha)⟩
end Go.Proofs.Ytojjjhbiccgjkaa
