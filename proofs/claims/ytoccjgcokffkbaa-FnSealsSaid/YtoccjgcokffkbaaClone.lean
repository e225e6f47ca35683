/- slices.Clone of strings and of entries. -/
import Derived.Test.YtoccjgcokffkbaaKit2
import Derived.Test.YtoccjgcokffkbaaData
import Derived.Test.YtoccjgcokffkbaaSEntry
namespace Go.Proofs.Ytoccjgcokffkbaa
set_option linter.unusedVariables false
set_option linter.unusedSimpArgs false
open Go.RowKit

theorem ownsRow_slice {w : World} {base e size n : Nat} {v : Value} {xs : List Value} (h : w.ownsRow base e size v n xs) :
  ∃ (A : Option Addr) (c : Nat), v = .slice A n c ∧ n ≤ c ∧ (A = none → c = 0) ∧ Own w base w.heap.size A xs := by
 have h' := h
 rcases h.2 with ⟨rfl, rfl⟩ | ⟨g, cap, cur, rfl, _, _, h3, _⟩
 ·exact ⟨none, 0, rfl, Nat.le_refl _, fun _ => rfl, Own.of_ownsRow h'⟩
 ·exact ⟨_, _, rfl, h3, fun h => by (cases h), Own.of_ownsRow h'⟩
theorem ownsRow_lower {w : World} {base b' e size n : Nat} {v : Value} {xs : List Value} (h : w.ownsRow base e size v n xs) (hb : b' ≤ base) : w.ownsRow b' e size v n xs := by
 refine ⟨h.1, h.2.imp id ?_⟩
 rintro ⟨g, cap, cur, hv, h1, h2⟩
 exact ⟨g, cap, cur, hv, by omega, h2⟩
theorem cloneStr_nil {l : List ByteArray} (h : strs l = []) : l = [] := List.map_eq_nil_iff.1 h
theorem cloneStr_len {l : List ByteArray} {n : Nat} (h : l.length = n) : (strs l).length = n * 1 := by rw [strs_len, h, Nat.mul_one]
theorem cloneStr_one (l : List ByteArray) : ∀ u ∈ strs l, u.oneCell' = true := by
 intro u hu; obtain ⟨x, _, rfl⟩ := List.mem_map.1 hu; rfl
theorem cloneEnt_nil {l : List Ent} (h : ents l = []) : l = [] := by
 have := congrArg List.length h; rw [ents_len] at this; exact List.eq_nil_of_length_eq_zero (by simp at this; omega)
theorem cloneEnt_len {l : List Ent} {n : Nat} (h : l.length = n) : (ents l).length = n * 5 := by rw [ents_len, h]
theorem cloneEnt_one (l : List Ent) : ∀ u ∈ ents l, u.oneCell' = true := by
 intro u hu
 obtain ⟨x, _, h⟩ := List.mem_flatMap.1 hu
 simp only [Ent.cells, List.mem_cons, List.not_mem_nil, or_false] at h
 rcases h with rfl | rfl | rfl | rfl | rfl <;> rfl
set_option maxRecDepth 100000 in
set_option maxHeartbeats 400000 in
theorem cloneStrR_c (A : Option Addr) (c lo hi n : Nat) (l : List ByteArray) (w : World) (hr : Rd w lo hi A (strs l)) (hn : l.length = n) (hl : n ≤ 1048576) (hA : A = none → c = 0) :
  Calls Try.prog 74 #[.slice A n c] w fun e w' => ∃ (A' : Option Addr) (c' : Nat), e = .returned (.slice A' n c') ∧ w'.ownsRow w.heap.size 9 1 (.slice A' n c') n (strs l) ∧ Below w.heap.size w w' := by
 rcases A with _ | ad
 ·have hl0 : l = [] := by
   by_cases h : strs l = []
   ·exact cloneStr_nil h
   ·obtain ⟨b, off, h1, _⟩ := hr h; cases h1
  subst hl0
  obtain rfl : 0 = n := hn
  obtain rfl := hA rfl
  have hnil := fun (W : World) (a : Option Addr) (n c : Nat) => Lib.run_eql_slice_nil (P := Try.prog) W 24 _ a n c 0 0 Try.underlying24
  go_enter Try.func74, Try.ntmps74
  go_wp2
  go_ret
  first
   | exact ⟨none, 0, rfl, World.ownsRow_nil _ _ _ _, Below.refl _ _⟩
   | exact ⟨none, ⟨0, rfl, World.ownsRow_nil _ _ _ _⟩, Below.refl _ _⟩
   | exact ⟨none, ⟨0, rfl⟩, World.ownsRow_nil _ _ _ _, Below.refl _ _⟩
 ·have hnews : ∀ (W : World), Below w.heap.size w W → ∀ (j : Nat) (u : Value), (strs l)[j]? = some u → W.cell? (ad.add j) = some u := by
   intro W hW j u hu
   obtain ⟨b, off, h1, _, h3, h4, h5⟩ := hr (by intro e; rw [e] at hu; simp at hu)
   cases h1
   rw [Addr.add_lit]
   exact (hW.cell (p := ⟨b, off + j, none⟩) (show b < w.heap.size by omega)).trans (h5 j u hu)
  obtain ⟨i0, hi0, hz0, hz1, hz2⟩ := info_parts info_string
  have hlen : (strs l).length = n * 1 := cloneStr_len hn
  have hone := cloneStr_one l
  clear hr hA
  have hnil := fun (W : World) (a : Option Addr) (n c : Nat) => Lib.run_eql_slice_nil (P := Try.prog) W 24 _ a n c 0 0 Try.underlying24
  go_enter Try.func74, Try.ntmps74
  go_wp2_with (at_builtin; refine wpList_append_own _ rfl _ _ 24 rfl w.heap.size 9 i0 (.string ByteArray.empty) 1 16 Try.underlying24 hi0 hz0 hz1 hz2 rfl (by decide) _ 0 [] rfl (World.ownsRow_made w #[] 0 (Nat.le_refl _) (Nat.zero_le _) rfl) ad n c (strs l) rfl hlen (hnews _ ((Below.refl _ _).alloc (Nat.le_refl _) _)) hone (by unfold maxLen; omega) (by omega) (by simp) ?_)
  intro v' w1 hown hg _
  try simp only [Nat.zero_add, List.nil_append] at hown
  obtain ⟨A', c', rfl, h1, h2, h3⟩ := ownsRow_slice hown
  have hb := ((Below.refl w.heap.size w).alloc (Nat.le_refl _) (.cells #[] 9)).grown hg (by first | omega | (simp; done) | (simp; omega)) (fun j hj => by cases hj; exact Nat.le_refl _)
  have HR := Lib.hid (show w1.ownsRow w.heap.size 9 1 (.slice A' n c') n (strs l) ∧ Below w.heap.size w w1 from ⟨hown, hb⟩)
  clear hown hg h1 h2 h3 hb hnews hone hi0 hz0 hz1 hz2
  go_wp2
  go_ret
  exact ⟨_, _, rfl, HR.out⟩
theorem cloneStr_c (A : Option Addr) (c lo hi n : Nat) (l : List ByteArray) (w : World) (hr : Rd w lo hi A (strs l)) (hn : l.length = n) (hl : n ≤ 1048576) (hA : A = none → c = 0) :
  Calls Try.prog 74 #[.slice A n c] w fun e w' => ∃ (A' : Option Addr) (c' : Nat), e = .returned (.slice A' n c') ∧ n ≤ c' ∧ (A' = none → c' = 0) ∧ Own w' w.heap.size w'.heap.size A' (strs l) ∧ Below w.heap.size w w' :=
 (cloneStrR_c A c lo hi n l w hr hn hl hA).mono fun e w' ⟨A', c', he, hrow, hb⟩ => by
   obtain ⟨A2, c2, e2, h1, h2, h3⟩ := ownsRow_slice hrow
   injection e2 with e3 _ e4
   subst e3
   subst e4
   exact ⟨A', c', he, h1, h2, h3, hb⟩
set_option maxRecDepth 100000 in
set_option maxHeartbeats 400000 in
theorem cloneEntR_c (A : Option Addr) (c lo hi n : Nat) (l : List Ent) (w : World) (hr : Rd w lo hi A (ents l)) (hn : l.length = n) (hl : n ≤ 1048576) (hA : A = none → c = 0) :
  Calls Try.prog 80 #[.slice A n c] w fun e w' => ∃ (A' : Option Addr) (c' : Nat), e = .returned (.slice A' n c') ∧ w'.ownsRow w.heap.size 55 5 (.slice A' n c') n (ents l) ∧ Below w.heap.size w w' := by
 rcases A with _ | ad
 ·have hl0 : l = [] := by
   by_cases h : ents l = []
   ·exact cloneEnt_nil h
   ·obtain ⟨b, off, h1, _⟩ := hr h; cases h1
  subst hl0
  obtain rfl : 0 = n := hn
  obtain rfl := hA rfl
  have hnil := fun (W : World) (a : Option Addr) (n c : Nat) => Lib.run_eql_slice_nil (P := Try.prog) W 40 _ a n c 0 0 Try.underlying40
  go_enter Try.func80, Try.ntmps80
  go_wp2
  go_ret
  first
   | exact ⟨none, 0, rfl, World.ownsRow_nil _ _ _ _, Below.refl _ _⟩
   | exact ⟨none, ⟨0, rfl, World.ownsRow_nil _ _ _ _⟩, Below.refl _ _⟩
   | exact ⟨none, ⟨0, rfl⟩, World.ownsRow_nil _ _ _ _, Below.refl _ _⟩
 ·have hnews : ∀ (W : World), Below w.heap.size w W → ∀ (j : Nat) (u : Value), (ents l)[j]? = some u → W.cell? (ad.add j) = some u := by
   intro W hW j u hu
   obtain ⟨b, off, h1, _, h3, h4, h5⟩ := hr (by intro e; rw [e] at hu; simp at hu)
   cases h1
   rw [Addr.add_lit]
   exact (hW.cell (p := ⟨b, off + j, none⟩) (show b < w.heap.size by omega)).trans (h5 j u hu)
  obtain ⟨i0, hi0, hz0, hz1, hz2⟩ := info_parts info_Entry
  have hlen : (ents l).length = n * 5 := cloneEnt_len hn
  have hone := cloneEnt_one l
  clear hr hA
  have hnil := fun (W : World) (a : Option Addr) (n c : Nat) => Lib.run_eql_slice_nil (P := Try.prog) W 40 _ a n c 0 0 Try.underlying40
  go_enter Try.func80, Try.ntmps80
  go_wp2_with (at_builtin; refine wpList_append_own _ rfl _ _ 40 rfl w.heap.size 55 i0 (.agg #[.string ByteArray.empty, .int .i64 0, .int .i64 0, .string ByteArray.empty, .string ByteArray.empty]) 5 64 Try.underlying40 hi0 hz0 hz1 hz2 rfl (by decide) _ 0 [] rfl (World.ownsRow_made w #[] 0 (Nat.le_refl _) (Nat.zero_le _) rfl) ad n c (ents l) rfl hlen (hnews _ ((Below.refl _ _).alloc (Nat.le_refl _) _)) hone (by unfold maxLen; omega) (by omega) (by simp) ?_)
  intro v' w1 hown hg _
  try simp only [Nat.zero_add, List.nil_append] at hown
  obtain ⟨A', c', rfl, h1, h2, h3⟩ := ownsRow_slice hown
  have hb := ((Below.refl w.heap.size w).alloc (Nat.le_refl _) (.cells #[] 55)).grown hg (by first | omega | (simp; done) | (simp; omega)) (fun j hj => by cases hj; exact Nat.le_refl _)
  have HR := Lib.hid (show w1.ownsRow w.heap.size 55 5 (.slice A' n c') n (ents l) ∧ Below w.heap.size w w1 from ⟨hown, hb⟩)
  clear hown hg h1 h2 h3 hb hnews hone hi0 hz0 hz1 hz2
  go_wp2
  go_ret
  exact ⟨_, _, rfl, HR.out⟩
theorem cloneEnt_c (A : Option Addr) (c lo hi n : Nat) (l : List Ent) (w : World) (hr : Rd w lo hi A (ents l)) (hn : l.length = n) (hl : n ≤ 1048576) (hA : A = none → c = 0) :
  Calls Try.prog 80 #[.slice A n c] w fun e w' => ∃ (A' : Option Addr) (c' : Nat), e = .returned (.slice A' n c') ∧ n ≤ c' ∧ (A' = none → c' = 0) ∧ Own w' w.heap.size w'.heap.size A' (ents l) ∧ Below w.heap.size w w' :=
 (cloneEntR_c A c lo hi n l w hr hn hl hA).mono fun e w' ⟨A', c', he, hrow, hb⟩ => by
   obtain ⟨A2, c2, e2, h1, h2, h3⟩ := ownsRow_slice hrow
   injection e2 with e3 _ e4
   subst e3
   subst e4
   exact ⟨A', c', he, h1, h2, h3, hb⟩
end Go.Proofs.Ytoccjgcokffkbaa
