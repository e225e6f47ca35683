/- Sealing at once and in two parts: the plain law. -/
import Derived.Test.YtoccjgcokffkbaaSealM
namespace Go.Proofs.Ytoccjgcokffkbaa
set_option linter.unusedVariables false
set_option linter.unusedSimpArgs false

theorem growUp_two {width : Int} {l L M : List ByteArray} {z n : Nat} : ∀ k : Nat, (∀ i, i < k → M.getD i ByteArray.empty = L.getD (n + i) ByteArray.empty) → growUp width (z + n) (growUp width z l L n) M k = growUp width z l L (n + k)
 | 0, _ => rfl
 | k + 1, h => by
   rw [growUp, growUp_two k (fun i hi => h i (by omega)), h k (by omega), show n + (k + 1) = (n + k) + 1 by omega, growUp, show z + n + k = z + (n + k) by omega]
theorem growUp_pre {width : Int} {l L : List ByteArray} {z n : Nat} : ∀ k : Nat, k ≤ n → growUp width z l (L.take n) k = growUp width z l L k
 | 0, _ => rfl
 | k + 1, h => by
   rw [growUp, growUp, growUp_pre k (by omega), List.getD_eq_getElem?_getD, List.getD_eq_getElem?_getD, List.getElem?_take_of_lt (by omega)]
theorem smP_two {width z : Int} {l L : List ByteArray} {i : Nat} (h0 : 0 ≤ z) (hi : i ≤ L.length) : smP width (z + i) (smP width z l (L.take i)) (L.drop i) = smP width z l L := by
 rw [smP, smP, smP, List.length_take, List.length_drop, Nat.min_eq_left hi, growUp_pre i (Nat.le_refl _), show (z + (i : Int)).toNat = z.toNat + i by omega, growUp_two (L := L) (L.length - i) (fun j hj => ?_), show i + (L.length - i) = L.length by omega]
 rw [List.getD_eq_getElem?_getD, List.getD_eq_getElem?_getD, List.getElem?_drop]
theorem calls_pop (n : Nat) : ∀ k : Nat, n + k ≤ 512 → callsUp n k + popN (n + k) = k + popN n
 | 0, _ => by rw [callsUp, Nat.add_zero]
 | k + 1, h => by
   have h1 := calls_pop n k (by omega)
   have h2 := (tz_pop (n + k) (by omega)).1
   rw [callsUp, show n + (k + 1) = n + k + 1 by omega]
   omega
theorem popN_le (n : Nat) : popN n ≤ 10 := popUp_le n 10
theorem root_fits {width z : Int} {l : List ByteArray} (h : rngOk width z l = true) : rootOkM width z (rngRoot width l) = true := by
 obtain ⟨h1, h2, h3, h4, h5⟩ := rngOk_all h
 rw [rootOkM, inR_true.2 ⟨h1, h2⟩, decide_eq_true (rngRoot_size h5 h4), Bool.true_and, Bool.true_and]
 by_cases hz : 0 < z
 ·rw [decide_eq_true hz]; rfl
 ·have h6 : l.length = 0 := by rw [h3, show z = 0 by omega]; decide
  rw [rngRoot, if_pos h6, decide_eq_true rfl, Bool.or_true]
theorem smOk_all {width z1 z2 : Int} {l1 l2 L T : List ByteArray} {h : Hd} (hq : smOk width z1 l1 z2 l2 h L T = true) :
  sealOk width z1 l1 z2 l2 h = true ∧ areH width L = true ∧ areH width T = true ∧ (L.length : Int) ≤ 512 - z1 ∧ (T.length : Int) ≤ 512 - z2 ∧ ¬ h.num = 399 := by
 rw [smOk, smFit, Bool.and_eq_true, Bool.and_eq_true, Bool.and_eq_true, Bool.and_eq_true, Bool.and_eq_true] at hq
 obtain ⟨⟨⟨h1, h2⟩, h3⟩, ⟨h4, h5⟩, h6⟩ := hq
 exact ⟨h1, h2, h3, of_decide_eq_true h4, of_decide_eq_true h5, by simpa using h6⟩
theorem smOk_of {width z1 z2 : Int} {l1 l2 L T : List ByteArray} {h : Hd} (h1 : sealOk width z1 l1 z2 l2 h = true) (h2 : areH width L = true) (h3 : areH width T = true) (h4 : (L.length : Int) ≤ 512 - z1) (h5 : (T.length : Int) ≤ 512 - z2) (h6 : ¬ h.num = 399) : smOk width z1 l1 z2 l2 h L T = true := by
 rw [smOk, smFit, h1, h2, h3, decide_eq_true h4, decide_eq_true h5]
 simpa using h6
def nextHd (width z1 : Int) (l1 : List ByteArray) (z2 : Int) (l2 : List ByteArray) (h : Hd) (L T : List ByteArray) : Hd := ⟨h.num + 1, z1 + L.length, rngRoot width (smP width z1 l1 L), z2 + T.length, rngRoot width (smP width z2 l2 T)⟩
theorem seal_next {width z1 z2 : Int} {l1 l2 L T : List ByteArray} {h : Hd} (hq : smOk width z1 l1 z2 l2 h L T = true) :
  sealOk width (z1 + L.length) (smP width z1 l1 L) (z2 + T.length) (smP width z2 l2 T) (nextHd width z1 l1 z2 l2 h L T) = true := by
 obtain ⟨h1, h2, h3, h4, h5, h6⟩ := smOk_all hq
 obtain ⟨r1, r2, n0, n1⟩ := sealOk_all h1
 obtain ⟨g1, _, _⟩ := rng_grow r1 h2 h4
 obtain ⟨g2, _, _⟩ := rng_grow r2 h3 h5
 have hw := (rngOk_all r1).2.2.2.2
 rw [sealOk, g1, g2, headOk, nextHd, hw, inR_true.2 ⟨by show 0 ≤ h.num + 1; omega, by show h.num + 1 ≤ 399; omega⟩, root_fits g1, root_fits g2, sealFit, rrT, rrT, g1, g2, if_pos rfl, if_pos rfl]
 simp
theorem take_are {width : Int} {L : List ByteArray} (h : areH width L = true) (i : Nat) : areH width (L.take i) = true ∧ areH width (L.drop i) = true :=
 ⟨areH_of fun s hs => areH_mem h s (List.mem_of_mem_take hs), areH_of fun s hs => areH_mem h s (List.mem_of_mem_drop hs)⟩
theorem parts_ok {width z1 z2 : Int} {l1 l2 L T : List ByteArray} {h : Hd} {i k : Nat} (hq : smOk width z1 l1 z2 l2 h L T = true) (hn : h.num ≤ 300) (hi : i ≤ L.length) (hk : k ≤ T.length) :
  smOk width z1 l1 z2 l2 h (L.take i) (T.take k) = true ∧
  smOk width (z1 + i) (smP width z1 l1 (L.take i)) (z2 + k) (smP width z2 l2 (T.take k)) (nextHd width z1 l1 z2 l2 h (L.take i) (T.take k)) (L.drop i) (T.drop k) = true ∧
  smP width (z1 + i) (smP width z1 l1 (L.take i)) (L.drop i) = smP width z1 l1 L ∧ smP width (z2 + k) (smP width z2 l2 (T.take k)) (T.drop k) = smP width z2 l2 T := by
 obtain ⟨h1, h2, h3, h4, h5, h6⟩ := smOk_all hq
 obtain ⟨r1, r2, n0, n1⟩ := sealOk_all h1
 have e1 : (L.take i).length = i := by rw [List.length_take]; omega
 have e2 : (T.take k).length = k := by rw [List.length_take]; omega
 have a : smOk width z1 l1 z2 l2 h (L.take i) (T.take k) = true := smOk_of h1 (take_are h2 i).1 (take_are h3 k).1 (by rw [e1]; omega) (by rw [e2]; omega) h6
 have b := seal_next a
 rw [e1, e2] at b
 refine ⟨a, smOk_of b (take_are h2 i).2 (take_are h3 k).2 (by rw [List.length_drop]; omega) (by rw [List.length_drop]; omega) (by show ¬ h.num + 1 = 399; omega), smP_two (rngOk_all r1).1 hi, smP_two (rngOk_all r2).1 hk⟩
theorem made_le {width z1 z2 : Int} {l1 l2 L T : List ByteArray} {h : Hd} (hq : smOk width z1 l1 z2 l2 h L T = true) :
  callsUp z1.toNat L.length + callsUp z2.toNat T.length + rngMade (smP width z1 l1 L) + rngMade (smP width z2 l2 T) ≤ L.length + T.length + 20 := by
 obtain ⟨h1, h2, h3, h4, h5, h6⟩ := smOk_all hq
 obtain ⟨r1, r2, n0, n1⟩ := sealOk_all h1
 have key : ∀ {z : Int} {l M : List ByteArray}, rngOk width z l = true → (M.length : Int) ≤ 512 - z → callsUp z.toNat M.length + rngMade (smP width z l M) ≤ M.length + 10 := by
  intro z l M hr hm
  obtain ⟨k1, k2, k3, k4, k5⟩ := rngOk_all hr
  have k7 : l.length = popN z.toNat := by rw [k3, ← popC_nat (by omega)]; congr 1; omega
  have k8 := growUp_len (width := width) (leaves := M) k7 (k := M.length) (by omega)
  have k9 := calls_pop z.toNat M.length (by omega)
  have k10 := popN_le z.toNat
  rw [rngMade, smP, k8]
  omega
 have j1 := key r1 h4
 have j2 := key r2 h5
 omega
end Go.Proofs.Ytoccjgcokffkbaa
