/- Sealing at once and in two parts: what SealMore hands back. Pieces of slices of texts. -/
import Derived.Test.YtoccjgcokffkbaaSlw
import Derived.Test.YtoccjgcokffkbaaFnA1
namespace Go.Proofs.Ytoccjgcokffkbaa
set_option linter.unusedVariables false
set_option linter.unusedSimpArgs false
open Go.RowKit

theorem slicePT (A : Option Addr) (k g m : Nat) (h : m ≤ g) (W : World) : (Instr.slice 24 (.slice A k g) none (some (.int .i64 m)) none).run Try.prog W = .ok (.slice A m g) W := by
 have hu := Try.underlying24
 simp [Instr.slice, run_underlying hu, Instr.sliceBounds, run_sliceBound, h, go_sem]
theorem Rd.dropT {w : World} {lo hi b off : Nat} {l : List ByteArray} (h : Rd w lo hi (some ⟨b, off, none⟩) (strs l)) (k : Nat) : Rd w lo hi (some ⟨b, off + k, none⟩) (strs (l.drop k)) := by
 intro hn
 have hne : strs l ≠ [] := by
  intro e
  apply hn
  have : l = [] := List.map_eq_nil_iff.1 e
  rw [this, List.drop_nil]
  rfl
 obtain ⟨b', off', e, h2, h3, h4, h5⟩ := h hne
 cases e
 refine ⟨b, off + k, rfl, h2, h3, h4, fun j u hu => ?_⟩
 have := h5 (k + j) u (by rw [← hu, strs, strs, List.map_drop, List.getElem?_drop])
 rwa [← Nat.add_assoc] at this
theorem Rd.takeT {w : World} {lo hi : Nat} {A : Option Addr} {l : List ByteArray} (h : Rd w lo hi A (strs l)) (k : Nat) : Rd w lo hi A (strs (l.take k)) := by
 intro hn
 have hne : strs l ≠ [] := by
  intro e
  apply hn
  have : l = [] := List.map_eq_nil_iff.1 e
  rw [this, List.take_nil]
  rfl
 obtain ⟨b', off', e, h2, h3, h4, h5⟩ := h hne
 refine ⟨b', off', e, h2, h3, h4, fun j u hu => h5 j u ?_⟩
 rw [strs, List.getElem?_map] at *
 rcases Nat.lt_or_ge j k with hj | hj
 ·rwa [List.getElem?_take_of_lt hj] at hu
 ·rw [List.getElem?_eq_none (by rw [List.length_take]; omega)] at hu
  cases hu
def cutT (A : Option Addr) (n g : Nat) : Option Addr := if g = n then A else A.map (fun a => a.add n)
theorem cutT_rd {w : World} {lo hi : Nat} {A : Option Addr} {L : List ByteArray} (h : Rd w lo hi A (strs L)) (n g : Nat) (hg : L.length ≤ g) : Rd w lo hi (cutT A n g) (strs (L.drop n)) := by
 rw [cutT]
 split
 ·rename_i e
  rw [List.drop_of_length_le (by omega)]
  exact Rd.nil
 ·by_cases hl : strs L = []
  ·have : L = [] := List.map_eq_nil_iff.1 hl
   subst this
   rw [List.drop_nil]
   exact Rd.nil
  ·obtain ⟨b', off', e, _⟩ := h hl
   subst e
   rw [Option.map_some, Addr.add_lit]
   exact Rd.dropT (l := L) h n
theorem sliceST (A : Option Addr) (k g n : Nat) (h1 : n ≤ k) (h2 : k ≤ g) (W : World) : (Instr.slice 24 (.slice A k g) (some (.int .i64 n)) none none).run Try.prog W = .ok (.slice (cutT A n g) (k - n) (g - n)) W := by
 have hu := Try.underlying24
 simp only [cutT]
 simp [Instr.slice, run_underlying hu, Instr.sliceBounds, run_sliceBound, h1, h2, go_sem]
theorem cutT_nil {A : Option Addr} {n g : Nat} (h : A = none → g = 0) (hn : n ≤ g) : cutT A n g = none → g - n = 0 := by
 intro e
 rw [cutT] at e
 split at e
 ·omega
 ·rcases A with _ | a
  ·rw [h rfl]; omega
  ·cases e
/-- what SealMore hands back, where it is right -/
structure SmIs (width z1 : Int) (l1 : List ByteArray) (z2 : Int) (l2 : List ByteArray) (h : Hd) (L T : List ByteArray) (y1 : Int) (p1 : List ByteArray) (y2 : Int) (p2 : List ByteArray) (g : Hd) (most : Int) : Prop where
 a1 : smZ1 width z1 l1 z2 l2 h L T = y1
 a2 : smL1 width z1 l1 z2 l2 h L T = p1
 a3 : smZ2 width z1 l1 z2 l2 h L T = y2
 a4 : smL2 width z1 l1 z2 l2 h L T = p2
 a5 : smH width z1 l1 z2 l2 h L T = g
 a6 : smCode width z1 l1 z2 l2 h L T = 0
 a7 : 0 ≤ smN width z1 l1 z2 l2 h L T ∧ smN width z1 l1 z2 l2 h L T ≤ most
 a8 : sealOk width y1 p1 y2 p2 g = true
 a9 : p1.length ≤ 30 ∧ p2.length ≤ 30 ∧ I64 y1 ∧ I64 y2 ∧ g.bulk ≤ 100
theorem smIs {width z1 z2 : Int} {l1 l2 L T : List ByteArray} {h : Hd} (hq : smOk width z1 l1 z2 l2 h L T = true) :
  SmIs width z1 l1 z2 l2 h L T (z1 + L.length) (smP width z1 l1 L) (z2 + T.length) (smP width z2 l2 T) (nextHd width z1 l1 z2 l2 h L T) ((L.length : Int) + T.length + 36) := by
 obtain ⟨e1, e2, e3, e4, e5, e6⟩ := sm_good hq
 obtain ⟨h1, h2, h3, h4, h5, h6⟩ := smOk_all hq
 obtain ⟨r1, r2, n0, n1⟩ := sealOk_all h1
 obtain ⟨g1, k1, _⟩ := rng_grow r1 h2 h4
 obtain ⟨g2, k2, _⟩ := rng_grow r2 h3 h5
 have hm := made_le hq
 have a1 := rngOk_all r1
 have a2 := rngOk_all r2
 have b1 := rngRoot_size (rngOk_all g1).2.2.2.2 (rngOk_all g1).2.2.2.1
 have b2 := rngRoot_size (rngOk_all g2).2.2.2.2 (rngOk_all g2).2.2.2.1
 have hw := inR_true.1 a1.2.2.2.2
 refine ⟨e1, e2, e3, e4, e5, ?_, ⟨by rw [e6]; exact Int.natCast_nonneg _, by rw [e6]; omega⟩, seal_next hq, by omega, by omega, ⟨by omega, by omega⟩, ⟨by omega, by omega⟩, ?_⟩
 ·have hf : smFit z1 z2 h L.length T.length = true := by rw [smOk, Bool.and_eq_true] at hq; exact hq.2
  rw [smCode, h1, h2, h3, hf, if_neg (by decide), if_neg (by decide), if_neg (by decide), if_neg (by decide)]
 ·show (rngRoot _ _).size + (rngRoot _ _).size ≤ 100
  omega
theorem smCode_0 {width z1 z2 : Int} {l1 l2 L T : List ByteArray} {h : Hd} (hq : smCode width z1 l1 z2 l2 h L T = 0) : smOk width z1 l1 z2 l2 h L T = true := by
 rw [smCode] at hq
 rcases c1 : sealOk width z1 l1 z2 l2 h with _ | _
 ·rw [c1, if_pos rfl] at hq; omega
 ·rcases c2 : areH width L with _ | _
  ·rw [c1, c2, if_neg (by decide), if_pos rfl] at hq; omega
  ·rcases c3 : areH width T with _ | _
   ·rw [c1, c2, c3, if_neg (by decide), if_neg (by decide), if_pos rfl] at hq; omega
   ·rcases c4 : smFit z1 z2 h L.length T.length with _ | _
    ·rw [c1, c2, c3, c4, if_neg (by decide), if_neg (by decide), if_neg (by decide), if_pos rfl] at hq; omega
    ·rw [smOk, c1, c2, c3, c4]; rfl
/-- at once, and in two parts -/
theorem seals_law {width z1 z2 : Int} {l1 l2 L T : List ByteArray} {h : Hd} {i k : Nat} (hq : smOk width z1 l1 z2 l2 h L T = true) (hn : h.num ≤ 300) (hi : i ≤ L.length) (hk : k ≤ T.length) :
  ∃ (P1 P2 Q1 Q2 : List ByteArray) (R S : ByteArray) (H : Hd),
    SmIs width z1 l1 z2 l2 h L T (z1 + L.length) P1 (z2 + T.length) P2 ⟨h.num + 1, z1 + L.length, R, z2 + T.length, S⟩ ((L.length : Int) + T.length + 36) ∧
    SmIs width z1 l1 z2 l2 h (L.take i) (T.take k) (z1 + i) Q1 (z2 + k) Q2 H ((i : Int) + k + 36) ∧ H.num = h.num + 1 ∧
    SmIs width (z1 + i) Q1 (z2 + k) Q2 H (L.drop i) (T.drop k) (z1 + L.length) P1 (z2 + T.length) P2 ⟨h.num + 2, z1 + L.length, R, z2 + T.length, S⟩ (((L.length - i : Nat) : Int) + ((T.length - k : Nat) : Int) + 36) ∧
    0 ≤ h.num ∧ L.length ≤ 512 ∧ T.length ≤ 512 := by
 obtain ⟨p1, p2, p3, p4⟩ := parts_ok hq hn hi hk
 obtain ⟨h1, h2, h3, h4, h5, h6⟩ := smOk_all hq
 obtain ⟨r1, r2, n0, n1⟩ := sealOk_all h1
 have a1 := rngOk_all r1
 have a2 := rngOk_all r2
 have s1 := smIs p1
 have s2 := smIs p2
 have e1 : (L.take i).length = i := by rw [List.length_take]; omega
 have e2 : (T.take k).length = k := by rw [List.length_take]; omega
 have e3 : (L.drop i).length = L.length - i := List.length_drop
 have e4 : (T.drop k).length = T.length - k := List.length_drop
 rw [e1, e2] at s1
 rw [p3, p4, e3, e4] at s2
 have z1' : z1 + (i : Int) + ((L.length - i : Nat) : Int) = z1 + L.length := by omega
 have z2' : z2 + (k : Int) + ((T.length - k : Nat) : Int) = z2 + T.length := by omega
 have hh : nextHd width (z1 + i) (smP width z1 l1 (L.take i)) (z2 + k) (smP width z2 l2 (T.take k)) (nextHd width z1 l1 z2 l2 h (L.take i) (T.take k)) (L.drop i) (T.drop k) = ⟨h.num + 2, z1 + L.length, rngRoot width (smP width z1 l1 L), z2 + T.length, rngRoot width (smP width z2 l2 T)⟩ := by
  rw [nextHd, p3, p4, e3, e4, z1', z2']
  have : (nextHd width z1 l1 z2 l2 h (L.take i) (T.take k)).num + 1 = h.num + 2 := by show h.num + 1 + 1 = h.num + 2; omega
  rw [this]
 rw [z1', z2', hh] at s2
 exact ⟨smP width z1 l1 L, smP width z2 l2 T, smP width z1 l1 (L.take i), smP width z2 l2 (T.take k), rngRoot width (smP width z1 l1 L), rngRoot width (smP width z2 l2 T), nextHd width z1 l1 z2 l2 h (L.take i) (T.take k), smIs hq, s1, rfl, s2, n0, by omega, by omega⟩
/-- the seal that is sealed where the drawn one is none -/
theorem seals_two (s t u v : ByteArray) (hs : s.size = 2) (ht : t.size = 2) (hu : u.size = 2) (hv : v.size = 2) : smOk 2 0 [] 0 [] ⟨0, 0, emptyT 2, 0, emptyT 2⟩ [s, t, u] [v] = true := by
 have hw : inR 2 1 32 = true := by decide
 have he : ((emptyT 2).size : Int) = 2 := emptyT_size hw
 have hr : rngOk 2 0 [] = true := by rw [rngOk, hw, Bool.and_true, Bool.and_eq_true, Bool.and_eq_true]; exact ⟨⟨by decide, by decide⟩, rfl⟩
 have hro : rootOkM 2 0 (emptyT 2) = true := by rw [rootOkM, decide_eq_true he, decide_eq_true (rfl : emptyT 2 = emptyT 2), Bool.or_true]; rfl
 have hk : headOk 2 ⟨0, 0, emptyT 2, 0, emptyT 2⟩ = true := by
  rw [headOk, hw, hro]; rfl
 have hso : sealOk 2 0 [] 0 [] ⟨0, 0, emptyT 2, 0, emptyT 2⟩ = true := by
  rw [sealOk, hr, hk, sealFit, rrT, hr, if_pos rfl, rngRoot, if_pos (show ([] : List ByteArray).length = 0 from rfl)]
  simp
 refine smOk_of hso (areH_of fun x hx => ?_) (areH_of fun x hx => ?_) (by show ((3 : Nat) : Int) ≤ 512 - 0; decide) (by show ((1 : Nat) : Int) ≤ 512 - 0; decide) (by show ¬ (0 : Int) = 399; decide)
 ·simp only [List.mem_cons, List.not_mem_nil, or_false] at hx
  rcases hx with rfl | rfl | rfl <;> omega
 ·rw [List.mem_singleton.1 hx]; omega
end Go.Proofs.Ytoccjgcokffkbaa
