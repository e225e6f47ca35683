/- Part 32 of the proof of FnWrites: lemmas and contracts. -/
import Derived.Test.YtoccjgcokffkbaaGreatTw23
namespace Go.Proofs.YtoccjgcokffkbaaGreat
set_option linter.unusedVariables false
set_option linter.unusedSimpArgs false
set_option maxHeartbeats 20000000
set_option maxRecDepth 100000
section
open Go.RowKit
structure SmIs (width z1 : Int) (l1 : List ByteArray) (z2 : Int) (l2 : List ByteArray) (h : Hd) (L T : List ByteArray) (y1 : Int) (p1 : List ByteArray) (y2 : Int) (p2 : List ByteArray) (g : Hd) (most : Int) : Prop where
 a1 : smZ1 width z1 l1 z2 l2 h L T = y1
 a2 : smL1 width z1 l1 z2 l2 h L T = p1
 a3 : smZ2 width z1 l1 z2 l2 h L T = y2
 a4 : smL2 width z1 l1 z2 l2 h L T = p2
 a5 : smH width z1 l1 z2 l2 h L T = g
 a6 : smCode width z1 l1 z2 l2 h L T = 0
 a7 : 0 ≤ smN width z1 l1 z2 l2 h L T ∧ smN width z1 l1 z2 l2 h L T ≤ most
 a8 : eD width y1 p1 y2 p2 g = true
 a9 : p1.length ≤ 30 ∧ p2.length ≤ 30 ∧ I64 y1 ∧ I64 y2 ∧ g.bulk ≤ 100
theorem smIs {width z1 z2 : Int} {l1 l2 L T : List ByteArray} {h : Hd} (hq : smOk width z1 l1 z2 l2 h L T = true) :
  SmIs width z1 l1 z2 l2 h L T (z1 + L.length) (smP width z1 l1 L) (z2 + T.length) (smP width z2 l2 T) (nextHd width z1 l1 z2 l2 h L T) ((L.length : Int) + T.length + 36) := by
 obtain ⟨e1, e2, e3, e4, e5, e6⟩ := sm_good hq
 obtain ⟨h1, h2, h3, h4, h5, h6⟩ := smOk_all hq
 obtain ⟨r1, r2, n0, n1⟩ := sealOk_all h1
 obtain ⟨g1, k1, _⟩ := rng_grow r1 h2 h4
 obtain ⟨g2, k2, _⟩ := rng_grow r2 h3 h5
 have hm := made_le hq
 have a1 := cO r1
 have a2 := cO r2
 have b1 := rngRoot_size (cO g1).2.2.2.2 (cO g1).2.2.2.1
 have b2 := rngRoot_size (cO g2).2.2.2.2 (cO g2).2.2.2.1
 have hw := ax.1 a1.2.2.2.2
 refine ⟨e1, e2, e3, e4, e5, ?_, ⟨by rw [e6]; exact Int.natCast_nonneg _, by rw [e6]; omega⟩, seal_next hq, by omega, by omega, ⟨by omega, by omega⟩, ⟨by omega, by omega⟩, ?_⟩
 ·have hf : smFit z1 z2 h L.length T.length = true := by rw [smOk, Bool.and_eq_true] at hq; exact hq.2
  rw [smCode, h1, h2, h3, hf, if_neg (by decide), if_neg (by decide), if_neg (by decide), if_neg (by decide)]
 show (aV _ _).size + (aV _ _).size ≤ 100
 omega
end
end Go.Proofs.YtoccjgcokffkbaaGreat
