/- SealMore: the model, and the reference. -/
import Derived.Test.YtmmepogjocfefaaGreatSealk
import Derived.Test.YtmmepogjocfefaaGreatReg
import Derived.Test.YtmmepogjocfefaaGreatGrws
import Derived.Test.YtmmepogjocfefaaGreatWk2
namespace Go.Proofs.YtmmepogjocfefaaGreat
set_option linter.unusedVariables false
set_option linter.unusedSimpArgs false
open Go.RowKit

/-- what SealMore comes to -/
def smFit (z1 z2 : Int) (h : Hd) (k1 k2 : Nat) : Bool := decide ((k1 : Int) ≤ 512 - z1) && decide ((k2 : Int) ≤ 512 - z2) && !(h.num == 399)
def smOk (width z1 : Int) (l1 : List ByteArray) (z2 : Int) (l2 : List ByteArray) (h : Hd) (L T : List ByteArray) : Bool := sealOk width z1 l1 z2 l2 h && areH width L && areH width T && smFit z1 z2 h L.length T.length
def smCode (width z1 : Int) (l1 : List ByteArray) (z2 : Int) (l2 : List ByteArray) (h : Hd) (L T : List ByteArray) : Int :=
 if sealOk width z1 l1 z2 l2 h = false then 1 else if areH width L = false then 2 else if areH width T = false then 3 else if smFit z1 z2 h L.length T.length = false then 4 else 0
def smP (width z : Int) (l L : List ByteArray) : List ByteArray := growUp width z.toNat l L L.length
def smL1 (width z1 : Int) (l1 : List ByteArray) (z2 : Int) (l2 : List ByteArray) (h : Hd) (L T : List ByteArray) : List ByteArray := if smOk width z1 l1 z2 l2 h L T then smP width z1 l1 L else []
def smL2 (width z1 : Int) (l1 : List ByteArray) (z2 : Int) (l2 : List ByteArray) (h : Hd) (L T : List ByteArray) : List ByteArray := if smOk width z1 l1 z2 l2 h L T then smP width z2 l2 T else []
def smZ1 (width z1 : Int) (l1 : List ByteArray) (z2 : Int) (l2 : List ByteArray) (h : Hd) (L T : List ByteArray) : Int := if smOk width z1 l1 z2 l2 h L T then z1 + L.length else 0
def smZ2 (width z1 : Int) (l1 : List ByteArray) (z2 : Int) (l2 : List ByteArray) (h : Hd) (L T : List ByteArray) : Int := if smOk width z1 l1 z2 l2 h L T then z2 + T.length else 0
def smH (width z1 : Int) (l1 : List ByteArray) (z2 : Int) (l2 : List ByteArray) (h : Hd) (L T : List ByteArray) : Hd :=
 if smOk width z1 l1 z2 l2 h L T then ⟨h.num + 1, z1 + L.length, rngRoot width (smP width z1 l1 L), z2 + T.length, rngRoot width (smP width z2 l2 T)⟩ else ⟨0, 0, ByteArray.empty, 0, ByteArray.empty⟩
def smN (width z1 : Int) (l1 : List ByteArray) (z2 : Int) (l2 : List ByteArray) (h : Hd) (L T : List ByteArray) : Int :=
 if smOk width z1 l1 z2 l2 h L T then ((callsUp z1.toNat L.length + callsUp z2.toNat T.length + rngMade (smP width z1 l1 L) + rngMade (smP width z2 l2 T) : Nat) : Int) else 0
theorem sealOk_all {width z1 z2 : Int} {l1 l2 : List ByteArray} {h : Hd} (hs : sealOk width z1 l1 z2 l2 h = true) : rngOk width z1 l1 = true ∧ rngOk width z2 l2 = true ∧ 0 ≤ h.num ∧ h.num ≤ 399 := by
 rw [sealOk, Bool.and_eq_true, Bool.and_eq_true, Bool.and_eq_true] at hs
 obtain ⟨⟨⟨h1, h2⟩, h3⟩, _⟩ := hs
 rw [headOk, Bool.and_eq_true, Bool.and_eq_true, Bool.and_eq_true] at h3
 have := inR_true.1 h3.1.1.2
 exact ⟨h1, h2, this.1, this.2⟩
theorem rng_grow {width z : Int} {l L : List ByteArray} (h : rngOk width z l = true) (ha : areH width L = true) (hk : (L.length : Int) ≤ 512 - z) :
  rngOk width (z + L.length) (smP width z l L) = true ∧ (smP width z l L).length ≤ 20 ∧ callsUp z.toNat L.length ≤ 10 * 512 := by
 obtain ⟨h1, h2, h3, h4, h5⟩ := rngOk_all h
 have h7 : l.length = popN z.toNat := by rw [h3, ← popC_nat (by omega)]; congr 1; omega
 have h8 := growUp_len (width := width) (leaves := L) h7 (k := L.length) (by omega)
 have h9 := growUp_are h5 h7 h4 ha (k := L.length) (by omega) (Nat.le_refl _)
 refine ⟨?_, ?_, ?_⟩
 ·rw [rngOk, Bool.and_eq_true, Bool.and_eq_true, Bool.and_eq_true]
  refine ⟨⟨inR_true.2 ⟨by omega, by omega⟩, decide_eq_true ?_⟩, h9, h5⟩
  rw [smP, h8, ← popC_nat (by omega)]; congr 1; omega
 ·rw [smP, h8]
  have := popUp_le (z.toNat + L.length) 10
  show popUp _ 10 ≤ _
  omega
 ·have := callsUp_le z.toNat L.length; omega
def SmPost (w : World) (z1 : Int) (l1 : List ByteArray) (z2 : Int) (l2 : List ByteArray) (h : Hd) (n code : Int) (e : Ending) (w' : World) : Prop :=
 ∃ (A1 : Option Addr) (c1 a1 b1 : Nat) (A2 : Option Addr) (c2 a2 b2 : Nat), e = .returned (.tuple #[.agg #[.int .i64 z1, .slice A1 l1.length c1, .int .i64 z2, .slice A2 l2.length c2, .int .i64 h.num, .int .i64 h.size, .string h.root, .int .i64 h.taken, .string h.troot], .int .i64 n, .int .i64 code]) ∧
   (w.heap.size ≤ a1 ∧ b1 ≤ w'.heap.size ∧ Own w' a1 b1 A1 (strs l1)) ∧ (w.heap.size ≤ a2 ∧ b2 ≤ w'.heap.size ∧ Own w' a2 b2 A2 (strs l2)) ∧ (b1 ≤ a2 ∨ b2 ≤ a1) ∧ Below w.heap.size w w'
def noHd : Hd := ⟨0, 0, ByteArray.empty, 0, ByteArray.empty⟩
theorem smBad_post {w w' : World} (hB : Below w.heap.size w w') (code : Int) :
  SmPost w 0 [] 0 [] noHd 0 code (.returned (.tuple #[.agg #[.int .i64 0, .slice none 0 0, .int .i64 0, .slice none 0 0, .int .i64 0, .int .i64 0, .string ⟨#[]⟩, .int .i64 0, .string ⟨#[]⟩], .int .i64 0, .int .i64 code])) w' :=
 ⟨none, 0, w'.heap.size, w'.heap.size, none, 0, w'.heap.size, w'.heap.size, rfl, ⟨hB.size, Nat.le_refl _, Own.nil⟩, ⟨hB.size, Nat.le_refl _, Own.nil⟩, .inl (Nat.le_refl _), hB⟩
theorem sm_bad {width z1 z2 : Int} {l1 l2 : List ByteArray} {h : Hd} {L T : List ByteArray} (hb : smOk width z1 l1 z2 l2 h L T = false) :
  smZ1 width z1 l1 z2 l2 h L T = 0 ∧ smL1 width z1 l1 z2 l2 h L T = [] ∧ smZ2 width z1 l1 z2 l2 h L T = 0 ∧ smL2 width z1 l1 z2 l2 h L T = [] ∧ smH width z1 l1 z2 l2 h L T = noHd ∧ smN width z1 l1 z2 l2 h L T = 0 := by
 rw [smZ1, smL1, smZ2, smL2, smH, smN, hb]; exact ⟨rfl, rfl, rfl, rfl, rfl, rfl⟩
theorem sm_good {width z1 z2 : Int} {l1 l2 : List ByteArray} {h : Hd} {L T : List ByteArray} (hb : smOk width z1 l1 z2 l2 h L T = true) :
  smZ1 width z1 l1 z2 l2 h L T = z1 + L.length ∧ smL1 width z1 l1 z2 l2 h L T = smP width z1 l1 L ∧ smZ2 width z1 l1 z2 l2 h L T = z2 + T.length ∧ smL2 width z1 l1 z2 l2 h L T = smP width z2 l2 T ∧
  smH width z1 l1 z2 l2 h L T = ⟨h.num + 1, z1 + L.length, rngRoot width (smP width z1 l1 L), z2 + T.length, rngRoot width (smP width z2 l2 T)⟩ ∧
  smN width z1 l1 z2 l2 h L T = ((callsUp z1.toNat L.length + callsUp z2.toNat T.length + rngMade (smP width z1 l1 L) + rngMade (smP width z2 l2 T) : Nat) : Int) := by
 rw [smZ1, smL1, smZ2, smL2, smH, smN, hb]; exact ⟨rfl, rfl, rfl, rfl, rfl, rfl⟩

end Go.Proofs.YtmmepogjocfefaaGreat
